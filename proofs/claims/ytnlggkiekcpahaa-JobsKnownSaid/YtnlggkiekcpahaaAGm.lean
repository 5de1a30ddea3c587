/- A text of the proof. -/
import Derived.Test.YtnlggkiekcpahaaAGp
namespace Go.T
open Go Go.AM
set_option maxHeartbeats 4000000
def Le1 {α : Type} (a b : Option α) : Prop := ∀ r, a = some r → b = some r
theorem Le1.refl {α : Type} (a : Option α) : Le1 a a := fun _ h => h
theorem Le1.bind {α β : Type} {a b : Option α} {f g : α → Option β} (h : Le1 a b) (k : ∀ x, Le1 (f x) (g x)) : Le1 (a.bind f) (b.bind g) := by
  intro r hr
  cases a with
  | none => cases hr
  | some x => rw [h x rfl]; exact k x r hr
theorem Le1.bindSum {α γ β : Type} {a b : Option (Sum α γ)} {f g : Sum α γ → Option β} (h : Le1 a b) (k : ∀ x, Le1 (f (.inl x)) (g (.inl x))) (l : ∀ x, Le1 (f (.inr x)) (g (.inr x))) : Le1 (a.bind f) (b.bind g) :=
  Le1.bind h fun x => by cases x; exact k _; exact l _
theorem Le1.ite {α : Type} {c : Prop} [Decidable c] {a b a' b' : Option α} (h : Le1 a a') (k : Le1 b b') : Le1 (if c then a else b) (if c then a' else b') := by
  by_cases hc : c
  · rw [if_pos hc, if_pos hc]; exact h
  · rw [if_neg hc, if_neg hc]; exact k
set_option linter.unusedVariables false
theorem m_bookendlaw16_of_l1 (keys3 : List UInt8) (dead2 : Bool) (id1 : Int) : ∀ fu i15 v16, Le1 (bookendlaw16_of_l1 keys3 dead2 id1 fu i15 v16) (bookendlaw16_of_l1 keys3 dead2 id1 (fu + 1) i15 v16) := by
  intro fu
  induction fu with
  | zero => intro i15 v16 r h; rw [bookendlaw16_of_l1] at h; cases h
  | succ fu ih =>
    intro i15 v16
    conv => arg 1; rw [bookendlaw16_of_l1]
    conv => arg 2; rw [bookendlaw16_of_l1]
    repeat' (first | exact Le1.refl _ | exact ih _ _ | apply Le1.ite | apply Le1.bindSum | apply Le1.bind | (intro _; try dsimp only) | (rename_i x; cases x <;> dsimp only))
theorem m_bookendlaw16_of (fu : Nat) (id1 : Int) (dead2 : Bool) (keys3 : List UInt8) : Le1 (bookendlaw16_of fu id1 dead2 keys3) (bookendlaw16_of (fu + 1) id1 dead2 keys3) := by
  unfold bookendlaw16_of
  repeat' (first | exact Le1.refl _ |  apply m_bookendlaw16_of_l1 | apply Le1.ite | apply Le1.bindSum | apply Le1.bind | (intro _; try dsimp only) | (rename_i x; cases x <;> dsimp only))
theorem m_bookendlaw16_Example (fu : Nat) : Le1 (bookendlaw16_Example fu ) (bookendlaw16_Example (fu + 1) ) := by
  unfold bookendlaw16_Example
  repeat' (first | exact Le1.refl _ |  apply m_bookendlaw16_of | apply Le1.ite | apply Le1.bindSum | apply Le1.bind | (intro _; try dsimp only) | (rename_i x; cases x <;> dsimp only))
theorem m_keys_Check (fu : Nat) (k1 : List UInt8) : Le1 (keys_Check fu k1) (keys_Check (fu + 1) k1) := by
  unfold keys_Check
  repeat' (first | exact Le1.refl _ |  apply Le1.ite | apply Le1.bindSum | apply Le1.bind | (intro _; try dsimp only) | (rename_i x; cases x <;> dsimp only))
theorem m_entries_Check (fu : Nat) (vx1 : TApiEntry) : Le1 (entries_Check fu vx1) (entries_Check (fu + 1) vx1) := by
  unfold entries_Check
  repeat' (first | exact Le1.refl _ |  apply m_keys_Check | apply Le1.ite | apply Le1.bindSum | apply Le1.bind | (intro _; try dsimp only) | (rename_i x; cases x <;> dsimp only))
theorem m_entries_CheckList_l1 (l1 : List TApiEntry) : ∀ fu v17, Le1 (entries_CheckList_l1 l1 fu v17) (entries_CheckList_l1 l1 (fu + 1) v17) := by
  intro fu
  induction fu with
  | zero => intro v17 r h; rw [entries_CheckList_l1] at h; cases h
  | succ fu ih =>
    intro v17
    conv => arg 1; rw [entries_CheckList_l1]
    conv => arg 2; rw [entries_CheckList_l1]
    repeat' (first | exact Le1.refl _ | exact ih _ | apply m_entries_Check | apply Le1.ite | apply Le1.bindSum | apply Le1.bind | (intro _; try dsimp only) | (rename_i x; cases x <;> dsimp only))
theorem m_entries_CheckList (fu : Nat) (l1 : List TApiEntry) : Le1 (entries_CheckList fu l1) (entries_CheckList (fu + 1) l1) := by
  unfold entries_CheckList
  repeat' (first | exact Le1.refl _ |  apply m_entries_CheckList_l1 | apply Le1.ite | apply Le1.bindSum | apply Le1.bind | (intro _; try dsimp only) | (rename_i x; cases x <;> dsimp only))
theorem m_runs_Check (fu : Nat) (vr1 : TApiRun) : Le1 (runs_Check fu vr1) (runs_Check (fu + 1) vr1) := by
  unfold runs_Check
  repeat' (first | exact Le1.refl _ |  apply m_entries_CheckList | apply Le1.ite | apply Le1.bindSum | apply Le1.bind | (intro _; try dsimp only) | (rename_i x; cases x <;> dsimp only))
theorem m_levels_fits (fu : Nat) (vr1 : TApiRun) (most2 : Int) : Le1 (levels_fits fu vr1 most2) (levels_fits (fu + 1) vr1 most2) := by
  unfold levels_fits
  repeat' (first | exact Le1.refl _ |  apply m_runs_Check | apply Le1.ite | apply Le1.bindSum | apply Le1.bind | (intro _; try dsimp only) | (rename_i x; cases x <;> dsimp only))
theorem m_levels_Check_l5 (e169 : TApiLvLevel) (v165 : Int) (l1 : TApiLvLevels) : ∀ fu e203 v204 v205 run206, Le1 (levels_Check_l5 e169 v165 l1 fu e203 v204 v205 run206) (levels_Check_l5 e169 v165 l1 (fu + 1) e203 v204 v205 run206) := by
  intro fu
  induction fu with
  | zero => intro e203 v204 v205 run206 r h; rw [levels_Check_l5] at h; cases h
  | succ fu ih =>
    intro e203 v204 v205 run206
    conv => arg 1; rw [levels_Check_l5]
    conv => arg 2; rw [levels_Check_l5]
    repeat' (first | exact Le1.refl _ | exact ih _ _ _ _ | apply m_levels_fits | apply Le1.ite | apply Le1.bindSum | apply Le1.bind | (intro _; try dsimp only) | (rename_i x; cases x <;> dsimp only))
theorem m_levels_Check_l4 (l1 : TApiLvLevels) : ∀ fu run163 e164 v165 v166 level167, Le1 (levels_Check_l4 l1 fu run163 e164 v165 v166 level167) (levels_Check_l4 l1 (fu + 1) run163 e164 v165 v166 level167) := by
  intro fu
  induction fu with
  | zero => intro run163 e164 v165 v166 level167 r h; rw [levels_Check_l4] at h; cases h
  | succ fu ih =>
    intro run163 e164 v165 v166 level167
    conv => arg 1; rw [levels_Check_l4]
    conv => arg 2; rw [levels_Check_l4]
    repeat' (first | exact Le1.refl _ | exact ih _ _ _ _ _ | apply m_levels_Check_l5 | apply Le1.ite | apply Le1.bindSum | apply Le1.bind | (intro _; try dsimp only) | (rename_i x; cases x <;> dsimp only))
theorem m_levels_Check (fu : Nat) (l1 : TApiLvLevels) : Le1 (levels_Check fu l1) (levels_Check (fu + 1) l1) := by
  unfold levels_Check
  repeat' (first | exact Le1.refl _ |  apply m_levels_Check_l4 | apply Le1.ite | apply Le1.bindSum | apply Le1.bind | (intro _; try dsimp only) | (rename_i x; cases x <;> dsimp only))
theorem m_jobs_greatest_l4 (e34 : TApiLvLevel) : ∀ fu best42 v43, Le1 (jobs_greatest_l4 e34 fu best42 v43) (jobs_greatest_l4 e34 (fu + 1) best42 v43) := by
  intro fu
  induction fu with
  | zero => intro best42 v43 r h; rw [jobs_greatest_l4] at h; cases h
  | succ fu ih =>
    intro best42 v43
    conv => arg 1; rw [jobs_greatest_l4]
    conv => arg 2; rw [jobs_greatest_l4]
    repeat' (first | exact Le1.refl _ | exact ih _ _ | apply Le1.ite | apply Le1.bindSum | apply Le1.bind | (intro _; try dsimp only) | (rename_i x; cases x <;> dsimp only))
theorem m_jobs_greatest_l3 (l1 : TApiLvLevels) : ∀ fu best31 v32, Le1 (jobs_greatest_l3 l1 fu best31 v32) (jobs_greatest_l3 l1 (fu + 1) best31 v32) := by
  intro fu
  induction fu with
  | zero => intro best31 v32 r h; rw [jobs_greatest_l3] at h; cases h
  | succ fu ih =>
    intro best31 v32
    conv => arg 1; rw [jobs_greatest_l3]
    conv => arg 2; rw [jobs_greatest_l3]
    repeat' (first | exact Le1.refl _ | exact ih _ _ | apply m_jobs_greatest_l4 | apply Le1.ite | apply Le1.bindSum | apply Le1.bind | (intro _; try dsimp only) | (rename_i x; cases x <;> dsimp only))
theorem m_jobs_greatest (fu : Nat) (l1 : TApiLvLevels) : Le1 (jobs_greatest fu l1) (jobs_greatest (fu + 1) l1) := by
  unfold jobs_greatest
  repeat' (first | exact Le1.refl _ |  apply m_jobs_greatest_l3 | apply Le1.ite | apply Le1.bindSum | apply Le1.bind | (intro _; try dsimp only) | (rename_i x; cases x <;> dsimp only))
theorem m_jobs_due (fu : Nat) (l1 : TApiLvLevels) : Le1 (jobs_due fu l1) (jobs_due (fu + 1) l1) := by
  unfold jobs_due
  repeat' (first | exact Le1.refl _ |  apply Le1.ite | apply Le1.bindSum | apply Le1.bind | (intro _; try dsimp only) | (rename_i x; cases x <;> dsimp only))
theorem m_jobs_lowest (fu : Nat) (l1 : TApiLvLevels) (level2 : Int) : Le1 (jobs_lowest fu l1 level2) (jobs_lowest (fu + 1) l1 level2) := by
  unfold jobs_lowest
  repeat' (first | exact Le1.refl _ |  apply Le1.ite | apply Le1.bindSum | apply Le1.bind | (intro _; try dsimp only) | (rename_i x; cases x <;> dsimp only))
theorem m_merge_check_l1 (runs1 : List (List TApiEntry)) : ∀ fu v14, Le1 (merge_check_l1 runs1 fu v14) (merge_check_l1 runs1 (fu + 1) v14) := by
  intro fu
  induction fu with
  | zero => intro v14 r h; rw [merge_check_l1] at h; cases h
  | succ fu ih =>
    intro v14
    conv => arg 1; rw [merge_check_l1]
    conv => arg 2; rw [merge_check_l1]
    repeat' (first | exact Le1.refl _ | exact ih _ | apply m_entries_CheckList | apply Le1.ite | apply Le1.bindSum | apply Le1.bind | (intro _; try dsimp only) | (rename_i x; cases x <;> dsimp only))
theorem m_merge_check (fu : Nat) (runs1 : List (List TApiEntry)) : Le1 (merge_check fu runs1) (merge_check (fu + 1) runs1) := by
  unfold merge_check
  repeat' (first | exact Le1.refl _ |  apply m_merge_check_l1 | apply Le1.ite | apply Le1.bindSum | apply Le1.bind | (intro _; try dsimp only) | (rename_i x; cases x <;> dsimp only))
theorem m_slices_Clone_apiEntry (fu : Nat) (vs1 : List (List TApiEntry)) : Le1 (slices_Clone_apiEntry fu vs1) (slices_Clone_apiEntry (fu + 1) vs1) := by
  unfold slices_Clone_apiEntry
  repeat' (first | exact Le1.refl _ |  apply Le1.ite | apply Le1.bindSum | apply Le1.bind | (intro _; try dsimp only) | (rename_i x; cases x <;> dsimp only))
theorem m_merge_next (fu : Nat) (l1 : List TApiEntry) (vat2 : Int) : Le1 (merge_next fu l1 vat2) (merge_next (fu + 1) l1 vat2) := by
  unfold merge_next
  repeat' (first | exact Le1.refl _ |  apply Le1.ite | apply Le1.bindSum | apply Le1.bind | (intro _; try dsimp only) | (rename_i x; cases x <;> dsimp only))
theorem m_loser_check_1 (fu : Nat) (k1 : TApiLsKey) : Le1 (loser_check_1 fu k1) (loser_check_1 (fu + 1) k1) := by
  unfold loser_check_1
  repeat' (first | exact Le1.refl _ |  apply Le1.ite | apply Le1.bindSum | apply Le1.bind | (intro _; try dsimp only) | (rename_i x; cases x <;> dsimp only))
theorem m_slices_IndexFunc_apiLsKey_l1 (vs1 : List TApiLsKey) : ∀ fu v12, Le1 (slices_IndexFunc_apiLsKey_l1 vs1 fu v12) (slices_IndexFunc_apiLsKey_l1 vs1 (fu + 1) v12) := by
  intro fu
  induction fu with
  | zero => intro v12 r h; rw [slices_IndexFunc_apiLsKey_l1] at h; cases h
  | succ fu ih =>
    intro v12
    conv => arg 1; rw [slices_IndexFunc_apiLsKey_l1]
    conv => arg 2; rw [slices_IndexFunc_apiLsKey_l1]
    repeat' (first | exact Le1.refl _ | exact ih _ | apply m_loser_check_1 | apply Le1.ite | apply Le1.bindSum | apply Le1.bind | (intro _; try dsimp only) | (rename_i x; cases x <;> dsimp only))
theorem m_slices_IndexFunc_apiLsKey (fu : Nat) (vs1 : List TApiLsKey) : Le1 (slices_IndexFunc_apiLsKey fu vs1) (slices_IndexFunc_apiLsKey (fu + 1) vs1) := by
  unfold slices_IndexFunc_apiLsKey
  repeat' (first | exact Le1.refl _ |  apply m_slices_IndexFunc_apiLsKey_l1 | apply Le1.ite | apply Le1.bindSum | apply Le1.bind | (intro _; try dsimp only) | (rename_i x; cases x <;> dsimp only))
theorem m_slices_ContainsFunc_apiLsKey (fu : Nat) (vs1 : List TApiLsKey) : Le1 (slices_ContainsFunc_apiLsKey fu vs1) (slices_ContainsFunc_apiLsKey (fu + 1) vs1) := by
  unfold slices_ContainsFunc_apiLsKey
  repeat' (first | exact Le1.refl _ |  apply m_slices_IndexFunc_apiLsKey | apply Le1.ite | apply Le1.bindSum | apply Le1.bind | (intro _; try dsimp only) | (rename_i x; cases x <;> dsimp only))
theorem m_loser_check (fu : Nat) (keys1 : List TApiLsKey) : Le1 (loser_check fu keys1) (loser_check (fu + 1) keys1) := by
  unfold loser_check
  repeat' (first | exact Le1.refl _ |  apply m_slices_ContainsFunc_apiLsKey | apply Le1.ite | apply Le1.bindSum | apply Le1.bind | (intro _; try dsimp only) | (rename_i x; cases x <;> dsimp only))
theorem m_loser_judge (fu : Nat) (keys1 : List TApiLsKey) : Le1 (loser_judge fu keys1) (loser_judge (fu + 1) keys1) := by
  unfold loser_judge
  repeat' (first | exact Le1.refl _ |  apply Le1.ite | apply Le1.bindSum | apply Le1.bind | (intro _; try dsimp only) | (rename_i x; cases x <;> dsimp only))
theorem m_slices_Clone_apiLsKey (fu : Nat) (vs1 : List TApiLsKey) : Le1 (slices_Clone_apiLsKey fu vs1) (slices_Clone_apiLsKey (fu + 1) vs1) := by
  unfold slices_Clone_apiLsKey
  repeat' (first | exact Le1.refl _ |  apply Le1.ite | apply Le1.bindSum | apply Le1.bind | (intro _; try dsimp only) | (rename_i x; cases x <;> dsimp only))
theorem m_loser_judge_1 (fu : Nat) (p1 : Int) (q2 : Int) (p3 : List TApiLsKey) : Le1 (loser_judge_1 fu p1 q2 p3) (loser_judge_1 (fu + 1) p1 q2 p3) := by
  unfold loser_judge_1
  repeat' (first | exact Le1.refl _ |  apply Le1.ite | apply Le1.bindSum | apply Le1.bind | (intro _; try dsimp only) | (rename_i x; cases x <;> dsimp only))
theorem m_loser_play_l1 (keys1 : List TApiLsKey) (vr2 : List TApiLsKey) : ∀ fu i34 players35 v36, Le1 (loser_play_l1 keys1 vr2 fu i34 players35 v36) (loser_play_l1 keys1 vr2 (fu + 1) i34 players35 v36) := by
  intro fu
  induction fu with
  | zero => intro i34 players35 v36 r h; rw [loser_play_l1] at h; cases h
  | succ fu ih =>
    intro i34 players35 v36
    conv => arg 1; rw [loser_play_l1]
    conv => arg 2; rw [loser_play_l1]
    repeat' (first | exact Le1.refl _ | exact ih _ _ _ | apply m_loser_judge_1 | apply Le1.ite | apply Le1.bindSum | apply Le1.bind | (intro _; try dsimp only) | (rename_i x; cases x <;> dsimp only))
theorem m_loser_play (fu : Nat) (keys1 : List TApiLsKey) : Le1 (loser_play fu keys1) (loser_play (fu + 1) keys1) := by
  unfold loser_play
  repeat' (first | exact Le1.refl _ |  apply m_loser_judge | apply m_slices_Clone_apiLsKey | apply m_loser_play_l1 | apply Le1.ite | apply Le1.bindSum | apply Le1.bind | (intro _; try dsimp only) | (rename_i x; cases x <;> dsimp only))
theorem m_loser_Build (fu : Nat) (keys1 : List TApiLsKey) : Le1 (loser_Build fu keys1) (loser_Build (fu + 1) keys1) := by
  unfold loser_Build
  repeat' (first | exact Le1.refl _ |  apply m_loser_check | apply m_loser_play | apply Le1.ite | apply Le1.bindSum | apply Le1.bind | (intro _; try dsimp only) | (rename_i x; cases x <;> dsimp only))
theorem m_merge_tree_l1 (runs1 : List (List TApiEntry)) (vat2 : List Int) : ∀ fu v18 keys19, Le1 (merge_tree_l1 runs1 vat2 fu v18 keys19) (merge_tree_l1 runs1 vat2 (fu + 1) v18 keys19) := by
  intro fu
  induction fu with
  | zero => intro v18 keys19 r h; rw [merge_tree_l1] at h; cases h
  | succ fu ih =>
    intro v18 keys19
    conv => arg 1; rw [merge_tree_l1]
    conv => arg 2; rw [merge_tree_l1]
    repeat' (first | exact Le1.refl _ | exact ih _ _ | apply m_merge_next | apply Le1.ite | apply Le1.bindSum | apply Le1.bind | (intro _; try dsimp only) | (rename_i x; cases x <;> dsimp only))
theorem m_merge_tree (fu : Nat) (runs1 : List (List TApiEntry)) (vat2 : List Int) : Le1 (merge_tree fu runs1 vat2) (merge_tree (fu + 1) runs1 vat2) := by
  unfold merge_tree
  repeat' (first | exact Le1.refl _ |  apply m_merge_tree_l1 | apply m_loser_Build | apply Le1.ite | apply Le1.bindSum | apply Le1.bind | (intro _; try dsimp only) | (rename_i x; cases x <;> dsimp only))
theorem m_merge_Begin (fu : Nat) (runs1 : List (List TApiEntry)) : Le1 (merge_Begin fu runs1) (merge_Begin (fu + 1) runs1) := by
  unfold merge_Begin
  repeat' (first | exact Le1.refl _ |  apply m_merge_check | apply m_slices_Clone_apiEntry | apply m_merge_tree | apply Le1.ite | apply Le1.bindSum | apply Le1.bind | (intro _; try dsimp only) | (rename_i x; cases x <;> dsimp only))
theorem m_shadow_Begin (fu : Nat) (bottom1 : Bool) : Le1 (shadow_Begin fu bottom1) (shadow_Begin (fu + 1) bottom1) := by
  unfold shadow_Begin
  repeat' (first | exact Le1.refl _ |  apply Le1.ite | apply Le1.bindSum | apply Le1.bind | (intro _; try dsimp only) | (rename_i x; cases x <;> dsimp only))
theorem m_slices_Begin (fu : Nat) (runs1 : List (List TApiEntry)) (bottom2 : Bool) : Le1 (slices_Begin fu runs1 bottom2) (slices_Begin (fu + 1) runs1 bottom2) := by
  unfold slices_Begin
  repeat' (first | exact Le1.refl _ |  apply m_merge_Begin | apply m_shadow_Begin | apply Le1.ite | apply Le1.bindSum | apply Le1.bind | (intro _; try dsimp only) | (rename_i x; cases x <;> dsimp only))
theorem m_jobs_begun (fu : Nat) (l1 : TApiLvLevels) (level2 : Int) (bottom3 : Bool) : Le1 (jobs_begun fu l1 level2 bottom3) (jobs_begun (fu + 1) l1 level2 bottom3) := by
  unfold jobs_begun
  repeat' (first | exact Le1.refl _ |  apply m_slices_Begin | apply Le1.ite | apply Le1.bindSum | apply Le1.bind | (intro _; try dsimp only) | (rename_i x; cases x <;> dsimp only))
theorem m_jobs_Of_l1 (vr5 : Int × List TApiLvLevel) (l1 : TApiLvLevels) : ∀ fu level27 v28, Le1 (jobs_Of_l1 vr5 l1 fu level27 v28) (jobs_Of_l1 vr5 l1 (fu + 1) level27 v28) := by
  intro fu
  induction fu with
  | zero => intro level27 v28 r h; rw [jobs_Of_l1] at h; cases h
  | succ fu ih =>
    intro level27 v28
    conv => arg 1; rw [jobs_Of_l1]
    conv => arg 2; rw [jobs_Of_l1]
    repeat' (first | exact Le1.refl _ | exact ih _ _ | apply m_jobs_lowest | apply m_jobs_begun | apply Le1.ite | apply Le1.bindSum | apply Le1.bind | (intro _; try dsimp only) | (rename_i x; cases x <;> dsimp only))
theorem m_jobs_Of (fu : Nat) (l1 : TApiLvLevels) : Le1 (jobs_Of fu l1) (jobs_Of (fu + 1) l1) := by
  unfold jobs_Of
  repeat' (first | exact Le1.refl _ |  apply m_levels_Check | apply m_jobs_greatest | apply m_jobs_due | apply m_jobs_Of_l1 | apply Le1.ite | apply Le1.bindSum | apply Le1.bind | (intro _; try dsimp only) | (rename_i x; cases x <;> dsimp only))
theorem m_slices_Collect_int_l1 (seq2 : List TApiLvLevel) : ∀ fu v18 v19, Le1 (slices_Collect_int_l1 seq2 fu v18 v19) (slices_Collect_int_l1 seq2 (fu + 1) v18 v19) := by
  intro fu
  induction fu with
  | zero => intro v18 v19 r h; rw [slices_Collect_int_l1] at h; cases h
  | succ fu ih =>
    intro v18 v19
    conv => arg 1; rw [slices_Collect_int_l1]
    conv => arg 2; rw [slices_Collect_int_l1]
    repeat' (first | exact Le1.refl _ | exact ih _ _ | apply Le1.ite | apply Le1.bindSum | apply Le1.bind | (intro _; try dsimp only) | (rename_i x; cases x <;> dsimp only))
theorem m_slices_Collect_int (fu : Nat) (seq1 : Int) (seq2 : List TApiLvLevel) : Le1 (slices_Collect_int fu seq1 seq2) (slices_Collect_int (fu + 1) seq1 seq2) := by
  unfold slices_Collect_int
  repeat' (first | exact Le1.refl _ |  apply m_slices_Collect_int_l1 | apply Le1.ite | apply Le1.bindSum | apply Le1.bind | (intro _; try dsimp only) | (rename_i x; cases x <;> dsimp only))
theorem m_slices_Equal_apiLsKey_l1 (s11 : List TApiLsKey) (s22 : List TApiLsKey) : ∀ fu v14, Le1 (slices_Equal_apiLsKey_l1 s11 s22 fu v14) (slices_Equal_apiLsKey_l1 s11 s22 (fu + 1) v14) := by
  intro fu
  induction fu with
  | zero => intro v14 r h; rw [slices_Equal_apiLsKey_l1] at h; cases h
  | succ fu ih =>
    intro v14
    conv => arg 1; rw [slices_Equal_apiLsKey_l1]
    conv => arg 2; rw [slices_Equal_apiLsKey_l1]
    repeat' (first | exact Le1.refl _ | exact ih _ | apply Le1.ite | apply Le1.bindSum | apply Le1.bind | (intro _; try dsimp only) | (rename_i x; cases x <;> dsimp only))
theorem m_slices_Equal_apiLsKey (fu : Nat) (s11 : List TApiLsKey) (s22 : List TApiLsKey) : Le1 (slices_Equal_apiLsKey fu s11 s22) (slices_Equal_apiLsKey (fu + 1) s11 s22) := by
  unfold slices_Equal_apiLsKey
  repeat' (first | exact Le1.refl _ |  apply m_slices_Equal_apiLsKey_l1 | apply Le1.ite | apply Le1.bindSum | apply Le1.bind | (intro _; try dsimp only) | (rename_i x; cases x <;> dsimp only))
theorem m_slices_Equal_int_l1 (s11 : List Int) (s22 : List Int) : ∀ fu v14, Le1 (slices_Equal_int_l1 s11 s22 fu v14) (slices_Equal_int_l1 s11 s22 (fu + 1) v14) := by
  intro fu
  induction fu with
  | zero => intro v14 r h; rw [slices_Equal_int_l1] at h; cases h
  | succ fu ih =>
    intro v14
    conv => arg 1; rw [slices_Equal_int_l1]
    conv => arg 2; rw [slices_Equal_int_l1]
    repeat' (first | exact Le1.refl _ | exact ih _ | apply Le1.ite | apply Le1.bindSum | apply Le1.bind | (intro _; try dsimp only) | (rename_i x; cases x <;> dsimp only))
theorem m_slices_Equal_int (fu : Nat) (s11 : List Int) (s22 : List Int) : Le1 (slices_Equal_int fu s11 s22) (slices_Equal_int (fu + 1) s11 s22) := by
  unfold slices_Equal_int
  repeat' (first | exact Le1.refl _ |  apply m_slices_Equal_int_l1 | apply Le1.ite | apply Le1.bindSum | apply Le1.bind | (intro _; try dsimp only) | (rename_i x; cases x <;> dsimp only))
theorem m_merge_alike (fu : Nat) (a1 : TApiLsTree) (b2 : TApiLsTree) : Le1 (merge_alike fu a1 b2) (merge_alike (fu + 1) a1 b2) := by
  unfold merge_alike
  repeat' (first | exact Le1.refl _ |  apply m_slices_Equal_apiLsKey | apply m_slices_Equal_int | apply Le1.ite | apply Le1.bindSum | apply Le1.bind | (intro _; try dsimp only) | (rename_i x; cases x <;> dsimp only))
theorem m_loser_Check_l1 (vr5 : TApiLsTree) (t1 : TApiLsTree) : ∀ fu v16, Le1 (loser_Check_l1 vr5 t1 fu v16) (loser_Check_l1 vr5 t1 (fu + 1) v16) := by
  intro fu
  induction fu with
  | zero => intro v16 r h; rw [loser_Check_l1] at h; cases h
  | succ fu ih =>
    intro v16
    conv => arg 1; rw [loser_Check_l1]
    conv => arg 2; rw [loser_Check_l1]
    repeat' (first | exact Le1.refl _ | exact ih _ | apply Le1.ite | apply Le1.bindSum | apply Le1.bind | (intro _; try dsimp only) | (rename_i x; cases x <;> dsimp only))
theorem m_loser_Check (fu : Nat) (t1 : TApiLsTree) : Le1 (loser_Check fu t1) (loser_Check (fu + 1) t1) := by
  unfold loser_Check
  repeat' (first | exact Le1.refl _ |  apply m_loser_check | apply m_loser_play | apply m_loser_Check_l1 | apply Le1.ite | apply Le1.bindSum | apply Le1.bind | (intro _; try dsimp only) | (rename_i x; cases x <;> dsimp only))
theorem m_loser_open (fu : Nat) (t1 : TApiLsTree) : Le1 (loser_open fu t1) (loser_open (fu + 1) t1) := by
  unfold loser_open
  repeat' (first | exact Le1.refl _ |  apply m_loser_Check | apply Le1.ite | apply Le1.bindSum | apply Le1.bind | (intro _; try dsimp only) | (rename_i x; cases x <;> dsimp only))
theorem m_loser_Winner (fu : Nat) (t1 : TApiLsTree) : Le1 (loser_Winner fu t1) (loser_Winner (fu + 1) t1) := by
  unfold loser_Winner
  repeat' (first | exact Le1.refl _ |  apply m_loser_open | apply Le1.ite | apply Le1.bindSum | apply Le1.bind | (intro _; try dsimp only) | (rename_i x; cases x <;> dsimp only))
theorem m_cmp_isNaN_string (fu : Nat) (vx1 : List UInt8) : Le1 (cmp_isNaN_string fu vx1) (cmp_isNaN_string (fu + 1) vx1) := by
  unfold cmp_isNaN_string
  repeat' (first | exact Le1.refl _ |  apply Le1.ite | apply Le1.bindSum | apply Le1.bind | (intro _; try dsimp only) | (rename_i x; cases x <;> dsimp only))
theorem m_cmp_Compare_string (fu : Nat) (vx1 : List UInt8) (y2 : List UInt8) : Le1 (cmp_Compare_string fu vx1 y2) (cmp_Compare_string (fu + 1) vx1 y2) := by
  unfold cmp_Compare_string
  repeat' (first | exact Le1.refl _ |  apply m_cmp_isNaN_string | apply Le1.ite | apply Le1.bindSum | apply Le1.bind | (intro _; try dsimp only) | (rename_i x; cases x <;> dsimp only))
theorem m_cmp_isNaN_int (fu : Nat) (vx1 : Int) : Le1 (cmp_isNaN_int fu vx1) (cmp_isNaN_int (fu + 1) vx1) := by
  unfold cmp_isNaN_int
  repeat' (first | exact Le1.refl _ |  apply Le1.ite | apply Le1.bindSum | apply Le1.bind | (intro _; try dsimp only) | (rename_i x; cases x <;> dsimp only))
theorem m_cmp_Compare_int (fu : Nat) (vx1 : Int) (y2 : Int) : Le1 (cmp_Compare_int fu vx1 y2) (cmp_Compare_int (fu + 1) vx1 y2) := by
  unfold cmp_Compare_int
  repeat' (first | exact Le1.refl _ |  apply m_cmp_isNaN_int | apply Le1.ite | apply Le1.bindSum | apply Le1.bind | (intro _; try dsimp only) | (rename_i x; cases x <;> dsimp only))
theorem m_cmp_Or_int_l1 (vals1 : List Int) : ∀ fu v10, Le1 (cmp_Or_int_l1 vals1 fu v10) (cmp_Or_int_l1 vals1 (fu + 1) v10) := by
  intro fu
  induction fu with
  | zero => intro v10 r h; rw [cmp_Or_int_l1] at h; cases h
  | succ fu ih =>
    intro v10
    conv => arg 1; rw [cmp_Or_int_l1]
    conv => arg 2; rw [cmp_Or_int_l1]
    repeat' (first | exact Le1.refl _ | exact ih _ | apply Le1.ite | apply Le1.bindSum | apply Le1.bind | (intro _; try dsimp only) | (rename_i x; cases x <;> dsimp only))
theorem m_cmp_Or_int (fu : Nat) (vals1 : List Int) : Le1 (cmp_Or_int fu vals1) (cmp_Or_int (fu + 1) vals1) := by
  unfold cmp_Or_int
  repeat' (first | exact Le1.refl _ |  apply m_cmp_Or_int_l1 | apply Le1.ite | apply Le1.bindSum | apply Le1.bind | (intro _; try dsimp only) | (rename_i x; cases x <;> dsimp only))
theorem m_merge_Check_l1 (vs1 : TApiMgState) : ∀ fu v19, Le1 (merge_Check_l1 vs1 fu v19) (merge_Check_l1 vs1 (fu + 1) v19) := by
  intro fu
  induction fu with
  | zero => intro v19 r h; rw [merge_Check_l1] at h; cases h
  | succ fu ih =>
    intro v19
    conv => arg 1; rw [merge_Check_l1]
    conv => arg 2; rw [merge_Check_l1]
    repeat' (first | exact Le1.refl _ | exact ih _ | apply Le1.ite | apply Le1.bindSum | apply Le1.bind | (intro _; try dsimp only) | (rename_i x; cases x <;> dsimp only))
theorem m_merge_Check_l2 (vs1 : TApiMgState) (vr30 : Int × List UInt8 × Int) : ∀ fu v54, Le1 (merge_Check_l2 vs1 vr30 fu v54) (merge_Check_l2 vs1 vr30 (fu + 1) v54) := by
  intro fu
  induction fu with
  | zero => intro v54 r h; rw [merge_Check_l2] at h; cases h
  | succ fu ih =>
    intro v54
    conv => arg 1; rw [merge_Check_l2]
    conv => arg 2; rw [merge_Check_l2]
    repeat' (first | exact Le1.refl _ | exact ih _ | apply m_cmp_Compare_string | apply m_cmp_Compare_int | apply m_cmp_Or_int | apply Le1.ite | apply Le1.bindSum | apply Le1.bind | (intro _; try dsimp only) | (rename_i x; cases x <;> dsimp only))
theorem m_merge_Check (fu : Nat) (vs1 : TApiMgState) : Le1 (merge_Check fu vs1) (merge_Check (fu + 1) vs1) := by
  unfold merge_Check
  repeat' (first | exact Le1.refl _ |  apply m_merge_check | apply m_merge_Check_l1 | apply m_merge_tree | apply m_merge_alike | apply m_loser_Winner | apply m_merge_Check_l2 | apply Le1.ite | apply Le1.bindSum | apply Le1.bind | (intro _; try dsimp only) | (rename_i x; cases x <;> dsimp only))
theorem m_merge_reader_peek (fu : Nat) (vr1 : List (List TApiEntry)) (vr2 : List Int) (vr3 : List TApiLsKey) (vr4 : List Int) (vr5 : Int) : Le1 (merge_reader_peek fu vr1 vr2 vr3 vr4 vr5) (merge_reader_peek (fu + 1) vr1 vr2 vr3 vr4 vr5) := by
  unfold merge_reader_peek
  repeat' (first | exact Le1.refl _ |  apply m_loser_Winner | apply Le1.ite | apply Le1.bindSum | apply Le1.bind | (intro _; try dsimp only) | (rename_i x; cases x <;> dsimp only))
theorem m_slices_Clone_apiLsKey_2 (fu : Nat) (vs1 : List TApiLsKey) : Le1 (slices_Clone_apiLsKey_2 fu vs1) (slices_Clone_apiLsKey_2 (fu + 1) vs1) := by
  unfold slices_Clone_apiLsKey_2
  repeat' (first | exact Le1.refl _ |  apply Le1.ite | apply Le1.bindSum | apply Le1.bind | (intro _; try dsimp only) | (rename_i x; cases x <;> dsimp only))
theorem m_loser_play_3_l1 (keys1 : List TApiLsKey) (vr2 : List TApiLsKey) : ∀ fu i34 players35 v36, Le1 (loser_play_3_l1 keys1 vr2 fu i34 players35 v36) (loser_play_3_l1 keys1 vr2 (fu + 1) i34 players35 v36) := by
  intro fu
  induction fu with
  | zero => intro i34 players35 v36 r h; rw [loser_play_3_l1] at h; cases h
  | succ fu ih =>
    intro i34 players35 v36
    conv => arg 1; rw [loser_play_3_l1]
    conv => arg 2; rw [loser_play_3_l1]
    repeat' (first | exact Le1.refl _ | exact ih _ _ _ | apply m_loser_judge_1 | apply Le1.ite | apply Le1.bindSum | apply Le1.bind | (intro _; try dsimp only) | (rename_i x; cases x <;> dsimp only))
theorem m_loser_play_3 (fu : Nat) (keys1 : List TApiLsKey) : Le1 (loser_play_3 fu keys1) (loser_play_3 (fu + 1) keys1) := by
  unfold loser_play_3
  repeat' (first | exact Le1.refl _ |  apply m_loser_judge | apply m_slices_Clone_apiLsKey_2 | apply m_loser_play_3_l1 | apply Le1.ite | apply Le1.bindSum | apply Le1.bind | (intro _; try dsimp only) | (rename_i x; cases x <;> dsimp only))
theorem m_loser_Build_3 (fu : Nat) (keys1 : List TApiLsKey) : Le1 (loser_Build_3 fu keys1) (loser_Build_3 (fu + 1) keys1) := by
  unfold loser_Build_3
  repeat' (first | exact Le1.refl _ |  apply m_loser_check | apply m_loser_play_3 | apply Le1.ite | apply Le1.bindSum | apply Le1.bind | (intro _; try dsimp only) | (rename_i x; cases x <;> dsimp only))
theorem m_merge_tree_2_l1 (runs1 : List (List TApiEntry)) (vat2 : List Int) : ∀ fu v18 keys19, Le1 (merge_tree_2_l1 runs1 vat2 fu v18 keys19) (merge_tree_2_l1 runs1 vat2 (fu + 1) v18 keys19) := by
  intro fu
  induction fu with
  | zero => intro v18 keys19 r h; rw [merge_tree_2_l1] at h; cases h
  | succ fu ih =>
    intro v18 keys19
    conv => arg 1; rw [merge_tree_2_l1]
    conv => arg 2; rw [merge_tree_2_l1]
    repeat' (first | exact Le1.refl _ | exact ih _ _ | apply m_merge_next | apply Le1.ite | apply Le1.bindSum | apply Le1.bind | (intro _; try dsimp only) | (rename_i x; cases x <;> dsimp only))
theorem m_merge_tree_2 (fu : Nat) (runs1 : List (List TApiEntry)) (vat2 : List Int) : Le1 (merge_tree_2 fu runs1 vat2) (merge_tree_2 (fu + 1) runs1 vat2) := by
  unfold merge_tree_2
  repeat' (first | exact Le1.refl _ |  apply m_merge_tree_2_l1 | apply m_loser_Build_3 | apply Le1.ite | apply Le1.bindSum | apply Le1.bind | (intro _; try dsimp only) | (rename_i x; cases x <;> dsimp only))
theorem m_merge_Begin_2 (fu : Nat) (runs1 : List (List TApiEntry)) : Le1 (merge_Begin_2 fu runs1) (merge_Begin_2 (fu + 1) runs1) := by
  unfold merge_Begin_2
  repeat' (first | exact Le1.refl _ |  apply m_merge_check | apply m_slices_Clone_apiEntry | apply m_merge_tree_2 | apply Le1.ite | apply Le1.bindSum | apply Le1.bind | (intro _; try dsimp only) | (rename_i x; cases x <;> dsimp only))
theorem m_slices_Clone_int_2 (fu : Nat) (vs1 : List Int) : Le1 (slices_Clone_int_2 fu vs1) (slices_Clone_int_2 (fu + 1) vs1) := by
  unfold slices_Clone_int_2
  repeat' (first | exact Le1.refl _ |  apply Le1.ite | apply Le1.bindSum | apply Le1.bind | (intro _; try dsimp only) | (rename_i x; cases x <;> dsimp only))
theorem m_loser_Replace_l1 (vr14 : List TApiLsKey) : ∀ fu games29 node30 u31 v32, Le1 (loser_Replace_l1 vr14 fu games29 node30 u31 v32) (loser_Replace_l1 vr14 (fu + 1) games29 node30 u31 v32) := by
  intro fu
  induction fu with
  | zero => intro games29 node30 u31 v32 r h; rw [loser_Replace_l1] at h; cases h
  | succ fu ih =>
    intro games29 node30 u31 v32
    conv => arg 1; rw [loser_Replace_l1]
    conv => arg 2; rw [loser_Replace_l1]
    repeat' (first | exact Le1.refl _ | exact ih _ _ _ _ | apply m_loser_judge_1 | apply Le1.ite | apply Le1.bindSum | apply Le1.bind | (intro _; try dsimp only) | (rename_i x; cases x <;> dsimp only))
theorem m_loser_Replace (fu : Nat) (t1 : TApiLsTree) (k2 : TApiLsKey) : Le1 (loser_Replace fu t1 k2) (loser_Replace (fu + 1) t1 k2) := by
  unfold loser_Replace
  repeat' (first | exact Le1.refl _ |  apply m_loser_open | apply m_loser_check | apply m_slices_Clone_apiLsKey_2 | apply m_slices_Clone_int_2 | apply m_loser_judge | apply m_loser_Replace_l1 | apply Le1.ite | apply Le1.bindSum | apply Le1.bind | (intro _; try dsimp only) | (rename_i x; cases x <;> dsimp only))
theorem m_merge_All_l1 (vr2 : TApiMgState × Int × Int) : ∀ fu v38 v39 v40 v41 v42 v43, Le1 (merge_All_l1 vr2 fu v38 v39 v40 v41 v42 v43) (merge_All_l1 vr2 (fu + 1) v38 v39 v40 v41 v42 v43) := by
  intro fu
  induction fu with
  | zero => intro v38 v39 v40 v41 v42 v43 r h; rw [merge_All_l1] at h; cases h
  | succ fu ih =>
    intro v38 v39 v40 v41 v42 v43
    conv => arg 1; rw [merge_All_l1]
    conv => arg 2; rw [merge_All_l1]
    repeat' (first | exact Le1.refl _ | exact ih _ _ _ _ _ _ | apply m_merge_reader_peek | apply m_merge_next | apply m_loser_Replace | apply Le1.ite | apply Le1.bindSum | apply Le1.bind | (intro _; try dsimp only) | (rename_i x; cases x <;> dsimp only))
theorem m_merge_All (fu : Nat) (runs1 : List (List TApiEntry)) : Le1 (merge_All fu runs1) (merge_All (fu + 1) runs1) := by
  unfold merge_All
  repeat' (first | exact Le1.refl _ |  apply m_merge_Begin_2 | apply m_merge_All_l1 | apply Le1.ite | apply Le1.bindSum | apply Le1.bind | (intro _; try dsimp only) | (rename_i x; cases x <;> dsimp only))
theorem m_shadow_Check (fu : Nat) (vs1 : TApiShState) : Le1 (shadow_Check fu vs1) (shadow_Check (fu + 1) vs1) := by
  unfold shadow_Check
  repeat' (first | exact Le1.refl _ |  apply m_keys_Check | apply Le1.ite | apply Le1.bindSum | apply Le1.bind | (intro _; try dsimp only) | (rename_i x; cases x <;> dsimp only))
theorem m_shadow_kept_entry (fu : Nat) (vx1 : TShadowKept) : Le1 (shadow_kept_entry fu vx1) (shadow_kept_entry (fu + 1) vx1) := by
  unfold shadow_kept_entry
  repeat' (first | exact Le1.refl _ |  apply Le1.ite | apply Le1.bindSum | apply Le1.bind | (intro _; try dsimp only) | (rename_i x; cases x <;> dsimp only))
theorem m_shadow_Filter_l1 (l1 : List TApiEntry) (vr4 : TApiShState) : ∀ fu v60 v61 v62 v63, Le1 (shadow_Filter_l1 l1 vr4 fu v60 v61 v62 v63) (shadow_Filter_l1 l1 vr4 (fu + 1) v60 v61 v62 v63) := by
  intro fu
  induction fu with
  | zero => intro v60 v61 v62 v63 r h; rw [shadow_Filter_l1] at h; cases h
  | succ fu ih =>
    intro v60 v61 v62 v63
    conv => arg 1; rw [shadow_Filter_l1]
    conv => arg 2; rw [shadow_Filter_l1]
    repeat' (first | exact Le1.refl _ | exact ih _ _ _ _ | apply m_shadow_Check | apply m_entries_Check | apply m_shadow_kept_entry | apply Le1.ite | apply Le1.bindSum | apply Le1.bind | (intro _; try dsimp only) | (rename_i x; cases x <;> dsimp only))
theorem m_shadow_Filter (fu : Nat) (l1 : List TApiEntry) (bottom2 : Bool) : Le1 (shadow_Filter fu l1 bottom2) (shadow_Filter (fu + 1) l1 bottom2) := by
  unfold shadow_Filter
  repeat' (first | exact Le1.refl _ |  apply m_shadow_Begin | apply m_shadow_Filter_l1 | apply Le1.ite | apply Le1.bindSum | apply Le1.bind | (intro _; try dsimp only) | (rename_i x; cases x <;> dsimp only))
theorem m_slices_alike_l1 (a1 : List TApiEntry) (b2 : List TApiEntry) : ∀ fu v14, Le1 (slices_alike_l1 a1 b2 fu v14) (slices_alike_l1 a1 b2 (fu + 1) v14) := by
  intro fu
  induction fu with
  | zero => intro v14 r h; rw [slices_alike_l1] at h; cases h
  | succ fu ih =>
    intro v14
    conv => arg 1; rw [slices_alike_l1]
    conv => arg 2; rw [slices_alike_l1]
    repeat' (first | exact Le1.refl _ | exact ih _ | apply Le1.ite | apply Le1.bindSum | apply Le1.bind | (intro _; try dsimp only) | (rename_i x; cases x <;> dsimp only))
theorem m_slices_alike (fu : Nat) (a1 : List TApiEntry) (b2 : List TApiEntry) : Le1 (slices_alike fu a1 b2) (slices_alike (fu + 1) a1 b2) := by
  unfold slices_alike
  repeat' (first | exact Le1.refl _ |  apply m_slices_alike_l1 | apply Le1.ite | apply Le1.bindSum | apply Le1.bind | (intro _; try dsimp only) | (rename_i x; cases x <;> dsimp only))
theorem m_slices_Check_l1 (vs1 : TApiSlState) : ∀ fu n11 v12, Le1 (slices_Check_l1 vs1 fu n11 v12) (slices_Check_l1 vs1 (fu + 1) n11 v12) := by
  intro fu
  induction fu with
  | zero => intro n11 v12 r h; rw [slices_Check_l1] at h; cases h
  | succ fu ih =>
    intro n11 v12
    conv => arg 1; rw [slices_Check_l1]
    conv => arg 2; rw [slices_Check_l1]
    repeat' (first | exact Le1.refl _ | exact ih _ _ | apply Le1.ite | apply Le1.bindSum | apply Le1.bind | (intro _; try dsimp only) | (rename_i x; cases x <;> dsimp only))
theorem m_slices_Check (fu : Nat) (vs1 : TApiSlState) : Le1 (slices_Check fu vs1) (slices_Check (fu + 1) vs1) := by
  unfold slices_Check
  repeat' (first | exact Le1.refl _ |  apply m_merge_Check | apply m_slices_Check_l1 | apply m_merge_All | apply m_shadow_Filter | apply m_shadow_Begin | apply m_slices_alike | apply Le1.ite | apply Le1.bindSum | apply Le1.bind | (intro _; try dsimp only) | (rename_i x; cases x <;> dsimp only))
theorem m_merge_Left_l1 (vs1 : TApiMgState) : ∀ fu n13 v14, Le1 (merge_Left_l1 vs1 fu n13 v14) (merge_Left_l1 vs1 (fu + 1) n13 v14) := by
  intro fu
  induction fu with
  | zero => intro n13 v14 r h; rw [merge_Left_l1] at h; cases h
  | succ fu ih =>
    intro n13 v14
    conv => arg 1; rw [merge_Left_l1]
    conv => arg 2; rw [merge_Left_l1]
    repeat' (first | exact Le1.refl _ | exact ih _ _ | apply Le1.ite | apply Le1.bindSum | apply Le1.bind | (intro _; try dsimp only) | (rename_i x; cases x <;> dsimp only))
theorem m_merge_Left (fu : Nat) (vs1 : TApiMgState) : Le1 (merge_Left fu vs1) (merge_Left (fu + 1) vs1) := by
  unfold merge_Left
  repeat' (first | exact Le1.refl _ |  apply m_merge_Check | apply m_merge_Left_l1 | apply Le1.ite | apply Le1.bindSum | apply Le1.bind | (intro _; try dsimp only) | (rename_i x; cases x <;> dsimp only))
theorem m_slices_Left (fu : Nat) (vs1 : TApiSlState) : Le1 (slices_Left fu vs1) (slices_Left (fu + 1) vs1) := by
  unfold slices_Left
  repeat' (first | exact Le1.refl _ |  apply m_slices_Check | apply m_merge_Left | apply Le1.ite | apply Le1.bindSum | apply Le1.bind | (intro _; try dsimp only) | (rename_i x; cases x <;> dsimp only))
theorem m_merge_Next (fu : Nat) (vs1 : TApiMgState) : Le1 (merge_Next fu vs1) (merge_Next (fu + 1) vs1) := by
  unfold merge_Next
  repeat' (first | exact Le1.refl _ |  apply m_merge_Check | apply m_slices_Clone_apiEntry | apply m_slices_Clone_int_2 | apply m_merge_reader_peek | apply m_merge_next | apply m_loser_Replace | apply Le1.ite | apply Le1.bindSum | apply Le1.bind | (intro _; try dsimp only) | (rename_i x; cases x <;> dsimp only))
theorem m_shadow_Step (fu : Nat) (vs1 : TApiShState) (vx2 : TApiEntry) : Le1 (shadow_Step fu vs1 vx2) (shadow_Step (fu + 1) vs1 vx2) := by
  unfold shadow_Step
  repeat' (first | exact Le1.refl _ |  apply m_shadow_Check | apply m_entries_Check | apply Le1.ite | apply Le1.bindSum | apply Le1.bind | (intro _; try dsimp only) | (rename_i x; cases x <;> dsimp only))
theorem m_slices_Step_l1 (vr3 : Int × Int) (n2 : Int) : ∀ fu left43 v44 v45 v46 v47 v48 v49 v50 v51 v52 v53, Le1 (slices_Step_l1 vr3 n2 fu left43 v44 v45 v46 v47 v48 v49 v50 v51 v52 v53) (slices_Step_l1 vr3 n2 (fu + 1) left43 v44 v45 v46 v47 v48 v49 v50 v51 v52 v53) := by
  intro fu
  induction fu with
  | zero => intro left43 v44 v45 v46 v47 v48 v49 v50 v51 v52 v53 r h; rw [slices_Step_l1] at h; cases h
  | succ fu ih =>
    intro left43 v44 v45 v46 v47 v48 v49 v50 v51 v52 v53
    conv => arg 1; rw [slices_Step_l1]
    conv => arg 2; rw [slices_Step_l1]
    repeat' (first | exact Le1.refl _ | exact ih _ _ _ _ _ _ _ _ _ _ _ | apply m_merge_Next | apply m_shadow_Step | apply Le1.ite | apply Le1.bindSum | apply Le1.bind | (intro _; try dsimp only) | (rename_i x; cases x <;> dsimp only))
theorem m_slices_Step (fu : Nat) (vs1 : TApiSlState) (n2 : Int) : Le1 (slices_Step fu vs1 n2) (slices_Step (fu + 1) vs1 n2) := by
  unfold slices_Step
  repeat' (first | exact Le1.refl _ |  apply m_slices_Left | apply m_slices_Step_l1 | apply Le1.ite | apply Le1.bindSum | apply Le1.bind | (intro _; try dsimp only) | (rename_i x; cases x <;> dsimp only))
theorem m_slices_Equal_apiEntry_l1 (s11 : List TApiEntry) (s22 : List TApiEntry) : ∀ fu v14, Le1 (slices_Equal_apiEntry_l1 s11 s22 fu v14) (slices_Equal_apiEntry_l1 s11 s22 (fu + 1) v14) := by
  intro fu
  induction fu with
  | zero => intro v14 r h; rw [slices_Equal_apiEntry_l1] at h; cases h
  | succ fu ih =>
    intro v14
    conv => arg 1; rw [slices_Equal_apiEntry_l1]
    conv => arg 2; rw [slices_Equal_apiEntry_l1]
    repeat' (first | exact Le1.refl _ | exact ih _ | apply Le1.ite | apply Le1.bindSum | apply Le1.bind | (intro _; try dsimp only) | (rename_i x; cases x <;> dsimp only))
theorem m_slices_Equal_apiEntry (fu : Nat) (s11 : List TApiEntry) (s22 : List TApiEntry) : Le1 (slices_Equal_apiEntry fu s11 s22) (slices_Equal_apiEntry (fu + 1) s11 s22) := by
  unfold slices_Equal_apiEntry
  repeat' (first | exact Le1.refl _ |  apply m_slices_Equal_apiEntry_l1 | apply Le1.ite | apply Le1.bindSum | apply Le1.bind | (intro _; try dsimp only) | (rename_i x; cases x <;> dsimp only))
theorem m_jobs_sameEntries (fu : Nat) (a1 : List TApiEntry) (b2 : List TApiEntry) : Le1 (jobs_sameEntries fu a1 b2) (jobs_sameEntries (fu + 1) a1 b2) := by
  unfold jobs_sameEntries
  repeat' (first | exact Le1.refl _ |  apply m_slices_Equal_apiEntry | apply Le1.ite | apply Le1.bindSum | apply Le1.bind | (intro _; try dsimp only) | (rename_i x; cases x <;> dsimp only))
theorem m_slices_EqualFunc_apiEntry_l1 (s11 : List (List TApiEntry)) (s22 : List (List TApiEntry)) : ∀ fu v16, Le1 (slices_EqualFunc_apiEntry_l1 s11 s22 fu v16) (slices_EqualFunc_apiEntry_l1 s11 s22 (fu + 1) v16) := by
  intro fu
  induction fu with
  | zero => intro v16 r h; rw [slices_EqualFunc_apiEntry_l1] at h; cases h
  | succ fu ih =>
    intro v16
    conv => arg 1; rw [slices_EqualFunc_apiEntry_l1]
    conv => arg 2; rw [slices_EqualFunc_apiEntry_l1]
    repeat' (first | exact Le1.refl _ | exact ih _ | apply m_jobs_sameEntries | apply Le1.ite | apply Le1.bindSum | apply Le1.bind | (intro _; try dsimp only) | (rename_i x; cases x <;> dsimp only))
theorem m_slices_EqualFunc_apiEntry (fu : Nat) (s11 : List (List TApiEntry)) (s22 : List (List TApiEntry)) : Le1 (slices_EqualFunc_apiEntry fu s11 s22) (slices_EqualFunc_apiEntry (fu + 1) s11 s22) := by
  unfold slices_EqualFunc_apiEntry
  repeat' (first | exact Le1.refl _ |  apply m_slices_EqualFunc_apiEntry_l1 | apply Le1.ite | apply Le1.bindSum | apply Le1.bind | (intro _; try dsimp only) | (rename_i x; cases x <;> dsimp only))
theorem m_jobs_same (fu : Nat) (a1 : TApiSlState) (b2 : TApiSlState) : Le1 (jobs_same fu a1 b2) (jobs_same (fu + 1) a1 b2) := by
  unfold jobs_same
  repeat' (first | exact Le1.refl _ |  apply m_slices_EqualFunc_apiEntry | apply m_slices_Equal_int | apply m_slices_Equal_apiLsKey | apply m_jobs_sameEntries | apply Le1.ite | apply Le1.bindSum | apply Le1.bind | (intro _; try dsimp only) | (rename_i x; cases x <;> dsimp only))
theorem m_jobs_Check_l1 (vs1 : TApiJbState) (vr10 : List Int) : ∀ fu v49, Le1 (jobs_Check_l1 vs1 vr10 fu v49) (jobs_Check_l1 vs1 vr10 (fu + 1) v49) := by
  intro fu
  induction fu with
  | zero => intro v49 r h; rw [jobs_Check_l1] at h; cases h
  | succ fu ih =>
    intro v49
    conv => arg 1; rw [jobs_Check_l1]
    conv => arg 2; rw [jobs_Check_l1]
    repeat' (first | exact Le1.refl _ | exact ih _ | apply m_jobs_lowest | apply m_jobs_begun | apply m_slices_Left | apply m_slices_Step | apply m_jobs_same | apply Le1.ite | apply Le1.bindSum | apply Le1.bind | (intro _; try dsimp only) | (rename_i x; cases x <;> dsimp only))
theorem m_jobs_Check (fu : Nat) (vs1 : TApiJbState) : Le1 (jobs_Check fu vs1) (jobs_Check (fu + 1) vs1) := by
  unfold jobs_Check
  repeat' (first | exact Le1.refl _ |  apply m_levels_Check | apply m_jobs_greatest | apply m_jobs_due | apply m_slices_Collect_int | apply m_jobs_Check_l1 | apply Le1.ite | apply Le1.bindSum | apply Le1.bind | (intro _; try dsimp only) | (rename_i x; cases x <;> dsimp only))
theorem m_jobs_Find_1 (fu : Nat) (j1 : TApiJbJob) (p2 : Int) : Le1 (jobs_Find_1 fu j1 p2) (jobs_Find_1 (fu + 1) j1 p2) := by
  unfold jobs_Find_1
  repeat' (first | exact Le1.refl _ |  apply Le1.ite | apply Le1.bindSum | apply Le1.bind | (intro _; try dsimp only) | (rename_i x; cases x <;> dsimp only))
theorem m_slices_IndexFunc_apiJbJob_l1 (vs1 : List TApiJbJob) (f2 : Int) : ∀ fu v13, Le1 (slices_IndexFunc_apiJbJob_l1 vs1 f2 fu v13) (slices_IndexFunc_apiJbJob_l1 vs1 f2 (fu + 1) v13) := by
  intro fu
  induction fu with
  | zero => intro v13 r h; rw [slices_IndexFunc_apiJbJob_l1] at h; cases h
  | succ fu ih =>
    intro v13
    conv => arg 1; rw [slices_IndexFunc_apiJbJob_l1]
    conv => arg 2; rw [slices_IndexFunc_apiJbJob_l1]
    repeat' (first | exact Le1.refl _ | exact ih _ | apply m_jobs_Find_1 | apply Le1.ite | apply Le1.bindSum | apply Le1.bind | (intro _; try dsimp only) | (rename_i x; cases x <;> dsimp only))
theorem m_slices_IndexFunc_apiJbJob (fu : Nat) (vs1 : List TApiJbJob) (f2 : Int) : Le1 (slices_IndexFunc_apiJbJob fu vs1 f2) (slices_IndexFunc_apiJbJob (fu + 1) vs1 f2) := by
  unfold slices_IndexFunc_apiJbJob
  repeat' (first | exact Le1.refl _ |  apply m_slices_IndexFunc_apiJbJob_l1 | apply Le1.ite | apply Le1.bindSum | apply Le1.bind | (intro _; try dsimp only) | (rename_i x; cases x <;> dsimp only))
theorem m_jobs_first_apiJbJob (fu : Nat) (l1 : List TApiJbJob) (is2 : Int) : Le1 (jobs_first_apiJbJob fu l1 is2) (jobs_first_apiJbJob (fu + 1) l1 is2) := by
  unfold jobs_first_apiJbJob
  repeat' (first | exact Le1.refl _ |  apply m_slices_IndexFunc_apiJbJob | apply Le1.ite | apply Le1.bindSum | apply Le1.bind | (intro _; try dsimp only) | (rename_i x; cases x <;> dsimp only))
theorem m_jobs_Find (fu : Nat) (vs1 : TApiJbState) (level2 : Int) : Le1 (jobs_Find fu vs1 level2) (jobs_Find (fu + 1) vs1 level2) := by
  unfold jobs_Find
  repeat' (first | exact Le1.refl _ |  apply m_jobs_Check | apply m_jobs_first_apiJbJob | apply Le1.ite | apply Le1.bindSum | apply Le1.bind | (intro _; try dsimp only) | (rename_i x; cases x <;> dsimp only))
theorem m_jobs_Left (fu : Nat) (vs1 : TApiJbState) (level2 : Int) : Le1 (jobs_Left fu vs1 level2) (jobs_Left (fu + 1) vs1 level2) := by
  unfold jobs_Left
  repeat' (first | exact Le1.refl _ |  apply m_jobs_Find | apply m_slices_Left | apply Le1.ite | apply Le1.bindSum | apply Le1.bind | (intro _; try dsimp only) | (rename_i x; cases x <;> dsimp only))
theorem m_slices_Clone_apiJbJob_2 (fu : Nat) (vs1 : List TApiJbJob) : Le1 (slices_Clone_apiJbJob_2 fu vs1) (slices_Clone_apiJbJob_2 (fu + 1) vs1) := by
  unfold slices_Clone_apiJbJob_2
  repeat' (first | exact Le1.refl _ |  apply Le1.ite | apply Le1.bindSum | apply Le1.bind | (intro _; try dsimp only) | (rename_i x; cases x <;> dsimp only))
theorem m_jobs_Read (fu : Nat) (vs1 : TApiJbState) (level2 : Int) (most3 : Int) : Le1 (jobs_Read fu vs1 level2 most3) (jobs_Read (fu + 1) vs1 level2 most3) := by
  unfold jobs_Read
  repeat' (first | exact Le1.refl _ |  apply m_jobs_Check | apply m_jobs_Find | apply m_slices_Left | apply m_slices_Step | apply m_slices_Clone_apiJbJob_2 | apply Le1.ite | apply Le1.bindSum | apply Le1.bind | (intro _; try dsimp only) | (rename_i x; cases x <;> dsimp only))
theorem m_bookendlaw16_shown (fu : Nat) : Le1 (bookendlaw16_shown fu ) (bookendlaw16_shown (fu + 1) ) := by
  unfold bookendlaw16_shown
  repeat' (first | exact Le1.refl _ |  apply m_bookendlaw16_Example | apply m_jobs_Of | apply m_jobs_Left | apply m_jobs_Read | apply Le1.ite | apply Le1.bindSum | apply Le1.bind | (intro _; try dsimp only) | (rename_i x; cases x <;> dsimp only))
end Go.T
