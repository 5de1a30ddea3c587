/- More fuel changes nothing. -/
import Derived.Test.YtfbaoblejikccaaGp
namespace Go.T
open Go Go.AM
def Le1 {α : Type} (a b : Option α) : Prop := ∀ r, a = some r → b = some r
theorem Le1.refl {α : Type} (a : Option α) : Le1 a a := fun _ h => h
theorem Le1.bind {α β : Type} {a b : Option α} {f g : α → Option β} (h : Le1 a b) (k : ∀ x, Le1 (f x) (g x)) : Le1 (a.bind f) (b.bind g) := by
  intro r hr
  cases a with
  | none => cases hr
  | some x => rw [h x rfl]; exact k x r hr
theorem Le1.bindSum {α γ β : Type} {a b : Option (Sum α γ)} {f g : Sum α γ → Option β} (h : Le1 a b) (k : ∀ x, Le1 (f (.inl x)) (g (.inl x))) (l : ∀ x, Le1 (f (.inr x)) (g (.inr x))) : Le1 (a.bind f) (b.bind g) :=
  Le1.bind h fun x => by cases x; exact k _; exact l _
theorem Le1.ite {α : Type} {c : Prop} [Decidable c] {a b a' b' : Option α} (h : Le1 a a') (k : Le1 b b') : Le1 (if c then a else b) (if c then a' else b') := by
  by_cases hc : c
  · rw [if_pos hc, if_pos hc]; exact h
  · rw [if_neg hc, if_neg hc]; exact k
set_option linter.unusedVariables false
theorem m_bookendlaw11_Far_l1 (runs1 : List (List TApiEntry)) : ∀ fu i21, Le1 (bookendlaw11_Far_l1 runs1 fu i21) (bookendlaw11_Far_l1 runs1 (fu + 1) i21) := by
  intro fu
  induction fu with
  | zero => intro i21 r h; rw [bookendlaw11_Far_l1] at h; cases h
  | succ fu ih =>
    intro i21
    conv => arg 1; rw [bookendlaw11_Far_l1]
    conv => arg 2; rw [bookendlaw11_Far_l1]
    repeat' (first | exact Le1.refl _ | exact ih _ | apply Le1.ite | apply Le1.bindSum | apply Le1.bind | (intro _; try dsimp only) | (rename_i x; cases x <;> dsimp only))
theorem m_bookendlaw11_Far_l5 (e77 : List TApiEntry) : ∀ fu k91, Le1 (bookendlaw11_Far_l5 e77 fu k91) (bookendlaw11_Far_l5 e77 (fu + 1) k91) := by
  intro fu
  induction fu with
  | zero => intro k91 r h; rw [bookendlaw11_Far_l5] at h; cases h
  | succ fu ih =>
    intro k91
    conv => arg 1; rw [bookendlaw11_Far_l5]
    conv => arg 2; rw [bookendlaw11_Far_l5]
    repeat' (first | exact Le1.refl _ | exact ih _ | apply Le1.ite | apply Le1.bindSum | apply Le1.bind | (intro _; try dsimp only) | (rename_i x; cases x <;> dsimp only))
theorem m_bookendlaw11_Far_l4 (runs1 : List (List TApiEntry)) : ∀ fu many74 i75, Le1 (bookendlaw11_Far_l4 runs1 fu many74 i75) (bookendlaw11_Far_l4 runs1 (fu + 1) many74 i75) := by
  intro fu
  induction fu with
  | zero => intro many74 i75 r h; rw [bookendlaw11_Far_l4] at h; cases h
  | succ fu ih =>
    intro many74 i75
    conv => arg 1; rw [bookendlaw11_Far_l4]
    conv => arg 2; rw [bookendlaw11_Far_l4]
    repeat' (first | exact Le1.refl _ | exact ih _ _ | apply m_bookendlaw11_Far_l5 | apply Le1.ite | apply Le1.bindSum | apply Le1.bind | (intro _; try dsimp only) | (rename_i x; cases x <;> dsimp only))
theorem m_bookendlaw11_Far (fu : Nat) (runs1 : List (List TApiEntry)) : Le1 (bookendlaw11_Far fu runs1) (bookendlaw11_Far (fu + 1) runs1) := by
  unfold bookendlaw11_Far
  repeat' (first | exact Le1.refl _ |  apply m_bookendlaw11_Far_l1 | apply m_bookendlaw11_Far_l4 | apply Le1.ite | apply Le1.bindSum | apply Le1.bind | (intro _; try dsimp only) | (rename_i x; cases x <;> dsimp only))
theorem m_bookendlaw11_Example (fu : Nat) : Le1 (bookendlaw11_Example fu ) (bookendlaw11_Example (fu + 1) ) := by
  unfold bookendlaw11_Example
  repeat' (first | exact Le1.refl _ |  apply Le1.ite | apply Le1.bindSum | apply Le1.bind | (intro _; try dsimp only) | (rename_i x; cases x <;> dsimp only))
theorem m_keys_Check (fu : Nat) (k1 : List UInt8) : Le1 (keys_Check fu k1) (keys_Check (fu + 1) k1) := by
  unfold keys_Check
  repeat' (first | exact Le1.refl _ |  apply Le1.ite | apply Le1.bindSum | apply Le1.bind | (intro _; try dsimp only) | (rename_i x; cases x <;> dsimp only))
theorem m_entries_Check (fu : Nat) (vx1 : TApiEntry) : Le1 (entries_Check fu vx1) (entries_Check (fu + 1) vx1) := by
  unfold entries_Check
  repeat' (first | exact Le1.refl _ |  apply m_keys_Check | apply Le1.ite | apply Le1.bindSum | apply Le1.bind | (intro _; try dsimp only) | (rename_i x; cases x <;> dsimp only))
theorem m_entries_CheckList_l1 (l1 : List TApiEntry) : ∀ fu v17, Le1 (entries_CheckList_l1 l1 fu v17) (entries_CheckList_l1 l1 (fu + 1) v17) := by
  intro fu
  induction fu with
  | zero => intro v17 r h; rw [entries_CheckList_l1] at h; cases h
  | succ fu ih =>
    intro v17
    conv => arg 1; rw [entries_CheckList_l1]
    conv => arg 2; rw [entries_CheckList_l1]
    repeat' (first | exact Le1.refl _ | exact ih _ | apply m_entries_Check | apply Le1.ite | apply Le1.bindSum | apply Le1.bind | (intro _; try dsimp only) | (rename_i x; cases x <;> dsimp only))
theorem m_entries_CheckList (fu : Nat) (l1 : List TApiEntry) : Le1 (entries_CheckList fu l1) (entries_CheckList (fu + 1) l1) := by
  unfold entries_CheckList
  repeat' (first | exact Le1.refl _ |  apply m_entries_CheckList_l1 | apply Le1.ite | apply Le1.bindSum | apply Le1.bind | (intro _; try dsimp only) | (rename_i x; cases x <;> dsimp only))
theorem m_merge_check_l1 (runs1 : List (List TApiEntry)) : ∀ fu v14, Le1 (merge_check_l1 runs1 fu v14) (merge_check_l1 runs1 (fu + 1) v14) := by
  intro fu
  induction fu with
  | zero => intro v14 r h; rw [merge_check_l1] at h; cases h
  | succ fu ih =>
    intro v14
    conv => arg 1; rw [merge_check_l1]
    conv => arg 2; rw [merge_check_l1]
    repeat' (first | exact Le1.refl _ | exact ih _ | apply m_entries_CheckList | apply Le1.ite | apply Le1.bindSum | apply Le1.bind | (intro _; try dsimp only) | (rename_i x; cases x <;> dsimp only))
theorem m_merge_check (fu : Nat) (runs1 : List (List TApiEntry)) : Le1 (merge_check fu runs1) (merge_check (fu + 1) runs1) := by
  unfold merge_check
  repeat' (first | exact Le1.refl _ |  apply m_merge_check_l1 | apply Le1.ite | apply Le1.bindSum | apply Le1.bind | (intro _; try dsimp only) | (rename_i x; cases x <;> dsimp only))
theorem m_slices_Clone_apiEntry (fu : Nat) (vs1 : List (List TApiEntry)) : Le1 (slices_Clone_apiEntry fu vs1) (slices_Clone_apiEntry (fu + 1) vs1) := by
  unfold slices_Clone_apiEntry
  repeat' (first | exact Le1.refl _ |  apply Le1.ite | apply Le1.bindSum | apply Le1.bind | (intro _; try dsimp only) | (rename_i x; cases x <;> dsimp only))
theorem m_merge_next (fu : Nat) (l1 : List TApiEntry) (vat2 : Int) : Le1 (merge_next fu l1 vat2) (merge_next (fu + 1) l1 vat2) := by
  unfold merge_next
  repeat' (first | exact Le1.refl _ |  apply Le1.ite | apply Le1.bindSum | apply Le1.bind | (intro _; try dsimp only) | (rename_i x; cases x <;> dsimp only))
theorem m_loser_check_1 (fu : Nat) (k1 : TApiLsKey) : Le1 (loser_check_1 fu k1) (loser_check_1 (fu + 1) k1) := by
  unfold loser_check_1
  repeat' (first | exact Le1.refl _ |  apply Le1.ite | apply Le1.bindSum | apply Le1.bind | (intro _; try dsimp only) | (rename_i x; cases x <;> dsimp only))
theorem m_slices_IndexFunc_apiLsKey_l1 (vs1 : List TApiLsKey) : ∀ fu v12, Le1 (slices_IndexFunc_apiLsKey_l1 vs1 fu v12) (slices_IndexFunc_apiLsKey_l1 vs1 (fu + 1) v12) := by
  intro fu
  induction fu with
  | zero => intro v12 r h; rw [slices_IndexFunc_apiLsKey_l1] at h; cases h
  | succ fu ih =>
    intro v12
    conv => arg 1; rw [slices_IndexFunc_apiLsKey_l1]
    conv => arg 2; rw [slices_IndexFunc_apiLsKey_l1]
    repeat' (first | exact Le1.refl _ | exact ih _ | apply m_loser_check_1 | apply Le1.ite | apply Le1.bindSum | apply Le1.bind | (intro _; try dsimp only) | (rename_i x; cases x <;> dsimp only))
theorem m_slices_IndexFunc_apiLsKey (fu : Nat) (vs1 : List TApiLsKey) : Le1 (slices_IndexFunc_apiLsKey fu vs1) (slices_IndexFunc_apiLsKey (fu + 1) vs1) := by
  unfold slices_IndexFunc_apiLsKey
  repeat' (first | exact Le1.refl _ |  apply m_slices_IndexFunc_apiLsKey_l1 | apply Le1.ite | apply Le1.bindSum | apply Le1.bind | (intro _; try dsimp only) | (rename_i x; cases x <;> dsimp only))
theorem m_slices_ContainsFunc_apiLsKey (fu : Nat) (vs1 : List TApiLsKey) : Le1 (slices_ContainsFunc_apiLsKey fu vs1) (slices_ContainsFunc_apiLsKey (fu + 1) vs1) := by
  unfold slices_ContainsFunc_apiLsKey
  repeat' (first | exact Le1.refl _ |  apply m_slices_IndexFunc_apiLsKey | apply Le1.ite | apply Le1.bindSum | apply Le1.bind | (intro _; try dsimp only) | (rename_i x; cases x <;> dsimp only))
theorem m_loser_check (fu : Nat) (keys1 : List TApiLsKey) : Le1 (loser_check fu keys1) (loser_check (fu + 1) keys1) := by
  unfold loser_check
  repeat' (first | exact Le1.refl _ |  apply m_slices_ContainsFunc_apiLsKey | apply Le1.ite | apply Le1.bindSum | apply Le1.bind | (intro _; try dsimp only) | (rename_i x; cases x <;> dsimp only))
theorem m_loser_judge (fu : Nat) (keys1 : List TApiLsKey) : Le1 (loser_judge fu keys1) (loser_judge (fu + 1) keys1) := by
  unfold loser_judge
  repeat' (first | exact Le1.refl _ |  apply Le1.ite | apply Le1.bindSum | apply Le1.bind | (intro _; try dsimp only) | (rename_i x; cases x <;> dsimp only))
theorem m_slices_Clone_apiLsKey (fu : Nat) (vs1 : List TApiLsKey) : Le1 (slices_Clone_apiLsKey fu vs1) (slices_Clone_apiLsKey (fu + 1) vs1) := by
  unfold slices_Clone_apiLsKey
  repeat' (first | exact Le1.refl _ |  apply Le1.ite | apply Le1.bindSum | apply Le1.bind | (intro _; try dsimp only) | (rename_i x; cases x <;> dsimp only))
theorem m_loser_judge_1 (fu : Nat) (p1 : Int) (q2 : Int) (p3 : List TApiLsKey) : Le1 (loser_judge_1 fu p1 q2 p3) (loser_judge_1 (fu + 1) p1 q2 p3) := by
  unfold loser_judge_1
  repeat' (first | exact Le1.refl _ |  apply Le1.ite | apply Le1.bindSum | apply Le1.bind | (intro _; try dsimp only) | (rename_i x; cases x <;> dsimp only))
theorem m_loser_play_l1 (keys1 : List TApiLsKey) (vr2 : List TApiLsKey) : ∀ fu i34 players35 v36, Le1 (loser_play_l1 keys1 vr2 fu i34 players35 v36) (loser_play_l1 keys1 vr2 (fu + 1) i34 players35 v36) := by
  intro fu
  induction fu with
  | zero => intro i34 players35 v36 r h; rw [loser_play_l1] at h; cases h
  | succ fu ih =>
    intro i34 players35 v36
    conv => arg 1; rw [loser_play_l1]
    conv => arg 2; rw [loser_play_l1]
    repeat' (first | exact Le1.refl _ | exact ih _ _ _ | apply m_loser_judge_1 | apply Le1.ite | apply Le1.bindSum | apply Le1.bind | (intro _; try dsimp only) | (rename_i x; cases x <;> dsimp only))
theorem m_loser_play (fu : Nat) (keys1 : List TApiLsKey) : Le1 (loser_play fu keys1) (loser_play (fu + 1) keys1) := by
  unfold loser_play
  repeat' (first | exact Le1.refl _ |  apply m_loser_judge | apply m_slices_Clone_apiLsKey | apply m_loser_play_l1 | apply Le1.ite | apply Le1.bindSum | apply Le1.bind | (intro _; try dsimp only) | (rename_i x; cases x <;> dsimp only))
theorem m_loser_Build (fu : Nat) (keys1 : List TApiLsKey) : Le1 (loser_Build fu keys1) (loser_Build (fu + 1) keys1) := by
  unfold loser_Build
  repeat' (first | exact Le1.refl _ |  apply m_loser_check | apply m_loser_play | apply Le1.ite | apply Le1.bindSum | apply Le1.bind | (intro _; try dsimp only) | (rename_i x; cases x <;> dsimp only))
theorem m_merge_tree_l1 (runs1 : List (List TApiEntry)) (vat2 : List Int) : ∀ fu v18 keys19, Le1 (merge_tree_l1 runs1 vat2 fu v18 keys19) (merge_tree_l1 runs1 vat2 (fu + 1) v18 keys19) := by
  intro fu
  induction fu with
  | zero => intro v18 keys19 r h; rw [merge_tree_l1] at h; cases h
  | succ fu ih =>
    intro v18 keys19
    conv => arg 1; rw [merge_tree_l1]
    conv => arg 2; rw [merge_tree_l1]
    repeat' (first | exact Le1.refl _ | exact ih _ _ | apply m_merge_next | apply Le1.ite | apply Le1.bindSum | apply Le1.bind | (intro _; try dsimp only) | (rename_i x; cases x <;> dsimp only))
theorem m_merge_tree (fu : Nat) (runs1 : List (List TApiEntry)) (vat2 : List Int) : Le1 (merge_tree fu runs1 vat2) (merge_tree (fu + 1) runs1 vat2) := by
  unfold merge_tree
  repeat' (first | exact Le1.refl _ |  apply m_merge_tree_l1 | apply m_loser_Build | apply Le1.ite | apply Le1.bindSum | apply Le1.bind | (intro _; try dsimp only) | (rename_i x; cases x <;> dsimp only))
theorem m_merge_Begin (fu : Nat) (runs1 : List (List TApiEntry)) : Le1 (merge_Begin fu runs1) (merge_Begin (fu + 1) runs1) := by
  unfold merge_Begin
  repeat' (first | exact Le1.refl _ |  apply m_merge_check | apply m_slices_Clone_apiEntry | apply m_merge_tree | apply Le1.ite | apply Le1.bindSum | apply Le1.bind | (intro _; try dsimp only) | (rename_i x; cases x <;> dsimp only))
theorem m_merge_reader_all (fu : Nat) (vr1 : List (List TApiEntry)) (vr2 : List Int) (vr3 : List TApiLsKey) (vr4 : List Int) (vr5 : Int) : Le1 (merge_reader_all fu vr1 vr2 vr3 vr4 vr5) (merge_reader_all (fu + 1) vr1 vr2 vr3 vr4 vr5) := by
  unfold merge_reader_all
  repeat' (first | exact Le1.refl _ |  apply Le1.ite | apply Le1.bindSum | apply Le1.bind | (intro _; try dsimp only) | (rename_i x; cases x <;> dsimp only))
theorem m_loser_Check_l1 (vr5 : TApiLsTree) (t1 : TApiLsTree) : ∀ fu v16, Le1 (loser_Check_l1 vr5 t1 fu v16) (loser_Check_l1 vr5 t1 (fu + 1) v16) := by
  intro fu
  induction fu with
  | zero => intro v16 r h; rw [loser_Check_l1] at h; cases h
  | succ fu ih =>
    intro v16
    conv => arg 1; rw [loser_Check_l1]
    conv => arg 2; rw [loser_Check_l1]
    repeat' (first | exact Le1.refl _ | exact ih _ | apply Le1.ite | apply Le1.bindSum | apply Le1.bind | (intro _; try dsimp only) | (rename_i x; cases x <;> dsimp only))
theorem m_loser_Check (fu : Nat) (t1 : TApiLsTree) : Le1 (loser_Check fu t1) (loser_Check (fu + 1) t1) := by
  unfold loser_Check
  repeat' (first | exact Le1.refl _ |  apply m_loser_check | apply m_loser_play | apply m_loser_Check_l1 | apply Le1.ite | apply Le1.bindSum | apply Le1.bind | (intro _; try dsimp only) | (rename_i x; cases x <;> dsimp only))
theorem m_loser_open (fu : Nat) (t1 : TApiLsTree) : Le1 (loser_open fu t1) (loser_open (fu + 1) t1) := by
  unfold loser_open
  repeat' (first | exact Le1.refl _ |  apply m_loser_Check | apply Le1.ite | apply Le1.bindSum | apply Le1.bind | (intro _; try dsimp only) | (rename_i x; cases x <;> dsimp only))
theorem m_loser_Winner (fu : Nat) (t1 : TApiLsTree) : Le1 (loser_Winner fu t1) (loser_Winner (fu + 1) t1) := by
  unfold loser_Winner
  repeat' (first | exact Le1.refl _ |  apply m_loser_open | apply Le1.ite | apply Le1.bindSum | apply Le1.bind | (intro _; try dsimp only) | (rename_i x; cases x <;> dsimp only))
theorem m_merge_reader_peek (fu : Nat) (vr1 : List (List TApiEntry)) (vr2 : List Int) (vr3 : List TApiLsKey) (vr4 : List Int) (vr5 : Int) : Le1 (merge_reader_peek fu vr1 vr2 vr3 vr4 vr5) (merge_reader_peek (fu + 1) vr1 vr2 vr3 vr4 vr5) := by
  unfold merge_reader_peek
  repeat' (first | exact Le1.refl _ |  apply m_loser_Winner | apply Le1.ite | apply Le1.bindSum | apply Le1.bind | (intro _; try dsimp only) | (rename_i x; cases x <;> dsimp only))
theorem m_slices_Clone_apiLsKey_2 (fu : Nat) (vs1 : List TApiLsKey) : Le1 (slices_Clone_apiLsKey_2 fu vs1) (slices_Clone_apiLsKey_2 (fu + 1) vs1) := by
  unfold slices_Clone_apiLsKey_2
  repeat' (first | exact Le1.refl _ |  apply Le1.ite | apply Le1.bindSum | apply Le1.bind | (intro _; try dsimp only) | (rename_i x; cases x <;> dsimp only))
theorem m_loser_play_2_l1 (keys1 : List TApiLsKey) (vr2 : List TApiLsKey) : ∀ fu i34 players35 v36, Le1 (loser_play_2_l1 keys1 vr2 fu i34 players35 v36) (loser_play_2_l1 keys1 vr2 (fu + 1) i34 players35 v36) := by
  intro fu
  induction fu with
  | zero => intro i34 players35 v36 r h; rw [loser_play_2_l1] at h; cases h
  | succ fu ih =>
    intro i34 players35 v36
    conv => arg 1; rw [loser_play_2_l1]
    conv => arg 2; rw [loser_play_2_l1]
    repeat' (first | exact Le1.refl _ | exact ih _ _ _ | apply m_loser_judge_1 | apply Le1.ite | apply Le1.bindSum | apply Le1.bind | (intro _; try dsimp only) | (rename_i x; cases x <;> dsimp only))
theorem m_loser_play_2 (fu : Nat) (keys1 : List TApiLsKey) : Le1 (loser_play_2 fu keys1) (loser_play_2 (fu + 1) keys1) := by
  unfold loser_play_2
  repeat' (first | exact Le1.refl _ |  apply m_loser_judge | apply m_slices_Clone_apiLsKey_2 | apply m_loser_play_2_l1 | apply Le1.ite | apply Le1.bindSum | apply Le1.bind | (intro _; try dsimp only) | (rename_i x; cases x <;> dsimp only))
theorem m_loser_Build_2 (fu : Nat) (keys1 : List TApiLsKey) : Le1 (loser_Build_2 fu keys1) (loser_Build_2 (fu + 1) keys1) := by
  unfold loser_Build_2
  repeat' (first | exact Le1.refl _ |  apply m_loser_check | apply m_loser_play_2 | apply Le1.ite | apply Le1.bindSum | apply Le1.bind | (intro _; try dsimp only) | (rename_i x; cases x <;> dsimp only))
theorem m_loser_play_3_l1 (keys1 : List TApiLsKey) (vr2 : List TApiLsKey) : ∀ fu i34 players35 v36, Le1 (loser_play_3_l1 keys1 vr2 fu i34 players35 v36) (loser_play_3_l1 keys1 vr2 (fu + 1) i34 players35 v36) := by
  intro fu
  induction fu with
  | zero => intro i34 players35 v36 r h; rw [loser_play_3_l1] at h; cases h
  | succ fu ih =>
    intro i34 players35 v36
    conv => arg 1; rw [loser_play_3_l1]
    conv => arg 2; rw [loser_play_3_l1]
    repeat' (first | exact Le1.refl _ | exact ih _ _ _ | apply m_loser_judge_1 | apply Le1.ite | apply Le1.bindSum | apply Le1.bind | (intro _; try dsimp only) | (rename_i x; cases x <;> dsimp only))
theorem m_loser_play_3 (fu : Nat) (keys1 : List TApiLsKey) : Le1 (loser_play_3 fu keys1) (loser_play_3 (fu + 1) keys1) := by
  unfold loser_play_3
  repeat' (first | exact Le1.refl _ |  apply m_loser_judge | apply m_slices_Clone_apiLsKey_2 | apply m_loser_play_3_l1 | apply Le1.ite | apply Le1.bindSum | apply Le1.bind | (intro _; try dsimp only) | (rename_i x; cases x <;> dsimp only))
theorem m_loser_Build_3 (fu : Nat) (keys1 : List TApiLsKey) : Le1 (loser_Build_3 fu keys1) (loser_Build_3 (fu + 1) keys1) := by
  unfold loser_Build_3
  repeat' (first | exact Le1.refl _ |  apply m_loser_check | apply m_loser_play_3 | apply Le1.ite | apply Le1.bindSum | apply Le1.bind | (intro _; try dsimp only) | (rename_i x; cases x <;> dsimp only))
theorem m_merge_tree_2_l1 (runs1 : List (List TApiEntry)) (vat2 : List Int) : ∀ fu v18 keys19, Le1 (merge_tree_2_l1 runs1 vat2 fu v18 keys19) (merge_tree_2_l1 runs1 vat2 (fu + 1) v18 keys19) := by
  intro fu
  induction fu with
  | zero => intro v18 keys19 r h; rw [merge_tree_2_l1] at h; cases h
  | succ fu ih =>
    intro v18 keys19
    conv => arg 1; rw [merge_tree_2_l1]
    conv => arg 2; rw [merge_tree_2_l1]
    repeat' (first | exact Le1.refl _ | exact ih _ _ | apply m_merge_next | apply Le1.ite | apply Le1.bindSum | apply Le1.bind | (intro _; try dsimp only) | (rename_i x; cases x <;> dsimp only))
theorem m_merge_tree_2 (fu : Nat) (runs1 : List (List TApiEntry)) (vat2 : List Int) : Le1 (merge_tree_2 fu runs1 vat2) (merge_tree_2 (fu + 1) runs1 vat2) := by
  unfold merge_tree_2
  repeat' (first | exact Le1.refl _ |  apply m_merge_tree_2_l1 | apply m_loser_Build_3 | apply Le1.ite | apply Le1.bindSum | apply Le1.bind | (intro _; try dsimp only) | (rename_i x; cases x <;> dsimp only))
theorem m_merge_Begin_2 (fu : Nat) (runs1 : List (List TApiEntry)) : Le1 (merge_Begin_2 fu runs1) (merge_Begin_2 (fu + 1) runs1) := by
  unfold merge_Begin_2
  repeat' (first | exact Le1.refl _ |  apply m_merge_check | apply m_slices_Clone_apiEntry | apply m_merge_tree_2 | apply Le1.ite | apply Le1.bindSum | apply Le1.bind | (intro _; try dsimp only) | (rename_i x; cases x <;> dsimp only))
theorem m_slices_Clone_int (fu : Nat) (vs1 : List Int) : Le1 (slices_Clone_int fu vs1) (slices_Clone_int (fu + 1) vs1) := by
  unfold slices_Clone_int
  repeat' (first | exact Le1.refl _ |  apply Le1.ite | apply Le1.bindSum | apply Le1.bind | (intro _; try dsimp only) | (rename_i x; cases x <;> dsimp only))
theorem m_slices_Clone_int_2 (fu : Nat) (vs1 : List Int) : Le1 (slices_Clone_int_2 fu vs1) (slices_Clone_int_2 (fu + 1) vs1) := by
  unfold slices_Clone_int_2
  repeat' (first | exact Le1.refl _ |  apply Le1.ite | apply Le1.bindSum | apply Le1.bind | (intro _; try dsimp only) | (rename_i x; cases x <;> dsimp only))
theorem m_loser_Replace_l1 (vr14 : List TApiLsKey) : ∀ fu games29 node30 u31 v32, Le1 (loser_Replace_l1 vr14 fu games29 node30 u31 v32) (loser_Replace_l1 vr14 (fu + 1) games29 node30 u31 v32) := by
  intro fu
  induction fu with
  | zero => intro games29 node30 u31 v32 r h; rw [loser_Replace_l1] at h; cases h
  | succ fu ih =>
    intro games29 node30 u31 v32
    conv => arg 1; rw [loser_Replace_l1]
    conv => arg 2; rw [loser_Replace_l1]
    repeat' (first | exact Le1.refl _ | exact ih _ _ _ _ | apply m_loser_judge_1 | apply Le1.ite | apply Le1.bindSum | apply Le1.bind | (intro _; try dsimp only) | (rename_i x; cases x <;> dsimp only))
theorem m_loser_Replace (fu : Nat) (t1 : TApiLsTree) (k2 : TApiLsKey) : Le1 (loser_Replace fu t1 k2) (loser_Replace (fu + 1) t1 k2) := by
  unfold loser_Replace
  repeat' (first | exact Le1.refl _ |  apply m_loser_open | apply m_loser_check | apply m_slices_Clone_apiLsKey_2 | apply m_slices_Clone_int_2 | apply m_loser_judge | apply m_loser_Replace_l1 | apply Le1.ite | apply Le1.bindSum | apply Le1.bind | (intro _; try dsimp only) | (rename_i x; cases x <;> dsimp only))
theorem m_merge_All_l1 (vr2 : TApiMgState × Int × Int) : ∀ fu v38 v39 v40 v41 v42 v43, Le1 (merge_All_l1 vr2 fu v38 v39 v40 v41 v42 v43) (merge_All_l1 vr2 (fu + 1) v38 v39 v40 v41 v42 v43) := by
  intro fu
  induction fu with
  | zero => intro v38 v39 v40 v41 v42 v43 r h; rw [merge_All_l1] at h; cases h
  | succ fu ih =>
    intro v38 v39 v40 v41 v42 v43
    conv => arg 1; rw [merge_All_l1]
    conv => arg 2; rw [merge_All_l1]
    repeat' (first | exact Le1.refl _ | exact ih _ _ _ _ _ _ | apply m_merge_reader_peek | apply m_merge_next | apply m_loser_Replace | apply Le1.ite | apply Le1.bindSum | apply Le1.bind | (intro _; try dsimp only) | (rename_i x; cases x <;> dsimp only))
theorem m_merge_All (fu : Nat) (runs1 : List (List TApiEntry)) : Le1 (merge_All fu runs1) (merge_All (fu + 1) runs1) := by
  unfold merge_All
  repeat' (first | exact Le1.refl _ |  apply m_merge_Begin_2 | apply m_merge_All_l1 | apply Le1.ite | apply Le1.bindSum | apply Le1.bind | (intro _; try dsimp only) | (rename_i x; cases x <;> dsimp only))
theorem m_slices_Equal_apiLsKey_l1 (s11 : List TApiLsKey) (s22 : List TApiLsKey) : ∀ fu v14, Le1 (slices_Equal_apiLsKey_l1 s11 s22 fu v14) (slices_Equal_apiLsKey_l1 s11 s22 (fu + 1) v14) := by
  intro fu
  induction fu with
  | zero => intro v14 r h; rw [slices_Equal_apiLsKey_l1] at h; cases h
  | succ fu ih =>
    intro v14
    conv => arg 1; rw [slices_Equal_apiLsKey_l1]
    conv => arg 2; rw [slices_Equal_apiLsKey_l1]
    repeat' (first | exact Le1.refl _ | exact ih _ | apply Le1.ite | apply Le1.bindSum | apply Le1.bind | (intro _; try dsimp only) | (rename_i x; cases x <;> dsimp only))
theorem m_slices_Equal_apiLsKey (fu : Nat) (s11 : List TApiLsKey) (s22 : List TApiLsKey) : Le1 (slices_Equal_apiLsKey fu s11 s22) (slices_Equal_apiLsKey (fu + 1) s11 s22) := by
  unfold slices_Equal_apiLsKey
  repeat' (first | exact Le1.refl _ |  apply m_slices_Equal_apiLsKey_l1 | apply Le1.ite | apply Le1.bindSum | apply Le1.bind | (intro _; try dsimp only) | (rename_i x; cases x <;> dsimp only))
theorem m_slices_Equal_int_l1 (s11 : List Int) (s22 : List Int) : ∀ fu v14, Le1 (slices_Equal_int_l1 s11 s22 fu v14) (slices_Equal_int_l1 s11 s22 (fu + 1) v14) := by
  intro fu
  induction fu with
  | zero => intro v14 r h; rw [slices_Equal_int_l1] at h; cases h
  | succ fu ih =>
    intro v14
    conv => arg 1; rw [slices_Equal_int_l1]
    conv => arg 2; rw [slices_Equal_int_l1]
    repeat' (first | exact Le1.refl _ | exact ih _ | apply Le1.ite | apply Le1.bindSum | apply Le1.bind | (intro _; try dsimp only) | (rename_i x; cases x <;> dsimp only))
theorem m_slices_Equal_int (fu : Nat) (s11 : List Int) (s22 : List Int) : Le1 (slices_Equal_int fu s11 s22) (slices_Equal_int (fu + 1) s11 s22) := by
  unfold slices_Equal_int
  repeat' (first | exact Le1.refl _ |  apply m_slices_Equal_int_l1 | apply Le1.ite | apply Le1.bindSum | apply Le1.bind | (intro _; try dsimp only) | (rename_i x; cases x <;> dsimp only))
theorem m_merge_alike (fu : Nat) (a1 : TApiLsTree) (b2 : TApiLsTree) : Le1 (merge_alike fu a1 b2) (merge_alike (fu + 1) a1 b2) := by
  unfold merge_alike
  repeat' (first | exact Le1.refl _ |  apply m_slices_Equal_apiLsKey | apply m_slices_Equal_int | apply Le1.ite | apply Le1.bindSum | apply Le1.bind | (intro _; try dsimp only) | (rename_i x; cases x <;> dsimp only))
theorem m_cmp_isNaN_string (fu : Nat) (vx1 : List UInt8) : Le1 (cmp_isNaN_string fu vx1) (cmp_isNaN_string (fu + 1) vx1) := by
  unfold cmp_isNaN_string
  repeat' (first | exact Le1.refl _ |  apply Le1.ite | apply Le1.bindSum | apply Le1.bind | (intro _; try dsimp only) | (rename_i x; cases x <;> dsimp only))
theorem m_cmp_Compare_string (fu : Nat) (vx1 : List UInt8) (y2 : List UInt8) : Le1 (cmp_Compare_string fu vx1 y2) (cmp_Compare_string (fu + 1) vx1 y2) := by
  unfold cmp_Compare_string
  repeat' (first | exact Le1.refl _ |  apply m_cmp_isNaN_string | apply Le1.ite | apply Le1.bindSum | apply Le1.bind | (intro _; try dsimp only) | (rename_i x; cases x <;> dsimp only))
theorem m_cmp_isNaN_int (fu : Nat) (vx1 : Int) : Le1 (cmp_isNaN_int fu vx1) (cmp_isNaN_int (fu + 1) vx1) := by
  unfold cmp_isNaN_int
  repeat' (first | exact Le1.refl _ |  apply Le1.ite | apply Le1.bindSum | apply Le1.bind | (intro _; try dsimp only) | (rename_i x; cases x <;> dsimp only))
theorem m_cmp_Compare_int (fu : Nat) (vx1 : Int) (y2 : Int) : Le1 (cmp_Compare_int fu vx1 y2) (cmp_Compare_int (fu + 1) vx1 y2) := by
  unfold cmp_Compare_int
  repeat' (first | exact Le1.refl _ |  apply m_cmp_isNaN_int | apply Le1.ite | apply Le1.bindSum | apply Le1.bind | (intro _; try dsimp only) | (rename_i x; cases x <;> dsimp only))
theorem m_cmp_Or_int_l1 (vals1 : List Int) : ∀ fu v10, Le1 (cmp_Or_int_l1 vals1 fu v10) (cmp_Or_int_l1 vals1 (fu + 1) v10) := by
  intro fu
  induction fu with
  | zero => intro v10 r h; rw [cmp_Or_int_l1] at h; cases h
  | succ fu ih =>
    intro v10
    conv => arg 1; rw [cmp_Or_int_l1]
    conv => arg 2; rw [cmp_Or_int_l1]
    repeat' (first | exact Le1.refl _ | exact ih _ | apply Le1.ite | apply Le1.bindSum | apply Le1.bind | (intro _; try dsimp only) | (rename_i x; cases x <;> dsimp only))
theorem m_cmp_Or_int (fu : Nat) (vals1 : List Int) : Le1 (cmp_Or_int fu vals1) (cmp_Or_int (fu + 1) vals1) := by
  unfold cmp_Or_int
  repeat' (first | exact Le1.refl _ |  apply m_cmp_Or_int_l1 | apply Le1.ite | apply Le1.bindSum | apply Le1.bind | (intro _; try dsimp only) | (rename_i x; cases x <;> dsimp only))
theorem m_merge_Check_l1 (vs1 : TApiMgState) : ∀ fu v19, Le1 (merge_Check_l1 vs1 fu v19) (merge_Check_l1 vs1 (fu + 1) v19) := by
  intro fu
  induction fu with
  | zero => intro v19 r h; rw [merge_Check_l1] at h; cases h
  | succ fu ih =>
    intro v19
    conv => arg 1; rw [merge_Check_l1]
    conv => arg 2; rw [merge_Check_l1]
    repeat' (first | exact Le1.refl _ | exact ih _ | apply Le1.ite | apply Le1.bindSum | apply Le1.bind | (intro _; try dsimp only) | (rename_i x; cases x <;> dsimp only))
theorem m_merge_Check_l2 (vs1 : TApiMgState) (vr30 : Int × List UInt8 × Int) : ∀ fu v54, Le1 (merge_Check_l2 vs1 vr30 fu v54) (merge_Check_l2 vs1 vr30 (fu + 1) v54) := by
  intro fu
  induction fu with
  | zero => intro v54 r h; rw [merge_Check_l2] at h; cases h
  | succ fu ih =>
    intro v54
    conv => arg 1; rw [merge_Check_l2]
    conv => arg 2; rw [merge_Check_l2]
    repeat' (first | exact Le1.refl _ | exact ih _ | apply m_cmp_Compare_string | apply m_cmp_Compare_int | apply m_cmp_Or_int | apply Le1.ite | apply Le1.bindSum | apply Le1.bind | (intro _; try dsimp only) | (rename_i x; cases x <;> dsimp only))
theorem m_merge_Check (fu : Nat) (vs1 : TApiMgState) : Le1 (merge_Check fu vs1) (merge_Check (fu + 1) vs1) := by
  unfold merge_Check
  repeat' (first | exact Le1.refl _ |  apply m_merge_check | apply m_merge_Check_l1 | apply m_merge_tree | apply m_merge_alike | apply m_loser_Winner | apply m_merge_Check_l2 | apply Le1.ite | apply Le1.bindSum | apply Le1.bind | (intro _; try dsimp only) | (rename_i x; cases x <;> dsimp only))
theorem m_merge_Peek (fu : Nat) (vs1 : TApiMgState) : Le1 (merge_Peek fu vs1) (merge_Peek (fu + 1) vs1) := by
  unfold merge_Peek
  repeat' (first | exact Le1.refl _ |  apply m_merge_Check | apply m_slices_Clone_apiEntry | apply m_slices_Clone_int | apply m_merge_reader_peek | apply Le1.ite | apply Le1.bindSum | apply Le1.bind | (intro _; try dsimp only) | (rename_i x; cases x <;> dsimp only))
theorem m_merge_own (fu : Nat) (vs1 : TApiMgState) : Le1 (merge_own fu vs1) (merge_own (fu + 1) vs1) := by
  unfold merge_own
  repeat' (first | exact Le1.refl _ |  apply m_slices_Clone_apiLsKey | apply m_slices_Clone_int | apply Le1.ite | apply Le1.bindSum | apply Le1.bind | (intro _; try dsimp only) | (rename_i x; cases x <;> dsimp only))
theorem m_merge_Skip_l1 (vr5 : List (List TApiEntry)) (key2 : List UInt8) : ∀ fu v34 v35 v36 v37, Le1 (merge_Skip_l1 vr5 key2 fu v34 v35 v36 v37) (merge_Skip_l1 vr5 key2 (fu + 1) v34 v35 v36 v37) := by
  intro fu
  induction fu with
  | zero => intro v34 v35 v36 v37 r h; rw [merge_Skip_l1] at h; cases h
  | succ fu ih =>
    intro v34 v35 v36 v37
    conv => arg 1; rw [merge_Skip_l1]
    conv => arg 2; rw [merge_Skip_l1]
    repeat' (first | exact Le1.refl _ | exact ih _ _ _ _ | apply m_merge_reader_peek | apply m_merge_next | apply m_loser_Replace | apply Le1.ite | apply Le1.bindSum | apply Le1.bind | (intro _; try dsimp only) | (rename_i x; cases x <;> dsimp only))
theorem m_merge_Skip (fu : Nat) (vs1 : TApiMgState) (key2 : List UInt8) : Le1 (merge_Skip fu vs1 key2) (merge_Skip (fu + 1) vs1 key2) := by
  unfold merge_Skip
  repeat' (first | exact Le1.refl _ |  apply m_merge_Check | apply m_slices_Clone_apiEntry | apply m_slices_Clone_int_2 | apply m_merge_Skip_l1 | apply m_merge_own | apply Le1.ite | apply Le1.bindSum | apply Le1.bind | (intro _; try dsimp only) | (rename_i x; cases x <;> dsimp only))
theorem m_merge_Next (fu : Nat) (vs1 : TApiMgState) : Le1 (merge_Next fu vs1) (merge_Next (fu + 1) vs1) := by
  unfold merge_Next
  repeat' (first | exact Le1.refl _ |  apply m_merge_Check | apply m_slices_Clone_apiEntry | apply m_slices_Clone_int_2 | apply m_merge_reader_peek | apply m_merge_next | apply m_loser_Replace | apply Le1.ite | apply Le1.bindSum | apply Le1.bind | (intro _; try dsimp only) | (rename_i x; cases x <;> dsimp only))
theorem m_bookendref11_SameEntries_l1 (a1 : List TApiEntry) (b2 : List TApiEntry) : ∀ fu i14, Le1 (bookendref11_SameEntries_l1 a1 b2 fu i14) (bookendref11_SameEntries_l1 a1 b2 (fu + 1) i14) := by
  intro fu
  induction fu with
  | zero => intro i14 r h; rw [bookendref11_SameEntries_l1] at h; cases h
  | succ fu ih =>
    intro i14
    conv => arg 1; rw [bookendref11_SameEntries_l1]
    conv => arg 2; rw [bookendref11_SameEntries_l1]
    repeat' (first | exact Le1.refl _ | exact ih _ | apply Le1.ite | apply Le1.bindSum | apply Le1.bind | (intro _; try dsimp only) | (rename_i x; cases x <;> dsimp only))
theorem m_bookendref11_SameEntries (fu : Nat) (a1 : List TApiEntry) (b2 : List TApiEntry) : Le1 (bookendref11_SameEntries fu a1 b2) (bookendref11_SameEntries (fu + 1) a1 b2) := by
  unfold bookendref11_SameEntries
  repeat' (first | exact Le1.refl _ |  apply m_bookendref11_SameEntries_l1 | apply Le1.ite | apply Le1.bindSum | apply Le1.bind | (intro _; try dsimp only) | (rename_i x; cases x <;> dsimp only))
theorem m_bookendref10_Ints_l1 (a1 : List Int) (b2 : List Int) : ∀ fu i14, Le1 (bookendref10_Ints_l1 a1 b2 fu i14) (bookendref10_Ints_l1 a1 b2 (fu + 1) i14) := by
  intro fu
  induction fu with
  | zero => intro i14 r h; rw [bookendref10_Ints_l1] at h; cases h
  | succ fu ih =>
    intro i14
    conv => arg 1; rw [bookendref10_Ints_l1]
    conv => arg 2; rw [bookendref10_Ints_l1]
    repeat' (first | exact Le1.refl _ | exact ih _ | apply Le1.ite | apply Le1.bindSum | apply Le1.bind | (intro _; try dsimp only) | (rename_i x; cases x <;> dsimp only))
theorem m_bookendref10_Ints (fu : Nat) (a1 : List Int) (b2 : List Int) : Le1 (bookendref10_Ints fu a1 b2) (bookendref10_Ints (fu + 1) a1 b2) := by
  unfold bookendref10_Ints
  repeat' (first | exact Le1.refl _ |  apply m_bookendref10_Ints_l1 | apply Le1.ite | apply Le1.bindSum | apply Le1.bind | (intro _; try dsimp only) | (rename_i x; cases x <;> dsimp only))
theorem m_bookendlaw11_awake (fu : Nat) : Le1 (bookendlaw11_awake fu ) (bookendlaw11_awake (fu + 1) ) := by
  unfold bookendlaw11_awake
  repeat' (first | exact Le1.refl _ |  apply m_bookendlaw11_Example | apply m_merge_All | apply m_merge_Begin | apply m_merge_Peek | apply m_merge_Skip | apply m_merge_Next | apply m_merge_Check | apply m_bookendref11_SameEntries | apply m_bookendref10_Ints | apply Le1.ite | apply Le1.bindSum | apply Le1.bind | (intro _; try dsimp only) | (rename_i x; cases x <;> dsimp only))
theorem m_bookendref03_Check (fu : Nat) (vx1 : TApiEntry) : Le1 (bookendref03_Check fu vx1) (bookendref03_Check (fu + 1) vx1) := by
  unfold bookendref03_Check
  repeat' (first | exact Le1.refl _ |  apply Le1.ite | apply Le1.bindSum | apply Le1.bind | (intro _; try dsimp only) | (rename_i x; cases x <;> dsimp only))
theorem m_bookendref02_common_l1 (a1 : List UInt8) (b2 : List UInt8) : ∀ fu n21, Le1 (bookendref02_common_l1 a1 b2 fu n21) (bookendref02_common_l1 a1 b2 (fu + 1) n21) := by
  intro fu
  induction fu with
  | zero => intro n21 r h; rw [bookendref02_common_l1] at h; cases h
  | succ fu ih =>
    intro n21
    conv => arg 1; rw [bookendref02_common_l1]
    conv => arg 2; rw [bookendref02_common_l1]
    repeat' (first | exact Le1.refl _ | exact ih _ | apply Le1.ite | apply Le1.bindSum | apply Le1.bind | (intro _; try dsimp only) | (rename_i x; cases x <;> dsimp only))
theorem m_bookendref02_common (fu : Nat) (a1 : List UInt8) (b2 : List UInt8) : Le1 (bookendref02_common fu a1 b2) (bookendref02_common (fu + 1) a1 b2) := by
  unfold bookendref02_common
  repeat' (first | exact Le1.refl _ |  apply m_bookendref02_common_l1 | apply Le1.ite | apply Le1.bindSum | apply Le1.bind | (intro _; try dsimp only) | (rename_i x; cases x <;> dsimp only))
theorem m_bookendref02_Order (fu : Nat) (a1 : List UInt8) (b2 : List UInt8) : Le1 (bookendref02_Order fu a1 b2) (bookendref02_Order (fu + 1) a1 b2) := by
  unfold bookendref02_Order
  repeat' (first | exact Le1.refl _ |  apply m_bookendref02_common | apply Le1.ite | apply Le1.bindSum | apply Le1.bind | (intro _; try dsimp only) | (rename_i x; cases x <;> dsimp only))
theorem m_bookendref03_CheckList_l1 (l1 : List TApiEntry) : ∀ fu i29, Le1 (bookendref03_CheckList_l1 l1 fu i29) (bookendref03_CheckList_l1 l1 (fu + 1) i29) := by
  intro fu
  induction fu with
  | zero => intro i29 r h; rw [bookendref03_CheckList_l1] at h; cases h
  | succ fu ih =>
    intro i29
    conv => arg 1; rw [bookendref03_CheckList_l1]
    conv => arg 2; rw [bookendref03_CheckList_l1]
    repeat' (first | exact Le1.refl _ | exact ih _ | apply m_bookendref03_Check | apply m_bookendref02_Order | apply Le1.ite | apply Le1.bindSum | apply Le1.bind | (intro _; try dsimp only) | (rename_i x; cases x <;> dsimp only))
theorem m_bookendref03_CheckList (fu : Nat) (l1 : List TApiEntry) : Le1 (bookendref03_CheckList fu l1) (bookendref03_CheckList (fu + 1) l1) := by
  unfold bookendref03_CheckList
  repeat' (first | exact Le1.refl _ |  apply m_bookendref03_CheckList_l1 | apply Le1.ite | apply Le1.bindSum | apply Le1.bind | (intro _; try dsimp only) | (rename_i x; cases x <;> dsimp only))
theorem m_bookendref11_right_l1 (runs1 : List (List TApiEntry)) : ∀ fu i14, Le1 (bookendref11_right_l1 runs1 fu i14) (bookendref11_right_l1 runs1 (fu + 1) i14) := by
  intro fu
  induction fu with
  | zero => intro i14 r h; rw [bookendref11_right_l1] at h; cases h
  | succ fu ih =>
    intro i14
    conv => arg 1; rw [bookendref11_right_l1]
    conv => arg 2; rw [bookendref11_right_l1]
    repeat' (first | exact Le1.refl _ | exact ih _ | apply m_bookendref03_CheckList | apply Le1.ite | apply Le1.bindSum | apply Le1.bind | (intro _; try dsimp only) | (rename_i x; cases x <;> dsimp only))
theorem m_bookendref11_right (fu : Nat) (runs1 : List (List TApiEntry)) : Le1 (bookendref11_right fu runs1) (bookendref11_right (fu + 1) runs1) := by
  unfold bookendref11_right
  repeat' (first | exact Le1.refl _ |  apply m_bookendref11_right_l1 | apply Le1.ite | apply Le1.bindSum | apply Le1.bind | (intro _; try dsimp only) | (rename_i x; cases x <;> dsimp only))
theorem m_bookendref10_right_l1 (keys1 : List TApiLsKey) : ∀ fu i16, Le1 (bookendref10_right_l1 keys1 fu i16) (bookendref10_right_l1 keys1 (fu + 1) i16) := by
  intro fu
  induction fu with
  | zero => intro i16 r h; rw [bookendref10_right_l1] at h; cases h
  | succ fu ih =>
    intro i16
    conv => arg 1; rw [bookendref10_right_l1]
    conv => arg 2; rw [bookendref10_right_l1]
    repeat' (first | exact Le1.refl _ | exact ih _ | apply Le1.ite | apply Le1.bindSum | apply Le1.bind | (intro _; try dsimp only) | (rename_i x; cases x <;> dsimp only))
theorem m_bookendref10_right (fu : Nat) (keys1 : List TApiLsKey) : Le1 (bookendref10_right fu keys1) (bookendref10_right (fu + 1) keys1) := by
  unfold bookendref10_right
  repeat' (first | exact Le1.refl _ |  apply m_bookendref10_right_l1 | apply Le1.ite | apply Le1.bindSum | apply Le1.bind | (intro _; try dsimp only) | (rename_i x; cases x <;> dsimp only))
theorem m_bookendref10_wins (fu : Nat) (keys1 : List TApiLsKey) (p2 : Int) (q3 : Int) : Le1 (bookendref10_wins fu keys1 p2 q3) (bookendref10_wins (fu + 1) keys1 p2 q3) := by
  unfold bookendref10_wins
  repeat' (first | exact Le1.refl _ |  apply Le1.ite | apply Le1.bindSum | apply Le1.bind | (intro _; try dsimp only) | (rename_i x; cases x <;> dsimp only))
theorem m_bookendref10_player : ∀ fu keys1 node2, Le1 (bookendref10_player  fu keys1 node2) (bookendref10_player  (fu + 1) keys1 node2) := by
  intro fu
  induction fu with
  | zero => intro keys1 node2 r h; rw [bookendref10_player] at h; cases h
  | succ fu ih =>
    intro keys1 node2
    conv => arg 1; rw [bookendref10_player]
    conv => arg 2; rw [bookendref10_player]
    repeat' (first | exact Le1.refl _ | exact ih _ _ | apply m_bookendref10_wins | apply Le1.ite | apply Le1.bindSum | apply Le1.bind | (intro _; try dsimp only) | (rename_i x; cases x <;> dsimp only))
theorem m_bookendref10_tree_l1 (keys1 : List TApiLsKey) : ∀ fu i14 v15, Le1 (bookendref10_tree_l1 keys1 fu i14 v15) (bookendref10_tree_l1 keys1 (fu + 1) i14 v15) := by
  intro fu
  induction fu with
  | zero => intro i14 v15 r h; rw [bookendref10_tree_l1] at h; cases h
  | succ fu ih =>
    intro i14 v15
    conv => arg 1; rw [bookendref10_tree_l1]
    conv => arg 2; rw [bookendref10_tree_l1]
    repeat' (first | exact Le1.refl _ | exact ih _ _ | apply m_bookendref10_player | apply Le1.ite | apply Le1.bindSum | apply Le1.bind | (intro _; try dsimp only) | (rename_i x; cases x <;> dsimp only))
theorem m_bookendref10_tree (fu : Nat) (keys1 : List TApiLsKey) : Le1 (bookendref10_tree fu keys1) (bookendref10_tree (fu + 1) keys1) := by
  unfold bookendref10_tree
  repeat' (first | exact Le1.refl _ |  apply m_bookendref10_tree_l1 | apply m_bookendref10_player | apply Le1.ite | apply Le1.bindSum | apply Le1.bind | (intro _; try dsimp only) | (rename_i x; cases x <;> dsimp only))
theorem m_bookendref10_Build (fu : Nat) (keys1 : List TApiLsKey) : Le1 (bookendref10_Build fu keys1) (bookendref10_Build (fu + 1) keys1) := by
  unfold bookendref10_Build
  repeat' (first | exact Le1.refl _ |  apply m_bookendref10_right | apply m_bookendref10_tree | apply Le1.ite | apply Le1.bindSum | apply Le1.bind | (intro _; try dsimp only) | (rename_i x; cases x <;> dsimp only))
theorem m_bookendref11_state_l1 (runs1 : List (List TApiEntry)) (vat2 : List Int) : ∀ fu i26 keys27, Le1 (bookendref11_state_l1 runs1 vat2 fu i26 keys27) (bookendref11_state_l1 runs1 vat2 (fu + 1) i26 keys27) := by
  intro fu
  induction fu with
  | zero => intro i26 keys27 r h; rw [bookendref11_state_l1] at h; cases h
  | succ fu ih =>
    intro i26 keys27
    conv => arg 1; rw [bookendref11_state_l1]
    conv => arg 2; rw [bookendref11_state_l1]
    repeat' (first | exact Le1.refl _ | exact ih _ _ | apply Le1.ite | apply Le1.bindSum | apply Le1.bind | (intro _; try dsimp only) | (rename_i x; cases x <;> dsimp only))
theorem m_bookendref11_state (fu : Nat) (runs1 : List (List TApiEntry)) (vat2 : List Int) : Le1 (bookendref11_state fu runs1 vat2) (bookendref11_state (fu + 1) runs1 vat2) := by
  unfold bookendref11_state
  repeat' (first | exact Le1.refl _ |  apply m_bookendref11_state_l1 | apply m_bookendref10_Build | apply Le1.ite | apply Le1.bindSum | apply Le1.bind | (intro _; try dsimp only) | (rename_i x; cases x <;> dsimp only))
theorem m_bookendref11_Begin (fu : Nat) (runs1 : List (List TApiEntry)) : Le1 (bookendref11_Begin fu runs1) (bookendref11_Begin (fu + 1) runs1) := by
  unfold bookendref11_Begin
  repeat' (first | exact Le1.refl _ |  apply m_bookendref11_right | apply m_bookendref11_state | apply Le1.ite | apply Le1.bindSum | apply Le1.bind | (intro _; try dsimp only) | (rename_i x; cases x <;> dsimp only))
theorem m_bookendref11_first_l1 (runs1 : List (List TApiEntry)) (vat2 : List Int) : ∀ fu best24 i25, Le1 (bookendref11_first_l1 runs1 vat2 fu best24 i25) (bookendref11_first_l1 runs1 vat2 (fu + 1) best24 i25) := by
  intro fu
  induction fu with
  | zero => intro best24 i25 r h; rw [bookendref11_first_l1] at h; cases h
  | succ fu ih =>
    intro best24 i25
    conv => arg 1; rw [bookendref11_first_l1]
    conv => arg 2; rw [bookendref11_first_l1]
    repeat' (first | exact Le1.refl _ | exact ih _ _ | apply Le1.ite | apply Le1.bindSum | apply Le1.bind | (intro _; try dsimp only) | (rename_i x; cases x <;> dsimp only))
theorem m_bookendref11_first (fu : Nat) (runs1 : List (List TApiEntry)) (vat2 : List Int) : Le1 (bookendref11_first fu runs1 vat2) (bookendref11_first (fu + 1) runs1 vat2) := by
  unfold bookendref11_first
  repeat' (first | exact Le1.refl _ |  apply m_bookendref11_first_l1 | apply Le1.ite | apply Le1.bindSum | apply Le1.bind | (intro _; try dsimp only) | (rename_i x; cases x <;> dsimp only))
theorem m_bookendref11_All_l1 (runs1 : List (List TApiEntry)) : ∀ fu vat29 l30 vfrom31, Le1 (bookendref11_All_l1 runs1 fu vat29 l30 vfrom31) (bookendref11_All_l1 runs1 (fu + 1) vat29 l30 vfrom31) := by
  intro fu
  induction fu with
  | zero => intro vat29 l30 vfrom31 r h; rw [bookendref11_All_l1] at h; cases h
  | succ fu ih =>
    intro vat29 l30 vfrom31
    conv => arg 1; rw [bookendref11_All_l1]
    conv => arg 2; rw [bookendref11_All_l1]
    repeat' (first | exact Le1.refl _ | exact ih _ _ _ | apply m_bookendref11_first | apply Le1.ite | apply Le1.bindSum | apply Le1.bind | (intro _; try dsimp only) | (rename_i x; cases x <;> dsimp only))
theorem m_bookendref11_All (fu : Nat) (runs1 : List (List TApiEntry)) : Le1 (bookendref11_All fu runs1) (bookendref11_All (fu + 1) runs1) := by
  unfold bookendref11_All
  repeat' (first | exact Le1.refl _ |  apply m_bookendref11_right | apply m_bookendref11_All_l1 | apply Le1.ite | apply Le1.bindSum | apply Le1.bind | (intro _; try dsimp only) | (rename_i x; cases x <;> dsimp only))
theorem m_bookendref10_Same_l1 (a1 : TApiLsTree) (b2 : TApiLsTree) : ∀ fu i20, Le1 (bookendref10_Same_l1 a1 b2 fu i20) (bookendref10_Same_l1 a1 b2 (fu + 1) i20) := by
  intro fu
  induction fu with
  | zero => intro i20 r h; rw [bookendref10_Same_l1] at h; cases h
  | succ fu ih =>
    intro i20
    conv => arg 1; rw [bookendref10_Same_l1]
    conv => arg 2; rw [bookendref10_Same_l1]
    repeat' (first | exact Le1.refl _ | exact ih _ | apply Le1.ite | apply Le1.bindSum | apply Le1.bind | (intro _; try dsimp only) | (rename_i x; cases x <;> dsimp only))
theorem m_bookendref10_Same (fu : Nat) (a1 : TApiLsTree) (b2 : TApiLsTree) : Le1 (bookendref10_Same fu a1 b2) (bookendref10_Same (fu + 1) a1 b2) := by
  unfold bookendref10_Same
  repeat' (first | exact Le1.refl _ |  apply m_bookendref10_Ints | apply m_bookendref10_Same_l1 | apply Le1.ite | apply Le1.bindSum | apply Le1.bind | (intro _; try dsimp only) | (rename_i x; cases x <;> dsimp only))
theorem m_bookendref11_Same_l1 (a1 : TApiMgState) (b2 : TApiMgState) : ∀ fu i23, Le1 (bookendref11_Same_l1 a1 b2 fu i23) (bookendref11_Same_l1 a1 b2 (fu + 1) i23) := by
  intro fu
  induction fu with
  | zero => intro i23 r h; rw [bookendref11_Same_l1] at h; cases h
  | succ fu ih =>
    intro i23
    conv => arg 1; rw [bookendref11_Same_l1]
    conv => arg 2; rw [bookendref11_Same_l1]
    repeat' (first | exact Le1.refl _ | exact ih _ | apply m_bookendref11_SameEntries | apply Le1.ite | apply Le1.bindSum | apply Le1.bind | (intro _; try dsimp only) | (rename_i x; cases x <;> dsimp only))
theorem m_bookendref11_Same (fu : Nat) (a1 : TApiMgState) (b2 : TApiMgState) : Le1 (bookendref11_Same fu a1 b2) (bookendref11_Same (fu + 1) a1 b2) := by
  unfold bookendref11_Same
  repeat' (first | exact Le1.refl _ |  apply m_bookendref10_Ints | apply m_bookendref10_Same | apply m_bookendref11_Same_l1 | apply Le1.ite | apply Le1.bindSum | apply Le1.bind | (intro _; try dsimp only) | (rename_i x; cases x <;> dsimp only))
theorem m_bookendlaw11_MergeBegins (fu : Nat) (runs1 : List (List TApiEntry)) : Le1 (bookendlaw11_MergeBegins fu runs1) (bookendlaw11_MergeBegins (fu + 1) runs1) := by
  unfold bookendlaw11_MergeBegins
  repeat' (first | exact Le1.refl _ |  apply m_bookendlaw11_Far | apply m_bookendlaw11_awake | apply m_merge_Begin | apply m_bookendref11_Begin | apply m_merge_All | apply m_bookendref11_All | apply m_bookendref11_Same | apply m_bookendref11_SameEntries | apply m_bookendref10_Ints | apply Le1.ite | apply Le1.bindSum | apply Le1.bind | (intro _; try dsimp only) | (rename_i x; cases x <;> dsimp only))
theorem m_bookendlaw11_MergeOrders_l1 (vr5 : List TApiEntry × List Int × Int) (runs1 : List (List TApiEntry)) : ∀ fu i67 vat68, Le1 (bookendlaw11_MergeOrders_l1 vr5 runs1 fu i67 vat68) (bookendlaw11_MergeOrders_l1 vr5 runs1 (fu + 1) i67 vat68) := by
  intro fu
  induction fu with
  | zero => intro i67 vat68 r h; rw [bookendlaw11_MergeOrders_l1] at h; cases h
  | succ fu ih =>
    intro i67 vat68
    conv => arg 1; rw [bookendlaw11_MergeOrders_l1]
    conv => arg 2; rw [bookendlaw11_MergeOrders_l1]
    repeat' (first | exact Le1.refl _ | exact ih _ _ | apply Le1.ite | apply Le1.bindSum | apply Le1.bind | (intro _; try dsimp only) | (rename_i x; cases x <;> dsimp only))
theorem m_bookendlaw11_MergeOrders_l2 (runs1 : List (List TApiEntry)) (o99 : List Int) : ∀ fu i111, Le1 (bookendlaw11_MergeOrders_l2 runs1 o99 fu i111) (bookendlaw11_MergeOrders_l2 runs1 o99 (fu + 1) i111) := by
  intro fu
  induction fu with
  | zero => intro i111 r h; rw [bookendlaw11_MergeOrders_l2] at h; cases h
  | succ fu ih =>
    intro i111
    conv => arg 1; rw [bookendlaw11_MergeOrders_l2]
    conv => arg 2; rw [bookendlaw11_MergeOrders_l2]
    repeat' (first | exact Le1.refl _ | exact ih _ | apply Le1.ite | apply Le1.bindSum | apply Le1.bind | (intro _; try dsimp only) | (rename_i x; cases x <;> dsimp only))
theorem m_bookendlaw11_MergeOrders (fu : Nat) (runs1 : List (List TApiEntry)) : Le1 (bookendlaw11_MergeOrders fu runs1) (bookendlaw11_MergeOrders (fu + 1) runs1) := by
  unfold bookendlaw11_MergeOrders
  repeat' (first | exact Le1.refl _ |  apply m_bookendlaw11_Far | apply m_bookendlaw11_awake | apply m_merge_All | apply m_bookendlaw11_MergeOrders_l1 | apply m_bookendlaw11_MergeOrders_l2 | apply Le1.ite | apply Le1.bindSum | apply Le1.bind | (intro _; try dsimp only) | (rename_i x; cases x <;> dsimp only))
theorem m_bookendlaw11_MergeSkips_l1 (runs1 : List (List TApiEntry)) : ∀ fu most19 i20, Le1 (bookendlaw11_MergeSkips_l1 runs1 fu most19 i20) (bookendlaw11_MergeSkips_l1 runs1 (fu + 1) most19 i20) := by
  intro fu
  induction fu with
  | zero => intro most19 i20 r h; rw [bookendlaw11_MergeSkips_l1] at h; cases h
  | succ fu ih =>
    intro most19 i20
    conv => arg 1; rw [bookendlaw11_MergeSkips_l1]
    conv => arg 2; rw [bookendlaw11_MergeSkips_l1]
    repeat' (first | exact Le1.refl _ | exact ih _ _ | apply Le1.ite | apply Le1.bindSum | apply Le1.bind | (intro _; try dsimp only) | (rename_i x; cases x <;> dsimp only))
theorem m_bookendlaw11_MergeSkips_l2 (vr11 : TApiMgState × Int) (x18 : Int) (key2 : List UInt8) : ∀ fu n46 vs47 vs48 vs49 vs50 vs51, Le1 (bookendlaw11_MergeSkips_l2 vr11 x18 key2 fu n46 vs47 vs48 vs49 vs50 vs51) (bookendlaw11_MergeSkips_l2 vr11 x18 key2 (fu + 1) n46 vs47 vs48 vs49 vs50 vs51) := by
  intro fu
  induction fu with
  | zero => intro n46 vs47 vs48 vs49 vs50 vs51 r h; rw [bookendlaw11_MergeSkips_l2] at h; cases h
  | succ fu ih =>
    intro n46 vs47 vs48 vs49 vs50 vs51
    conv => arg 1; rw [bookendlaw11_MergeSkips_l2]
    conv => arg 2; rw [bookendlaw11_MergeSkips_l2]
    repeat' (first | exact Le1.refl _ | exact ih _ _ _ _ _ _ | apply m_merge_Peek | apply m_merge_Next | apply Le1.ite | apply Le1.bindSum | apply Le1.bind | (intro _; try dsimp only) | (rename_i x; cases x <;> dsimp only))
theorem m_bookendlaw11_MergeSkips (fu : Nat) (runs1 : List (List TApiEntry)) (key2 : List UInt8) : Le1 (bookendlaw11_MergeSkips fu runs1 key2) (bookendlaw11_MergeSkips (fu + 1) runs1 key2) := by
  unfold bookendlaw11_MergeSkips
  repeat' (first | exact Le1.refl _ |  apply m_bookendlaw11_Far | apply m_bookendlaw11_awake | apply m_merge_Begin | apply m_merge_Skip | apply m_bookendlaw11_MergeSkips_l1 | apply m_bookendlaw11_MergeSkips_l2 | apply m_merge_Check | apply m_bookendref11_Same | apply Le1.ite | apply Le1.bindSum | apply Le1.bind | (intro _; try dsimp only) | (rename_i x; cases x <;> dsimp only))
theorem m_merge_Skip_2_l1 (vr5 : List (List TApiEntry)) (key2 : List UInt8) : ∀ fu v38 v39 v40 v41, Le1 (merge_Skip_2_l1 vr5 key2 fu v38 v39 v40 v41) (merge_Skip_2_l1 vr5 key2 (fu + 1) v38 v39 v40 v41) := by
  intro fu
  induction fu with
  | zero => intro v38 v39 v40 v41 r h; rw [merge_Skip_2_l1] at h; cases h
  | succ fu ih =>
    intro v38 v39 v40 v41
    conv => arg 1; rw [merge_Skip_2_l1]
    conv => arg 2; rw [merge_Skip_2_l1]
    repeat' (first | exact Le1.refl _ | exact ih _ _ _ _ | apply m_merge_reader_peek | apply m_merge_next | apply m_loser_Replace | apply Le1.ite | apply Le1.bindSum | apply Le1.bind | (intro _; try dsimp only) | (rename_i x; cases x <;> dsimp only))
theorem m_merge_Skip_2 (fu : Nat) (vs1 : TApiMgState) (key2 : List UInt8) : Le1 (merge_Skip_2 fu vs1 key2) (merge_Skip_2 (fu + 1) vs1 key2) := by
  unfold merge_Skip_2
  repeat' (first | exact Le1.refl _ |  apply m_merge_Check | apply m_slices_Clone_apiEntry | apply m_slices_Clone_int_2 | apply m_merge_Skip_2_l1 | apply m_slices_Clone_apiLsKey | apply m_slices_Clone_int | apply Le1.ite | apply Le1.bindSum | apply Le1.bind | (intro _; try dsimp only) | (rename_i x; cases x <;> dsimp only))
theorem m_merge_Next_2 (fu : Nat) (vs1 : TApiMgState) : Le1 (merge_Next_2 fu vs1) (merge_Next_2 (fu + 1) vs1) := by
  unfold merge_Next_2
  repeat' (first | exact Le1.refl _ |  apply m_merge_Check | apply m_slices_Clone_apiEntry | apply m_slices_Clone_int_2 | apply m_merge_reader_peek | apply m_merge_next | apply m_loser_Replace | apply Le1.ite | apply Le1.bindSum | apply Le1.bind | (intro _; try dsimp only) | (rename_i x; cases x <;> dsimp only))
theorem m_loser_Replace_2_l1 (vr14 : List TApiLsKey) : ∀ fu games29 node30 u31 v32, Le1 (loser_Replace_2_l1 vr14 fu games29 node30 u31 v32) (loser_Replace_2_l1 vr14 (fu + 1) games29 node30 u31 v32) := by
  intro fu
  induction fu with
  | zero => intro games29 node30 u31 v32 r h; rw [loser_Replace_2_l1] at h; cases h
  | succ fu ih =>
    intro games29 node30 u31 v32
    conv => arg 1; rw [loser_Replace_2_l1]
    conv => arg 2; rw [loser_Replace_2_l1]
    repeat' (first | exact Le1.refl _ | exact ih _ _ _ _ | apply m_loser_judge_1 | apply Le1.ite | apply Le1.bindSum | apply Le1.bind | (intro _; try dsimp only) | (rename_i x; cases x <;> dsimp only))
theorem m_loser_Replace_2 (fu : Nat) (t1 : TApiLsTree) (k2 : TApiLsKey) : Le1 (loser_Replace_2 fu t1 k2) (loser_Replace_2 (fu + 1) t1 k2) := by
  unfold loser_Replace_2
  repeat' (first | exact Le1.refl _ |  apply m_loser_open | apply m_loser_check | apply m_slices_Clone_apiLsKey_2 | apply m_slices_Clone_int_2 | apply m_loser_judge | apply m_loser_Replace_2_l1 | apply Le1.ite | apply Le1.bindSum | apply Le1.bind | (intro _; try dsimp only) | (rename_i x; cases x <;> dsimp only))
theorem m_merge_Next_3 (fu : Nat) (vs1 : TApiMgState) : Le1 (merge_Next_3 fu vs1) (merge_Next_3 (fu + 1) vs1) := by
  unfold merge_Next_3
  repeat' (first | exact Le1.refl _ |  apply m_merge_Check | apply m_slices_Clone_apiEntry | apply m_slices_Clone_int_2 | apply m_merge_reader_peek | apply m_merge_next | apply m_loser_Replace_2 | apply Le1.ite | apply Le1.bindSum | apply Le1.bind | (intro _; try dsimp only) | (rename_i x; cases x <;> dsimp only))
theorem m_bookendlaw11_MergeOwn_l1 : ∀ fu i26 v27, Le1 (bookendlaw11_MergeOwn_l1  fu i26 v27) (bookendlaw11_MergeOwn_l1  (fu + 1) i26 v27) := by
  intro fu
  induction fu with
  | zero => intro i26 v27 r h; rw [bookendlaw11_MergeOwn_l1] at h; cases h
  | succ fu ih =>
    intro i26 v27
    conv => arg 1; rw [bookendlaw11_MergeOwn_l1]
    conv => arg 2; rw [bookendlaw11_MergeOwn_l1]
    repeat' (first | exact Le1.refl _ | exact ih _ _ | apply Le1.ite | apply Le1.bindSum | apply Le1.bind | (intro _; try dsimp only) | (rename_i x; cases x <;> dsimp only))
theorem m_bookendlaw11_MergeOwn_l2 (vr12 : TApiEntry × Int × TApiMgState × Int) : ∀ fu i44 v45, Le1 (bookendlaw11_MergeOwn_l2 vr12 fu i44 v45) (bookendlaw11_MergeOwn_l2 vr12 (fu + 1) i44 v45) := by
  intro fu
  induction fu with
  | zero => intro i44 v45 r h; rw [bookendlaw11_MergeOwn_l2] at h; cases h
  | succ fu ih =>
    intro i44 v45
    conv => arg 1; rw [bookendlaw11_MergeOwn_l2]
    conv => arg 2; rw [bookendlaw11_MergeOwn_l2]
    repeat' (first | exact Le1.refl _ | exact ih _ _ | apply Le1.ite | apply Le1.bindSum | apply Le1.bind | (intro _; try dsimp only) | (rename_i x; cases x <;> dsimp only))
theorem m_bookendlaw11_MergeOwn_l3 (vr12 : TApiEntry × Int × TApiMgState × Int) : ∀ fu i64 v65, Le1 (bookendlaw11_MergeOwn_l3 vr12 fu i64 v65) (bookendlaw11_MergeOwn_l3 vr12 (fu + 1) i64 v65) := by
  intro fu
  induction fu with
  | zero => intro i64 v65 r h; rw [bookendlaw11_MergeOwn_l3] at h; cases h
  | succ fu ih =>
    intro i64 v65
    conv => arg 1; rw [bookendlaw11_MergeOwn_l3]
    conv => arg 2; rw [bookendlaw11_MergeOwn_l3]
    repeat' (first | exact Le1.refl _ | exact ih _ _ | apply Le1.ite | apply Le1.bindSum | apply Le1.bind | (intro _; try dsimp only) | (rename_i x; cases x <;> dsimp only))
theorem m_bookendlaw11_MergeOwn (fu : Nat) (runs1 : List (List TApiEntry)) (key2 : List UInt8) : Le1 (bookendlaw11_MergeOwn fu runs1 key2) (bookendlaw11_MergeOwn (fu + 1) runs1 key2) := by
  unfold bookendlaw11_MergeOwn
  repeat' (first | exact Le1.refl _ |  apply m_bookendlaw11_Far | apply m_bookendlaw11_awake | apply m_merge_Begin | apply m_bookendref11_Begin | apply m_merge_Next_3 | apply m_merge_Skip_2 | apply m_bookendref11_Same | apply m_bookendlaw11_MergeOwn_l1 | apply m_bookendlaw11_MergeOwn_l2 | apply m_bookendlaw11_MergeOwn_l3 | apply Le1.ite | apply Le1.bindSum | apply Le1.bind | (intro _; try dsimp only) | (rename_i x; cases x <;> dsimp only))
theorem m_bookendref11_Check_l1 (vs1 : TApiMgState) : ∀ fu i19, Le1 (bookendref11_Check_l1 vs1 fu i19) (bookendref11_Check_l1 vs1 (fu + 1) i19) := by
  intro fu
  induction fu with
  | zero => intro i19 r h; rw [bookendref11_Check_l1] at h; cases h
  | succ fu ih =>
    intro i19
    conv => arg 1; rw [bookendref11_Check_l1]
    conv => arg 2; rw [bookendref11_Check_l1]
    repeat' (first | exact Le1.refl _ | exact ih _ | apply Le1.ite | apply Le1.bindSum | apply Le1.bind | (intro _; try dsimp only) | (rename_i x; cases x <;> dsimp only))
theorem m_bookendref11_Check_l2 (vs1 : TApiMgState) (vr30 : Int) : ∀ fu i63, Le1 (bookendref11_Check_l2 vs1 vr30 fu i63) (bookendref11_Check_l2 vs1 vr30 (fu + 1) i63) := by
  intro fu
  induction fu with
  | zero => intro i63 r h; rw [bookendref11_Check_l2] at h; cases h
  | succ fu ih =>
    intro i63
    conv => arg 1; rw [bookendref11_Check_l2]
    conv => arg 2; rw [bookendref11_Check_l2]
    repeat' (first | exact Le1.refl _ | exact ih _ | apply Le1.ite | apply Le1.bindSum | apply Le1.bind | (intro _; try dsimp only) | (rename_i x; cases x <;> dsimp only))
theorem m_bookendref11_Check (fu : Nat) (vs1 : TApiMgState) : Le1 (bookendref11_Check fu vs1) (bookendref11_Check (fu + 1) vs1) := by
  unfold bookendref11_Check
  repeat' (first | exact Le1.refl _ |  apply m_bookendref11_right | apply m_bookendref11_Check_l1 | apply m_bookendref11_state | apply m_bookendref10_Same | apply m_bookendref11_first | apply m_bookendref11_Check_l2 | apply Le1.ite | apply Le1.bindSum | apply Le1.bind | (intro _; try dsimp only) | (rename_i x; cases x <;> dsimp only))
theorem m_bookendref11_Next (fu : Nat) (vs1 : TApiMgState) : Le1 (bookendref11_Next fu vs1) (bookendref11_Next (fu + 1) vs1) := by
  unfold bookendref11_Next
  repeat' (first | exact Le1.refl _ |  apply m_bookendref11_Check | apply m_bookendref11_first | apply m_bookendref11_state | apply Le1.ite | apply Le1.bindSum | apply Le1.bind | (intro _; try dsimp only) | (rename_i x; cases x <;> dsimp only))
theorem m_bookendref11_Peek (fu : Nat) (vs1 : TApiMgState) : Le1 (bookendref11_Peek fu vs1) (bookendref11_Peek (fu + 1) vs1) := by
  unfold bookendref11_Peek
  repeat' (first | exact Le1.refl _ |  apply m_bookendref11_Next | apply Le1.ite | apply Le1.bindSum | apply Le1.bind | (intro _; try dsimp only) | (rename_i x; cases x <;> dsimp only))
theorem m_merge_Left_l1 (vs1 : TApiMgState) : ∀ fu n13 v14, Le1 (merge_Left_l1 vs1 fu n13 v14) (merge_Left_l1 vs1 (fu + 1) n13 v14) := by
  intro fu
  induction fu with
  | zero => intro n13 v14 r h; rw [merge_Left_l1] at h; cases h
  | succ fu ih =>
    intro n13 v14
    conv => arg 1; rw [merge_Left_l1]
    conv => arg 2; rw [merge_Left_l1]
    repeat' (first | exact Le1.refl _ | exact ih _ _ | apply Le1.ite | apply Le1.bindSum | apply Le1.bind | (intro _; try dsimp only) | (rename_i x; cases x <;> dsimp only))
theorem m_merge_Left (fu : Nat) (vs1 : TApiMgState) : Le1 (merge_Left fu vs1) (merge_Left (fu + 1) vs1) := by
  unfold merge_Left
  repeat' (first | exact Le1.refl _ |  apply m_merge_Check | apply m_merge_Left_l1 | apply Le1.ite | apply Le1.bindSum | apply Le1.bind | (intro _; try dsimp only) | (rename_i x; cases x <;> dsimp only))
theorem m_bookendref11_Left_l1 (vs1 : TApiMgState) : ∀ fu n13 i14, Le1 (bookendref11_Left_l1 vs1 fu n13 i14) (bookendref11_Left_l1 vs1 (fu + 1) n13 i14) := by
  intro fu
  induction fu with
  | zero => intro n13 i14 r h; rw [bookendref11_Left_l1] at h; cases h
  | succ fu ih =>
    intro n13 i14
    conv => arg 1; rw [bookendref11_Left_l1]
    conv => arg 2; rw [bookendref11_Left_l1]
    repeat' (first | exact Le1.refl _ | exact ih _ _ | apply Le1.ite | apply Le1.bindSum | apply Le1.bind | (intro _; try dsimp only) | (rename_i x; cases x <;> dsimp only))
theorem m_bookendref11_Left (fu : Nat) (vs1 : TApiMgState) : Le1 (bookendref11_Left fu vs1) (bookendref11_Left (fu + 1) vs1) := by
  unfold bookendref11_Left
  repeat' (first | exact Le1.refl _ |  apply m_bookendref11_Check | apply m_bookendref11_Left_l1 | apply Le1.ite | apply Le1.bindSum | apply Le1.bind | (intro _; try dsimp only) | (rename_i x; cases x <;> dsimp only))
theorem m_bookendref11_Skip_l4 (i60 : Int) (vs1 : TApiMgState) (key2 : List UInt8) : ∀ fu vat79, Le1 (bookendref11_Skip_l4 i60 vs1 key2 fu vat79) (bookendref11_Skip_l4 i60 vs1 key2 (fu + 1) vat79) := by
  intro fu
  induction fu with
  | zero => intro vat79 r h; rw [bookendref11_Skip_l4] at h; cases h
  | succ fu ih =>
    intro vat79
    conv => arg 1; rw [bookendref11_Skip_l4]
    conv => arg 2; rw [bookendref11_Skip_l4]
    repeat' (first | exact Le1.refl _ | exact ih _ | apply Le1.ite | apply Le1.bindSum | apply Le1.bind | (intro _; try dsimp only) | (rename_i x; cases x <;> dsimp only))
theorem m_bookendref11_Skip_l3 (vs1 : TApiMgState) (key2 : List UInt8) : ∀ fu i60 vat61, Le1 (bookendref11_Skip_l3 vs1 key2 fu i60 vat61) (bookendref11_Skip_l3 vs1 key2 (fu + 1) i60 vat61) := by
  intro fu
  induction fu with
  | zero => intro i60 vat61 r h; rw [bookendref11_Skip_l3] at h; cases h
  | succ fu ih =>
    intro i60 vat61
    conv => arg 1; rw [bookendref11_Skip_l3]
    conv => arg 2; rw [bookendref11_Skip_l3]
    repeat' (first | exact Le1.refl _ | exact ih _ _ | apply m_bookendref11_Skip_l4 | apply Le1.ite | apply Le1.bindSum | apply Le1.bind | (intro _; try dsimp only) | (rename_i x; cases x <;> dsimp only))
theorem m_bookendref11_Skip (fu : Nat) (vs1 : TApiMgState) (key2 : List UInt8) : Le1 (bookendref11_Skip fu vs1 key2) (bookendref11_Skip (fu + 1) vs1 key2) := by
  unfold bookendref11_Skip
  repeat' (first | exact Le1.refl _ |  apply m_bookendref11_Check | apply m_bookendref11_Skip_l3 | apply m_bookendref11_state | apply Le1.ite | apply Le1.bindSum | apply Le1.bind | (intro _; try dsimp only) | (rename_i x; cases x <;> dsimp only))
theorem m_bookendlaw11_MergeStates_l1 (vs1 : TApiMgState) : ∀ fu i30, Le1 (bookendlaw11_MergeStates_l1 vs1 fu i30) (bookendlaw11_MergeStates_l1 vs1 (fu + 1) i30) := by
  intro fu
  induction fu with
  | zero => intro i30 r h; rw [bookendlaw11_MergeStates_l1] at h; cases h
  | succ fu ih =>
    intro i30
    conv => arg 1; rw [bookendlaw11_MergeStates_l1]
    conv => arg 2; rw [bookendlaw11_MergeStates_l1]
    repeat' (first | exact Le1.refl _ | exact ih _ | apply m_bookendlaw11_awake | apply Le1.ite | apply Le1.bindSum | apply Le1.bind | (intro _; try dsimp only) | (rename_i x; cases x <;> dsimp only))
theorem m_bookendlaw11_MergeStates (fu : Nat) (vs1 : TApiMgState) (key2 : List UInt8) : Le1 (bookendlaw11_MergeStates fu vs1 key2) (bookendlaw11_MergeStates (fu + 1) vs1 key2) := by
  unfold bookendlaw11_MergeStates
  repeat' (first | exact Le1.refl _ |  apply m_bookendlaw11_Far | apply m_bookendlaw11_awake | apply m_bookendlaw11_MergeStates_l1 | apply m_merge_Check | apply m_bookendref11_Check | apply m_merge_Peek | apply m_bookendref11_Peek | apply m_merge_Next | apply m_bookendref11_Next | apply m_bookendref11_Same | apply m_merge_Left | apply m_bookendref11_Left | apply m_merge_Skip | apply m_bookendref11_Skip | apply Le1.ite | apply Le1.bindSum | apply Le1.bind | (intro _; try dsimp only) | (rename_i x; cases x <;> dsimp only))
theorem m_bookendlaw11_MergeGoes_l1 (vr6 : List TApiEntry × List Int × Int) (vat2 : Int) : ∀ fu i133 vs134 vs135 vs136 vs137 vs138 kept139 kept140 kept141 kept142 kept143, Le1 (bookendlaw11_MergeGoes_l1 vr6 vat2 fu i133 vs134 vs135 vs136 vs137 vs138 kept139 kept140 kept141 kept142 kept143) (bookendlaw11_MergeGoes_l1 vr6 vat2 (fu + 1) i133 vs134 vs135 vs136 vs137 vs138 kept139 kept140 kept141 kept142 kept143) := by
  intro fu
  induction fu with
  | zero => intro i133 vs134 vs135 vs136 vs137 vs138 kept139 kept140 kept141 kept142 kept143 r h; rw [bookendlaw11_MergeGoes_l1] at h; cases h
  | succ fu ih =>
    intro i133 vs134 vs135 vs136 vs137 vs138 kept139 kept140 kept141 kept142 kept143
    conv => arg 1; rw [bookendlaw11_MergeGoes_l1]
    conv => arg 2; rw [bookendlaw11_MergeGoes_l1]
    repeat' (first | exact Le1.refl _ | exact ih _ _ _ _ _ _ _ _ _ _ _ | apply m_merge_Left | apply m_merge_Next | apply Le1.ite | apply Le1.bindSum | apply Le1.bind | (intro _; try dsimp only) | (rename_i x; cases x <;> dsimp only))
theorem m_bookendlaw11_MergeGoes_l2 (vr6 : List TApiEntry × List Int × Int) : ∀ fu i204 kept205 kept206 kept207 kept208 kept209, Le1 (bookendlaw11_MergeGoes_l2 vr6 fu i204 kept205 kept206 kept207 kept208 kept209) (bookendlaw11_MergeGoes_l2 vr6 (fu + 1) i204 kept205 kept206 kept207 kept208 kept209) := by
  intro fu
  induction fu with
  | zero => intro i204 kept205 kept206 kept207 kept208 kept209 r h; rw [bookendlaw11_MergeGoes_l2] at h; cases h
  | succ fu ih =>
    intro i204 kept205 kept206 kept207 kept208 kept209
    conv => arg 1; rw [bookendlaw11_MergeGoes_l2]
    conv => arg 2; rw [bookendlaw11_MergeGoes_l2]
    repeat' (first | exact Le1.refl _ | exact ih _ _ _ _ _ _ | apply m_merge_Next | apply Le1.ite | apply Le1.bindSum | apply Le1.bind | (intro _; try dsimp only) | (rename_i x; cases x <;> dsimp only))
theorem m_bookendlaw11_MergeGoes (fu : Nat) (runs1 : List (List TApiEntry)) (vat2 : Int) : Le1 (bookendlaw11_MergeGoes fu runs1 vat2) (bookendlaw11_MergeGoes (fu + 1) runs1 vat2) := by
  unfold bookendlaw11_MergeGoes
  repeat' (first | exact Le1.refl _ |  apply m_bookendlaw11_Far | apply m_bookendlaw11_awake | apply m_merge_All | apply m_merge_Begin | apply m_bookendlaw11_MergeGoes_l1 | apply m_bookendlaw11_MergeGoes_l2 | apply Le1.ite | apply Le1.bindSum | apply Le1.bind | (intro _; try dsimp only) | (rename_i x; cases x <;> dsimp only))
end Go.T
