/- A text of the proof. -/
import Derived.Test.YtdompcjalogoaaaGreatDoorKAmN
set_option linter.unusedSimpArgs false
set_option linter.unusedVariables false
namespace Go.AM
open Go Go.RowKit
variable {ε : Bool}
def seZ : SE := { d := none, v := .top, wr := [], rt := [], rb := [], ob := none }
def apsT (τ : Nat → AV) : List SE → Nat → AV
  | [] => τ
  | se :: l => apsT (apT τ se) l
def apsH (η : Heap) : List SE → Heap
  | [] => η
  | se :: l => apsH (apH η se) l
theorem apsT_append (τ : Nat → AV) : ∀ (l k : List SE), apsT τ (l ++ k) = apsT (apsT τ l) k
  | [], _ => rfl
  | x :: l, k => apsT_append (apT τ x) l k
theorem apsH_append (η : Heap) : ∀ (l k : List SE), apsH η (l ++ k) = apsH (apsH η l) k
  | [], _ => rfl
  | x :: l, k => apsH_append (apH η x) l k
def numbered : Nat → List Oper → List (Nat × Oper)
  | _, [] => []
  | i, o :: os => (i, o) :: numbered (i + 1) os
def maskOf (acc : List Nat) : List Edge → Nat
  | [] => 0
  | e :: es => if Region.binds .any e then (2 ^ e.on ||| acc.getD e.on 0) ||| maskOf acc es else maskOf acc es
def masks : List Oper → List Nat → List Nat
  | [], acc => acc
  | o :: os, acc => masks os (acc ++ [maskOf acc o.after.toList])
def backs : Nat → List Oper → Bool
  | _, [] => true
  | i, o :: os => (o.after.toList.all fun e => !(Region.binds .any e) || decide (e.on < i)) && backs (i + 1) os
theorem masks_ext : ∀ (os : List Oper) (acc : List Nat) (k : Nat), k < acc.length → (masks os acc).getD k 0 = acc.getD k 0
  | [], acc, k, _ => rfl
  | o :: os, acc, k, h => by
    simp only [masks]
    rw [masks_ext os _ k (by simp; omega)]
    simp only [List.getD_eq_getElem?_getD]
    rw [List.getElem?_append_left h]
theorem masks_get [Adr] : ∀ (os : List Oper) (acc : List Nat) (k : Nat) (o : Oper), os[k]? = some o → (masks os acc).getD (acc.length + k) 0 = maskOf ((masks os acc).take (acc.length + k)) o.after.toList
  | [], acc, k, o, h => by simp at h
  | p :: os, acc, k, o, h => by
    have pre : ∀ (os : List Oper) (acc : List Nat), (masks os acc).take acc.length = acc := by
      intro os
      induction os with
      | nil => intro acc; simp [masks]
      | cons q os ih =>
        intro acc
        simp only [masks]
        have := ih (acc ++ [maskOf acc q.after.toList])
        simp only [List.length_append, List.length_cons, List.length_nil] at this
        have h2 := congrArg (List.take acc.length) this
        rw [List.take_take] at h2
        simpa using h2
    simp only [masks]
    cases k with
    | zero =>
      simp at h; subst h
      rw [Nat.add_zero, masks_ext os _ _ (by simp)]
      have := pre os (acc ++ [maskOf acc p.after.toList])
      have h2 := congrArg (List.take acc.length) this
      rw [List.take_take] at h2
      simp only [List.length_append, List.length_cons, List.length_nil] at h2
      rw [show min acc.length (acc.length + (0 + 1)) = acc.length by omega] at h2
      rw [h2]
      simp
    | succ k =>
      have := masks_get os (acc ++ [maskOf acc p.after.toList]) k o (by simpa using h)
      simp only [List.length_append, List.length_cons, List.length_nil] at this
      rw [show acc.length + (k + 1) = acc.length + (0 + 1) + k by omega]
      exact this
theorem maskOf_bit {acc : List Nat} {k : Nat} : ∀ {es : List Edge}, (maskOf acc es).testBit k = true → ∃ e ∈ es, Region.binds .any e = true ∧ (k = e.on ∨ (acc.getD e.on 0).testBit k = true)
  | [], h => by simp [maskOf] at h
  | e :: es, h => by
    simp only [maskOf] at h
    split at h
    · rename_i hb
      rw [Nat.testBit_or, Bool.or_eq_true, Nat.testBit_or, Bool.or_eq_true] at h
      rcases h with (h | h) | h
      · rw [Nat.testBit_two_pow] at h
        exact ⟨e, by simp, hb, .inl (by simp at h; omega)⟩
      · exact ⟨e, by simp, hb, .inr h⟩
      · obtain ⟨e', h1, h2, h3⟩ := maskOf_bit h
        exact ⟨e', by simp [h1], h2, h3⟩
    · obtain ⟨e', h1, h2, h3⟩ := maskOf_bit h
      exact ⟨e', by simp [h1], h2, h3⟩
def confl (x y : SE) : Bool :=
  (match x.d with | some d => y.rt.contains d || y.d == some d | none => false) ||
  (match y.d with | some d => x.rt.contains d | none => false) ||
  x.wr.any (fun p => y.rb.contains p.1 || y.wr.any (fun q => q.1 == p.1)) ||
  y.wr.any (fun q => x.rb.contains q.1)
def pairsOk (M : List Nat) (ses : List SE) (n : Nat) : Bool :=
  (List.range n).all fun j => (List.range j).all fun i => (M.getD j 0).testBit i || !confl (ses.getD i seZ) (ses.getD j seZ)
def wrT (t : Nat) (se : SE) : Bool := se.d == some t
def wrB (b : Nat) (se : SE) : Bool := se.wr.any fun p => p.1 == b
theorem apT_other {τ : Nat → AV} {se : SE} {t : Nat} (h : wrT t se = false) : apT τ se t = τ t := by
  unfold apT putT
  cases hd : se.d with
  | none => rfl
  | some d =>
    have : t ≠ d := by intro e; subst e; simp [wrT, hd] at h
    simp [fupd, this]
theorem apWr_other : ∀ {l : List (Nat × ABlk)} {η : Heap} {b : Nat}, (l.any fun p => p.1 == b) = false → apWr η l b = η b
  | [], η, b, _ => rfl
  | (c, x) :: l, η, b, h => by
    simp only [List.any_cons, Bool.or_eq_false_iff] at h
    simp only [apWr]
    rw [apWr_other h.2]
    have : b ≠ c := by intro e; subst e; simp at h
    simp [fupd, this]
theorem apH_other [Adr] {η : Heap} {se : SE} {b : Nat} (h : wrB b se = false) : apH η se b = η b := apWr_other h
theorem apT_same {τ τ' : Nat → AV} {se : SE} {t : Nat} (h : wrT t se = true ∨ τ t = τ' t) : apT τ se t = apT τ' se t := by
  unfold apT putT
  cases hd : se.d with
  | none => rcases h with h | h; simp [wrT, hd] at h; exact h
  | some d =>
    simp only [fupd]
    split
    · rfl
    · rename_i hne; rcases h with h | h; simp [wrT, hd] at h; exact absurd h.symm hne; exact h
theorem apWr_same : ∀ {l : List (Nat × ABlk)} {η η' : Heap} {b : Nat}, ((l.any fun p => p.1 == b) = true ∨ η b = η' b) → apWr η l b = apWr η' l b
  | [], η, η', b, h => by rcases h with h | h; simp at h; exact h
  | (c, x) :: l, η, η', b, h => by
    simp only [apWr]
    apply apWr_same
    by_cases e : b = c
    · right; simp [fupd, e]
    · rcases h with h | h
      · simp only [List.any_cons, Bool.or_eq_true] at h
        rcases h with h | h
        · simp at h; exact absurd h.symm e
        · exact .inl h
      · right; simp [fupd, e, h]
theorem apH_same [Adr] {η η' : Heap} {se : SE} {b : Nat} (h : wrB b se = true ∨ η b = η' b) : apH η se b = apH η' se b := apWr_same h
theorem apsT_filter [Adr] (t : Nat) : ∀ (l : List SE) (τ τ' : Nat → AV), τ t = τ' t → apsT τ l t = apsT τ' (l.filter (wrT t)) t
  | [], τ, τ', h => h
  | x :: l, τ, τ', h => by
    simp only [apsT]
    by_cases hx : wrT t x = true
    · rw [List.filter_cons_of_pos hx]; simp only [apsT]
      exact apsT_filter t l _ _ (apT_same (.inl hx))
    · rw [List.filter_cons_of_neg hx]
      exact apsT_filter t l _ _ ((apT_other (by simpa using hx)).trans h)
theorem apsH_filter [Adr] (b : Nat) : ∀ (l : List SE) (η η' : Heap), η b = η' b → apsH η l b = apsH η' (l.filter (wrB b)) b
  | [], η, η', h => h
  | x :: l, η, η', h => by
    simp only [apsH]
    by_cases hx : wrB b x = true
    · rw [List.filter_cons_of_pos hx]; simp only [apsH]
      exact apsH_filter b l _ _ (apH_same (.inl hx))
    · rw [List.filter_cons_of_neg hx]
      exact apsH_filter b l _ _ ((apH_other (by simpa using hx)).trans h)
theorem rising_eq : ∀ (l k : List Nat), l.Pairwise (· < ·) → k.Pairwise (· < ·) → (∀ x, x ∈ l ↔ x ∈ k) → l = k
  | [], k, _, _, h => by
    cases k with
    | nil => rfl
    | cons y k => have := (h y).2 (by simp); simp at this
  | x :: l, [], _, _, h => by have := (h x).1 (by simp); simp at this
  | x :: l, y :: k, hl, hk, h => by
    rw [List.pairwise_cons] at hl hk
    have e : x = y := by
      rcases Nat.lt_trichotomy x y with q | q | q
      · have := (h x).1 (by simp)
        rcases List.mem_cons.1 this with r | r
        · omega
        · have := hk.1 x r; omega
      · exact q
      · have := (h y).2 (by simp)
        rcases List.mem_cons.1 this with r | r
        · omega
        · have := hl.1 y r; omega
    subst e
    congr 1
    refine rising_eq l k hl.2 hk.2 fun z => ?_
    constructor
    · intro hz
      have := (h z).1 (by simp [hz])
      rcases List.mem_cons.1 this with r | r
      · subst r; have := hl.1 z hz; omega
      · exact r
    · intro hz
      have := (h z).2 (by simp [hz])
      rcases List.mem_cons.1 this with r | r
      · subst r; have := hk.1 z hz; omega
      · exact r
end Go.AM
