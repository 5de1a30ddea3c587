/- A text of the proof. -/
import Derived.Test.YtnlggkiekcpahaaGreatBAmN
set_option linter.unusedSimpArgs false
set_option linter.unusedVariables false
namespace Go.AM
open Go Go.RowKit
def aD : SE := { d := none, v := .top, wr := [], rt := [], rb := [], ob := none }
def kF (τ : Nat → AV) : List SE → Nat → AV
  | [] => τ
  | se :: l => kF (kL τ se) l
def gF (η : gB) : List SE → gB
  | [] => η
  | se :: l => gF (xO η se) l
theorem zch (τ : Nat → AV) : ∀ (l k : List SE), kF τ (l ++ k) = kF (kF τ l) k
  | [], _ => rfl
  | x :: l, k => zch (kL τ x) l k
theorem zdj (η : gB) : ∀ (l k : List SE), gF η (l ++ k) = gF (gF η l) k
  | [], _ => rfl
  | x :: l, k => zdj (xO η x) l k
def pE : Nat → List Oper → List (Nat × Oper)
  | _, [] => []
  | i, o :: os => (i, o) :: pE (i + 1) os
def dR (P : Program) (nt : Nat) (ops : Array Oper) (ans : Nat → Option (AV × List pA)) (nx : Nat) : List (Nat × Oper) → (Nat → AV) → gB → Option (List SE)
  | [], _, _ => some []
  | (i, o) :: eB, τ, η => match aL P nt ops o (ans i) (nx + 8 * i) τ η with
    | some se => match dR P nt ops ans nx eB (kL τ se) (xO η se) with
      | some ses => some (se :: ses)
      | none => none
    | none => none
theorem zar {P : Program} {nt : Nat} {ops : Array Oper} {ans : Nat → Option (AV × List pA)} {nx : Nat} : ∀ (os : List Oper) (i : Nat) (τ : Nat → AV) (η : gB) (ses : List SE), dR P nt ops ans nx (pE i os) τ η = some ses →
    ses.length = os.length ∧ ∀ (k : Nat) (o : Oper), os[k]? = some o → aL P nt ops o (ans (i + k)) (nx + 8 * (i + k)) (kF τ (ses.take k)) (gF η (ses.take k)) = some (ses.getD k aD)
  | [], i, τ, η, ses, h => by simp [pE, dR] at h; subst h; simp
  | o :: os, i, τ, η, ses, h => by
    simp only [pE, dR] at h
    split at h
    · rename_i se hse
      split at h
      · rename_i ses' hs
        cases h
        obtain ⟨h1, h2⟩ := zar os (i + 1) _ _ ses' hs
        refine ⟨by simp [h1], fun k p hk => ?_⟩
        cases k with
        | zero => simp at hk; subst hk; simpa [kF, gF] using hse
        | succ k =>
          have := h2 k p (by simpa using hk)
          rw [show i + 1 + k = i + (k + 1) by omega] at this
          simpa [kF, gF] using this
      · cases h
    · cases h
def lO (acc : List Nat) : List Edge → Nat
  | [] => 0
  | e :: es => if Region.binds .any e then (2 ^ e.on ||| acc.getD e.on 0) ||| lO acc es else lO acc es
def eH : List Oper → List Nat → List Nat
  | [], acc => acc
  | o :: os, acc => eH os (acc ++ [lO acc o.after.toList])
def gL : Nat → List Oper → Bool
  | _, [] => true
  | i, o :: os => (o.after.toList.all fun e => !(Region.binds .any e) || decide (e.on < i)) && gL (i + 1) os
theorem zey : ∀ (os : List Oper) (acc : List Nat) (k : Nat), k < acc.length → (eH os acc).getD k 0 = acc.getD k 0
  | [], acc, k, _ => rfl
  | o :: os, acc, k, h => by
    simp only [eH]
    rw [zey os _ k (by simp; omega)]
    simp only [List.getD_eq_getElem?_getD]
    rw [List.getElem?_append_left h]
theorem zdN : ∀ (os : List Oper) (acc : List Nat) (k : Nat) (o : Oper), os[k]? = some o → (eH os acc).getD (acc.length + k) 0 = lO ((eH os acc).take (acc.length + k)) o.after.toList
  | [], acc, k, o, h => by simp at h
  | p :: os, acc, k, o, h => by
    have pre : ∀ (os : List Oper) (acc : List Nat), (eH os acc).take acc.length = acc := by
      intro os
      induction os with
      | nil => intro acc; simp [eH]
      | cons q os ih =>
        intro acc
        simp only [eH]
        have := ih (acc ++ [lO acc q.after.toList])
        simp only [List.length_append, List.length_cons, List.length_nil] at this
        have h2 := congrArg (List.take acc.length) this
        rw [List.take_take] at h2
        simpa using h2
    simp only [eH]
    cases k with
    | zero =>
      simp at h; subst h
      rw [Nat.add_zero, zey os _ _ (by simp)]
      have := pre os (acc ++ [lO acc p.after.toList])
      have h2 := congrArg (List.take acc.length) this
      rw [List.take_take] at h2
      simp only [List.length_append, List.length_cons, List.length_nil] at h2
      rw [show min acc.length (acc.length + (0 + 1)) = acc.length by omega] at h2
      rw [h2]
      simp
    | succ k =>
      have := zdN os (acc ++ [lO acc p.after.toList]) k o (by simpa using h)
      simp only [List.length_append, List.length_cons, List.length_nil] at this
      rw [show acc.length + (k + 1) = acc.length + (0 + 1) + k by omega]
      exact this
theorem zbq {acc : List Nat} {k : Nat} : ∀ {es : List Edge}, (lO acc es).testBit k = true → ∃ e ∈ es, Region.binds .any e = true ∧ (k = e.on ∨ (acc.getD e.on 0).testBit k = true)
  | [], h => by simp [lO] at h
  | e :: es, h => by
    simp only [lO] at h
    split at h
    · rename_i hb
      rw [Nat.testBit_or, Bool.or_eq_true, Nat.testBit_or, Bool.or_eq_true] at h
      rcases h with (h | h) | h
      · rw [Nat.testBit_two_pow] at h
        exact ⟨e, by simp, hb, .inl (by simp at h; omega)⟩
      · exact ⟨e, by simp, hb, .inr h⟩
      · obtain ⟨e', h1, h2, h3⟩ := zbq h
        exact ⟨e', by simp [h1], h2, h3⟩
    · obtain ⟨e', h1, h2, h3⟩ := zbq h
      exact ⟨e', by simp [h1], h2, h3⟩
def xH (x y : SE) : Bool :=
  (match x.d with | some d => y.rt.contains d || y.d == some d | none => false) ||
  (match y.d with | some d => x.rt.contains d | none => false) ||
  x.wr.any (fun p => y.rb.contains p.1 || y.wr.any (fun q => q.1 == p.1)) ||
  y.wr.any (fun q => x.rb.contains q.1)
def aH (M : List Nat) (ses : List SE) (n : Nat) : Bool :=
  (List.range n).all fun j => (List.range j).all fun i => (M.getD j 0).testBit i || !xH (ses.getD i aD) (ses.getD j aD)
def nH (t : Nat) (se : SE) : Bool := se.d == some t
def aJ (b : Nat) (se : SE) : Bool := se.wr.any fun p => p.1 == b
theorem zib {τ : Nat → AV} {se : SE} {t : Nat} (h : nH t se = false) : kL τ se t = τ t := by
  unfold kL xQ
  cases hd : se.d with
  | none => rfl
  | some d =>
    have : t ≠ d := by intro e; subst e; simp [nH, hd] at h
    simp [oD, this]
theorem zeo : ∀ {l : List (Nat × pA)} {η : gB} {b : Nat}, (l.any fun p => p.1 == b) = false → jE η l b = η b
  | [], η, b, _ => rfl
  | (c, x) :: l, η, b, h => by
    simp only [List.any_cons, Bool.or_eq_false_iff] at h
    simp only [jE]
    rw [zeo h.2]
    have : b ≠ c := by intro e; subst e; simp at h
    simp [oD, this]
theorem zoW {η : gB} {se : SE} {b : Nat} (h : aJ b se = false) : xO η se b = η b := zeo h
theorem zgJ {τ τ' : Nat → AV} {se : SE} {t : Nat} (h : nH t se = true ∨ τ t = τ' t) : kL τ se t = kL τ' se t := by
  unfold kL xQ
  cases hd : se.d with
  | none => rcases h with h | h; simp [nH, hd] at h; exact h
  | some d =>
    simp only [oD]
    split
    · rfl
    · rename_i hne; rcases h with h | h; simp [nH, hd] at h; exact absurd h.symm hne; exact h
theorem zdQ : ∀ {l : List (Nat × pA)} {η η' : gB} {b : Nat}, ((l.any fun p => p.1 == b) = true ∨ η b = η' b) → jE η l b = jE η' l b
  | [], η, η', b, h => by rcases h with h | h; simp at h; exact h
  | (c, x) :: l, η, η', b, h => by
    simp only [jE]
    apply zdQ
    by_cases e : b = c
    · right; simp [oD, e]
    · rcases h with h | h
      · simp only [List.any_cons, Bool.or_eq_true] at h
        rcases h with h | h
        · simp at h; exact absurd h.symm e
        · exact .inl h
      · right; simp [oD, e, h]
theorem zlg {η η' : gB} {se : SE} {b : Nat} (h : aJ b se = true ∨ η b = η' b) : xO η se b = xO η' se b := zdQ h
theorem uU (t : Nat) : ∀ (l : List SE) (τ τ' : Nat → AV), τ t = τ' t → kF τ l t = kF τ' (l.filter (nH t)) t
  | [], τ, τ', h => h
  | x :: l, τ, τ', h => by
    simp only [kF]
    by_cases hx : nH t x = true
    · rw [List.filter_cons_of_pos hx]; simp only [kF]
      exact uU t l _ _ (zgJ (.inl hx))
    · rw [List.filter_cons_of_neg hx]
      exact uU t l _ _ ((zib (by simpa using hx)).trans h)
theorem fU (b : Nat) : ∀ (l : List SE) (η η' : gB), η b = η' b → gF η l b = gF η' (l.filter (aJ b)) b
  | [], η, η', h => h
  | x :: l, η, η', h => by
    simp only [gF]
    by_cases hx : aJ b x = true
    · rw [List.filter_cons_of_pos hx]; simp only [gF]
      exact fU b l _ _ (zlg (.inl hx))
    · rw [List.filter_cons_of_neg hx]
      exact fU b l _ _ ((zoW (by simpa using hx)).trans h)
theorem zb2 : ∀ (l k : List Nat), l.Pairwise (· < ·) → k.Pairwise (· < ·) → (∀ x, x ∈ l ↔ x ∈ k) → l = k
  | [], k, _, _, h => by
    cases k with
    | nil => rfl
    | cons y k => have := (h y).2 (by simp); simp at this
  | x :: l, [], _, _, h => by have := (h x).1 (by simp); simp at this
  | x :: l, y :: k, hl, hk, h => by
    rw [List.pairwise_cons] at hl hk
    have e : x = y := by
      rcases Nat.lt_trichotomy x y with q | q | q
      · have := (h x).1 (by simp)
        rcases List.mem_cons.1 this with r | r
        · omega
        · have := hk.1 x r; omega
      · exact q
      · have := (h y).2 (by simp)
        rcases List.mem_cons.1 this with r | r
        · omega
        · have := hl.1 y r; omega
    subst e
    congr 1
    refine zb2 l k hl.2 hk.2 fun z => ?_
    constructor
    · intro hz
      have := (h z).1 (by simp [hz])
      rcases List.mem_cons.1 this with r | r
      · subst r; have := hl.1 z hz; omega
      · exact r
    · intro hz
      have := (h z).2 (by simp [hz])
      rcases List.mem_cons.1 this with r | r
      · subst r; have := hk.1 z hz; omega
      · exact r
end Go.AM
