/- A text of the proof. -/
import Derived.Test.YtnlggkiekcpahaaCAmN
set_option linter.unusedSimpArgs false
set_option linter.unusedVariables false
namespace Go.AM
open Go Go.RowKit
def wC : SE := { d := none, v := .top, wr := [], rt := [], rb := [], ob := none }
def lF (τ : Nat → AV) : List SE → Nat → AV
  | [] => τ
  | se :: l => lF (tK τ se) l
def iF (η : cB) : List SE → cB
  | [] => η
  | se :: l => iF (tO η se) l
theorem zcN (τ : Nat → AV) : ∀ (l k : List SE), lF τ (l ++ k) = lF (lF τ l) k
  | [], _ => rfl
  | x :: l, k => zcN (tK τ x) l k
theorem zd8 (η : cB) : ∀ (l k : List SE), iF η (l ++ k) = iF (iF η l) k
  | [], _ => rfl
  | x :: l, k => zd8 (tO η x) l k
def pE : Nat → List Oper → List (Nat × Oper)
  | _, [] => []
  | i, o :: os => (i, o) :: pE (i + 1) os
def lQ (P : Program) (nt : Nat) (ops : Array Oper) (ans : Nat → Option (AV × List lA)) (nx : Nat) : List (Nat × Oper) → (Nat → AV) → cB → Option (List SE)
  | [], _, _ => some []
  | (i, o) :: aB, τ, η => match lK P nt ops o (ans i) (nx + 8 * i) τ η with
    | some se => match lQ P nt ops ans nx aB (tK τ se) (tO η se) with
      | some ses => some (se :: ses)
      | none => none
    | none => none
theorem zaJ {P : Program} {nt : Nat} {ops : Array Oper} {ans : Nat → Option (AV × List lA)} {nx : Nat} : ∀ (os : List Oper) (i : Nat) (τ : Nat → AV) (η : cB) (ses : List SE), lQ P nt ops ans nx (pE i os) τ η = some ses →
    ses.length = os.length ∧ ∀ (k : Nat) (o : Oper), os[k]? = some o → lK P nt ops o (ans (i + k)) (nx + 8 * (i + k)) (lF τ (ses.take k)) (iF η (ses.take k)) = some (ses.getD k wC)
  | [], i, τ, η, ses, h => by simp [pE, lQ] at h; subst h; simp
  | o :: os, i, τ, η, ses, h => by
    simp only [pE, lQ] at h
    split at h
    · rename_i se hse
      split at h
      · rename_i ses' hs
        cases h
        obtain ⟨h1, h2⟩ := zaJ os (i + 1) _ _ ses' hs
        refine ⟨by simp [h1], fun k p hk => ?_⟩
        cases k with
        | zero => simp at hk; subst hk; simpa [lF, iF] using hse
        | succ k =>
          have := h2 k p (by simpa using hk)
          rw [show i + 1 + k = i + (k + 1) by omega] at this
          simpa [lF, iF] using this
      · cases h
    · cases h
def xL (acc : List Nat) : List Edge → Nat
  | [] => 0
  | e :: es => if Region.binds .any e then (2 ^ e.on ||| acc.getD e.on 0) ||| xL acc es else xL acc es
def aH : List Oper → List Nat → List Nat
  | [], acc => acc
  | o :: os, acc => aH os (acc ++ [xL acc o.after.toList])
def fK : Nat → List Oper → Bool
  | _, [] => true
  | i, o :: os => (o.after.toList.all fun e => !(Region.binds .any e) || decide (e.on < i)) && fK (i + 1) os
theorem zef : ∀ (os : List Oper) (acc : List Nat) (k : Nat), k < acc.length → (aH os acc).getD k 0 = acc.getD k 0
  | [], acc, k, _ => rfl
  | o :: os, acc, k, h => by
    simp only [aH]
    rw [zef os _ k (by simp; omega)]
    simp only [List.getD_eq_getElem?_getD]
    rw [List.getElem?_append_left h]
theorem zdk : ∀ (os : List Oper) (acc : List Nat) (k : Nat) (o : Oper), os[k]? = some o → (aH os acc).getD (acc.length + k) 0 = xL ((aH os acc).take (acc.length + k)) o.after.toList
  | [], acc, k, o, h => by simp at h
  | p :: os, acc, k, o, h => by
    have pre : ∀ (os : List Oper) (acc : List Nat), (aH os acc).take acc.length = acc := by
      intro os
      induction os with
      | nil => intro acc; simp [aH]
      | cons q os ih =>
        intro acc
        simp only [aH]
        have := ih (acc ++ [xL acc q.after.toList])
        simp only [List.length_append, List.length_cons, List.length_nil] at this
        have h2 := congrArg (List.take acc.length) this
        rw [List.take_take] at h2
        simpa using h2
    simp only [aH]
    cases k with
    | zero =>
      simp at h; subst h
      rw [Nat.add_zero, zef os _ _ (by simp)]
      have := pre os (acc ++ [xL acc p.after.toList])
      have h2 := congrArg (List.take acc.length) this
      rw [List.take_take] at h2
      simp only [List.length_append, List.length_cons, List.length_nil] at h2
      rw [show min acc.length (acc.length + (0 + 1)) = acc.length by omega] at h2
      rw [h2]
      simp
    | succ k =>
      have := zdk os (acc ++ [xL acc p.after.toList]) k o (by simpa using h)
      simp only [List.length_append, List.length_cons, List.length_nil] at this
      rw [show acc.length + (k + 1) = acc.length + (0 + 1) + k by omega]
      exact this
theorem za2 {acc : List Nat} {k : Nat} : ∀ {es : List Edge}, (xL acc es).testBit k = true → ∃ e ∈ es, Region.binds .any e = true ∧ (k = e.on ∨ (acc.getD e.on 0).testBit k = true)
  | [], h => by simp [xL] at h
  | e :: es, h => by
    simp only [xL] at h
    split at h
    · rename_i hb
      rw [Nat.testBit_or, Bool.or_eq_true, Nat.testBit_or, Bool.or_eq_true] at h
      rcases h with (h | h) | h
      · rw [Nat.testBit_two_pow] at h
        exact ⟨e, by simp, hb, .inl (by simp at h; omega)⟩
      · exact ⟨e, by simp, hb, .inr h⟩
      · obtain ⟨e', h1, h2, h3⟩ := za2 h
        exact ⟨e', by simp [h1], h2, h3⟩
    · obtain ⟨e', h1, h2, h3⟩ := za2 h
      exact ⟨e', by simp [h1], h2, h3⟩
def uH (x y : SE) : Bool :=
  (match x.d with | some d => y.rt.contains d || y.d == some d | none => false) ||
  (match y.d with | some d => x.rt.contains d | none => false) ||
  x.wr.any (fun p => y.rb.contains p.1 || y.wr.any (fun q => q.1 == p.1)) ||
  y.wr.any (fun q => x.rb.contains q.1)
def kJ (M : List Nat) (ses : List SE) (n : Nat) : Bool :=
  (List.range n).all fun j => (List.range j).all fun i => (M.getD j 0).testBit i || !uH (ses.getD i wC) (ses.getD j wC)
def cH (t : Nat) (se : SE) : Bool := se.d == some t
def sI (b : Nat) (se : SE) : Bool := se.wr.any fun p => p.1 == b
theorem zhd {τ : Nat → AV} {se : SE} {t : Nat} (h : cH t se = false) : tK τ se t = τ t := by
  unfold tK cP
  cases hd : se.d with
  | none => rfl
  | some d =>
    have : t ≠ d := by intro e; subst e; simp [cH, hd] at h
    simp [rD, this]
theorem zeK : ∀ {l : List (Nat × lA)} {η : cB} {b : Nat}, (l.any fun p => p.1 == b) = false → iE η l b = η b
  | [], η, b, _ => rfl
  | (c, x) :: l, η, b, h => by
    simp only [List.any_cons, Bool.or_eq_false_iff] at h
    simp only [iE]
    rw [zeK h.2]
    have : b ≠ c := by intro e; subst e; simp at h
    simp [rD, this]
theorem zi6 {η : cB} {se : SE} {b : Nat} (h : sI b se = false) : tO η se b = η b := zeK h
theorem zlY {τ τ' : Nat → AV} {se : SE} {t : Nat} (h : cH t se = true ∨ τ t = τ' t) : tK τ se t = tK τ' se t := by
  unfold tK cP
  cases hd : se.d with
  | none => rcases h with h | h; simp [cH, hd] at h; exact h
  | some d =>
    simp only [rD]
    split
    · rfl
    · rename_i hne; rcases h with h | h; simp [cH, hd] at h; exact absurd h.symm hne; exact h
theorem zc3 : ∀ {l : List (Nat × lA)} {η η' : cB} {b : Nat}, ((l.any fun p => p.1 == b) = true ∨ η b = η' b) → iE η l b = iE η' l b
  | [], η, η', b, h => by rcases h with h | h; simp at h; exact h
  | (c, x) :: l, η, η', b, h => by
    simp only [iE]
    apply zc3
    by_cases e : b = c
    · right; simp [rD, e]
    · rcases h with h | h
      · simp only [List.any_cons, Bool.or_eq_true] at h
        rcases h with h | h
        · simp at h; exact absurd h.symm e
        · exact .inl h
      · right; simp [rD, e, h]
theorem ziy {η η' : cB} {se : SE} {b : Nat} (h : sI b se = true ∨ η b = η' b) : tO η se b = tO η' se b := zc3 h
theorem tT (t : Nat) : ∀ (l : List SE) (τ τ' : Nat → AV), τ t = τ' t → lF τ l t = lF τ' (l.filter (cH t)) t
  | [], τ, τ', h => h
  | x :: l, τ, τ', h => by
    simp only [lF]
    by_cases hx : cH t x = true
    · rw [List.filter_cons_of_pos hx]; simp only [lF]
      exact tT t l _ _ (zlY (.inl hx))
    · rw [List.filter_cons_of_neg hx]
      exact tT t l _ _ ((zhd (by simpa using hx)).trans h)
theorem vS (b : Nat) : ∀ (l : List SE) (η η' : cB), η b = η' b → iF η l b = iF η' (l.filter (sI b)) b
  | [], η, η', h => h
  | x :: l, η, η', h => by
    simp only [iF]
    by_cases hx : sI b x = true
    · rw [List.filter_cons_of_pos hx]; simp only [iF]
      exact vS b l _ _ (ziy (.inl hx))
    · rw [List.filter_cons_of_neg hx]
      exact vS b l _ _ ((zi6 (by simpa using hx)).trans h)
theorem zby : ∀ (l k : List Nat), l.Pairwise (· < ·) → k.Pairwise (· < ·) → (∀ x, x ∈ l ↔ x ∈ k) → l = k
  | [], k, _, _, h => by
    cases k with
    | nil => rfl
    | cons y k => have := (h y).2 (by simp); simp at this
  | x :: l, [], _, _, h => by have := (h x).1 (by simp); simp at this
  | x :: l, y :: k, hl, hk, h => by
    rw [List.pairwise_cons] at hl hk
    have e : x = y := by
      rcases Nat.lt_trichotomy x y with q | q | q
      · have := (h x).1 (by simp)
        rcases List.mem_cons.1 this with r | r
        · omega
        · have := hk.1 x r; omega
      · exact q
      · have := (h y).2 (by simp)
        rcases List.mem_cons.1 this with r | r
        · omega
        · have := hl.1 y r; omega
    subst e
    congr 1
    refine zby l k hl.2 hk.2 fun z => ?_
    constructor
    · intro hz
      have := (h z).1 (by simp [hz])
      rcases List.mem_cons.1 this with r | r
      · subst r; have := hl.1 z hz; omega
      · exact r
    · intro hz
      have := (h z).2 (by simp [hz])
      rcases List.mem_cons.1 this with r | r
      · subst r; have := hk.1 z hz; omega
      · exact r
end Go.AM
