/- A text of the proof. -/
import Derived.Test.YtnlggkiekcpahaaBAmN
set_option linter.unusedSimpArgs false
set_option linter.unusedVariables false
namespace Go.AM
open Go Go.RowKit
def wC : SE := { d := none, v := .top, wr := [], rt := [], rb := [], ob := none }
def nF (τ : Nat → AV) : List SE → Nat → AV
  | [] => τ
  | se :: l => nF (uK τ se) l
def oF (η : aB) : List SE → aB
  | [] => η
  | se :: l => oF (wO η se) l
theorem zd7 (τ : Nat → AV) : ∀ (l k : List SE), nF τ (l ++ k) = nF (nF τ l) k
  | [], _ => rfl
  | x :: l, k => zd7 (uK τ x) l k
theorem zef (η : aB) : ∀ (l k : List SE), oF η (l ++ k) = oF (oF η l) k
  | [], _ => rfl
  | x :: l, k => zef (wO η x) l k
def oE : Nat → List Oper → List (Nat × Oper)
  | _, [] => []
  | i, o :: os => (i, o) :: oE (i + 1) os
def uP (P : Program) (nt : Nat) (ops : Array Oper) (ans : Nat → Option (AV × List lA)) (nx : Nat) : List (Nat × Oper) → (Nat → AV) → aB → Option (List SE)
  | [], _, _ => some []
  | (i, o) :: zA, τ, η => match pK P nt ops o (ans i) (nx + 8 * i) τ η with
    | some se => match uP P nt ops ans nx zA (uK τ se) (wO η se) with
      | some ses => some (se :: ses)
      | none => none
    | none => none
theorem zae {P : Program} {nt : Nat} {ops : Array Oper} {ans : Nat → Option (AV × List lA)} {nx : Nat} : ∀ (os : List Oper) (i : Nat) (τ : Nat → AV) (η : aB) (ses : List SE), uP P nt ops ans nx (oE i os) τ η = some ses →
    ses.length = os.length ∧ ∀ (k : Nat) (o : Oper), os[k]? = some o → pK P nt ops o (ans (i + k)) (nx + 8 * (i + k)) (nF τ (ses.take k)) (oF η (ses.take k)) = some (ses.getD k wC)
  | [], i, τ, η, ses, h => by simp [oE, uP] at h; subst h; simp
  | o :: os, i, τ, η, ses, h => by
    simp only [oE, uP] at h
    split at h
    · rename_i se hse
      split at h
      · rename_i ses' hs
        cases h
        obtain ⟨h1, h2⟩ := zae os (i + 1) _ _ ses' hs
        refine ⟨by simp [h1], fun k p hk => ?_⟩
        cases k with
        | zero => simp at hk; subst hk; simpa [nF, oF] using hse
        | succ k =>
          have := h2 k p (by simpa using hk)
          rw [show i + 1 + k = i + (k + 1) by omega] at this
          simpa [nF, oF] using this
      · cases h
    · cases h
def rM (acc : List Nat) : List Edge → Nat
  | [] => 0
  | e :: es => if Region.binds .any e then (2 ^ e.on ||| acc.getD e.on 0) ||| rM acc es else rM acc es
def iH : List Oper → List Nat → List Nat
  | [], acc => acc
  | o :: os, acc => iH os (acc ++ [rM acc o.after.toList])
def jK : Nat → List Oper → Bool
  | _, [] => true
  | i, o :: os => (o.after.toList.all fun e => !(Region.binds .any e) || decide (e.on < i)) && jK (i + 1) os
theorem zdE : ∀ (os : List Oper) (acc : List Nat) (k : Nat), k < acc.length → (iH os acc).getD k 0 = acc.getD k 0
  | [], acc, k, _ => rfl
  | o :: os, acc, k, h => by
    simp only [iH]
    rw [zdE os _ k (by simp; omega)]
    simp only [List.getD_eq_getElem?_getD]
    rw [List.getElem?_append_left h]
theorem zeD : ∀ (os : List Oper) (acc : List Nat) (k : Nat) (o : Oper), os[k]? = some o → (iH os acc).getD (acc.length + k) 0 = rM ((iH os acc).take (acc.length + k)) o.after.toList
  | [], acc, k, o, h => by simp at h
  | p :: os, acc, k, o, h => by
    have pre : ∀ (os : List Oper) (acc : List Nat), (iH os acc).take acc.length = acc := by
      intro os
      induction os with
      | nil => intro acc; simp [iH]
      | cons q os ih =>
        intro acc
        simp only [iH]
        have := ih (acc ++ [rM acc q.after.toList])
        simp only [List.length_append, List.length_cons, List.length_nil] at this
        have h2 := congrArg (List.take acc.length) this
        rw [List.take_take] at h2
        simpa using h2
    simp only [iH]
    cases k with
    | zero =>
      simp at h; subst h
      rw [Nat.add_zero, zdE os _ _ (by simp)]
      have := pre os (acc ++ [rM acc p.after.toList])
      have h2 := congrArg (List.take acc.length) this
      rw [List.take_take] at h2
      simp only [List.length_append, List.length_cons, List.length_nil] at h2
      rw [show min acc.length (acc.length + (0 + 1)) = acc.length by omega] at h2
      rw [h2]
      simp
    | succ k =>
      have := zeD os (acc ++ [rM acc p.after.toList]) k o (by simpa using h)
      simp only [List.length_append, List.length_cons, List.length_nil] at this
      rw [show acc.length + (k + 1) = acc.length + (0 + 1) + k by omega]
      exact this
theorem zaY {acc : List Nat} {k : Nat} : ∀ {es : List Edge}, (rM acc es).testBit k = true → ∃ e ∈ es, Region.binds .any e = true ∧ (k = e.on ∨ (acc.getD e.on 0).testBit k = true)
  | [], h => by simp [rM] at h
  | e :: es, h => by
    simp only [rM] at h
    split at h
    · rename_i hb
      rw [Nat.testBit_or, Bool.or_eq_true, Nat.testBit_or, Bool.or_eq_true] at h
      rcases h with (h | h) | h
      · rw [Nat.testBit_two_pow] at h
        exact ⟨e, by simp, hb, .inl (by simp at h; omega)⟩
      · exact ⟨e, by simp, hb, .inr h⟩
      · obtain ⟨e', h1, h2, h3⟩ := zaY h
        exact ⟨e', by simp [h1], h2, h3⟩
    · obtain ⟨e', h1, h2, h3⟩ := zaY h
      exact ⟨e', by simp [h1], h2, h3⟩
def dI (x y : SE) : Bool :=
  (match x.d with | some d => y.rt.contains d || y.d == some d | none => false) ||
  (match y.d with | some d => x.rt.contains d | none => false) ||
  x.wr.any (fun p => y.rb.contains p.1 || y.wr.any (fun q => q.1 == p.1)) ||
  y.wr.any (fun q => x.rb.contains q.1)
def oJ (M : List Nat) (ses : List SE) (n : Nat) : Bool :=
  (List.range n).all fun j => (List.range j).all fun i => (M.getD j 0).testBit i || !dI (ses.getD i wC) (ses.getD j wC)
def oH (t : Nat) (se : SE) : Bool := se.d == some t
def wI (b : Nat) (se : SE) : Bool := se.wr.any fun p => p.1 == b
theorem zlJ {τ : Nat → AV} {se : SE} {t : Nat} (h : oH t se = false) : uK τ se t = τ t := by
  unfold uK vP
  cases hd : se.d with
  | none => rfl
  | some d =>
    have : t ≠ d := by intro e; subst e; simp [oH, hd] at h
    simp [pD, this]
theorem zcJ : ∀ {l : List (Nat × lA)} {η : aB} {b : Nat}, (l.any fun p => p.1 == b) = false → fE η l b = η b
  | [], η, b, _ => rfl
  | (c, x) :: l, η, b, h => by
    simp only [List.any_cons, Bool.or_eq_false_iff] at h
    simp only [fE]
    rw [zcJ h.2]
    have : b ≠ c := by intro e; subst e; simp at h
    simp [pD, this]
theorem zkR {η : aB} {se : SE} {b : Nat} (h : wI b se = false) : wO η se b = η b := zcJ h
theorem zlK {τ τ' : Nat → AV} {se : SE} {t : Nat} (h : oH t se = true ∨ τ t = τ' t) : uK τ se t = uK τ' se t := by
  unfold uK vP
  cases hd : se.d with
  | none => rcases h with h | h; simp [oH, hd] at h; exact h
  | some d =>
    simp only [pD]
    split
    · rfl
    · rename_i hne; rcases h with h | h; simp [oH, hd] at h; exact absurd h.symm hne; exact h
theorem zbZ : ∀ {l : List (Nat × lA)} {η η' : aB} {b : Nat}, ((l.any fun p => p.1 == b) = true ∨ η b = η' b) → fE η l b = fE η' l b
  | [], η, η', b, h => by rcases h with h | h; simp at h; exact h
  | (c, x) :: l, η, η', b, h => by
    simp only [fE]
    apply zbZ
    by_cases e : b = c
    · right; simp [pD, e]
    · rcases h with h | h
      · simp only [List.any_cons, Bool.or_eq_true] at h
        rcases h with h | h
        · simp at h; exact absurd h.symm e
        · exact .inl h
      · right; simp [pD, e, h]
theorem zf3 {η η' : aB} {se : SE} {b : Nat} (h : wI b se = true ∨ η b = η' b) : wO η se b = wO η' se b := zbZ h
theorem pS (t : Nat) : ∀ (l : List SE) (τ τ' : Nat → AV), τ t = τ' t → nF τ l t = nF τ' (l.filter (oH t)) t
  | [], τ, τ', h => h
  | x :: l, τ, τ', h => by
    simp only [nF]
    by_cases hx : oH t x = true
    · rw [List.filter_cons_of_pos hx]; simp only [nF]
      exact pS t l _ _ (zlK (.inl hx))
    · rw [List.filter_cons_of_neg hx]
      exact pS t l _ _ ((zlJ (by simpa using hx)).trans h)
theorem jS (b : Nat) : ∀ (l : List SE) (η η' : aB), η b = η' b → oF η l b = oF η' (l.filter (wI b)) b
  | [], η, η', h => h
  | x :: l, η, η', h => by
    simp only [oF]
    by_cases hx : wI b x = true
    · rw [List.filter_cons_of_pos hx]; simp only [oF]
      exact jS b l _ _ (zf3 (.inl hx))
    · rw [List.filter_cons_of_neg hx]
      exact jS b l _ _ ((zkR (by simpa using hx)).trans h)
theorem za8 : ∀ (l k : List Nat), l.Pairwise (· < ·) → k.Pairwise (· < ·) → (∀ x, x ∈ l ↔ x ∈ k) → l = k
  | [], k, _, _, h => by
    cases k with
    | nil => rfl
    | cons y k => have := (h y).2 (by simp); simp at this
  | x :: l, [], _, _, h => by have := (h x).1 (by simp); simp at this
  | x :: l, y :: k, hl, hk, h => by
    rw [List.pairwise_cons] at hl hk
    have e : x = y := by
      rcases Nat.lt_trichotomy x y with q | q | q
      · have := (h x).1 (by simp)
        rcases List.mem_cons.1 this with r | r
        · omega
        · have := hk.1 x r; omega
      · exact q
      · have := (h y).2 (by simp)
        rcases List.mem_cons.1 this with r | r
        · omega
        · have := hl.1 y r; omega
    subst e
    congr 1
    refine za8 l k hl.2 hk.2 fun z => ?_
    constructor
    · intro hz
      have := (h z).1 (by simp [hz])
      rcases List.mem_cons.1 this with r | r
      · subst r; have := hl.1 z hz; omega
      · exact r
    · intro hz
      have := (h z).2 (by simp [hz])
      rcases List.mem_cons.1 this with r | r
      · subst r; have := hk.1 z hz; omega
      · exact r
end Go.AM
