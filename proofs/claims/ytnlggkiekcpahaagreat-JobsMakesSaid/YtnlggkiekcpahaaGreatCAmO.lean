/- A text of the proof. -/
import Derived.Test.YtnlggkiekcpahaaGreatCAmN
set_option linter.unusedSimpArgs false
set_option linter.unusedVariables false
namespace Go.AM
open Go Go.RowKit
def tC : SE := { d := none, v := .top, wr := [], rt := [], rb := [], ob := none }
def vE (τ : Nat → AV) : List SE → Nat → AV
  | [] => τ
  | se :: l => vE (uK τ se) l
def zE (η : fB) : List SE → fB
  | [] => η
  | se :: l => zE (gN η se) l
theorem zdb (τ : Nat → AV) : ∀ (l k : List SE), vE τ (l ++ k) = vE (vE τ l) k
  | [], _ => rfl
  | x :: l, k => zdb (uK τ x) l k
theorem zcb (η : fB) : ∀ (l k : List SE), zE η (l ++ k) = zE (zE η l) k
  | [], _ => rfl
  | x :: l, k => zcb (gN η x) l k
def dE : Nat → List Oper → List (Nat × Oper)
  | _, [] => []
  | i, o :: os => (i, o) :: dE (i + 1) os
def qO (P : Program) (nt : Nat) (ops : Array Oper) (ans : Nat → Option (AV × List oA)) (nx : Nat) : List (Nat × Oper) → (Nat → AV) → fB → Option (List SE)
  | [], _, _ => some []
  | (i, o) :: lB, τ, η => match qJ P nt ops o (ans i) (nx + 8 * i) τ η with
    | some se => match qO P nt ops ans nx lB (uK τ se) (gN η se) with
      | some ses => some (se :: ses)
      | none => none
    | none => none
theorem lZ {P : Program} {nt : Nat} {ops : Array Oper} {ans : Nat → Option (AV × List oA)} {nx : Nat} : ∀ (os : List Oper) (i : Nat) (τ : Nat → AV) (η : fB) (ses : List SE), qO P nt ops ans nx (dE i os) τ η = some ses →
    ses.length = os.length ∧ ∀ (k : Nat) (o : Oper), os[k]? = some o → qJ P nt ops o (ans (i + k)) (nx + 8 * (i + k)) (vE τ (ses.take k)) (zE η (ses.take k)) = some (ses.getD k tC)
  | [], i, τ, η, ses, h => by simp [dE, qO] at h; subst h; simp
  | o :: os, i, τ, η, ses, h => by
    simp only [dE, qO] at h
    split at h
    · rename_i se hse
      split at h
      · rename_i ses' hs
        cases h
        obtain ⟨h1, h2⟩ := lZ os (i + 1) _ _ ses' hs
        refine ⟨by simp [h1], fun k p hk => ?_⟩
        cases k with
        | zero => simp at hk; subst hk; simpa [vE, zE] using hse
        | succ k =>
          have := h2 k p (by simpa using hk)
          rw [show i + 1 + k = i + (k + 1) by omega] at this
          simpa [vE, zE] using this
      · cases h
    · cases h
def hM (acc : List Nat) : List Edge → Nat
  | [] => 0
  | e :: es => if Region.binds .any e then (2 ^ e.on ||| acc.getD e.on 0) ||| hM acc es else hM acc es
def nG : List Oper → List Nat → List Nat
  | [], acc => acc
  | o :: os, acc => nG os (acc ++ [hM acc o.after.toList])
def nJ : Nat → List Oper → Bool
  | _, [] => true
  | i, o :: os => (o.after.toList.all fun e => !(Region.binds .any e) || decide (e.on < i)) && nJ (i + 1) os
theorem zbw : ∀ (os : List Oper) (acc : List Nat) (k : Nat), k < acc.length → (nG os acc).getD k 0 = acc.getD k 0
  | [], acc, k, _ => rfl
  | o :: os, acc, k, h => by
    simp only [nG]
    rw [zbw os _ k (by simp; omega)]
    simp only [List.getD_eq_getElem?_getD]
    rw [List.getElem?_append_left h]
theorem zbF : ∀ (os : List Oper) (acc : List Nat) (k : Nat) (o : Oper), os[k]? = some o → (nG os acc).getD (acc.length + k) 0 = hM ((nG os acc).take (acc.length + k)) o.after.toList
  | [], acc, k, o, h => by simp at h
  | p :: os, acc, k, o, h => by
    have pre : ∀ (os : List Oper) (acc : List Nat), (nG os acc).take acc.length = acc := by
      intro os
      induction os with
      | nil => intro acc; simp [nG]
      | cons q os ih =>
        intro acc
        simp only [nG]
        have := ih (acc ++ [hM acc q.after.toList])
        simp only [List.length_append, List.length_cons, List.length_nil] at this
        have h2 := congrArg (List.take acc.length) this
        rw [List.take_take] at h2
        simpa using h2
    simp only [nG]
    cases k with
    | zero =>
      simp at h; subst h
      rw [Nat.add_zero, zbw os _ _ (by simp)]
      have := pre os (acc ++ [hM acc p.after.toList])
      have h2 := congrArg (List.take acc.length) this
      rw [List.take_take] at h2
      simp only [List.length_append, List.length_cons, List.length_nil] at h2
      rw [show min acc.length (acc.length + (0 + 1)) = acc.length by omega] at h2
      rw [h2]
      simp
    | succ k =>
      have := zbF os (acc ++ [hM acc p.after.toList]) k o (by simpa using h)
      simp only [List.length_append, List.length_cons, List.length_nil] at this
      rw [show acc.length + (k + 1) = acc.length + (0 + 1) + k by omega]
      exact this
theorem aY {acc : List Nat} {k : Nat} : ∀ {es : List Edge}, (hM acc es).testBit k = true → ∃ e ∈ es, Region.binds .any e = true ∧ (k = e.on ∨ (acc.getD e.on 0).testBit k = true)
  | [], h => by simp [hM] at h
  | e :: es, h => by
    simp only [hM] at h
    split at h
    · rename_i hb
      rw [Nat.testBit_or, Bool.or_eq_true, Nat.testBit_or, Bool.or_eq_true] at h
      rcases h with (h | h) | h
      · rw [Nat.testBit_two_pow] at h
        exact ⟨e, by simp, hb, .inl (by simp at h; omega)⟩
      · exact ⟨e, by simp, hb, .inr h⟩
      · obtain ⟨e', h1, h2, h3⟩ := aY h
        exact ⟨e', by simp [h1], h2, h3⟩
    · obtain ⟨e', h1, h2, h3⟩ := aY h
      exact ⟨e', by simp [h1], h2, h3⟩
def yG (x y : SE) : Bool :=
  (match x.d with | some d => y.rt.contains d || y.d == some d | none => false) ||
  (match y.d with | some d => x.rt.contains d | none => false) ||
  x.wr.any (fun p => y.rb.contains p.1 || y.wr.any (fun q => q.1 == p.1)) ||
  y.wr.any (fun q => x.rb.contains q.1)
def pI (M : List Nat) (ses : List SE) (n : Nat) : Bool :=
  (List.range n).all fun j => (List.range j).all fun i => (M.getD j 0).testBit i || !yG (ses.getD i tC) (ses.getD j tC)
def eG (t : Nat) (se : SE) : Bool := se.d == some t
def wH (b : Nat) (se : SE) : Bool := se.wr.any fun p => p.1 == b
theorem zg2 {τ : Nat → AV} {se : SE} {t : Nat} (h : eG t se = false) : uK τ se t = τ t := by
  unfold uK iO
  cases hd : se.d with
  | none => rfl
  | some d =>
    have : t ≠ d := by intro e; subst e; simp [eG, hd] at h
    simp [eD, this]
theorem zbz : ∀ {l : List (Nat × oA)} {η : fB} {b : Nat}, (l.any fun p => p.1 == b) = false → rD η l b = η b
  | [], η, b, _ => rfl
  | (c, x) :: l, η, b, h => by
    simp only [List.any_cons, Bool.or_eq_false_iff] at h
    simp only [rD]
    rw [zbz h.2]
    have : b ≠ c := by intro e; subst e; simp at h
    simp [eD, this]
theorem zdH {η : fB} {se : SE} {b : Nat} (h : wH b se = false) : gN η se b = η b := zbz h
theorem zgE {τ τ' : Nat → AV} {se : SE} {t : Nat} (h : eG t se = true ∨ τ t = τ' t) : uK τ se t = uK τ' se t := by
  unfold uK iO
  cases hd : se.d with
  | none => rcases h with h | h; simp [eG, hd] at h; exact h
  | some d =>
    simp only [eD]
    split
    · rfl
    · rename_i hne; rcases h with h | h; simp [eG, hd] at h; exact absurd h.symm hne; exact h
theorem zdw : ∀ {l : List (Nat × oA)} {η η' : fB} {b : Nat}, ((l.any fun p => p.1 == b) = true ∨ η b = η' b) → rD η l b = rD η' l b
  | [], η, η', b, h => by rcases h with h | h; simp at h; exact h
  | (c, x) :: l, η, η', b, h => by
    simp only [rD]
    apply zdw
    by_cases e : b = c
    · right; simp [eD, e]
    · rcases h with h | h
      · simp only [List.any_cons, Bool.or_eq_true] at h
        rcases h with h | h
        · simp at h; exact absurd h.symm e
        · exact .inl h
      · right; simp [eD, e, h]
theorem zmg {η η' : fB} {se : SE} {b : Nat} (h : wH b se = true ∨ η b = η' b) : gN η se b = gN η' se b := zdw h
theorem jR (t : Nat) : ∀ (l : List SE) (τ τ' : Nat → AV), τ t = τ' t → vE τ l t = vE τ' (l.filter (eG t)) t
  | [], τ, τ', h => h
  | x :: l, τ, τ', h => by
    simp only [vE]
    by_cases hx : eG t x = true
    · rw [List.filter_cons_of_pos hx]; simp only [vE]
      exact jR t l _ _ (zgE (.inl hx))
    · rw [List.filter_cons_of_neg hx]
      exact jR t l _ _ ((zg2 (by simpa using hx)).trans h)
theorem fS (b : Nat) : ∀ (l : List SE) (η η' : fB), η b = η' b → zE η l b = zE η' (l.filter (wH b)) b
  | [], η, η', h => h
  | x :: l, η, η', h => by
    simp only [zE]
    by_cases hx : wH b x = true
    · rw [List.filter_cons_of_pos hx]; simp only [zE]
      exact fS b l _ _ (zmg (.inl hx))
    · rw [List.filter_cons_of_neg hx]
      exact fS b l _ _ ((zdH (by simpa using hx)).trans h)
theorem zaO : ∀ (l k : List Nat), l.Pairwise (· < ·) → k.Pairwise (· < ·) → (∀ x, x ∈ l ↔ x ∈ k) → l = k
  | [], k, _, _, h => by
    cases k with
    | nil => rfl
    | cons y k => have := (h y).2 (by simp); simp at this
  | x :: l, [], _, _, h => by have := (h x).1 (by simp); simp at this
  | x :: l, y :: k, hl, hk, h => by
    rw [List.pairwise_cons] at hl hk
    have e : x = y := by
      rcases Nat.lt_trichotomy x y with q | q | q
      · have := (h x).1 (by simp)
        rcases List.mem_cons.1 this with r | r
        · omega
        · have := hk.1 x r; omega
      · exact q
      · have := (h y).2 (by simp)
        rcases List.mem_cons.1 this with r | r
        · omega
        · have := hl.1 y r; omega
    subst e
    congr 1
    refine zaO l k hl.2 hk.2 fun z => ?_
    constructor
    · intro hz
      have := (h z).1 (by simp [hz])
      rcases List.mem_cons.1 this with r | r
      · subst r; have := hl.1 z hz; omega
      · exact r
    · intro hz
      have := (h z).2 (by simp [hz])
      rcases List.mem_cons.1 this with r | r
      · subst r; have := hk.1 z hz; omega
      · exact r
end Go.AM
