/- Read changes nothing but its job, what was left is what Read uses and what is left then, and reading twice is reading the sum, of states that are not long and numbers up to 255; no other condition. -/
import Derived.Test.YtnlggkiekcpahaaCGp
import Derived.Test.YtnlggkiekcpahaaCGm
import Derived.Laws.BitsLemmas
import Derived.KernelRfl
set_option linter.unusedSimpArgs false
set_option linter.unusedVariables false
section
namespace Go.T
open Go Go.AM
def Ev {α : Type} (g : Nat → Option α) (r : α) : Prop := ∃ N, ∀ fu, N ≤ fu → g fu = some r
theorem Ev.ret {α : Type} (r : α) : Ev (fun _ => some r) r := ⟨0, fun _ _ => rfl⟩
theorem Ev.bind {α β : Type} {g : Nat → Option α} {a : α} {k : Nat → α → Option β} {r : β} (h : Ev g a) (h2 : Ev (fun fu => k fu a) r) : Ev (fun fu => (g fu).bind (k fu)) r := by
  obtain ⟨n, h⟩ := h
  obtain ⟨m, h2⟩ := h2
  exact ⟨n + m, fun fu hfu => by show (g fu).bind (k fu) = _; rw [h fu (by omega)]; exact h2 fu (by omega)⟩
theorem Ev.succ {α : Type} {g : Nat → Option α} {r : α} (h : Ev (fun fu => g (fu + 1)) r) : Ev g r := by
  obtain ⟨n, h⟩ := h
  exact ⟨n + 1, fun fu hfu => by obtain ⟨m, rfl⟩ : ∃ m, fu = m + 1 := ⟨fu - 1, by omega⟩; exact h m (by omega)⟩
theorem Ev.of {α : Type} {g g' : Nat → Option α} {r : α} (e : ∀ fu, g fu = g' fu) (h : Ev g' r) : Ev g r := by
  obtain ⟨n, h⟩ := h
  exact ⟨n, fun fu hfu => (e fu).trans (h fu hfu)⟩
theorem Ev.mono {α : Type} {g : Nat → Option α} {r : α} {n : Nat} (m : ∀ fu, bA (g fu) (g (fu + 1))) (h : g n = some r) : Ev g r := by
  refine ⟨n, fun fu hfu => ?_⟩
  induction fu with
  | zero => rw [show n = 0 by omega] at h; exact h
  | succ fu ih =>
    by_cases e : n = fu + 1
    · rw [← e]; exact h
    · exact m fu r (ih (by omega))
theorem Ev.uniq {α : Type} {g : Nat → Option α} {r s : α} (h : Ev g r) (k : Ev g s) : r = s := by
  obtain ⟨n, h⟩ := h
  obtain ⟨m, k⟩ := k
  have := (h (n + m) (by omega)).symm.trans (k (n + m) (by omega))
  exact Option.some.inj this
theorem Ev.one {α : Type} {g : Nat → Option α} {r : α} (h : Ev g r) : ∃ fu, g fu = some r := by
  obtain ⟨n, h⟩ := h; exact ⟨n, h n (Nat.le_refl n)⟩
theorem wr {n : Int} (h1 : -9223372036854775808 ≤ n) (h2 : n ≤ 9223372036854775807) : IntKind.i64.wrap n = n := by
  rw [IntKind.wrap_i64]; omega
theorem mS {α : Type} (l : List α) (n : Nat) : ix l (n : Int) = l[n]? := by simp [ix]
theorem yA {α : Type} (l : List α) (n : Nat) (h : n < l.length) : ix l (n : Int) = some l[n] := by simp [ix, h]
abbrev bl := Op.bytesLess
theorem fG (a : List UInt8) : bl a a = false := by
  induction a with
  | nil => rfl
  | cons x a ih => simpa [bl, Op.bytesLess] using ih
theorem vR : ∀ (a b : List UInt8), bl a b = true ∨ a = b ∨ bl b a = true
  | [], [] => .inr (.inl rfl)
  | [], _ :: _ => .inl rfl
  | _ :: _, [] => .inr (.inr rfl)
  | x :: a, y :: b => by
    have tri : x < y ∨ x = y ∨ y < x := by
      rcases Nat.lt_trichotomy x.toNat y.toNat with h | h | h
      · exact .inl (UInt8.lt_iff_toNat_lt.2 h)
      · exact .inr (.inl (UInt8.toNat_inj.1 h))
      · exact .inr (.inr (UInt8.lt_iff_toNat_lt.2 h))
    rcases tri with h | h | h
    · left; simp [bl, Op.bytesLess, h]
    · subst h
      rcases vR a b with k | k | k
      · left; simp [bl, Op.bytesLess]; exact k
      · right; left; rw [k]
      · right; right; simp [bl, Op.bytesLess]; exact k
    · right; right; simp [bl, Op.bytesLess, h]
theorem pM : ∀ {a b c : List UInt8}, bl a b = true → bl b c = true → bl a c = true
  | a, [], c, h, _ => by cases a <;> simp [bl, Op.bytesLess] at h
  | a, b, [], _, k => by cases b <;> simp [bl, Op.bytesLess] at k
  | [], y :: b, z :: c, _, _ => rfl
  | x :: a, y :: b, z :: c, h, k => by
    simp only [bl, Op.bytesLess, Bool.or_eq_true, decide_eq_true_eq, Bool.and_eq_true, beq_iff_eq] at h k ⊢
    rcases h with h | ⟨rfl, h⟩
    · rcases k with k | ⟨rfl, k⟩
      · exact .inl (UInt8.lt_trans h k)
      · exact .inl h
    · rcases k with k | ⟨rfl, k⟩
      · exact .inl k
      · exact .inr ⟨rfl, pM h k⟩
theorem mK {a b : List UInt8} (h : bl a b = true) : bl b a = false := by
  cases k : bl b a with
  | false => rfl
  | true => have := pM h k; rw [fG] at this; cases this
def chk (e : aA) : Int := if 32 < e.Key.length ∨ 64 < e.Val.length then 3 else if e.Dead = true ∧ e.Val ≠ [] then 6 else if e.Seq < 1 ∨ 1000000000 < e.Seq then 7 else 0
theorem xP (fu : Nat) (e : aA) : cM fu e = some (chk e) := by
  obtain ⟨k, v, d, s⟩ := e
  have c1 : decide ((32 : Int) < (k.length : Int)) = decide (32 < k.length) := decide_eq_decide.2 (by omega)
  have c2 : decide ((64 : Int) < (v.length : Int)) = decide (64 < v.length) := decide_eq_decide.2 (by omega)
  simp only [cM, cN, chk, c1, c2]
  by_cases h1 : 32 < k.length <;> by_cases h2 : 64 < v.length <;> cases d <;> by_cases h4 : v = [] <;> by_cases h5 : s < 1 <;> by_cases h6 : 1000000000 < s <;> simp [h1, h2, h4, h5, h6]
theorem sW (fu : Nat) (e : aA) : kZ fu e = some (chk e) := by
  obtain ⟨k, v, d, s⟩ := e
  have c1 : decide ((32 : Int) < (k.length : Int)) = decide (32 < k.length) := decide_eq_decide.2 (by omega)
  have c2 : decide ((64 : Int) < (v.length : Int)) = decide (64 < v.length) := decide_eq_decide.2 (by omega)
  simp only [kZ, chk, c1, c2]
  by_cases h1 : 32 < k.length <;> by_cases h2 : 64 < v.length <;> cases d <;> by_cases h4 : v = [] <;> by_cases h5 : s < 1 <;> by_cases h6 : 1000000000 < s <;> simp [h1, h2, h4, h5, h6]
def cp : List UInt8 → List UInt8 → Nat
  | x :: a, y :: b => if x = y then cp a b + 1 else 0
  | _, _ => 0
theorem zjT (a b : List UInt8) (ha : a.length ≤ 1000000000000) (m : Nat) : ∀ n : Nat, n + m = a.length → Ev (fun fu => uQ a b fu (n : Int)) ((n + cp (a.drop n) (b.drop n) : Nat) : Int) := by
  induction m with
  | zero =>
    intro n hn
    refine Ev.succ (Ev.of (g' := fun _ => some ((n : Int))) (fun fu => ?_) ?_)
    · simp [uQ, show ¬ (n : Int) < (a.length : Int) by omega]
    · rw [show a.drop n = [] from List.drop_eq_nil_of_le (by omega)]
      exact Ev.ret _
  | succ m ih =>
    intro n hn
    have hna : n < a.length := by omega
    rw [List.drop_eq_getElem_cons hna]
    refine Ev.succ ?_
    by_cases hb : n < b.length
    · rw [List.drop_eq_getElem_cons hb]
      by_cases he : a[n] = b[n]
      · refine Ev.of (g' := fun fu => uQ a b fu ((n + 1 : Nat) : Int)) (fun fu => ?_) ?_
        · simp [uQ, hna, hb, mS, he]
          rw [wr (by omega) (by omega)]
        · have := ih (n + 1) (by omega)
          rw [show ((n + cp (a[n] :: a.drop (n + 1)) (b[n] :: b.drop (n + 1)) : Nat) : Int) = ((n + 1 + cp (a.drop (n + 1)) (b.drop (n + 1)) : Nat) : Int) by
            rw [he]; simp [cp]; omega]
          exact this
      · refine Ev.of (g' := fun _ => some ((n : Int))) (fun fu => ?_) ?_
        · have : ¬ (a[n].toNat : Int) = (b[n].toNat : Int) := fun h => he (UInt8.toNat_inj.1 (by omega))
          simp [uQ, hna, hb, mS, this]
        · simp only [cp, if_neg he, Nat.add_zero]
          exact Ev.ret _
    · refine Ev.of (g' := fun _ => some ((n : Int))) (fun fu => ?_) ?_
      · simp [uQ, hna, hb]
      · rw [show b.drop n = [] from List.drop_eq_nil_of_le (by omega)]
        exact Ev.ret _
theorem zcW : ∀ a b, cp a b ≤ a.length ∧ cp a b ≤ b.length
  | [], b => by simp [cp]
  | _ :: _, [] => by simp [cp]
  | x :: a, y :: b => by
    have := zcW a b
    simp only [cp]
    split <;> simp <;> omega
theorem zb4 : ∀ a b, (cp a b = a.length → cp a b = b.length → a = b) ∧
    (cp a b = a.length → cp a b ≠ b.length → bl a b = true) ∧
    (cp a b ≠ a.length → cp a b = b.length → bl b a = true) ∧
    (∀ (h1 : cp a b < a.length) (h2 : cp a b < b.length), a[cp a b] ≠ b[cp a b] ∧ bl a b = decide (a[cp a b] < b[cp a b]))
  | [], [] => by simp [cp]
  | [], _ :: _ => by simp [cp, bl, Op.bytesLess]
  | _ :: _, [] => by simp [cp, bl, Op.bytesLess]
  | x :: a, y :: b => by
    obtain ⟨h1, h2, h3, h4⟩ := zb4 a b
    by_cases e : x = y
    · subst e
      simp only [cp, ↓reduceIte, List.length_cons, Nat.add_right_cancel_iff, ne_eq, List.getElem_cons_succ, bl, Op.bytesLess, Nat.add_lt_add_iff_right]
      simp only [UInt8.lt_irrefl, decide_false, beq_self_eq_true, Bool.true_and, Bool.false_or]
      exact ⟨fun p q => by rw [h1 p q], h2, h3, h4⟩
    · simp only [cp, if_neg e, List.length_cons]
      refine ⟨by omega, by omega, by omega, fun _ _ => ?_⟩
      simp [bl, Op.bytesLess, e]
theorem ziL (a b : List UInt8) (ha : a.length ≤ 1000000000000) : ∃ r, Ev (fun fu => cR fu a b) r ∧ ((0 ≤ r) ↔ bl a b = false) := by
  have hc : Ev (fun fu => zaT fu a b) (cp a b : Int) := by
    unfold zaT
    refine Ev.bind (a := (cp a b : Int)) ?_ (Ev.ret _)
    have := zjT a b ha a.length 0 (by omega)
    simpa using this
  obtain ⟨k1, k2⟩ := zcW a b
  obtain ⟨h1, h2, h3, h4⟩ := zb4 a b
  unfold cR
  have d1 : decide ((cp a b : Int) = (a.length : Int)) = decide (cp a b = a.length) := decide_eq_decide.2 (by omega)
  have d2 : decide ((cp a b : Int) = (b.length : Int)) = decide (cp a b = b.length) := decide_eq_decide.2 (by omega)
  have d3 : decide ((cp a b : Int) < (b.length : Int)) = decide (cp a b < b.length) := decide_eq_decide.2 (by omega)
  by_cases p : cp a b = a.length
  · by_cases q : cp a b = b.length
    · refine ⟨0, Ev.bind hc (Ev.of (fun fu => ?_) (Ev.ret _)), ?_⟩
      · simp only [d1, d2, d3, decide_eq_true p, decide_eq_true q]; rfl
      · rw [h1 p q]; simp [fG]
    · refine ⟨-1, Ev.bind hc (Ev.of (fun fu => ?_) (Ev.ret _)), ?_⟩
      · simp only [d1, d2, d3, decide_eq_true p, decide_eq_false q]; rfl
      · rw [h2 p q]; simp
  · by_cases q : cp a b = b.length
    · refine ⟨1, Ev.bind hc (Ev.of (fun fu => ?_) (Ev.ret _)), ?_⟩
      · simp only [d1, d2, d3, decide_eq_false p, decide_eq_true q, decide_eq_false (show ¬ cp a b < b.length by omega)]; rfl
      · rw [mK (h3 p q)]; simp
    · obtain ⟨j1, j2⟩ := h4 (by omega) (by omega)
      refine ⟨if a[cp a b] < b[cp a b] then -1 else 1, Ev.bind hc (Ev.of (fun fu => ?_) (Ev.ret _)), ?_⟩
      · have d4 : decide ((a[cp a b].toNat : Int) < (b[cp a b].toNat : Int)) = decide (a[cp a b] < b[cp a b]) := decide_eq_decide.2 (by rw [UInt8.lt_iff_toNat_lt]; omega)
        simp only [d1, d2, d3, decide_eq_false p, decide_eq_false q, decide_eq_true (show cp a b < b.length by omega), yA a (cp a b) (by omega), yA b (cp a b) (by omega), d4]
        by_cases z : a[cp a b] < b[cp a b]
        · have z' := UInt8.lt_iff_toNat_lt.1 z
          simp [z, z']
        · have z' : b[cp a b].toNat ≤ a[cp a b].toNat := by rw [UInt8.lt_iff_toNat_lt] at z; omega
          simp [z, z']
      · rw [j2]; split <;> simp [*]
def zdB (l : List aA) (i : Nat) : Prop := ∀ h : i < l.length, chk l[i] = 0 ∧ (∀ h0 : 0 < i, bl l[i - 1].Key l[i].Key = true)
theorem zm6 (l : List aA) (hl : l.length ≤ 1000000000000) (hk : ∀ e ∈ l, e.Key.length ≤ 1000000000000) (m : Nat) : ∀ n : Nat, n + m = l.length →
    ∃ r, Ev (fun fu => qF l fu (n : Int)) r ∧ Ev (fun fu => oN l fu (n : Int)) r ∧
      ((r = .inl () ∧ ∀ i, n ≤ i → zdB l i) ∨ ∃ i : Nat, ∃ c, r = .inr ((i : Int), c) ∧ c ≠ 0) := by
  induction m with
  | zero =>
    intro n hn
    refine ⟨.inl (), Ev.succ (Ev.of (fun fu => ?_) (Ev.ret _)), Ev.succ (Ev.of (fun fu => ?_) (Ev.ret _)), .inl ⟨rfl, fun i hi h => by omega⟩⟩
    · simp [qF, show ¬ (n : Int) < (l.length : Int) by omega]
    · simp [oN, show ¬ (n : Int) < (l.length : Int) by omega]
  | succ m ih =>
    intro n hn
    have hnl : n < l.length := by omega
    have w1 : IntKind.i64.wrap ((n : Int) + 1) = ((n + 1 : Nat) : Int) := by rw [wr (by omega) (by omega)]; rfl
    obtain ⟨r, r1, r2, r3⟩ := ih (n + 1) (by omega)
    by_cases hc : chk l[n] = 0
    · by_cases h0 : 0 < n
      · have w2 : IntKind.i64.wrap ((n : Int) - 1) = ((n - 1 : Nat) : Int) := by rw [wr (by omega) (by omega)]; omega
        have hn1 : n - 1 < l.length := by omega
        obtain ⟨o, o1, o2⟩ := ziL l[n - 1].Key l[n].Key (hk _ (List.getElem_mem hn1))
        cases hb : bl l[n - 1].Key l[n].Key with
        | true =>
          have ho : ¬ 0 ≤ o := by rw [o2, hb]; simp
          have hnb : (Op.bytesLess l[n].Key l[n - 1].Key || l[n].Key == l[n - 1].Key) = false := by
            rw [show Op.bytesLess l[n].Key l[n - 1].Key = false from mK hb]
            have : l[n].Key ≠ l[n - 1].Key := fun e => by rw [e, fG] at hb; cases hb
            simp [this]
          refine ⟨r, Ev.succ (Ev.of (fun fu => ?_) r1), Ev.succ ?_, ?_⟩
          · simp only [qF, xP, hc, w1, w2, yA l n hnl, yA l (n - 1) hn1]
            have hnb' := hnb
            simp only [Bool.or_eq_false_iff, Bool.or_eq_true, beq_iff_eq, beq_eq_false_iff_ne, ne_eq] at hnb'
            simp [hnl, h0, hnb', hc]
          · refine Ev.of (g' := fun fu => (cR fu l[n - 1].Key l[n].Key).bind fun vr35 => if 0 ≤ vr35 then some (.inr ((n : Int), 6)) else oN l fu ((n + 1 : Nat) : Int)) (fun fu => ?_) (Ev.bind o1 ?_)
            · simp only [oN, sW, hc, w1, w2, yA l n hnl, yA l (n - 1) hn1]
              cases hq : cR fu l[n - 1].Key l[n].Key <;> simp [hnl, h0, hc, hq]
            · simp only [if_neg ho]; exact r2
          · rcases r3 with ⟨e, h⟩ | h
            · refine .inl ⟨e, fun i hi hl => ?_⟩
              by_cases q : i = n
              · subst q; exact ⟨hc, fun _ => hb⟩
              · exact h i (by omega) hl
            · exact .inr h
        | false =>
          have ho : 0 ≤ o := by rw [o2, hb]
          have hnb : (Op.bytesLess l[n].Key l[n - 1].Key || l[n].Key == l[n - 1].Key) = true := by
            rcases vR l[n - 1].Key l[n].Key with h | h | h
            · rw [hb] at h; cases h
            · simp [h]
            · simp only [bl] at h; simp [h]
          refine ⟨.inr (n, 6), Ev.succ (Ev.of (fun fu => ?_) (Ev.ret _)), Ev.succ ?_, .inr ⟨n, 6, rfl, by decide⟩⟩
          · simp only [qF, xP, hc, w1, w2, yA l n hnl, yA l (n - 1) hn1]
            have hnb' := hnb
            simp only [Bool.or_eq_false_iff, Bool.or_eq_true, beq_iff_eq, beq_eq_false_iff_ne, ne_eq] at hnb'
            simp [hnl, h0, hnb', hc]
          · refine Ev.of (g' := fun fu => (cR fu l[n - 1].Key l[n].Key).bind fun vr35 => if 0 ≤ vr35 then some (.inr ((n : Int), 6)) else oN l fu ((n + 1 : Nat) : Int)) (fun fu => ?_) (Ev.bind o1 ?_)
            · simp only [oN, sW, hc, w1, w2, yA l n hnl, yA l (n - 1) hn1]
              cases hq : cR fu l[n - 1].Key l[n].Key <;> simp [hnl, h0, hc, hq]
            · simp only [if_pos ho]; exact Ev.ret _
      · obtain rfl : n = 0 := by omega
        refine ⟨r, Ev.succ (Ev.of (fun fu => ?_) r1), Ev.succ (Ev.of (fun fu => ?_) r2), ?_⟩
        · simp only [qF, xP, hc, w1, yA l 0 hnl]
          simp [hnl, hc]
        · simp only [oN, sW, hc, w1, yA l 0 hnl]
          simp [hnl, hc]
        · rcases r3 with ⟨e, h⟩ | h
          · refine .inl ⟨e, fun i hi hl => ?_⟩
            by_cases q : i = 0
            · subst q; exact ⟨hc, fun h => by omega⟩
            · exact h i (by omega) hl
          · exact .inr h
    · refine ⟨.inr (n, chk l[n]), Ev.succ (Ev.of (fun fu => ?_) (Ev.ret _)), Ev.succ (Ev.of (fun fu => ?_) (Ev.ret _)), .inr ⟨n, _, rfl, hc⟩⟩
      · simp only [qF, xP, yA l n hnl]
        simp [hnl, hc]
      · simp only [oN, sW, yA l n hnl]
        simp [hnl, hc]
def zN (l : List aA) : Prop := l.length ≤ 5000 ∧ ∀ i, zdB l i
theorem zcQ (l : List aA) (hk : ∀ e ∈ l, e.Key.length ≤ 1000000000000) :
    ∃ r, Ev (fun fu => pJ fu l) r ∧ Ev (fun fu => uW fu l) r ∧ (r.2 = 0 → zN l) := by
  unfold pJ uW
  by_cases h : 5000 < l.length
  · refine ⟨(-1, 3), Ev.of (fun fu => ?_) (Ev.ret _), Ev.of (fun fu => ?_) (Ev.ret _), by simp⟩ <;>
      rw [if_pos (by simp; omega)]
  · obtain ⟨r, r1, r2, r3⟩ := zm6 l (by omega) hk l.length 0 (by omega)
    have hd : ¬ decide ((5000 : Int) < (l.length : Int)) = true := by simp; omega
    simp only [if_neg hd]
    rcases r3 with ⟨rfl, h3⟩ | ⟨i, c, rfl, hc⟩
    · exact ⟨(0, 0), Ev.bind r1 (Ev.ret _), Ev.bind r2 (Ev.ret _), fun _ => ⟨by omega, fun i => h3 i (by omega)⟩⟩
    · exact ⟨(i, c), Ev.bind r1 (Ev.ret _), Ev.bind r2 (Ev.ret _), fun h => absurd h hc⟩
def tE (runs : List (List aA)) : Prop := ∀ l ∈ runs, ∀ e ∈ l, e.Key.length ≤ 1000000000000
theorem ziQ (runs : List (List aA)) (hf : tE runs) (hl : runs.length ≤ 1000) (m : Nat) : ∀ n : Nat, n + m = runs.length →
    ∃ r, Ev (fun fu => nF runs fu (n : Int)) r ∧ Ev (fun fu => pR runs fu (n : Int)) r ∧
      ((r = .inl () ∧ ∀ i, n ≤ i → ∀ h : i < runs.length, zN runs[i]) ∨ ∃ i : Nat, ∃ c, r = .inr ((i : Int), c) ∧ c ≠ 0) := by
  induction m with
  | zero =>
    intro n hn
    refine ⟨.inl (), Ev.succ (Ev.of (fun fu => ?_) (Ev.ret _)), Ev.succ (Ev.of (fun fu => ?_) (Ev.ret _)), .inl ⟨rfl, fun i hi h => by omega⟩⟩
    · simp [nF, show ¬ (n : Int) < (runs.length : Int) by omega]
    · simp [pR, show ¬ (n : Int) < (runs.length : Int) by omega]
  | succ m ih =>
    intro n hn
    have hnl : n < runs.length := by omega
    have w1 : IntKind.i64.wrap ((n : Int) + 1) = ((n + 1 : Nat) : Int) := by rw [wr (by omega) (by omega)]; rfl
    obtain ⟨r, r1, r2, r3⟩ := ih (n + 1) (by omega)
    obtain ⟨⟨p, c⟩, c1, c2, c3⟩ := zcQ runs[n] (hf _ (List.getElem_mem hnl))
    have f1 : ∀ fu, nF runs (fu + 1) (n : Int) = (pJ fu runs[n]).bind fun vr => if vr.2 = 0 then nF runs fu ((n + 1 : Nat) : Int) else some (.inr ((n : Int), vr.2)) := by
      intro fu
      simp only [nF, w1, yA runs n hnl]
      simp [hnl]
    have f2 : ∀ fu, pR runs (fu + 1) (n : Int) = (uW fu runs[n]).bind fun vr => if vr.2 = 0 then pR runs fu ((n + 1 : Nat) : Int) else some (.inr ((n : Int), vr.2)) := by
      intro fu
      simp only [pR, w1, yA runs n hnl]
      simp [hnl]
    by_cases hc : c = 0
    · subst hc
      refine ⟨r, Ev.succ (Ev.of f1 (Ev.bind c1 r1)), Ev.succ (Ev.of f2 (Ev.bind c2 r2)), ?_⟩
      rcases r3 with ⟨e, h⟩ | h
      · refine .inl ⟨e, fun i hi hl => ?_⟩
        by_cases q : i = n
        · subst q; exact c3 rfl
        · exact h i (by omega) hl
      · exact .inr h
    · refine ⟨.inr (n, c), Ev.succ (Ev.of f1 (Ev.bind c1 ?_)), Ev.succ (Ev.of f2 (Ev.bind c2 ?_)), .inr ⟨n, c, rfl, hc⟩⟩
      · simp only [if_neg hc]; exact Ev.ret _
      · simp only [if_neg hc]; exact Ev.ret _
def zC (runs : List (List aA)) : Prop := 0 < runs.length ∧ runs.length ≤ 32 ∧ ∀ l ∈ runs, zN l
theorem xY (runs : List (List aA)) (hf : tE runs) (hl : runs.length ≤ 1000) :
    ∃ r, Ev (fun fu => zJ fu runs) r ∧ Ev (fun fu => fU fu runs) r ∧ ((r = (0, 0) ∧ zC runs) ∨ r.2 ≠ 0) := by
  unfold zJ fU
  by_cases h : runs.length = 0
  · refine ⟨(-1, 6), Ev.of (fun fu => ?_) (Ev.ret _), Ev.of (fun fu => ?_) (Ev.ret _), .inr (by simp)⟩ <;> simp [h]
  · by_cases h2 : 32 < runs.length
    · refine ⟨(-1, 3), Ev.of (fun fu => ?_) (Ev.ret _), Ev.of (fun fu => ?_) (Ev.ret _), .inr (by simp)⟩ <;>
        rw [if_neg (by simp; intro e; simp [e] at h), if_pos (by simp; omega)]
    · obtain ⟨r, r1, r2, r3⟩ := ziQ runs hf hl runs.length 0 (by omega)
      have e1 : ¬ decide ((runs.length : Int) = 0) = true := by simp; intro e; simp [e] at h
      have e2 : ¬ decide ((32 : Int) < (runs.length : Int)) = true := by simp; omega
      simp only [if_neg e1, if_neg e2]
      rcases r3 with ⟨rfl, h3⟩ | ⟨i, c, rfl, hc⟩
      · refine ⟨(0, 0), Ev.bind r1 (Ev.ret _), Ev.bind r2 (Ev.ret _), .inl ⟨rfl, by omega, by omega, fun l hl => ?_⟩⟩
        obtain ⟨i, hi, rfl⟩ := List.mem_iff_getElem.1 hl
        exact h3 i (by omega) hi
      · exact ⟨(i, c), Ev.bind r1 (Ev.ret _), Ev.bind r2 (Ev.ret _), .inr hc⟩
def lt (keys : List cA) (p q : Nat) : Bool :=
  match keys[p]?, keys[q]? with
  | some a, some b => if a.Done ≠ b.Done then b.Done else if a.Key ≠ b.Key then bl a.Key b.Key else decide (p < q)
  | _, _ => false
def zI (keys : List cA) : Prop := ∀ k ∈ keys, k.Done = true → k.Key = []
theorem zcf (fu : Nat) (keys : List cA) (p q : Nat) (hp : p < keys.length) (hq : q < keys.length) : lN fu p q keys = some (lt keys p q) := by
  simp only [lN, yA keys p hp, yA keys q hq, lt, List.getElem?_eq_getElem hp, List.getElem?_eq_getElem hq]
  by_cases h1 : keys[p].Done = keys[q].Done <;> by_cases h2 : keys[p].Key = keys[q].Key <;> simp [h1, h2, bl]
theorem zjq (fu : Nat) (keys : List cA) (hpl : zI keys) (p q : Nat) (hp : p < keys.length) (hq : q < keys.length) : zbn fu keys p q = some (lt keys p q) := by
  simp only [zbn, yA keys p hp, yA keys q hq, lt, List.getElem?_eq_getElem hp, List.getElem?_eq_getElem hq]
  have k1 := hpl _ (List.getElem_mem hp)
  have k2 := hpl _ (List.getElem_mem hq)
  cases d1 : keys[p].Done <;> cases d2 : keys[q].Done
  · by_cases h2 : keys[p].Key = keys[q].Key <;> simp [d1, d2, h2, bl]
  · simp [d1, d2]
  · simp [d1, d2]
  · have : keys[p].Key = keys[q].Key := by rw [k1 d1, k2 d2]
    simp [d1, d2, this]
theorem lZ (keys : List cA) (p q : Nat) (hp : p < keys.length) (hq : q < keys.length) (h : p ≠ q) : lt keys q p = !lt keys p q := by
  simp only [lt, List.getElem?_eq_getElem hp, List.getElem?_eq_getElem hq]
  by_cases d : keys[p].Done = keys[q].Done
  · by_cases k : keys[p].Key = keys[q].Key
    · simp [d, k]
      by_cases z : p < q
      · simp [z]; omega
      · simp [z]; omega
    · have k' : ¬ keys[q].Key = keys[p].Key := fun e => k e.symm
      simp only [ne_eq, d, k, k', not_true_eq_false, not_false_eq_true, ↓reduceIte]
      rcases vR keys[p].Key keys[q].Key with h | h | h
      · rw [h, mK h]; rfl
      · exact absurd h k
      · rw [h, mK h]; rfl
  · have d' : ¬ keys[q].Done = keys[p].Done := fun e => d e.symm
    simp only [ne_eq, d, d', not_false_eq_true, ↓reduceIte]
    cases h1 : keys[p].Done <;> cases h2 : keys[q].Done <;> simp_all
def pl (keys : List cA) : Nat → Nat → Nat × Nat
  | 0, node => (node - keys.length, 0)
  | k + 1, node => if keys.length ≤ node then (node - keys.length, 0) else
    let a := (pl keys k (2 * node)).1
    let b := (pl keys k (2 * node + 1)).1
    if lt keys a b then (a, b) else (b, a)
theorem ziU (keys : List cA) : ∀ k k' node, 1 ≤ node → keys.length - node ≤ k → keys.length - node ≤ k' → pl keys k node = pl keys k' node := by
  intro k
  induction k with
  | zero =>
    intro k' node h1 h2 h3
    cases k' with
    | zero => rfl
    | succ k' => simp only [pl]; rw [if_pos (by omega)]
  | succ k ih =>
    intro k' node h1 h2 h3
    cases k' with
    | zero => simp only [pl]; rw [if_pos (by omega)]
    | succ k' =>
      simp only [pl]
      by_cases h : keys.length ≤ node
      · rw [if_pos h, if_pos h]
      · rw [if_neg h, if_neg h, ih k' (2 * node) (by omega) (by omega) (by omega), ih k' (2 * node + 1) (by omega) (by omega) (by omega)]
def nd (keys : List cA) (node : Nat) : Nat × Nat := pl keys keys.length node
theorem sJ (keys : List cA) (node : Nat) (h : keys.length ≤ node) : nd keys node = (node - keys.length, 0) := by
  unfold nd
  cases hk : keys.length with
  | zero => simp [pl, hk]
  | succ n => simp only [pl]; rw [if_pos h, hk]
theorem wO (keys : List cA) (node : Nat) (h1 : 1 ≤ node) (h : node < keys.length) :
    nd keys node = if lt keys (nd keys (2 * node)).1 (nd keys (2 * node + 1)).1 then ((nd keys (2 * node)).1, (nd keys (2 * node + 1)).1) else ((nd keys (2 * node + 1)).1, (nd keys (2 * node)).1) := by
  have e1 : nd keys node = pl keys (keys.length + 1) node := ziU keys _ _ node h1 (by omega) (by omega)
  rw [e1]
  simp only [pl]
  rw [if_neg (by omega)]
  rfl
theorem nd_lt (keys : List cA) (m : Nat) : ∀ node, 1 ≤ node → node < 2 * keys.length → keys.length - node ≤ m → (nd keys node).1 < keys.length ∧ (nd keys node).2 < keys.length := by
  induction m with
  | zero =>
    intro node h1 h2 h3
    rw [sJ keys node (by omega)]
    simp only
    omega
  | succ m ih =>
    intro node h1 h2 h3
    by_cases h : keys.length ≤ node
    · rw [sJ keys node h]; simp only; omega
    · rw [wO keys node h1 (by omega)]
      have a := ih (2 * node) (by omega) (by omega) (by omega)
      have b := ih (2 * node + 1) (by omega) (by omega) (by omega)
      split
      · exact ⟨a.1, b.1⟩
      · exact ⟨b.1, a.1⟩
theorem oK (keys : List cA) (node : Nat) (h1 : 1 ≤ node) (h2 : node < 2 * keys.length) : (nd keys node).1 < keys.length ∧ (nd keys node).2 < keys.length :=
  nd_lt keys _ node h1 h2 (Nat.le_refl _)
theorem zb9 (keys : List cA) (hpl : zI keys) (hl : keys.length ≤ 1000000) (m : Nat) : ∀ node : Nat, 1 ≤ node → node < 2 * keys.length → keys.length - node ≤ m →
    Ev (fun fu => tP fu keys (node : Int)) (((nd keys node).1 : Int), ((nd keys node).2 : Int)) := by
  induction m with
  | zero =>
    intro node h1 h2 h3
    rw [sJ keys node (by omega)]
    refine Ev.succ (Ev.of (fun fu => ?_) (Ev.ret _))
    simp only [tP]
    rw [if_pos (by simp; omega), wr (by omega) (by omega)]
    congr 2
    omega
  | succ m ih =>
    intro node h1 h2 h3
    by_cases h : keys.length ≤ node
    · rw [sJ keys node h]
      refine Ev.succ (Ev.of (fun fu => ?_) (Ev.ret _))
      simp only [tP]
      rw [if_pos (by simp; omega), wr (by omega) (by omega)]
      congr 2
      omega
    · have a := ih (2 * node) (by omega) (by omega) (by omega)
      have b := ih (2 * node + 1) (by omega) (by omega) (by omega)
      have ka := oK keys (2 * node) (by omega) (by omega)
      have kb := oK keys (2 * node + 1) (by omega) (by omega)
      refine Ev.succ ?_
      simp only [tP]
      have w1 : IntKind.i64.wrap (2 * (node : Int)) = ((2 * node : Nat) : Int) := by rw [wr (by omega) (by omega)]; omega
      have w2 : IntKind.i64.wrap (((2 * node : Nat) : Int) + 1) = ((2 * node + 1 : Nat) : Int) := by rw [wr (by omega) (by omega)]; omega
      simp only [w1, w2]
      rw [show (decide ((keys.length : Int) ≤ (node : Int))) = false by simp; omega]
      simp only [Bool.false_eq_true, ↓reduceIte]
      refine Ev.bind a (Ev.bind b (Ev.of (fun fu => ?_) (Ev.ret _)))
      simp only [zjq fu keys hpl _ _ ka.1 kb.1, Option.bind_some]
      rw [wO keys node h1 (by omega)]
      split <;> rfl
def pf (keys : List cA) (i : Nat) : List Int := (List.range (2 * keys.length)).map fun j => if i < j then ((nd keys j).1 : Int) else 0
def lf (keys : List cA) (i : Nat) : List Int := (List.range keys.length).map fun j => if i < j then ((nd keys j).2 : Int) else 0
theorem kS (keys : List cA) (i : Nat) : (pf keys i).length = 2 * keys.length := by simp [pf]
theorem tH (keys : List cA) (i : Nat) : (lf keys i).length = keys.length := by simp [lf]
theorem kU (keys : List cA) (i j : Nat) (h : j < (pf keys i).length) : (pf keys i)[j] = if i < j then ((nd keys j).1 : Int) else 0 := by simp [pf]
theorem dO (keys : List cA) (i j : Nat) (h : j < (lf keys i).length) : (lf keys i)[j] = if i < j then ((nd keys j).2 : Int) else 0 := by simp [lf]
theorem vZ (keys : List cA) (i : Nat) : (pf keys (i + 1)).set (i + 1) ((nd keys (i + 1)).1 : Int) = pf keys i := by
  refine List.ext_getElem (by simp [kS]) fun j h1 h2 => ?_
  rw [List.getElem_set, kU]
  split
  · rename_i e; subst e; rw [kU, if_pos (by omega)]
  · rename_i e; rw [kU]
    by_cases h : i < j
    · rw [if_pos h, if_pos (by omega)]
    · rw [if_neg h, if_neg (by omega)]
theorem zcU (keys : List cA) (i : Nat) : (lf keys (i + 1)).set (i + 1) ((nd keys (i + 1)).2 : Int) = lf keys i := by
  refine List.ext_getElem (by simp [tH]) fun j h1 h2 => ?_
  rw [List.getElem_set, dO]
  split
  · rename_i e; subst e; rw [dO, if_pos (by omega)]
  · rename_i e; rw [dO]
    by_cases h : i < j
    · rw [if_pos h, if_pos (by omega)]
    · rw [if_neg h, if_neg (by omega)]
theorem zlM (keys : List cA) (i : Nat) (hn : keys.length ≤ i + 1) : lf keys (i + 1) = lf keys i := by
  refine List.ext_getElem (by simp [tH]) fun j h1 h2 => ?_
  rw [tH] at h1
  rw [dO, dO, if_neg (by omega), if_neg (by omega)]
theorem zow (keys : List cA) (hl : keys.length ≤ 1000000) : ∀ i : Nat, i < 2 * keys.length → Ev (fun fu => xG keys keys fu (i : Int) (pf keys i) (lf keys i)) (pf keys 0, lf keys 0) := by
  intro i
  induction i with
  | zero =>
    intro _
    refine Ev.succ (Ev.of (fun fu => ?_) (Ev.ret _))
    simp [xG]
  | succ i ih =>
    intro hi
    have hi' := ih (by omega)
    refine Ev.succ (Ev.of (fun fu => ?_) hi')
    have w1 : IntKind.i64.wrap (((i + 1 : Nat) : Int) - 1) = (i : Int) := by rw [wr (by omega) (by omega)]; omega
    have t1 : (((i + 1 : Nat) : Int)).toNat = i + 1 := rfl
    have p0 : decide ((0 : Int) < ((i + 1 : Nat) : Int)) = true := decide_eq_true (by omega)
    simp only [xG, p0, ↓reduceIte, w1, t1]
    rw [yA (pf keys (i + 1)) (i + 1) (by rw [kS]; omega)]
    simp only [Option.bind_some]
    by_cases h : keys.length ≤ i + 1
    · have d : decide ((keys.length : Int) ≤ ((i + 1 : Nat) : Int)) = true := by simp; omega
      simp only [d, ↓reduceIte]
      have e : IntKind.i64.wrap (((i + 1 : Nat) : Int) - (keys.length : Int)) = ((nd keys (i + 1)).1 : Int) := by
        rw [wr (by omega) (by omega), sJ keys (i + 1) h]; simp only; omega
      rw [e, vZ, zlM keys i h]
    · have d : decide ((keys.length : Int) ≤ ((i + 1 : Nat) : Int)) = false := by simp; omega
      have w2 : IntKind.i64.wrap (2 * ((i + 1 : Nat) : Int)) = ((2 * (i + 1) : Nat) : Int) := by rw [wr (by omega) (by omega)]; omega
      have w3 : IntKind.i64.wrap (((2 * (i + 1) : Nat) : Int) + 1) = ((2 * (i + 1) + 1 : Nat) : Int) := by rw [wr (by omega) (by omega)]; omega
      simp only [d, Bool.false_eq_true, ↓reduceIte, w2, w3]
      rw [yA (pf keys (i + 1)) (2 * (i + 1)) (by rw [kS]; omega), yA (pf keys (i + 1)) (2 * (i + 1) + 1) (by rw [kS]; omega), yA (lf keys (i + 1)) (i + 1) (by rw [tH]; omega)]
      simp only [Option.bind_some, kU, show i + 1 < 2 * (i + 1) by omega, show i + 1 < 2 * (i + 1) + 1 by omega, ↓reduceIte]
      rw [zcf fu keys _ _ (oK keys (2 * (i + 1)) (by omega) (by omega)).1 (oK keys (2 * (i + 1) + 1) (by omega) (by omega)).1]
      simp only [Option.bind_some]
      have hn := wO keys (i + 1) (by omega) (by omega)
      cases hlt : lt keys (nd keys (2 * (i + 1))).1 (nd keys (2 * (i + 1) + 1)).1 with
      | true =>
        rw [hlt] at hn
        simp only [↓reduceIte] at hn
        simp only [Bool.not_true, Bool.false_eq_true, ↓reduceIte]
        rw [← vZ keys i, ← zcU keys i, hn]
      | false =>
        rw [hlt] at hn
        simp only [Bool.false_eq_true, ↓reduceIte] at hn
        simp only [Bool.not_false, ↓reduceIte]
        rw [← vZ keys i, ← zcU keys i, hn]
def yC (keys : List cA) : zA := ⟨keys, lf keys 0, ((nd keys 1).1 : Int)⟩
theorem zdl (keys : List cA) (h0 : 0 < keys.length) (hl : keys.length ≤ 1000000) : Ev (fun fu => vO fu keys) (yC keys) := by
  have w1 : IntKind.i64.wrap (2 * (keys.length : Int)) = ((2 * keys.length : Nat) : Int) := by rw [wr (by omega) (by omega)]; omega
  have w2 : IntKind.i64.wrap (((2 * keys.length : Nat) : Int) - 1) = ((2 * keys.length - 1 : Nat) : Int) := by rw [wr (by omega) (by omega)]; omega
  have hne : keys.isEmpty = false := by cases keys; simp at h0; rfl
  simp only [vO, zM, tR, Option.bind_some, w1, w2, hne, Bool.false_eq_true, ↓reduceIte]
  have g1 : (0 : Int) ≤ ((2 * keys.length : Nat) : Int) ∧ ((2 * keys.length : Nat) : Int) ≤ ((2 * keys.length : Nat) : Int) ∧ ((2 * keys.length : Nat) : Int) ≤ 9223372036854775807 ∧ 8 * ((2 * keys.length : Nat) : Int) ≤ 281474976710656 := by omega
  have g2 : 2 * ((0 + keys.length) * 24) ≤ 281474976710656 := by omega
  have g3 : (0 : Int) ≤ (keys.length : Int) ∧ (keys.length : Int) ≤ (keys.length : Int) ∧ (keys.length : Int) ≤ 9223372036854775807 ∧ 8 * (keys.length : Int) ≤ 281474976710656 := by omega
  simp only [if_pos g1, if_pos g2, if_pos g3, Option.bind_some]
  have q1 : (List.replicate ((2 * keys.length : Nat) : Int).toNat 0 : List Int) = pf keys (2 * keys.length - 1) := by
    refine List.ext_getElem (by rw [kS, List.length_replicate]; omega) fun j h1 h2 => ?_
    rw [kS] at h2
    rw [kU, if_neg (by omega)]; simp
  have q2 : (List.replicate keys.length 0 : List Int) = lf keys (2 * keys.length - 1) := by
    refine List.ext_getElem (by simp [tH]) fun j h1 h2 => ?_
    rw [tH] at h2
    rw [dO, if_neg (by omega)]; simp
  rw [q1, q2]
  refine Ev.bind (zow keys hl _ (by omega)) (Ev.of (fun fu => ?_) (Ev.ret _))
  simp only
  rw [show (1 : Int) = ((1 : Nat) : Int) from rfl, yA (pf keys 0) 1 (by rw [kS]; omega)]
  simp only [Option.bind_some, kU, Nat.lt_one_iff, ↓reduceIte, yC]
theorem zfZ (keys : List cA) (hpl : zI keys) (hl : keys.length ≤ 1000000) (m : Nat) : ∀ n : Nat, n + m = keys.length → Ev (fun fu => eI keys fu (n : Int)) (.inl ()) := by
  induction m with
  | zero =>
    intro n hn
    refine Ev.succ (Ev.of (fun fu => ?_) (Ev.ret _))
    simp [eI, show ¬ (n : Int) < (keys.length : Int) by omega]
  | succ m ih =>
    intro n hn
    have hnl : n < keys.length := by omega
    have w1 : IntKind.i64.wrap ((n : Int) + 1) = ((n + 1 : Nat) : Int) := by rw [wr (by omega) (by omega)]; rfl
    refine Ev.succ (Ev.of (fun fu => ?_) (ih (n + 1) (by omega)))
    simp only [eI, yR, w1, yA keys n hnl]
    have k1 := hpl _ (List.getElem_mem hnl)
    have d : decide ((n : Int) < (keys.length : Int)) = true := decide_eq_true (by omega)
    cases h : keys[n].Done with
    | false => simp [h, hnl, -Int.natCast_add]
    | true => simp [h, hnl, k1 h, -Int.natCast_add]
theorem zaM (keys : List cA) (hpl : zI keys) (h0 : 0 < keys.length) (hl : keys.length ≤ 32) : Ev (fun fu => rK fu keys) 0 := by
  have d1 : decide ((keys.length : Int) = 0) = false := decide_eq_false (by omega)
  have d2 : decide ((32 : Int) < (keys.length : Int)) = false := decide_eq_false (by omega)
  simp only [rK, dS, sR, d1, d2, Bool.false_eq_true, ↓reduceIte]
  refine Ev.bind (a := false) (Ev.bind (a := (-1 : Int)) (Ev.bind (zfZ keys hpl (by omega) keys.length 0 (by omega)) (Ev.ret _)) (Ev.of (fun fu => ?_) (Ev.ret _))) (Ev.of (fun fu => ?_) (Ev.ret _))
  · rfl
  · rfl
theorem zm4 (keys : List cA) (hpl : zI keys) (h0 : 0 < keys.length) (hl : keys.length ≤ 32) : Ev (fun fu => gQ fu keys) (yC keys, 0) := by
  unfold gQ
  refine Ev.bind (zaM keys hpl h0 hl) ?_
  simp only [decide_true, Bool.not_true, Bool.false_eq_true, ↓reduceIte]
  exact Ev.bind (zdl keys h0 (by omega)) (Ev.ret _)
theorem zi8 (keys : List cA) (hpl : zI keys) (hl : keys.length ≤ 1000000) (m : Nat) : ∀ n : Nat, n + m = keys.length → Ev (fun fu => kV keys fu (n : Int)) (.inl ()) := by
  induction m with
  | zero =>
    intro n hn
    refine Ev.succ (Ev.of (fun fu => ?_) (Ev.ret _))
    simp [kV, show ¬ (n : Int) < (keys.length : Int) by omega]
  | succ m ih =>
    intro n hn
    have hnl : n < keys.length := by omega
    have w1 : IntKind.i64.wrap ((n : Int) + 1) = ((n + 1 : Nat) : Int) := by rw [wr (by omega) (by omega)]; rfl
    refine Ev.succ (Ev.of (fun fu => ?_) (ih (n + 1) (by omega)))
    simp only [kV, w1, yA keys n hnl]
    have k1 := hpl _ (List.getElem_mem hnl)
    have d : decide ((n : Int) < (keys.length : Int)) = true := decide_eq_true (by omega)
    cases h : keys[n].Done with
    | false => simp [h, hnl, -Int.natCast_add]
    | true => simp [h, hnl, k1 h, -Int.natCast_add]
def uf (keys : List cA) (i : Nat) : List Int := (List.range keys.length).map fun j => if 0 < j ∧ j < i then ((nd keys j).2 : Int) else 0
theorem dU (keys : List cA) (i : Nat) : (uf keys i).length = keys.length := by simp [uf]
theorem gW (keys : List cA) (i j : Nat) (h : j < (uf keys i).length) : (uf keys i)[j] = if 0 < j ∧ j < i then ((nd keys j).2 : Int) else 0 := by simp [uf]
theorem uf_set (keys : List cA) (i : Nat) (hi : 0 < i) : (uf keys i).set i ((nd keys i).2 : Int) = uf keys (i + 1) := by
  refine List.ext_getElem (by simp [dU]) fun j h1 h2 => ?_
  rw [List.getElem_set, gW]
  split
  · rename_i e; subst e; rw [gW, if_pos (by omega)]
  · rename_i e; rw [gW]
    by_cases h : 0 < j ∧ j < i
    · rw [if_pos h, if_pos (by omega)]
    · rw [if_neg h, if_neg (by omega)]
theorem zhP (keys : List cA) (hpl : zI keys) (hl : keys.length ≤ 1000000) (m : Nat) : ∀ n : Nat, 0 < n → n + m = keys.length → Ev (fun fu => cW keys fu (n : Int) (uf keys n)) (uf keys keys.length) := by
  induction m with
  | zero =>
    intro n h0 hn
    obtain rfl : n = keys.length := by omega
    refine Ev.succ (Ev.of (fun fu => ?_) (Ev.ret _))
    simp [cW]
  | succ m ih =>
    intro n h0 hn
    have hnl : n < keys.length := by omega
    have w1 : IntKind.i64.wrap ((n : Int) + 1) = ((n + 1 : Nat) : Int) := by rw [wr (by omega) (by omega)]; rfl
    have d : decide ((n : Int) < (keys.length : Int)) = true := decide_eq_true (by omega)
    refine Ev.succ ?_
    simp only [cW, w1, d, ↓reduceIte]
    refine Ev.bind (zb9 keys hpl hl keys.length n h0 (by omega) (by omega)) (Ev.of (fun fu => ?_) (ih (n + 1) (by omega) (by omega)))
    rw [yA (uf keys n) n (by rw [dU]; omega)]
    simp only [Option.bind_some, Int.toNat_natCast]
    rw [uf_set keys n h0]
theorem znP (keys : List cA) (hpl : zI keys) (h0 : 0 < keys.length) (hl : keys.length ≤ 1000000) : Ev (fun fu => qZ fu keys) (yC keys) := by
  have g2 : 2 * ((0 + keys.length) * 24) ≤ 281474976710656 := by omega
  have g3 : (0 : Int) ≤ (keys.length : Int) ∧ (keys.length : Int) ≤ (keys.length : Int) ∧ (keys.length : Int) ≤ 9223372036854775807 ∧ 8 * (keys.length : Int) ≤ 281474976710656 := by omega
  simp only [qZ, if_pos g2, if_pos g3]
  have q2 : (List.replicate keys.length 0 : List Int) = uf keys 1 := by
    refine List.ext_getElem (by simp [dU]) fun j h1 h2 => ?_
    rw [dU] at h2
    rw [gW, if_neg (by omega)]; simp
  have q3 : uf keys keys.length = lf keys 0 := by
    refine List.ext_getElem (by simp [dU, tH]) fun j h1 h2 => ?_
    rw [dU] at h1
    rw [gW, dO]
    by_cases h : 0 < j
    · rw [if_pos ⟨h, h1⟩, if_pos h]
    · rw [if_neg (by omega), if_neg h]
  rw [q2]
  have a := zhP keys hpl hl (keys.length - 1) 1 (by omega) (by omega)
  have b := zb9 keys hpl hl keys.length 1 (by omega) (by omega) (by omega)
  refine Ev.bind a (Ev.bind b (Ev.of (fun fu => ?_) (Ev.ret _)))
  rw [q3]; rfl
theorem zhD (keys : List cA) (hpl : zI keys) (h0 : 0 < keys.length) (hl : keys.length ≤ 32) : Ev (fun fu => zaK fu keys) (yC keys, 0) := by
  unfold zaK
  have hr : Ev (fun fu => tZ fu keys) 0 := by
    have d1 : decide ((keys.length : Int) = 0) = false := decide_eq_false (by omega)
    have d2 : decide ((32 : Int) < (keys.length : Int)) = false := decide_eq_false (by omega)
    simp only [tZ, d1, d2, Bool.false_eq_true, ↓reduceIte]
    exact Ev.bind (zi8 keys hpl (by omega) keys.length 0 (by omega)) (Ev.ret _)
  refine Ev.bind hr ?_
  simp only [decide_true, Bool.not_true, Bool.false_eq_true, ↓reduceIte]
  exact Ev.bind (znP keys hpl h0 (by omega)) (Ev.ret _)
def jF (l : List aA) (a : Nat) : cA := match l[a]? with | some e => ⟨e.Key, false⟩ | none => ⟨[], true⟩
def tB (runs : List (List aA)) (at' : List Nat) : List cA := (List.range runs.length).map fun i => jF (runs[i]?.getD []) (at'[i]?.getD 0)
theorem yD (runs : List (List aA)) (a : List Nat) : (tB runs a).length = runs.length := by simp [tB]
theorem gR (runs : List (List aA)) (a : List Nat) (i : Nat) (h : i < (tB runs a).length) (h1 : i < runs.length) (h2 : i < a.length) : (tB runs a)[i] = jF runs[i] a[i] := by simp [tB, h1, h2]
theorem zcn (l : List aA) (a : Nat) : (jF l a).Done = true → (jF l a).Key = [] := by
  unfold jF; split <;> simp
theorem vT (runs : List (List aA)) (a : List Nat) : zI (tB runs a) := by
  intro k hk
  simp only [tB, List.mem_map] at hk
  obtain ⟨i, -, rfl⟩ := hk
  exact zcn _ _
def At (runs : List (List aA)) (a : List Nat) : Prop := a.length = runs.length ∧ ∀ i (h : i < runs.length) (h2 : i < a.length), a[i] ≤ runs[i].length
def qB (a : List Nat) : List Int := a.map fun (n : Nat) => (n : Int)
theorem yF (a : List Nat) : (qB a).length = a.length := by simp [qB]
theorem fF (a : List Nat) (i : Nat) (h : i < a.length) : ix (qB a) (i : Int) = some ((a[i] : Nat) : Int) := by
  rw [yA (qB a) i (by rw [yF]; exact h)]; simp [qB]
theorem zao (fu : Nat) (l : List aA) (a : Nat) (h : a ≤ l.length) : dJ fu l (a : Int) = some (jF l a) := by
  unfold dJ jF
  by_cases e : a = l.length
  · subst e; simp
  · have hl : a < l.length := by omega
    have d : decide ((a : Int) = (l.length : Int)) = false := decide_eq_false (by omega)
    rw [d, yA l a hl]; simp [hl]
def kf (runs : List (List aA)) (a : List Nat) (n : Nat) : List cA := (List.range runs.length).map fun i => if i < n then jF (runs[i]?.getD []) (a[i]?.getD 0) else ⟨[], false⟩
theorem zV (runs : List (List aA)) (a : List Nat) (n : Nat) : (kf runs a n).length = runs.length := by simp [kf]
theorem kf_set (runs : List (List aA)) (a : List Nat) (n : Nat) (h1 : n < runs.length) (h2 : n < a.length) : (kf runs a n).set n (jF runs[n] a[n]) = kf runs a (n + 1) := by
  refine List.ext_getElem (by simp [zV]) fun j k1 k2 => ?_
  rw [List.getElem_set]
  simp only [kf, List.getElem_map, List.getElem_range]
  split
  · rename_i e; subst e; simp [h1, h2]
  · rename_i e
    by_cases h : j < n
    · rw [if_pos h, if_pos (by omega)]
    · rw [if_neg h, if_neg (by omega)]
theorem zoh (runs : List (List aA)) (a : List Nat) (ha : At runs a) (hl : runs.length ≤ 1000000) (m : Nat) : ∀ n : Nat, n + m = runs.length →
    Ev (fun fu => zH runs (qB a) fu (n : Int) (kf runs a n)) (tB runs a) := by
  induction m with
  | zero =>
    intro n hn
    have : kf runs a n = tB runs a := by
      refine List.ext_getElem (by simp [zV, yD]) fun j h1 h2 => ?_
      rw [zV] at h1
      simp only [kf, tB, List.getElem_map, List.getElem_range]
      rw [if_pos (by omega)]
    rw [this]
    refine Ev.succ (Ev.of (fun fu => ?_) (Ev.ret _))
    simp [zH, show ¬ (n : Int) < (runs.length : Int) by omega]
  | succ m ih =>
    intro n hn
    have hnl : n < runs.length := by omega
    have hna : n < a.length := by rw [ha.1]; exact hnl
    have w1 : IntKind.i64.wrap ((n : Int) + 1) = ((n + 1 : Nat) : Int) := by rw [wr (by omega) (by omega)]; rfl
    have d : decide ((n : Int) < (runs.length : Int)) = true := decide_eq_true (by omega)
    refine Ev.succ (Ev.of (fun fu => ?_) (ih (n + 1) (by omega)))
    simp only [zH, w1, d, ↓reduceIte, yA runs n hnl, fF a n hna, Option.bind_some, zao fu runs[n] a[n] (ha.2 n hnl hna)]
    rw [yA (kf runs a n) n (by rw [zV]; exact hnl)]
    simp only [Option.bind_some, Int.toNat_natCast]
    rw [kf_set runs a n hnl hna]
theorem ze2 (runs : List (List aA)) (a : List Nat) (ha : At runs a) (h0 : 0 < runs.length) (hl : runs.length ≤ 32) : Ev (fun fu => tN fu runs (qB a)) (yC (tB runs a)) := by
  have g3 : (0 : Int) ≤ (runs.length : Int) ∧ (runs.length : Int) ≤ (runs.length : Int) ∧ (runs.length : Int) ≤ 9223372036854775807 ∧ 24 * (runs.length : Int) ≤ 281474976710656 := by omega
  simp only [tN, if_pos g3]
  have q : (List.replicate runs.length (cA.mk [] false) : List cA) = kf runs a 0 := by
    refine List.ext_getElem (by simp [zV]) fun j h1 h2 => ?_
    simp [kf]
  rw [q]
  refine Ev.bind (zoh runs a ha (by omega) runs.length 0 (by omega)) ?_
  refine Ev.bind (zm4 (tB runs a) (vT runs a) (by rw [yD]; exact h0) (by rw [yD]; exact hl)) (Ev.ret _)
theorem zoF (runs : List (List aA)) (a : List Nat) (n : Nat) (h1 : n < runs.length) (h2 : n < a.length) : (tB runs a).take (n + 1) = (tB runs a).take n ++ [jF runs[n] a[n]] := by
  rw [List.take_succ_eq_append_getElem (by rw [yD]; exact h1), gR runs a n _ h1 h2]
theorem zn1 (runs : List (List aA)) (a : List Nat) (ha : At runs a) (hl : runs.length ≤ 1000000) (m : Nat) : ∀ n : Nat, n + m = runs.length →
    Ev (fun fu => gT runs (qB a) fu (n : Int) ((tB runs a).take n)) (tB runs a) := by
  induction m with
  | zero =>
    intro n hn
    rw [List.take_of_length_le (by rw [yD]; omega)]
    refine Ev.succ (Ev.of (fun fu => ?_) (Ev.ret _))
    simp [gT, show ¬ (n : Int) < (runs.length : Int) by omega]
  | succ m ih =>
    intro n hn
    have hnl : n < runs.length := by omega
    have hna : n < a.length := by rw [ha.1]; exact hnl
    have w1 : IntKind.i64.wrap ((n : Int) + 1) = ((n + 1 : Nat) : Int) := by rw [wr (by omega) (by omega)]; rfl
    have d : decide ((n : Int) < (runs.length : Int)) = true := decide_eq_true (by omega)
    have hg : 2 * ((((tB runs a).take n).length + 1) * 24) ≤ 281474976710656 := by rw [List.length_take, yD]; omega
    have hle := ha.2 n hnl hna
    refine Ev.succ (Ev.of (fun fu => ?_) (ih (n + 1) (by omega)))
    simp only [gT, w1, d, ↓reduceIte, yA runs n hnl, fF a n hna, Option.bind_some, if_pos hg]
    rw [zoF runs a n hnl hna]
    by_cases e : a[n] = runs[n].length
    · have d2 : decide (((a[n] : Nat) : Int) = (runs[n].length : Int)) = true := decide_eq_true (by omega)
      simp only [d2, Bool.not_true, Bool.false_eq_true, ↓reduceIte]
      simp [jF, e]
    · have d2 : decide (((a[n] : Nat) : Int) = (runs[n].length : Int)) = false := decide_eq_false (by omega)
      have hlt : a[n] < runs[n].length := by omega
      simp only [d2, Bool.not_false, ↓reduceIte, yA runs[n] a[n] hlt, Option.bind_some]
      simp [jF, hlt]
theorem uU (runs : List (List aA)) (a : List Nat) (ha : At runs a) (h0 : 0 < runs.length) (hl : runs.length ≤ 32) : Ev (fun fu => eV fu runs (qB a)) ⟨runs, qB a, yC (tB runs a)⟩ := by
  have g1 : 2 * ((0 + runs.length) * 24) ≤ 281474976710656 := by omega
  have g2 : 2 * ((0 + (qB a).length) * 8) ≤ 281474976710656 := by rw [yF, ha.1]; omega
  simp only [eV, if_pos g1, if_pos g2]
  refine Ev.bind (a := tB runs a) ?_ ?_
  · have := zn1 runs a ha (by omega) runs.length 0 (by omega)
    simpa using this
  · exact Ev.bind (zhD (tB runs a) (vT runs a) (by rw [yD]; exact h0) (by rw [yD]; exact hl)) (Ev.ret _)
def gC (runs : List (List aA)) (a : List Nat) : gB := ⟨runs, qB a, yC (tB runs a)⟩
def cE (runs : List (List aA)) : List Nat := List.replicate runs.length 0
theorem wL (runs : List (List aA)) : At runs (cE runs) := ⟨by simp [cE], fun i h h2 => by simp [cE]⟩
theorem cV (runs : List (List aA)) : (List.replicate runs.length 0 : List Int) = qB (cE runs) := by simp [qB, cE]
def qV : gB := ⟨[], [], ⟨[], [], 0⟩⟩
theorem zbc (runs : List (List aA)) (hf : tE runs) (hl : runs.length ≤ 1000) :
    ∃ r, Ev (fun fu => cI fu runs) r ∧ Ev (fun fu => mO fu runs) r ∧ ((zC runs ∧ r = (gC runs (cE runs), 0, 0)) ∨ (r.1 = qV ∧ r.2.2 ≠ 0)) := by
  obtain ⟨⟨p, c⟩, r1, r2, r3⟩ := xY runs hf hl
  rcases r3 with ⟨e, hg⟩ | hc
  · cases e
    obtain ⟨h0, h32, hr⟩ := hg
    have g3 : (0 : Int) ≤ (runs.length : Int) ∧ (runs.length : Int) ≤ (runs.length : Int) ∧ (runs.length : Int) ≤ 9223372036854775807 ∧ 8 * (runs.length : Int) ≤ 281474976710656 := by omega
    have g2 : 2 * ((0 + runs.length) * 24) ≤ 281474976710656 := by omega
    have hne : runs.isEmpty = false := by cases runs; simp at h0; rfl
    refine ⟨(gC runs (cE runs), 0, 0), ?_, ?_, .inl ⟨⟨h0, h32, hr⟩, rfl⟩⟩
    · unfold cI
      refine Ev.bind r1 ?_
      simp only [decide_true, Bool.not_true, Bool.false_eq_true, ↓reduceIte, if_pos g3, eL, hne, if_pos g2, Option.bind_some]
      rw [cV]
      exact Ev.bind (ze2 runs _ (wL runs) h0 h32) (Ev.ret _)
    · unfold mO
      refine Ev.bind r2 ?_
      simp only [decide_true, Bool.not_true, Bool.false_eq_true, ↓reduceIte, if_pos g3]
      rw [cV]
      exact Ev.bind (uU runs _ (wL runs) h0 h32) (Ev.ret _)
  · refine ⟨(qV, p, c), ?_, ?_, .inr ⟨rfl, hc⟩⟩
    · unfold cI
      refine Ev.bind r1 (Ev.of (fun fu => ?_) (Ev.ret _))
      simp only [decide_eq_false hc, Bool.not_false, ↓reduceIte]; rfl
    · unfold mO
      refine Ev.bind r2 (Ev.of (fun fu => ?_) (Ev.ret _))
      simp only [decide_eq_false hc, Bool.not_false, ↓reduceIte]; rfl
def below (n w node : Nat) : Nat → Prop
  | 0 => node = w + n
  | k + 1 => node = w + n ∨ below n w (2 * node) k ∨ below n w (2 * node + 1) k
theorem zmm (keys : List cA) (w : Nat) (k : cA) (p q : Nat) (hp : p ≠ w) (hq : q ≠ w) : lt (keys.set w k) p q = lt keys p q := by
  simp only [lt, List.getElem?_set_ne (Ne.symm hp), List.getElem?_set_ne (Ne.symm hq)]
def up (n w d : Nat) : Nat := (w + n) / 2 ^ d
def gD (x c : Nat) : Prop := ∃ d, x / 2 ^ d = c
theorem gD.refl (x : Nat) : gD x x := ⟨0, by simp⟩
theorem gD.up {x c : Nat} (h : gD x c) : gD x (c / 2) := by
  obtain ⟨d, rfl⟩ := h
  exact ⟨d + 1, by rw [Nat.pow_succ, ← Nat.div_div_eq_div_mul]⟩
theorem gD.le {x c : Nat} (h : gD x c) : c ≤ x := by
  obtain ⟨d, rfl⟩ := h
  exact Nat.div_le_self _ _
theorem gD.chain {x a b : Nat} (ha : gD x a) (hb : gD x b) : gD a b ∨ gD b a := by
  obtain ⟨d, rfl⟩ := ha
  obtain ⟨e, rfl⟩ := hb
  rcases Nat.le_total d e with h | h
  · exact .inl ⟨e - d, by rw [Nat.div_div_eq_div_mul, ← Nat.pow_add, Nat.add_sub_cancel' h]⟩
  · exact .inr ⟨d - e, by rw [Nat.div_div_eq_div_mul, ← Nat.pow_add, Nat.add_sub_cancel' h]⟩
theorem gD.half {x c : Nat} (h : gD x c) : c = x ∨ c ≤ x / 2 := by
  obtain ⟨d, rfl⟩ := h
  cases d with
  | zero => simp
  | succ d =>
    right
    rw [Nat.pow_succ, Nat.mul_comm, ← Nat.div_div_eq_div_mul]
    exact Nat.div_le_self _ _
theorem gD.one {x p : Nat} (hp : 1 ≤ p) (ha : gD x (2 * p)) (hb : gD x (2 * p + 1)) : False := by
  rcases ha.chain hb with h | h
  · have := h.le; omega
  · rcases h.half with h | h <;> omega
theorem gD.gap {x c j : Nat} (hc : gD x c) (hj : gD x j) (h1 : c / 2 < j) (h2 : j < c) : False := by
  rcases hc.chain hj with h | h
  · rcases h.half with h | h <;> omega
  · have := h.le; omega
theorem zav (keys : List cA) (m : Nat) : ∀ node, 1 ≤ node → node < 2 * keys.length → keys.length - node ≤ m → gD ((nd keys node).1 + keys.length) node := by
  induction m with
  | zero =>
    intro node h1 h2 h3
    rw [sJ keys node (by omega)]
    simp only
    rw [Nat.sub_add_cancel (by omega)]
    exact .refl _
  | succ m ih =>
    intro node h1 h2 h3
    by_cases h : keys.length ≤ node
    · rw [sJ keys node h]
      simp only
      rw [Nat.sub_add_cancel h]
      exact .refl _
    · have a := ih (2 * node) (by omega) (by omega) (by omega)
      have b := ih (2 * node + 1) (by omega) (by omega) (by omega)
      rw [wO keys node h1 (by omega)]
      split
      · have := gD.up a; rwa [show 2 * node / 2 = node by omega] at this
      · have := gD.up b; rwa [show (2 * node + 1) / 2 = node by omega] at this
theorem zn8 (keys : List cA) (w : Nat) (k : cA) (m : Nat) : ∀ node, 1 ≤ node → node < 2 * keys.length → keys.length - node ≤ m → ¬ gD (w + keys.length) node → nd (keys.set w k) node = nd keys node := by
  induction m with
  | zero =>
    intro node h1 h2 h3 _
    rw [sJ keys node (by omega), sJ (keys.set w k) node (by simp; omega)]; simp
  | succ m ih =>
    intro node h1 h2 h3 hn
    by_cases h : keys.length ≤ node
    · rw [sJ keys node h, sJ (keys.set w k) node (by simp; omega)]; simp
    · have na : ¬ gD (w + keys.length) (2 * node) := fun q => hn (by have := gD.up q; rwa [show 2 * node / 2 = node by omega] at this)
      have nb : ¬ gD (w + keys.length) (2 * node + 1) := fun q => hn (by have := gD.up q; rwa [show (2 * node + 1) / 2 = node by omega] at this)
      have a := ih (2 * node) (by omega) (by omega) (by omega) na
      have b := ih (2 * node + 1) (by omega) (by omega) (by omega) nb
      rw [wO keys node h1 (by omega), wO (keys.set w k) node h1 (by simp; omega), a, b]
      have wa : (nd keys (2 * node)).1 ≠ w := fun e => na (by have := zav keys _ (2 * node) (by omega) (by omega) (Nat.le_refl _); rwa [e] at this)
      have wb : (nd keys (2 * node + 1)).1 ≠ w := fun e => nb (by have := zav keys _ (2 * node + 1) (by omega) (by omega) (Nat.le_refl _); rwa [e] at this)
      rw [zmm keys w k _ _ wa wb]
theorem zaN (keys : List cA) (w : Nat) (k : cA) (node : Nat) (h1 : 1 ≤ node) (h2 : node < 2 * keys.length) (h : ¬ gD (w + keys.length) node) : nd (keys.set w k) node = nd keys node :=
  zn8 keys w k _ node h1 h2 (Nat.le_refl _) h
theorem yS (keys : List cA) (node : Nat) (h1 : 1 ≤ node) (h2 : node < 2 * keys.length) : gD ((nd keys node).1 + keys.length) node := zav keys _ node h1 h2 (Nat.le_refl _)
theorem game (keys : List cA) (w : Nat) (k : cA) (c : Nat) (hc : gD (w + keys.length) c) (h2 : 2 ≤ c) (hc2 : c < 2 * keys.length) (hp : (nd keys (c / 2)).1 = w) :
    (nd keys c).1 = w ∧ nd (keys.set w k) (c / 2) = if lt (keys.set w k) (nd keys (c / 2)).2 (nd (keys.set w k) c).1 then ((nd keys (c / 2)).2, (nd (keys.set w k) c).1) else ((nd (keys.set w k) c).1, (nd keys (c / 2)).2) := by
  have hlen : (keys.set w k).length = keys.length := by simp
  have hp1 : 1 ≤ c / 2 := by omega
  have hpn : c / 2 < keys.length := by omega
  have o := wO keys (c / 2) hp1 hpn
  have o' := wO (keys.set w k) (c / 2) hp1 (by omega)
  rcases Nat.mod_two_eq_zero_or_one c with hm | hm
  · have e1 : 2 * (c / 2) = c := by omega
    rw [e1] at o o'
    have hs : ¬ gD (w + keys.length) (c + 1) := fun q => by
      refine gD.one (x := w + keys.length) hp1 (by rwa [e1]) (by rwa [e1])
    have so := zaN keys w k (c + 1) (by omega) (by omega) hs
    have hr : (nd keys (c + 1)).1 ≠ w := fun e => hs (by have := yS keys (c + 1) (by omega) (by omega); rwa [e] at this)
    have hlt : lt keys (nd keys c).1 (nd keys (c + 1)).1 = true := by
      cases h : lt keys (nd keys c).1 (nd keys (c + 1)).1 with
      | true => rfl
      | false => rw [h] at o; rw [o] at hp; exact absurd hp hr
    rw [hlt] at o
    simp only [↓reduceIte] at o
    rw [o] at hp ⊢
    refine ⟨hp, ?_⟩
    rw [o', so]
    have k1 := (oK (keys.set w k) c (by omega) (by omega)).1
    have k2 := (oK keys (c + 1) (by omega) (by omega)).1
    have hne : (nd (keys.set w k) c).1 ≠ (nd keys (c + 1)).1 := fun e => by
      have q1 := yS (keys.set w k) c (by omega) (by omega)
      have q2 := yS keys (c + 1) (by omega) (by omega)
      rw [hlen, e] at q1
      exact gD.one hp1 (by rwa [e1]) (by rwa [e1])
    rw [lZ (keys.set w k) _ _ k1 (by omega) hne]
    cases lt (keys.set w k) (nd (keys.set w k) c).1 (nd keys (c + 1)).1 <;> rfl
  · have e1 : 2 * (c / 2) = c - 1 := by omega
    have e2 : c - 1 + 1 = c := by omega
    rw [e1, e2] at o o'
    have hs : ¬ gD (w + keys.length) (c - 1) := fun q => by
      refine gD.one (x := w + keys.length) hp1 (by rwa [e1]) (by rwa [e1, e2])
    have so := zaN keys w k (c - 1) (by omega) (by omega) hs
    have hr : (nd keys (c - 1)).1 ≠ w := fun e => hs (by have := yS keys (c - 1) (by omega) (by omega); rwa [e] at this)
    have hlt : lt keys (nd keys (c - 1)).1 (nd keys c).1 = false := by
      cases h : lt keys (nd keys (c - 1)).1 (nd keys c).1 with
      | false => rfl
      | true => rw [h] at o; rw [o] at hp; exact absurd hp hr
    rw [hlt] at o
    simp only [Bool.false_eq_true, ↓reduceIte] at o
    rw [o] at hp ⊢
    exact ⟨hp, by rw [o', so]⟩
theorem wtop (keys : List cA) (w : Nat) (hw : (nd keys 1).1 = w) : ∀ c, 1 ≤ c → c < 2 * keys.length → gD (w + keys.length) c → (nd keys c).1 = w := by
  intro c
  induction c using Nat.strongRecOn with
  | _ c ih =>
    intro h1 h2 hc
    by_cases e : c = 1
    · subst e; exact hw
    · exact (game keys w ⟨[], false⟩ c hc (by omega) h2 (ih (c / 2) (by omega) (by omega) (by omega) hc.up)).1
def rf (keys keys' : List cA) (c : Nat) : List Int := (List.range keys.length).map fun j => if 0 < j then (if j < c then ((nd keys j).2 : Int) else ((nd keys' j).2 : Int)) else 0
theorem lR (keys keys' : List cA) (c : Nat) : (rf keys keys' c).length = keys.length := by simp [rf]
theorem eU (keys keys' : List cA) (c j : Nat) (h : j < (rf keys keys' c).length) : (rf keys keys' c)[j] = if 0 < j then (if j < c then ((nd keys j).2 : Int) else ((nd keys' j).2 : Int)) else 0 := by simp [rf]
theorem rf_set (keys : List cA) (w : Nat) (k : cA) (c : Nat) (hc : gD (w + keys.length) c) (h2 : 2 ≤ c) (hc2 : c < 2 * keys.length) :
    (rf keys (keys.set w k) c).set (c / 2) ((nd (keys.set w k) (c / 2)).2 : Int) = rf keys (keys.set w k) (c / 2) := by
  refine List.ext_getElem (by simp [lR]) fun j h1 h2' => ?_
  rw [lR] at h2'
  rw [List.getElem_set, eU, eU]
  split
  · rename_i e; subst e; rw [if_pos (by omega), if_neg (by omega)]
  · rename_i e
    by_cases h0 : 0 < j
    · rw [if_pos h0, if_pos h0]
      by_cases q : j < c / 2
      · rw [if_pos q, if_pos (by omega)]
      · rw [if_neg q]
        by_cases q2 : j < c
        · rw [if_pos q2, zaN keys w k j h0 (by omega) fun ha => gD.gap hc ha (by omega) q2]
        · rw [if_neg q2]
    · rw [if_neg h0, if_neg h0]
theorem zif (keys : List cA) (w : Nat) (k : cA) (hl : keys.length ≤ 1000000) (hw : (nd keys 1).1 = w) : ∀ (c : Nat) (g : Int), 1 ≤ c → c < 2 * keys.length → gD (w + keys.length) c →
    ∃ g', Ev (fun fu => sH (keys.set w k) fu g (c : Int) ((nd (keys.set w k) c).1 : Int) (rf keys (keys.set w k) c)) (g', ((nd (keys.set w k) 1).1 : Int), rf keys (keys.set w k) 1) := by
  intro c
  induction c using Nat.strongRecOn with
  | _ c ih =>
    intro g h1 h2 hc
    have w1 : IntKind.i64.wrap ((c : Int).tdiv 2) = ((c / 2 : Nat) : Int) := by
      have : (c : Int).tdiv 2 = ((c / 2 : Nat) : Int) := rfl
      rw [this, wr (by omega) (by omega)]
    by_cases e : c = 1
    · subst e
      refine ⟨g, Ev.succ (Ev.of (fun fu => ?_) (Ev.ret _))⟩
      simp only [sH, w1]
      rfl
    · have hp1 : 1 ≤ c / 2 := by omega
      obtain ⟨g', hg⟩ := ih (c / 2) (by omega) (IntKind.i64.wrap (g + 1)) hp1 (by omega) hc.up
      obtain ⟨-, gm⟩ := game keys w k c hc (by omega) h2 (wtop keys w hw (c / 2) hp1 (by omega) hc.up)
      have d : decide (((c / 2 : Nat) : Int) = 0) = false := decide_eq_false (by omega)
      have k1 := (oK (keys.set w k) c (by omega) (by simp; omega)).1
      have k2 := (oK keys (c / 2) (by omega) (by omega)).2
      refine ⟨g', Ev.succ (Ev.of (fun fu => ?_) hg)⟩
      simp only [sH, w1, d, Bool.false_eq_true, ↓reduceIte]
      rw [yA (rf keys (keys.set w k) c) (c / 2) (by rw [lR]; omega), eU, if_pos (by omega), if_pos (by omega)]
      simp only [Option.bind_some]
      rw [zcf fu (keys.set w k) _ _ (by simp; omega) k1]
      simp only [Option.bind_some, Int.toNat_natCast]
      have rs := rf_set keys w k c hc (by omega) h2
      rw [gm] at rs ⊢
      cases hlt : lt (keys.set w k) (nd keys (c / 2)).2 (nd (keys.set w k) c).1 with
      | true =>
        rw [hlt] at rs
        simp only [↓reduceIte] at rs ⊢
        rw [rs]
      | false =>
        rw [hlt] at rs
        simp only [Bool.false_eq_true, ↓reduceIte] at rs ⊢
        rw [← rs]
        congr 1
        refine (List.ext_getElem (by simp) fun j h1 h2 => ?_).symm
        rw [List.getElem_set]
        split
        · rename_i e; subst e; rw [eU, if_pos (by omega), if_pos (by omega)]
        · rfl
theorem zll (keys : List cA) (hl : keys.length ≤ 1000000) (m : Nat) : ∀ n : Nat, n + m = keys.length → Ev (fun fu => gI (yC keys) (yC keys) fu (n : Int)) (.inl ()) := by
  induction m with
  | zero =>
    intro n hn
    refine Ev.succ (Ev.of (fun fu => ?_) (Ev.ret _))
    have d : decide ((n : Int) < ((yC keys).Lose.length : Int)) = false := decide_eq_false (by simp only [yC, tH]; omega)
    simp only [gI, d, Bool.false_eq_true, ↓reduceIte]
  | succ m ih =>
    intro n hn
    have w1 : IntKind.i64.wrap ((n : Int) + 1) = ((n + 1 : Nat) : Int) := by rw [wr (by omega) (by omega)]; rfl
    refine Ev.succ (Ev.of (fun fu => ?_) (ih (n + 1) (by omega)))
    have d : decide ((n : Int) < ((yC keys).Lose.length : Int)) = true := decide_eq_true (by simp only [yC, tH]; omega)
    simp only [gI, d, ↓reduceIte, w1, yA (yC keys).Lose n (by simp only [yC, tH]; omega), Option.bind_some, decide_true, Bool.not_true, Bool.false_eq_true]
theorem znw (keys : List cA) (hpl : zI keys) (h0 : 0 < keys.length) (hl : keys.length ≤ 32) : Ev (fun fu => nP fu (yC keys)) (0, 0) := by
  unfold nP
  refine Ev.bind (zaM keys hpl h0 hl) ?_
  have d : decide (((yC keys).Lose.length : Int) = ((yC keys).Keys.length : Int)) = true := decide_eq_true (by simp [yC, tH])
  simp only [decide_true, Bool.not_true, Bool.false_eq_true, ↓reduceIte, d]
  refine Ev.bind (zdl keys h0 (by omega)) (Ev.bind (zll keys (by omega) keys.length 0 (by omega)) (Ev.of (fun fu => ?_) (Ev.ret _)))
  simp
def eD (keys : List cA) : Nat := (nd keys 1).1
theorem mF (keys : List cA) (h0 : 0 < keys.length) : eD keys < keys.length := (oK keys 1 (by omega) (by omega)).1
theorem zc8 (keys : List cA) (hpl : zI keys) (h0 : 0 < keys.length) (hl : keys.length ≤ 32) :
    Ev (fun fu => qN fu (yC keys)) (if (keys[eD keys]'(mF keys h0)).Done then 12 else 0) := by
  unfold qN
  refine Ev.bind (znw keys hpl h0 hl) (Ev.of (fun fu => ?_) (Ev.ret _))
  have : ix (yC keys).Keys (yC keys).Win = some (keys[eD keys]'(mF keys h0)) := yA keys (eD keys) (mF keys h0)
  simp only [decide_true, Bool.not_true, Bool.false_eq_true, ↓reduceIte, this, Option.bind_some]
  split <;> rfl
theorem zbq (keys : List cA) (hpl : zI keys) (h0 : 0 < keys.length) (hl : keys.length ≤ 32) :
    Ev (fun fu => pN fu (yC keys)) (if (keys[eD keys]'(mF keys h0)).Done then (0, [], 12) else ((eD keys : Int), (keys[eD keys]'(mF keys h0)).Key, 0)) := by
  unfold pN
  refine Ev.bind (zc8 keys hpl h0 hl) (Ev.of (fun fu => ?_) (Ev.ret _))
  have : ix (yC keys).Keys (yC keys).Win = some (keys[eD keys]'(mF keys h0)) := yA keys (eD keys) (mF keys h0)
  cases h : (keys[eD keys]'(mF keys h0)).Done with
  | true => rfl
  | false => simp only [decide_true, Bool.not_true, Bool.false_eq_true, ↓reduceIte, this, Option.bind_some]; rfl
theorem zmH (keys : List cA) (hpl : zI keys) (h0 : 0 < keys.length) (hl : keys.length ≤ 32) (hd : (keys[eD keys]'(mF keys h0)).Done = false) (k : cA) (hk : k.Done = true → k.Key = [])
    (hb : k.Done = false → bl k.Key (keys[eD keys]'(mF keys h0)).Key = false) : ∃ g, Ev (fun fu => aM fu (yC keys) k) (yC (keys.set (eD keys) k), g, 0) := by
  have ho := zc8 keys hpl h0 hl
  simp only [hd, Bool.false_eq_true, ↓reduceIte] at ho
  have hc := zaM [k] (fun x hx => by simp at hx; subst hx; exact hk) (by simp) (by simp)
  have hwn := mF keys h0
  obtain ⟨g, hg⟩ := zif keys (eD keys) k (by omega) rfl (eD keys + keys.length) 0 (by omega) (by omega) (gD.refl _)
  have q1 : (nd (keys.set (eD keys) k) (eD keys + keys.length)).1 = eD keys := by rw [sJ _ _ (by simp)]; simp
  have q2 : rf keys (keys.set (eD keys) k) (eD keys + keys.length) = lf keys 0 := by
    refine List.ext_getElem (by simp [lR, tH]) fun j h1 h2 => ?_
    rw [lR] at h1
    rw [eU, dO]
    by_cases q : 0 < j
    · rw [if_pos q, if_pos (by omega), if_pos q]
    · rw [if_neg q, if_neg q]
  have q3 : rf keys (keys.set (eD keys) k) 1 = lf (keys.set (eD keys) k) 0 := by
    refine List.ext_getElem (by simp [lR, tH]) fun j h1 h2 => ?_
    rw [lR] at h1
    rw [eU, dO]
    by_cases q : 0 < j
    · rw [if_pos q, if_neg (by omega), if_pos q]
    · rw [if_neg q, if_neg q]
  rw [q1, q2, q3] at hg
  refine ⟨g, ?_⟩
  unfold aM
  refine Ev.bind ho ?_
  simp only [decide_true, Bool.not_true, Bool.false_eq_true, ↓reduceIte]
  refine Ev.bind hc ?_
  have ixw : ix (yC keys).Keys (yC keys).Win = some (keys[eD keys]'hwn) := yA keys (eD keys) hwn
  have hb8 : (if (!k.Done) = true then some (Op.bytesLess k.Key (keys[eD keys]'hwn).Key) else some false) = some false := by
    cases h : k.Done with
    | true => rfl
    | false => simp only [Bool.not_false, ↓reduceIte]; exact congrArg some (hb h)
  simp only [decide_true, Bool.not_true, Bool.false_eq_true, ↓reduceIte, ixw, Option.bind_some, hb8]
  have hne : (yC keys).Keys.isEmpty = false := by show keys.isEmpty = false; cases keys; simp at h0; rfl
  have hne2 : (yC keys).Lose.isEmpty = false := by
    show (lf keys 0).isEmpty = false
    have := tH keys 0
    cases h : lf keys 0
    · rw [h] at this; simp at this; omega
    · rfl
  have g1 : 2 * ((0 + (yC keys).Keys.length) * 24) ≤ 281474976710656 := by show 2 * ((0 + keys.length) * 24) ≤ _; omega
  have g2 : 2 * ((0 + (yC keys).Lose.length) * 8) ≤ 281474976710656 := by show 2 * ((0 + (lf keys 0).length) * 8) ≤ _; rw [tH]; omega
  simp only [gP, vL, hne, hne2, Bool.false_eq_true, ↓reduceIte, if_pos g1, if_pos g2, Option.bind_some, ixw, zM]
  have ws : IntKind.i64.wrap ((((yC keys).Keys.set (yC keys).Win.toNat k).length : Int) + (yC keys).Win) = ((eD keys + keys.length : Nat) : Int) := by
    show IntKind.i64.wrap (((keys.set (eD keys) k).length : Int) + (eD keys : Int)) = _
    rw [List.length_set, wr (by omega) (by omega)]; omega
  rw [ws]
  exact Ev.bind hg (Ev.ret _)
theorem lt_trans (keys : List cA) (p q r : Nat) (hp : p < keys.length) (hq : q < keys.length) (hr : r < keys.length) (h : lt keys p q = true) (k : lt keys q r = true) : lt keys p r = true := by
  simp only [lt, List.getElem?_eq_getElem hp, List.getElem?_eq_getElem hq, List.getElem?_eq_getElem hr] at *
  generalize keys[p] = a at *
  generalize keys[q] = b at *
  generalize keys[r] = c at *
  obtain ⟨ak, ad⟩ := a
  obtain ⟨bk, bd⟩ := b
  obtain ⟨ck, cd⟩ := c
  simp only at *
  cases ad <;> cases bd <;> cases cd <;> simp at h k ⊢
  all_goals
    by_cases e1 : ak = bk
    · subst e1
      by_cases e2 : ak = ck
      · subst e2; simp at h k ⊢; omega
      · simp [e2] at k ⊢; exact k
    · simp [e1] at h
      by_cases e2 : bk = ck
      · subst e2; simp [e1]; exact h
      · simp [e2] at k
        have := pM h k
        have ne : ak ≠ ck := fun e => by subst e; rw [fG] at this; cases this
        simp [ne]; exact this
theorem gD.child {x c : Nat} (h : gD x c) (hne : c ≠ x) : ∃ b, gD x b ∧ b / 2 = c := by
  obtain ⟨d, rfl⟩ := h
  cases d with
  | zero => simp at hne
  | succ d => exact ⟨x / 2 ^ d, ⟨d, rfl⟩, by rw [Nat.pow_succ, ← Nat.div_div_eq_div_mul]⟩
theorem zkQ (keys : List cA) (m : Nat) : ∀ node, 1 ≤ node → node < 2 * keys.length → keys.length - node ≤ m → ∀ x, x < keys.length → gD (x + keys.length) node → x ≠ (nd keys node).1 → lt keys (nd keys node).1 x = true := by
  have leaf : ∀ node, keys.length ≤ node → node < 2 * keys.length → ∀ x, x < keys.length → gD (x + keys.length) node → x ≠ (nd keys node).1 → lt keys (nd keys node).1 x = true := by
    intro node h1 h2 x hx ha hne
    rw [sJ keys node h1] at hne
    simp only at hne
    rcases ha.half with h | h <;> omega
  induction m with
  | zero => intro node h1 h2 h3; exact leaf node (by omega) h2
  | succ m ih =>
    intro node h1 h2 h3 x hx ha hne
    by_cases h : keys.length ≤ node
    · exact leaf node h h2 x hx ha hne
    · have a := ih (2 * node) (by omega) (by omega) (by omega)
      have b := ih (2 * node + 1) (by omega) (by omega) (by omega)
      have ka := (oK keys (2 * node) (by omega) (by omega)).1
      have kb := (oK keys (2 * node + 1) (by omega) (by omega)).1
      obtain ⟨c, c1, c2⟩ := ha.child (by omega)
      have hn := wO keys node h1 (by omega)
      have dis : (nd keys (2 * node)).1 ≠ (nd keys (2 * node + 1)).1 := fun e => by
        have q1 := yS keys (2 * node) (by omega) (by omega)
        have q2 := yS keys (2 * node + 1) (by omega) (by omega)
        rw [e] at q1
        exact gD.one h1 q1 q2
      have mC := lZ keys _ _ ka kb dis
      have side : c = 2 * node ∨ c = 2 * node + 1 := by omega
      cases hlt : lt keys (nd keys (2 * node)).1 (nd keys (2 * node + 1)).1 with
      | true =>
        rw [hlt] at hn mC
        simp only [↓reduceIte] at hn
        rw [hn] at hne ⊢
        rcases side with rfl | rfl
        · exact a x hx c1 hne
        · by_cases e : x = (nd keys (2 * node + 1)).1
          · subst e; exact hlt
          · exact lt_trans keys _ _ _ ka kb hx hlt (b x hx c1 e)
      | false =>
        rw [hlt] at hn mC
        simp only [Bool.false_eq_true, ↓reduceIte] at hn
        simp only [Bool.not_false] at mC
        rw [hn] at hne ⊢
        rcases side with rfl | rfl
        · by_cases e : x = (nd keys (2 * node)).1
          · subst e; exact mC
          · exact lt_trans keys _ _ _ kb ka hx mC (a x hx c1 e)
        · exact b x hx c1 hne
theorem wY (l : List aA) (a : Nat) : (jF l a).Done = decide (l.length ≤ a) := by
  unfold jF
  by_cases h : a < l.length
  · simp [h]
  · simp [h]; omega
theorem pQ (l : List aA) (a : Nat) (h : a < l.length) : jF l a = ⟨l[a].Key, false⟩ := by simp [jF, h]
def wN (keys : List cA) (n : Nat) (b : Int) : Prop :=
  (b = -1 ∧ ∀ j (h : j < keys.length), j < n → keys[j].Done = true) ∨
  ∃ w : Nat, ∃ hw : w < keys.length, b = (w : Int) ∧ w < n ∧ keys[w].Done = false ∧ ∀ j, j < n → j < keys.length → j ≠ w → lt keys w j = true
theorem zar (keys : List cA) (p q : Nat) (hp : p < keys.length) (hq : q < keys.length) (h1 : keys[p].Done = false) (h2 : keys[q].Done = true) : lt keys p q = true := by
  simp only [lt, List.getElem?_eq_getElem hp, List.getElem?_eq_getElem hq, h1, h2]; rfl
theorem zoq (keys : List cA) (n : Nat) (b : Int) (hn : n < keys.length) (h : wN keys n b) (hd : keys[n].Done = true) : wN keys (n + 1) b := by
  rcases h with ⟨e, h⟩ | ⟨w, hw, e, h1, h2, h3⟩
  · refine .inl ⟨e, fun j hj hn' => ?_⟩
    by_cases q : j = n
    · subst q; exact hd
    · exact h j hj (by omega)
  · refine .inr ⟨w, hw, e, by omega, h2, fun j hj hl hne => ?_⟩
    by_cases q : j = n
    · subst q; exact zar keys w j hw hl h2 hd
    · exact h3 j (by omega) hl hne
theorem znG (keys : List cA) (n : Nat) (hn : n < keys.length) (h : wN keys n (-1)) (hd : keys[n].Done = false) : wN keys (n + 1) (n : Int) := by
  rcases h with ⟨e, h⟩ | ⟨w, hw, e, _⟩
  · refine .inr ⟨n, hn, rfl, by omega, hd, fun j hj hl hne => ?_⟩
    exact zar keys n j hn hl hd (h j hl (by omega))
  · omega
theorem zZ (keys : List cA) (p q : Nat) (hp : p < keys.length) (hq : q < keys.length) (h1 : keys[p].Done = false) (h2 : keys[q].Done = false) :
    lt keys p q = if keys[p].Key = keys[q].Key then decide (p < q) else bl keys[p].Key keys[q].Key := by
  simp only [lt, List.getElem?_eq_getElem hp, List.getElem?_eq_getElem hq, h1, h2]
  by_cases e : keys[p].Key = keys[q].Key <;> simp [e]
theorem zix (keys : List cA) (n w : Nat) (hn : n < keys.length) (hw : w < keys.length) (h : wN keys n (w : Int)) (hd : keys[n].Done = false) :
    wN keys (n + 1) (if bl keys[n].Key keys[w].Key = true then (n : Int) else (w : Int)) := by
  rcases h with ⟨e, _⟩ | ⟨w', hw', e, h1, h2, h3⟩
  · omega
  · obtain rfl : w' = w := by omega
    have k := zZ keys n w' hn hw hd h2
    have k' := zZ keys w' n hw hn h2 hd
    by_cases b : bl keys[n].Key keys[w'].Key = true
    · rw [if_pos b]
      have ne : ¬ keys[n].Key = keys[w'].Key := fun e => by rw [e, fG] at b; cases b
      rw [if_neg ne, b] at k
      refine .inr ⟨n, hn, rfl, by omega, hd, fun j hj hl hne => ?_⟩
      by_cases q : j = w'
      · subst q; exact k
      · exact lt_trans keys n w' j hn hw hl k (h3 j (by omega) hl q)
    · rw [if_neg b]
      refine .inr ⟨w', hw, rfl, by omega, h2, fun j hj hl hne => ?_⟩
      by_cases q : j = n
      · subst q
        rw [k']
        by_cases e2 : keys[w'].Key = keys[j].Key
        · rw [if_pos e2]; exact decide_eq_true (by omega)
        · rw [if_neg e2]
          rcases vR keys[w'].Key keys[j].Key with h | h | h
          · exact h
          · exact absurd h e2
          · exact absurd h b
      · exact h3 j (by omega) hl hne
theorem zkE (runs : List (List aA)) (a : List Nat) (ha : At runs a) (hl : runs.length ≤ 1000000) (m : Nat) : ∀ (n : Nat) (b : Int), n + m = runs.length → wN (tB runs a) n b →
    ∃ r, Ev (fun fu => pP runs (qB a) fu b (n : Int)) r ∧ wN (tB runs a) runs.length r := by
  induction m with
  | zero =>
    intro n b hn hb
    obtain rfl : n = runs.length := by omega
    refine ⟨b, Ev.succ (Ev.of (fun fu => ?_) (Ev.ret _)), hb⟩
    simp [pP]
  | succ m ih =>
    intro n b hn hb
    have hnl : n < runs.length := by omega
    have hna : n < a.length := by rw [ha.1]; exact hnl
    have hk : n < (tB runs a).length := by rw [yD]; exact hnl
    have w1 : IntKind.i64.wrap ((n : Int) + 1) = ((n + 1 : Nat) : Int) := by rw [wr (by omega) (by omega)]; rfl
    have d : decide ((n : Int) < (runs.length : Int)) = true := decide_eq_true (by omega)
    have kg := gR runs a n hk hnl hna
    by_cases q : a[n] < runs[n].length
    · have d2 : decide (((a[n] : Nat) : Int) < (runs[n].length : Int)) = true := decide_eq_true (by omega)
      have hd : ((tB runs a)[n]).Done = false := by rw [kg, pQ _ _ q]
      by_cases hneg : b = -1
      · subst hneg
        obtain ⟨r, r1, r2⟩ := ih (n + 1) n (by omega) (znG _ n hk hb hd)
        refine ⟨r, Ev.succ (Ev.of (fun fu => ?_) r1), r2⟩
        simp only [pP, w1, d, ↓reduceIte, fF a n hna, yA runs n hnl, Option.bind_some, d2]
        rfl
      · obtain ⟨w, hw, rfl, h1, h2, h3⟩ : ∃ w : Nat, ∃ hw : w < (tB runs a).length, b = (w : Int) ∧ w < n ∧ (tB runs a)[w].Done = false ∧ True := by
          rcases hb with ⟨e, _⟩ | ⟨w, hw, e, h1, h2, _⟩
          · exact absurd e hneg
          · exact ⟨w, hw, e, h1, h2, trivial⟩
        have hwl : w < runs.length := by rw [yD] at hw; exact hw
        have hwa : w < a.length := by rw [ha.1]; exact hwl
        have kw := gR runs a w hw hwl hwa
        have qw : a[w] < runs[w].length := by
          rw [kw, wY] at h2
          have := of_decide_eq_false h2
          omega
        have nx := zix _ n w hk hw hb hd
        have e1 : (tB runs a)[n].Key = runs[n][a[n]].Key := by rw [kg, pQ _ _ q]
        have e2 : (tB runs a)[w].Key = runs[w][a[w]].Key := by rw [kw, pQ _ _ qw]
        rw [e1, e2] at nx
        have dn : decide ((w : Int) < 0) = false := decide_eq_false (by omega)
        obtain ⟨r, r1, r2⟩ := ih (n + 1) _ (by omega) nx
        refine ⟨r, Ev.succ (Ev.of (fun fu => ?_) r1), r2⟩
        simp only [pP, w1, d, ↓reduceIte, fF a n hna, yA runs n hnl, fF a w hwa, yA runs w hwl, yA runs[n] a[n] q, yA runs[w] a[w] qw, Option.bind_some, d2, dn, Bool.false_eq_true, bl]
        split <;> rfl
    · have d2 : decide (((a[n] : Nat) : Int) < (runs[n].length : Int)) = false := decide_eq_false (by omega)
      have hd : ((tB runs a)[n]).Done = true := by rw [kg, wY]; exact decide_eq_true (by omega)
      obtain ⟨r, r1, r2⟩ := ih (n + 1) b (by omega) (zoq _ n b hk hb hd)
      refine ⟨r, Ev.succ (Ev.of (fun fu => ?_) r1), r2⟩
      simp only [pP, w1, d, ↓reduceIte, fF a n hna, yA runs n hnl, Option.bind_some, d2]
      rfl
theorem zmg (x : Nat) (h : 1 ≤ x) : gD x 1 := by
  induction x using Nat.strongRecOn with
  | _ x ih =>
    by_cases e : x = 1
    · subst e; exact .refl 1
    · obtain ⟨d, hd⟩ := ih (x / 2) (by omega) (by omega)
      exact ⟨d + 1, by rw [Nat.pow_succ, Nat.mul_comm, ← Nat.div_div_eq_div_mul]; exact hd⟩
theorem zbW (keys : List cA) (x : Nat) (hx : x < keys.length) (h : x ≠ eD keys) : lt keys (eD keys) x = true :=
  zkQ keys _ 1 (Nat.le_refl 1) (by omega) (Nat.le_refl _) x hx (zmg _ (by omega)) h
theorem zjC (keys : List cA) (h0 : 0 < keys.length) (b : Int) (h : wN keys keys.length b) : b = if (keys[eD keys]'(mF keys h0)).Done then -1 else (eD keys : Int) := by
  have hw := mF keys h0
  rcases h with ⟨e, h⟩ | ⟨w, hw', e, h1, h2, h3⟩
  · rw [h _ hw hw]; exact e
  · by_cases q : w = eD keys
    · subst q; rw [h2]; exact e
    · have a := zbW keys w hw' q
      have b' := h3 _ hw hw (Ne.symm q)
      have t := lZ keys w (eD keys) hw' hw q
      rw [a, b'] at t; cases t
def wn (runs : List (List aA)) (a : List Nat) : Nat := eD (tB runs a)
def bE (a : List Nat) (w : Nat) : List Nat := a.set w (a[w]?.getD 0 + 1)
theorem mQ (a : List Nat) (w : Nat) (h : w < a.length) : bE a w = a.set w (a[w] + 1) := by simp [bE, h]
theorem vQ (a : List Nat) (w : Nat) : (bE a w).length = a.length := by simp [bE]
theorem wn_lt (runs : List (List aA)) (a : List Nat) (h0 : 0 < runs.length) : wn runs a < runs.length := by
  have := mF (tB runs a) (by rw [yD]; exact h0)
  rwa [yD] at this
inductive Turn (runs : List (List aA)) (a : List Nat) (h0 : 0 < runs.length) : Prop
  | fin (h : ((tB runs a)[eD (tB runs a)]'(mF _ (by rw [yD]; exact h0))).Done = true) (all : ∀ i (h1 : i < runs.length) (h2 : i < a.length), a[i] = runs[i].length)
  | go (hw : wn runs a < runs.length) (hwa : wn runs a < a.length) (hq : a[wn runs a] < runs[wn runs a].length)
      (h : ((tB runs a)[eD (tB runs a)]'(mF _ (by rw [yD]; exact h0))) = ⟨runs[wn runs a][a[wn runs a]].Key, false⟩)
theorem dL (runs : List (List aA)) (a : List Nat) (ha : At runs a) (h0 : 0 < runs.length) : Turn runs a h0 := by
  have hw := wn_lt runs a h0
  have hwa : wn runs a < a.length := by rw [ha.1]; exact hw
  have hk := mF (tB runs a) (by rw [yD]; exact h0)
  have kg : (tB runs a)[eD (tB runs a)] = jF runs[wn runs a] a[wn runs a] := gR runs a (wn runs a) hk hw hwa
  by_cases q : a[wn runs a] < runs[wn runs a].length
  · exact .go hw hwa q (by rw [kg, pQ _ _ q])
  · have hd : (tB runs a)[eD (tB runs a)].Done = true := by rw [kg, wY]; exact decide_eq_true (by omega)
    refine .fin hd fun i h1 h2 => ?_
    have hle := ha.2 i h1 h2
    by_cases e : i = wn runs a
    · subst e; omega
    · have hik : i < (tB runs a).length := by rw [yD]; exact h1
      have l := zbW (tB runs a) i hik e
      by_cases hlt : a[i] < runs[i].length
      · have d2 : ((tB runs a)[i]).Done = false := by rw [gR runs a i hik h1 h2, pQ _ _ hlt]
        have := zar (tB runs a) i (eD (tB runs a)) hik hk d2 hd
        have t := lZ (tB runs a) i (eD (tB runs a)) hik hk e
        rw [l, this] at t; cases t
      · omega
theorem zfU (runs : List (List aA)) (a : List Nat) (w : Nat) (h1 : w < runs.length) (h2 : w < a.length) : tB runs (bE a w) = (tB runs a).set w (jF runs[w] (a[w] + 1)) := by
  refine List.ext_getElem (by simp [yD]) fun j k1 k2 => ?_
  rw [yD] at k1
  rw [List.getElem_set]
  simp only [tB, List.getElem_map, List.getElem_range, bE]
  split
  · rename_i e; subst e; simp [h1, h2]
  · rename_i e; simp [e]
theorem cX (runs : List (List aA)) (a : List Nat) (w : Nat) (ha : At runs a) (h1 : w < runs.length) (h2 : w < a.length) (h : a[w] < runs[w].length) : At runs (bE a w) := by
  refine ⟨by rw [vQ]; exact ha.1, fun i k1 k2 => ?_⟩
  simp only [mQ a w h2, List.getElem_set]
  split
  · rename_i e; subst e; omega
  · exact ha.2 i k1 (by rw [vQ] at k2; exact k2)
theorem zdY (runs : List (List aA)) (a : List Nat) (h0 : 0 < runs.length) (hl : runs.length ≤ 32)
    (h : ((tB runs a)[eD (tB runs a)]'(mF _ (by rw [yD]; exact h0))).Done = true) (t : zA) (ht : t = yC (tB runs a)) (x : List Int) :
    Ev (fun fu => bL fu runs x t.Keys t.Lose t.Win) (⟨[], [], false, 0⟩, 0, 12) := by
  subst ht
  unfold bL
  have := zbq (tB runs a) (vT runs a) (by rw [yD]; exact h0) (by rw [yD]; exact hl)
  rw [if_pos h] at this
  exact Ev.bind this (Ev.ret _)
theorem zde (runs : List (List aA)) (a : List Nat) (h0 : 0 < runs.length) (hl : runs.length ≤ 32) (hw : wn runs a < runs.length) (hwa : wn runs a < a.length) (hq : a[wn runs a] < runs[wn runs a].length)
    (h : ((tB runs a)[eD (tB runs a)]'(mF _ (by rw [yD]; exact h0))) = ⟨runs[wn runs a][a[wn runs a]].Key, false⟩) (t : zA) (ht : t = yC (tB runs a)) :
    Ev (fun fu => bL fu runs (qB a) t.Keys t.Lose t.Win) (runs[wn runs a][a[wn runs a]], (wn runs a : Int), 0) := by
  subst ht
  unfold bL
  have := zbq (tB runs a) (vT runs a) (by rw [yD]; exact h0) (by rw [yD]; exact hl)
  rw [if_neg (by rw [h]; simp)] at this
  refine Ev.bind this (Ev.of (fun fu => ?_) (Ev.ret _))
  have e1 : ix runs ((eD (tB runs a) : Nat) : Int) = some runs[wn runs a] := yA runs _ hw
  have e2 : ix (qB a) ((eD (tB runs a) : Nat) : Int) = some ((a[wn runs a] : Nat) : Int) := fF a _ hwa
  simp only [decide_true, Bool.not_true, Bool.false_eq_true, ↓reduceIte, e1, e2, Option.bind_some, yA _ _ hq]
  rfl
theorem zd2 (runs : List (List aA)) (a : List Nat) (hg : zC runs) (ha : At runs a) (hw : wn runs a < runs.length) (hwa : wn runs a < a.length) (hq : a[wn runs a] < runs[wn runs a].length)
    (h : ((tB runs a)[eD (tB runs a)]'(mF _ (by rw [yD]; exact hg.1))) = ⟨runs[wn runs a][a[wn runs a]].Key, false⟩) (t : zA) (ht : t = yC (tB runs a)) :
    ∃ g, Ev (fun fu => aM fu t (jF runs[wn runs a] (a[wn runs a] + 1))) (yC (tB runs (bE a (wn runs a))), g, 0) := by
  subst ht
  have hk := mF (tB runs a) (by rw [yD]; exact hg.1)
  obtain ⟨g, e⟩ := zmH (tB runs a) (vT runs a) (by rw [yD]; exact hg.1) (by rw [yD]; exact hg.2.1) (by rw [h]) (jF runs[wn runs a] (a[wn runs a] + 1)) (zcn _ _) (by
    intro hd
    rw [h, wY] at *
    have hlt : a[wn runs a] + 1 < runs[wn runs a].length := by have := of_decide_eq_false hd; omega
    rw [pQ _ _ hlt]
    have := ((hg.2.2 _ (List.getElem_mem hw)).2 (a[wn runs a] + 1) hlt).2 (by omega)
    exact mK this)
  refine ⟨g, ?_⟩
  have q : (tB runs a).set (eD (tB runs a)) (jF runs[wn runs a] (a[wn runs a] + 1)) = tB runs (bE a (wn runs a)) := (zfU runs a (wn runs a) hw hwa).symm
  rw [q] at e
  exact e
def aB (runs : List (List aA)) (a : List Nat) : Nat := (List.zipWith (fun l n => l.length - n) runs a).sum
theorem yQ : ∀ (runs : List (List aA)) (a : List Nat) (w : Nat) (h1 : w < runs.length) (h2 : w < a.length), a[w] < runs[w].length → aB runs (bE a w) + 1 = aB runs a
  | l :: runs, n :: a, 0, _, _, h => by
    simp only [List.getElem_cons_zero] at h
    simp [aB, bE]; omega
  | l :: runs, n :: a, w + 1, h1, h2, h => by
    have := yQ runs a w (by simpa using h1) (by simpa using h2) (by simpa using h)
    simp [aB, bE] at this ⊢; omega
theorem mU : ∀ (runs : List (List aA)) (a : List Nat), (∀ i (h1 : i < runs.length) (h2 : i < a.length), a[i] = runs[i].length) → aB runs a = 0
  | [], a, _ => by simp [aB]
  | _ :: _, [], _ => by simp [aB]
  | l :: runs, n :: a, h => by
    have h0 := h 0 (by simp) (by simp)
    have := mU runs a fun i h1 h2 => by have := h (i + 1) (by simp; omega) (by simp; omega); simpa using this
    simp [aB] at this h0 ⊢
    exact ⟨by omega, this⟩
theorem zch : ∀ (runs : List (List aA)) (a : List Nat) (c : Nat), (∀ l ∈ runs, l.length ≤ c) → aB runs a ≤ runs.length * c
  | [], a, c, _ => by simp [aB]
  | _ :: _, [], c, _ => by simp [aB]
  | l :: runs, n :: a, c, h => by
    have h0 := h l (by simp)
    have := zch runs a c fun l hl => h l (by simp [hl])
    simp [aB, Nat.add_mul] at this ⊢
    omega
def uF (runs : List (List aA)) : Nat → List Nat → List (aA × Nat)
  | 0, _ => []
  | n + 1, a => ((runs[wn runs a]?.getD [])[a[wn runs a]?.getD 0]?.getD ⟨[], [], false, 0⟩, wn runs a) :: uF runs n (bE a (wn runs a))
def nN (l : List (aA × Nat)) : List aA := l.map (·.1)
def aQ (l : List (aA × Nat)) : List Int := l.map fun x => (x.2 : Int)
theorem aZ (a : List Nat) (w : Nat) (n : Nat) : (qB a).set w ((n : Nat) : Int) = qB (a.set w n) := by simp [qB, List.map_set]
def pH (runs : List (List aA)) : Nat → List Nat → List Nat
  | 0, a => a
  | n + 1, a => pH runs n (bE a (wn runs a))
theorem zew (runs : List (List aA)) (hg : zC runs) (s : gB × Int × Int) (hs : s.1.Runs = runs) (m : Nat) : ∀ (a : List Nat) (t : zA) (l : List aA) (from' : List Int),
    At runs a → t = yC (tB runs a) → aB runs a = m → l.length + m ≤ 200000 → from'.length = l.length →
    Ev (fun fu => hI s fu (qB a) t.Keys t.Lose t.Win l from') (qB (pH runs m a), (yC (tB runs (pH runs m a))).Keys, (yC (tB runs (pH runs m a))).Lose, (yC (tB runs (pH runs m a))).Win, l ++ nN (uF runs m a), from' ++ aQ (uF runs m a)) := by
  have h0 := hg.1
  have h32 := hg.2.1
  induction m with
  | zero =>
    intro a t l from' ha ht hr hm hfl
    rcases dL runs a ha h0 with ⟨hd, hall⟩ | ⟨hw, hwa, hq, hk⟩
    · refine Ev.succ ?_
      simp only [hI, hs]
      refine Ev.bind (zdY runs a h0 h32 hd t ht (qB a)) ?_
      simp only [show (decide ((12 : Int) = 0)) = false from rfl, Bool.not_false, ↓reduceIte, pH, uF, nN, aQ, List.map_nil, List.append_nil]
      rw [ht]
      exact Ev.ret _
    · have := yQ runs a _ hw hwa hq
      omega
  | succ m ih =>
    intro a t l from' ha ht hr hm hfl
    rcases dL runs a ha h0 with ⟨hd, hall⟩ | ⟨hw, hwa, hq, hk⟩
    · rw [mU runs a hall] at hr; omega
    · refine Ev.succ ?_
      simp only [hI, hs]
      refine Ev.bind (zde runs a h0 h32 hw hwa hq hk t ht) ?_
      have hle : runs[wn runs a].length ≤ 5000 := (hg.2.2 _ (List.getElem_mem hw)).1
      have w1 : IntKind.i64.wrap (((a[wn runs a] : Nat) : Int) + 1) = ((a[wn runs a] + 1 : Nat) : Int) := by rw [wr (by omega) (by omega)]; rfl
      have g1 : 2 * ((l.length + 1) * 48) ≤ 281474976710656 := by omega
      have g2 : 2 * ((from'.length + 1) * 8) ≤ 281474976710656 := by omega
      have hs' : (qB a).set (wn runs a) ((a[wn runs a] + 1 : Nat) : Int) = qB (bE a (wn runs a)) := by rw [aZ, mQ a _ hwa]
      have hix : ix (qB (bE a (wn runs a))) ((wn runs a : Nat) : Int) = some ((a[wn runs a] + 1 : Nat) : Int) := by
        rw [fF _ _ (by rw [vQ]; exact hwa)]; simp [mQ a _ hwa]
      simp only [show (decide ((0 : Int) = 0)) = true from rfl, Bool.not_true, Bool.false_eq_true, ↓reduceIte, if_pos g1, if_pos g2, fF a _ hwa, yA runs _ hw, Option.bind_some, Int.toNat_natCast, w1, hs', hix]
      have hnx : ∀ fu, dJ fu runs[wn runs a] ((a[wn runs a] + 1 : Nat) : Int) = some (jF runs[wn runs a] (a[wn runs a] + 1)) := fun fu => zao fu _ _ (by omega)
      simp only [hnx, Option.bind_some]
      obtain ⟨g, hrd⟩ := zd2 runs a hg ha hw hwa hq hk t ht
      have hrs := yQ runs a _ hw hwa hq
      have hrec := ih (bE a (wn runs a)) (yC (tB runs (bE a (wn runs a)))) (l ++ [runs[wn runs a][a[wn runs a]]]) (from' ++ [(wn runs a : Int)]) (cX runs a _ ha hw hwa hq) rfl (by omega) (by simp; omega) (by simp [hfl])
      have ht2 : (⟨t.Keys, t.Lose, t.Win⟩ : zA) = t := rfl
      simp only [ht2]
      refine Ev.bind hrd ?_
      have ho : uF runs (m + 1) a = (runs[wn runs a][a[wn runs a]], wn runs a) :: uF runs m (bE a (wn runs a)) := by
        simp only [uF, List.getElem?_eq_getElem hw, List.getElem?_eq_getElem hwa, Option.getD_some, List.getElem?_eq_getElem hq]
      have he : pH runs (m + 1) a = pH runs m (bE a (wn runs a)) := rfl
      rw [ho, he]
      simpa [nN, aQ] using hrec
def pick {ρ : Type} (c : Nat → Option ρ) : Nat → Nat → Sum Unit ρ
  | 0, _ => .inl ()
  | m + 1, n => match c n with | some r => .inr r | none => pick c m (n + 1)
theorem Ev.loop {ρ : Type} {L : Nat → Int → Option (Sum Unit ρ)} {len : Nat} (c : Nat → Option ρ) (stop : Ev (fun fu => L fu (len : Int)) (.inl ()))
    (step : ∀ n, n < len → (∀ r, c n = some r → Ev (fun fu => L fu (n : Int)) (.inr r)) ∧ (c n = none → ∀ r, Ev (fun fu => L fu ((n + 1 : Nat) : Int)) r → Ev (fun fu => L fu (n : Int)) r)) (m : Nat) :
    ∀ n, n + m = len → Ev (fun fu => L fu (n : Int)) (pick c m n) := by
  induction m with
  | zero => intro n hn; obtain rfl : n = len := by omega
            exact stop
  | succ m ih =>
    intro n hn
    obtain ⟨s1, s2⟩ := step n (by omega)
    simp only [pick]
    cases h : c n with
    | some r => exact s1 r h
    | none => exact s2 h _ (ih (n + 1) (by omega))
theorem aY {ρ : Type} {c : Nat → Option ρ} {m n : Nat} {u : Unit} (h : pick c m n = .inl u) : ∀ i, n ≤ i → i < n + m → c i = none := by
  induction m generalizing n with
  | zero => intro i h1 h2; omega
  | succ m ih =>
    intro i h1 h2
    simp only [pick] at h
    cases hc : c n with
    | some r => rw [hc] at h; cases h
    | none =>
      rw [hc] at h
      by_cases e : i = n
      · subst e; exact hc
      · exact ih h i (by omega) (by omega)
theorem zmq {ρ : Type} {c : Nat → Option ρ} {m n : Nat} (h : ∀ i, n ≤ i → i < n + m → c i = none) : pick c m n = .inl () := by
  induction m generalizing n with
  | zero => rfl
  | succ m ih => simp only [pick, h n (by omega) (by omega)]; exact ih fun i h1 h2 => h i (by omega) (by omega)
theorem hX {ρ : Type} {c : Nat → Option ρ} {m n : Nat} {r : ρ} (h : pick c m n = .inr r) : ∃ i, n ≤ i ∧ i < n + m ∧ c i = some r := by
  induction m generalizing n with
  | zero => cases h
  | succ m ih =>
    simp only [pick] at h
    cases hc : c n with
    | some r' => rw [hc] at h; cases h; exact ⟨n, by omega, by omega, hc⟩
    | none =>
      rw [hc] at h
      obtain ⟨i, h1, h2, h3⟩ := ih h
      exact ⟨i, by omega, by omega, h3⟩
theorem oC (n : Nat) (h : n < 9223372036854775807) : IntKind.i64.wrap ((n : Int) + 1) = ((n + 1 : Nat) : Int) := by rw [wr (by omega) (by omega)]; rfl
theorem dY (x y : aA) : aA.eqb x y = decide (x = y) := by
  obtain ⟨a, b, c, d⟩ := x
  obtain ⟨a', b', c', d'⟩ := y
  by_cases h1 : a = a' <;> by_cases h2 : b = b' <;> by_cases h3 : c = c' <;> by_cases h4 : d = d' <;> simp [aA.eqb, h1, h2, h3, h4]
theorem zb5 (x y : cA) : cA.eqb x y = decide (x = y) := by
  obtain ⟨a, b⟩ := x
  obtain ⟨a', b'⟩ := y
  by_cases h1 : a = a' <;> by_cases h2 : b = b' <;> simp [cA.eqb, h1, h2]
theorem Ev.eqs {α ρ : Type} [DecidableEq α] (bad : ρ) (l k : List α) (h : l.length = k.length) {L : Nat → Int → Option (Sum Unit ρ)}
    (stop : ∀ fu, L (fu + 1) (l.length : Int) = some (.inl ())) (step : ∀ fu n (h1 : n < l.length) (h2 : n < k.length), L (fu + 1) (n : Int) = if l[n] = k[n] then L fu ((n + 1 : Nat) : Int) else some (.inr bad)) :
    ∃ r, Ev (fun fu => L fu 0) r ∧ ((r = .inl () ∧ l = k) ∨ (r = .inr bad ∧ l ≠ k)) := by
  have lp := Ev.loop (L := L) (len := l.length) (fun i => if l[i]? = k[i]? then none else some bad)
    (Ev.succ (Ev.of stop (Ev.ret _))) (fun n hn => by
      have hk : n < k.length := by omega
      simp only [List.getElem?_eq_getElem hn, List.getElem?_eq_getElem hk, Option.some.injEq]
      refine ⟨fun r hr => Ev.succ (Ev.of (fun fu => step fu n hn hk) ?_), fun hr r q => Ev.succ (Ev.of (fun fu => step fu n hn hk) ?_)⟩
      · by_cases e : l[n] = k[n]
        · rw [if_pos e] at hr; cases hr
        · rw [if_neg e] at hr; cases hr; simp only [if_neg e]; exact Ev.ret _
      · by_cases e : l[n] = k[n]
        · simp only [if_pos e]; exact q
        · rw [if_neg e] at hr; cases hr) l.length 0 (by omega)
  cases hp : pick (fun i => if l[i]? = k[i]? then none else some bad) l.length 0 with
  | inl u =>
    rw [hp] at lp
    refine ⟨_, lp, .inl ⟨rfl, List.ext_getElem h fun i h1 h2 => ?_⟩⟩
    have := aY hp i (by omega) (by omega)
    simp only [List.getElem?_eq_getElem h1, List.getElem?_eq_getElem h2, Option.some.injEq] at this
    by_cases e : l[i] = k[i]
    · exact e
    · rw [if_neg e] at this; cases this
  | inr r =>
    rw [hp] at lp
    obtain ⟨i, h1, h2, h3⟩ := hX hp
    by_cases e : l[i]? = k[i]?
    · simp [e] at h3
    · simp [e] at h3
      subst h3
      exact ⟨_, lp, .inr ⟨rfl, fun e' => by subst e'; simp at e⟩⟩
theorem zbm (l k : List aA) (hl : l.length < 1000000000000000000) : ∃ b, Ev (fun fu => rO fu l k) b ∧ (b = true ↔ l = k) := by
  unfold rO
  by_cases h : l.length = k.length
  · have hd : (!decide ((l.length : Int) = (k.length : Int))) = false := by simp; omega
    simp only [hd, Bool.false_eq_true, ↓reduceIte]
    obtain ⟨r, r1, r2⟩ := Ev.eqs false l k h (L := nM l k) (fun fu => by simp [nM]) (fun fu n h1 h2 => by
      have d : decide ((n : Int) < (l.length : Int)) = true := decide_eq_true (by omega)
      simp only [nM, d, ↓reduceIte, yA l n h1, yA k n h2, Option.bind_some, dY, oC n (by omega)]
      by_cases e : l[n] = k[n] <;> simp [e])
    rcases r2 with ⟨rfl, e⟩ | ⟨rfl, e⟩
    · exact ⟨true, Ev.bind r1 (Ev.ret _), by simp [e]⟩
    · exact ⟨false, Ev.bind r1 (Ev.ret _), by simp [e]⟩
  · have hd : (!decide ((l.length : Int) = (k.length : Int))) = true := by simp; omega
    simp only [hd, ↓reduceIte]
    exact ⟨false, Ev.ret _, by simp; intro e; exact h (by rw [e])⟩
theorem zeq (l k : List Int) (hl : l.length < 1000000000000000000) : ∃ b, Ev (fun fu => zP fu l k) b ∧ (b = true ↔ l = k) := by
  unfold zP
  by_cases h : l.length = k.length
  · have hd : (!decide ((l.length : Int) = (k.length : Int))) = false := by simp; omega
    simp only [hd, Bool.false_eq_true, ↓reduceIte]
    obtain ⟨r, r1, r2⟩ := Ev.eqs false l k h (L := qM l k) (fun fu => by simp [qM]) (fun fu n h1 h2 => by
      have d : decide ((n : Int) < (l.length : Int)) = true := decide_eq_true (by omega)
      simp only [qM, d, ↓reduceIte, yA l n h1, yA k n h2, Option.bind_some, oC n (by omega)]
      by_cases e : l[n] = k[n] <;> simp [e])
    rcases r2 with ⟨rfl, e⟩ | ⟨rfl, e⟩
    · exact ⟨true, Ev.bind r1 (Ev.ret _), by simp [e]⟩
    · exact ⟨false, Ev.bind r1 (Ev.ret _), by simp [e]⟩
  · have hd : (!decide ((l.length : Int) = (k.length : Int))) = true := by simp; omega
    simp only [hd, ↓reduceIte]
    exact ⟨false, Ev.ret _, by simp; intro e; exact h (by rw [e])⟩
theorem zjv (a b : zA) (hl : a.Keys.length < 1000000000000000000) (h : a.Keys.length = b.Keys.length) : ∃ r, Ev (fun fu => yK a b fu 0) r ∧ ((r = .inl () ∧ a.Keys = b.Keys) ∨ (r = .inr false ∧ a.Keys ≠ b.Keys)) :=
  Ev.eqs false a.Keys b.Keys h (L := yK a b) (fun fu => by simp [yK]) (fun fu n h1 h2 => by
    have d : decide ((n : Int) < (a.Keys.length : Int)) = true := decide_eq_true (by omega)
    simp only [yK, d, ↓reduceIte, yA a.Keys n h1, yA b.Keys n h2, Option.bind_some, zb5, oC n (by omega)]
    by_cases e : a.Keys[n] = b.Keys[n] <;> simp [e])
theorem zcG (a b : zA) (hl : a.Keys.length < 1000000000000000000) (hl2 : a.Lose.length < 1000000000000000000) : ∃ r, Ev (fun fu => fR fu a b) r ∧ (r = true ↔ a = b) := by
  obtain ⟨i, i1, i2⟩ := zeq a.Lose b.Lose hl2
  obtain ⟨ak, al, aw⟩ := a
  obtain ⟨bk, bl, bw⟩ := b
  simp only at *
  unfold fR
  by_cases h : ak.length = bk.length
  · have hd : (!decide ((ak.length : Int) = (bk.length : Int))) = false := by simp; omega
    by_cases hw : aw = bw
    · simp only [hd, hw, decide_true, Bool.not_true, Bool.false_eq_true, ↓reduceIte, Option.bind_some]
      cases i with
      | false =>
        refine ⟨false, Ev.bind (Ev.bind i1 (Ev.ret _)) (Ev.ret _), ?_⟩
        simp at i2
        simp; intro _ e; exact absurd e i2
      | true =>
        obtain ⟨r, r1, r2⟩ := zjv ⟨ak, al, aw⟩ ⟨bk, bl, bw⟩ hl h
        subst hw
        rcases r2 with ⟨rfl, e⟩ | ⟨rfl, e⟩
        · refine ⟨true, Ev.bind (a := false) (Ev.bind i1 (Ev.ret _)) (Ev.bind r1 (Ev.ret _)), ?_⟩
          simp at i2 e
          simp [i2, e]
        · refine ⟨false, Ev.bind (a := false) (Ev.bind i1 (Ev.ret _)) (Ev.bind r1 (Ev.ret _)), ?_⟩
          simp at e
          simp; intro e'; exact absurd e' e
    · refine ⟨false, Ev.of (fun fu => ?_) (Ev.ret _), by simp; intro _ _ e; exact absurd e hw⟩
      simp [hd, hw]
  · refine ⟨false, Ev.of (fun fu => ?_) (Ev.ret _), by simp; intro e; exact absurd (by rw [e]) h⟩
    have hd : (!decide ((ak.length : Int) = (bk.length : Int))) = true := by simp; omega
    simp [hd]
theorem zoR (a b : gB) (hA : a.At.length < 1000000000000000000) (hR : a.Runs.length < 1000000000000000000) (hl : a.Tree.Keys.length < 1000000000000000000) (hl2 : a.Tree.Lose.length < 1000000000000000000)
    (hE : ∀ l ∈ a.Runs, l.length < 1000000000000000000) : ∃ r, Ev (fun fu => sU fu a b) r ∧ (r = true ↔ a = b) := by
  obtain ⟨i, i1, i2⟩ := zeq a.At b.At hA
  obtain ⟨j, j1, j2⟩ := zcG a.Tree b.Tree hl hl2
  obtain ⟨ar, aa, at'⟩ := a
  obtain ⟨br, ba, bt⟩ := b
  simp only at *
  unfold sU
  by_cases h : ar.length = br.length
  · have hd : (!decide ((ar.length : Int) = (br.length : Int))) = false := by simp; omega
    simp only [hd, Bool.false_eq_true, ↓reduceIte]
    cases i with
    | false =>
      refine ⟨false, Ev.bind (a := true) (Ev.bind i1 (Ev.ret _)) (Ev.bind (a := true) (Ev.ret _) (Ev.ret _)), ?_⟩
      simp at i2
      simp; intro _ e; exact absurd e i2
    | true =>
      cases j with
      | false =>
        refine ⟨false, Ev.bind (a := false) (Ev.bind i1 (Ev.ret _)) (Ev.bind (a := true) (Ev.bind j1 (Ev.ret _)) (Ev.ret _)), ?_⟩
        simp at j2
        simp; intro _ _ e; exact absurd e j2
      | true =>
        obtain ⟨r, r1, r2⟩ : ∃ r, Ev (fun fu => wJ ⟨ar, aa, at'⟩ ⟨br, ba, bt⟩ fu 0) r ∧ ((r = .inl () ∧ ar = br) ∨ (r = .inr false ∧ ar ≠ br)) := by
          have lp := Ev.loop (L := wJ ⟨ar, aa, at'⟩ ⟨br, ba, bt⟩) (len := ar.length) (fun i => if ar[i]? = br[i]? then none else some false)
            (Ev.succ (Ev.of (fun fu => by simp [wJ]) (Ev.ret _))) (fun n hn => by
              have hk : n < br.length := by omega
              have d : decide ((n : Int) < (ar.length : Int)) = true := decide_eq_true (by omega)
              obtain ⟨q, q1, q2⟩ := zbm ar[n] br[n] (hE _ (List.getElem_mem hn))
              have f : ∀ fu, wJ ⟨ar, aa, at'⟩ ⟨br, ba, bt⟩ (fu + 1) (n : Int) = (rO fu ar[n] br[n]).bind fun r => if r = true then wJ ⟨ar, aa, at'⟩ ⟨br, ba, bt⟩ fu ((n + 1 : Nat) : Int) else some (.inr false) := fun fu => by
                simp only [wJ, d, ↓reduceIte, yA ar n hn, yA br n hk, Option.bind_some, oC n (by omega)]
                congr 1; funext r; cases r <;> rfl
              simp only [List.getElem?_eq_getElem hn, List.getElem?_eq_getElem hk, Option.some.injEq]
              refine ⟨fun r hr => Ev.succ (Ev.of f (Ev.bind q1 ?_)), fun hr r q => Ev.succ (Ev.of f (Ev.bind q1 ?_))⟩
              · by_cases e : ar[n] = br[n]
                · rw [if_pos e] at hr; cases hr
                · rw [if_neg e] at hr; cases hr
                  simp only [if_neg (show ¬ q = true from fun z => e (q2.1 z))]; exact Ev.ret _
              · by_cases e : ar[n] = br[n]
                · simp only [if_pos (q2.2 e)]; exact q
                · rw [if_neg e] at hr; cases hr) ar.length 0 (by omega)
          cases hp : pick (fun i => if ar[i]? = br[i]? then none else some false) ar.length 0 with
          | inl u =>
            rw [hp] at lp
            refine ⟨_, lp, .inl ⟨rfl, List.ext_getElem h fun i h1 h2 => ?_⟩⟩
            have := aY hp i (by omega) (by omega)
            simp only [List.getElem?_eq_getElem h1, List.getElem?_eq_getElem h2, Option.some.injEq] at this
            by_cases e : ar[i] = br[i]
            · exact e
            · rw [if_neg e] at this; cases this
          | inr r =>
            rw [hp] at lp
            obtain ⟨i, h1, h2, h3⟩ := hX hp
            by_cases e : ar[i]? = br[i]?
            · simp [e] at h3
            · simp [e] at h3
              subst h3
              exact ⟨_, lp, .inr ⟨rfl, fun e' => by subst e'; simp at e⟩⟩
        simp at i2 j2
        rcases r2 with ⟨rfl, e⟩ | ⟨rfl, e⟩
        · exact ⟨true, Ev.bind (a := false) (Ev.bind i1 (Ev.ret _)) (Ev.bind (a := false) (Ev.bind j1 (Ev.ret _)) (Ev.bind r1 (Ev.ret _))), by simp [e, i2, j2]⟩
        · exact ⟨false, Ev.bind (a := false) (Ev.bind i1 (Ev.ret _)) (Ev.bind (a := false) (Ev.bind j1 (Ev.ret _)) (Ev.bind r1 (Ev.ret _))), by simp [e]⟩
  · refine ⟨false, Ev.of (fun fu => ?_) (Ev.ret _), by simp; intro e; exact absurd (by rw [e]) h⟩
    have hd : (!decide ((ar.length : Int) = (br.length : Int))) = true := by simp; omega
    simp [hd]
theorem zcK : @fS = @cI := by kernel_rfl
theorem mY (runs : List (List aA)) (a : List Nat) (ha : At runs a) (h0 : 0 < runs.length) (hl : runs.length ≤ 32) :
    Ev (fun fu => bW fu runs (qB a)) (if ((tB runs a)[eD (tB runs a)]'(mF _ (by rw [yD]; exact h0))).Done then -1 else (wn runs a : Int)) := by
  unfold bW
  obtain ⟨r, r1, r2⟩ := zkE runs a ha (by omega) runs.length 0 (-1) (by omega) (.inl ⟨rfl, fun j h1 h2 => by omega⟩)
  have := zjC (tB runs a) (by rw [yD]; exact h0) r (by rw [yD]; exact r2)
  rw [this] at r1
  exact Ev.bind r1 (Ev.ret _)
theorem zmn (runs : List (List aA)) (hg : zC runs) (m : Nat) : ∀ (a : List Nat) (l : List aA) (from' : List Int),
    At runs a → aB runs a = m → l.length + m ≤ 200000 → from'.length = l.length →
    Ev (fun fu => tU runs fu (qB a) l from') (l ++ nN (uF runs m a), from' ++ aQ (uF runs m a), 0) := by
  have h0 := hg.1
  have h32 := hg.2.1
  induction m with
  | zero =>
    intro a l from' ha hr hm hfl
    have hf := mY runs a ha h0 h32
    rcases dL runs a ha h0 with ⟨hd, hall⟩ | ⟨hw, hwa, hq, hk⟩
    · refine Ev.succ ?_
      rw [if_pos hd] at hf
      simp only [tU]
      refine Ev.bind hf ?_
      simp only [show (decide ((-1 : Int) < 0)) = true from rfl, ↓reduceIte, uF, nN, aQ, List.map_nil, List.append_nil]
      exact Ev.ret _
    · have := yQ runs a _ hw hwa hq
      omega
  | succ m ih =>
    intro a l from' ha hr hm hfl
    have hf := mY runs a ha h0 h32
    rcases dL runs a ha h0 with ⟨hd, hall⟩ | ⟨hw, hwa, hq, hk⟩
    · rw [mU runs a hall] at hr; omega
    · refine Ev.succ ?_
      rw [if_neg (by rw [hk]; simp)] at hf
      simp only [tU]
      refine Ev.bind hf ?_
      have hle : runs[wn runs a].length ≤ 5000 := (hg.2.2 _ (List.getElem_mem hw)).1
      have hs' : (qB a).set (wn runs a) ((a[wn runs a] + 1 : Nat) : Int) = qB (bE a (wn runs a)) := by rw [aZ, mQ a _ hwa]
      have g1 : 2 * ((l.length + 1) * 48) ≤ 281474976710656 := by omega
      have g2 : 2 * ((from'.length + 1) * 8) ≤ 281474976710656 := by omega
      have hd : (decide (((wn runs a : Nat) : Int) < 0)) = false := decide_eq_false (by omega)
      simp only [hd, Bool.false_eq_true, ↓reduceIte, if_pos g1, if_pos g2, fF a _ hwa, yA runs _ hw, yA _ _ hq, Option.bind_some, Int.toNat_natCast, oC _ (show a[wn runs a] < 9223372036854775807 by omega), hs']
      have hrs := yQ runs a _ hw hwa hq
      have hrec := ih (bE a (wn runs a)) (l ++ [runs[wn runs a][a[wn runs a]]]) (from' ++ [(wn runs a : Int)]) (cX runs a _ ha hw hwa hq) (by omega) (by simp; omega) (by simp [hfl])
      have ho : uF runs (m + 1) a = (runs[wn runs a][a[wn runs a]], wn runs a) :: uF runs m (bE a (wn runs a)) := by
        simp only [uF, List.getElem?_eq_getElem hw, List.getElem?_eq_getElem hwa, Option.getD_some, List.getElem?_eq_getElem hq]
      rw [ho]
      simpa [nN, aQ] using hrec
theorem zcE (runs : List (List aA)) (hg : zC runs) (a : List Nat) : aB runs a ≤ 160000 := by
  have := zch runs a 5000 fun l hl => (hg.2.2 l hl).1
  have := Nat.mul_le_mul_right 5000 hg.2.1
  omega
theorem all_ev (runs : List (List aA)) (hf : tE runs) (hl : runs.length ≤ 1000) :
    ∃ r, Ev (fun fu => iL fu runs) r ∧ Ev (fun fu => xU fu runs) r ∧
      ((zC runs ∧ r = (nN (uF runs (aB runs (cE runs)) (cE runs)), aQ (uF runs (aB runs (cE runs)) (cE runs)), 0)) ∨ (r.1 = [] ∧ r.2.1 = [] ∧ r.2.2 ≠ 0)) := by
  obtain ⟨b, b1, b2, b3⟩ := zbc runs hf hl
  obtain ⟨c, c1, c2, c3⟩ := xY runs hf hl
  unfold iL xU
  rw [zcK]
  rcases b3 with ⟨hg, rfl⟩ | ⟨hb, hb2⟩
  · have hg3 : (0 : Int) ≤ (runs.length : Int) ∧ (runs.length : Int) ≤ (runs.length : Int) ∧ (runs.length : Int) ≤ 9223372036854775807 ∧ 8 * (runs.length : Int) ≤ 281474976710656 := by have := hg.2.1; omega
    have hr := zcE runs hg (cE runs)
    refine ⟨_, ?_, ?_, .inl ⟨hg, rfl⟩⟩
    · refine Ev.bind b1 ?_
      simp only [decide_true, Bool.not_true, Bool.false_eq_true, ↓reduceIte]
      exact Ev.bind (zew runs hg (gC runs (cE runs), 0, 0) rfl _ (cE runs) _ [] [] (wL runs) rfl rfl (by simp; omega) rfl) (Ev.of (fun fu => by simp) (Ev.ret _))
    · have hc : c = (0, 0) := by
        rcases c3 with ⟨e, _⟩ | e
        · exact e
        · exfalso
          have : Ev (fun fu => cI fu runs) (qV, c.1, c.2) := by
            unfold cI
            refine Ev.bind c1 (Ev.of (fun fu => ?_) (Ev.ret _))
            simp only [decide_eq_false e, Bool.not_false, ↓reduceIte]; rfl
          have := Ev.uniq this b1
          simp only [Prod.mk.injEq] at this
          exact e this.2.2
      subst hc
      refine Ev.bind c2 ?_
      simp only [decide_true, Bool.not_true, Bool.false_eq_true, ↓reduceIte, if_pos hg3]
      rw [cV]
      exact Ev.bind (zmn runs hg _ (cE runs) [] [] (wL runs) rfl (by simp; omega) rfl) (Ev.of (fun fu => by simp) (Ev.ret _))
  · have hc : c.2 ≠ 0 := by
      intro e
      rcases c3 with ⟨e', hg⟩ | e'
      · obtain ⟨b', b1', -, b3'⟩ := zbc runs hf hl
        have g3 : (0 : Int) ≤ (runs.length : Int) ∧ (runs.length : Int) ≤ (runs.length : Int) ∧ (runs.length : Int) ≤ 9223372036854775807 ∧ 8 * (runs.length : Int) ≤ 281474976710656 := by have := hg.2.1; omega
        have : Ev (fun fu => mO fu runs) (gC runs (cE runs), 0, 0) := by
          unfold mO
          subst e'
          refine Ev.bind c2 ?_
          simp only [decide_true, Bool.not_true, Bool.false_eq_true, ↓reduceIte, if_pos g3]
          rw [cV]
          exact Ev.bind (uU runs _ (wL runs) hg.1 hg.2.1) (Ev.ret _)
        have := Ev.uniq this b2
        rw [← this] at hb2
        simp at hb2
      · exact e' e
    refine ⟨([], [], b.2.2), ?_, ?_, .inr ⟨rfl, rfl, hb2⟩⟩
    · refine Ev.bind b1 ?_
      simp only [decide_eq_false hb2, Bool.not_false, ↓reduceIte]
      exact Ev.ret _
    · refine Ev.bind c2 ?_
      have : c.2 = b.2.2 := by
        have : Ev (fun fu => cI fu runs) (qV, c.1, c.2) := by
          unfold cI
          refine Ev.bind c1 (Ev.of (fun fu => ?_) (Ev.ret _))
          simp only [decide_eq_false hc, Bool.not_false, ↓reduceIte]; rfl
        have := Ev.uniq this b1
        rw [← this]
      rw [this]
      simp only [decide_eq_false hb2, Bool.not_false, ↓reduceIte]
      exact Ev.ret _
def aN (runs : List (List aA)) : Prop := runs.length ≤ 34 ∧ (∀ l ∈ runs, l.length ≤ 6000) ∧ ∀ l ∈ runs, ∀ e ∈ l, e.Key.length ≤ 200
theorem aN.fits {runs : List (List aA)} (h : aN runs) : tE runs := fun l hl e he => Nat.le_trans (h.2.2 l hl e he) (by decide)
theorem zbt (runs : List (List aA)) (a : List Nat) (ha : At runs a) : (gC runs a).At.length = runs.length ∧ (gC runs a).Runs.length = runs.length ∧ (gC runs a).Tree.Keys.length = runs.length ∧ (gC runs a).Tree.Lose.length = runs.length := by
  simp [gC, yC, yF, yD, tH, ha.1]
theorem zoc (runs : List (List aA)) (n : Nat) : ∀ a, (uF runs n a).length = n := by
  induction n with
  | zero => intro a; rfl
  | succ n ih => intro a; simp [uF, ih]
structure zdp (s : gB) : Prop where
  near : aN s.Runs
  at' : s.At.length ≤ 1000
  keys : s.Tree.Keys.length ≤ 1000
  lose : s.Tree.Lose.length ≤ 1000
theorem zcC (l k : List cA) (hl : l.length ≤ 1000) : ∃ b, Ev (fun fu => uK fu l k) b ∧ (b = true ↔ l = k) := by
  unfold uK
  by_cases h : l.length = k.length
  · have hd : (!decide ((l.length : Int) = (k.length : Int))) = false := by simp; omega
    simp only [hd, Bool.false_eq_true, ↓reduceIte]
    obtain ⟨r, r1, r2⟩ := Ev.eqs false l k h (L := yH l k) (fun fu => by simp [yH]) (fun fu n h1 h2 => by
      have d : decide ((n : Int) < (l.length : Int)) = true := decide_eq_true (by omega)
      simp only [yH, d, ↓reduceIte, yA l n h1, yA k n h2, Option.bind_some, zb5, oC n (by omega)]
      by_cases e : l[n] = k[n] <;> simp [e])
    rcases r2 with ⟨rfl, e⟩ | ⟨rfl, e⟩
    · exact ⟨true, Ev.bind r1 (Ev.ret _), by simp [e]⟩
    · exact ⟨false, Ev.bind r1 (Ev.ret _), by simp [e]⟩
  · have hd : (!decide ((l.length : Int) = (k.length : Int))) = true := by simp; omega
    simp only [hd, ↓reduceIte]
    exact ⟨false, Ev.ret _, by simp; intro e; exact h (by rw [e])⟩
theorem zbR (l k : List Int) (hl : l.length ≤ 1000) : ∃ b, Ev (fun fu => aK fu l k) b ∧ (b = true ↔ l = k) := by
  unfold aK
  by_cases h : l.length = k.length
  · have hd : (!decide ((l.length : Int) = (k.length : Int))) = false := by simp; omega
    simp only [hd, Bool.false_eq_true, ↓reduceIte]
    obtain ⟨r, r1, r2⟩ := Ev.eqs false l k h (L := oI l k) (fun fu => by simp [oI]) (fun fu n h1 h2 => by
      have d : decide ((n : Int) < (l.length : Int)) = true := decide_eq_true (by omega)
      simp only [oI, d, ↓reduceIte, yA l n h1, yA k n h2, Option.bind_some, oC n (by omega)]
      by_cases e : l[n] = k[n] <;> simp [e])
    rcases r2 with ⟨rfl, e⟩ | ⟨rfl, e⟩
    · exact ⟨true, Ev.bind r1 (Ev.ret _), by simp [e]⟩
    · exact ⟨false, Ev.bind r1 (Ev.ret _), by simp [e]⟩
  · have hd : (!decide ((l.length : Int) = (k.length : Int))) = true := by simp; omega
    simp only [hd, ↓reduceIte]
    exact ⟨false, Ev.ret _, by simp; intro e; exact h (by rw [e])⟩
theorem zfv (a b : zA) (hk : a.Keys.length ≤ 1000) (hl : a.Lose.length ≤ 1000) : Ev (fun fu => kP fu a b) (decide (a = b)) := by
  obtain ⟨i, i1, i2⟩ := zcC a.Keys b.Keys hk
  obtain ⟨j, j1, j2⟩ := zbR a.Lose b.Lose hl
  obtain ⟨ak, al, aw⟩ := a
  obtain ⟨bk, bl, bw⟩ := b
  simp only at *
  unfold kP
  by_cases hw : aw = bw
  · subst hw
    simp only [decide_true, ↓reduceIte]
    refine Ev.bind (Ev.bind i1 (Ev.ret _)) ?_
    cases i with
    | false =>
      simp at i2
      exact Ev.of (fun fu => by simp [i2]) (Ev.ret _)
    | true =>
      simp at i2
      refine Ev.bind (a := j) (Ev.bind j1 (Ev.ret _)) (Ev.of (fun fu => ?_) (Ev.ret _))
      cases j <;> simp at j2 <;> simp [i2, j2]
  · exact Ev.of (fun fu => by simp [hw]) (Ev.ret _)
def qL (s : gB) (i : Nat) : Option (Int × Int) :=
  match s.At[i]?, s.Runs[i]? with
  | some n, some l => if n < 0 ∨ (l.length : Int) < n then some ((i : Int), 6) else none
  | _, _ => none
theorem zfl (s : gB) (h : s.At.length = s.Runs.length) (hs : s.At.length ≤ 1000) : Ev (fun fu => qG s fu 0) (pick (qL s) s.At.length 0) := by
  refine Ev.loop (L := qG s) (len := s.At.length) (qL s) (Ev.succ (Ev.of (fun fu => by simp [qG]) (Ev.ret _))) (fun n hn => ?_) s.At.length 0 (by omega)
  have hr : n < s.Runs.length := by omega
  have d : decide ((n : Int) < (s.At.length : Int)) = true := decide_eq_true (by omega)
  have f : ∀ fu, qG s (fu + 1) (n : Int) = if s.At[n] < 0 ∨ (s.Runs[n].length : Int) < s.At[n] then some (.inr ((n : Int), 6)) else qG s fu ((n + 1 : Nat) : Int) := fun fu => by
    simp only [qG, d, ↓reduceIte, yA s.At n hn, yA s.Runs n hr, Option.bind_some, oC n (by omega)]
    by_cases e1 : s.At[n] < 0 <;> by_cases e2 : (s.Runs[n].length : Int) < s.At[n] <;> simp [e1, e2]
  simp only [qL, List.getElem?_eq_getElem hn, List.getElem?_eq_getElem hr]
  refine ⟨fun r q => Ev.succ (Ev.of f ?_), fun q r k => Ev.succ (Ev.of f ?_)⟩
  · split at q
    · rename_i e; cases q; simp only [if_pos e]; exact Ev.ret _
    · cases q
  · split at q
    · cases q
    · rename_i e; simp only [if_neg e]; exact k
theorem zgG (s : gB) (h : s.At.length = s.Runs.length) (hs : s.At.length ≤ 1000) : Ev (fun fu => yP s fu 0) (pick (qL s) s.At.length 0) := by
  refine Ev.loop (L := yP s) (len := s.At.length) (qL s) (Ev.succ (Ev.of (fun fu => by simp [yP]) (Ev.ret _))) (fun n hn => ?_) s.At.length 0 (by omega)
  have hr : n < s.Runs.length := by omega
  have d : decide ((n : Int) < (s.At.length : Int)) = true := decide_eq_true (by omega)
  have f : ∀ fu, yP s (fu + 1) (n : Int) = if s.At[n] < 0 ∨ (s.Runs[n].length : Int) < s.At[n] then some (.inr ((n : Int), 6)) else yP s fu ((n + 1 : Nat) : Int) := fun fu => by
    simp only [yP, d, ↓reduceIte, yA s.At n hn, yA s.Runs n hr, Option.bind_some, oC n (by omega)]
    by_cases e1 : s.At[n] < 0 <;> by_cases e2 : (s.Runs[n].length : Int) < s.At[n] <;> simp [e1, e2]
  simp only [qL, List.getElem?_eq_getElem hn, List.getElem?_eq_getElem hr]
  refine ⟨fun r q => Ev.succ (Ev.of f ?_), fun q r k => Ev.succ (Ev.of f ?_)⟩
  · split at q
    · rename_i e; cases q; simp only [if_pos e]; exact Ev.ret _
    · cases q
  · split at q
    · cases q
    · rename_i e; simp only [if_neg e]; exact k
theorem places (s : gB) (h : s.At.length = s.Runs.length) (hp : pick (qL s) s.At.length 0 = .inl ()) : ∃ a, s.At = qB a ∧ At s.Runs a := by
  have hb : ∀ i (h1 : i < s.At.length) (h2 : i < s.Runs.length), 0 ≤ s.At[i] ∧ s.At[i] ≤ (s.Runs[i].length : Int) := by
    intro i h1 h2
    have := aY hp i (by omega) (by omega)
    simp only [qL, List.getElem?_eq_getElem h1, List.getElem?_eq_getElem h2] at this
    split at this
    · cases this
    · omega
  refine ⟨s.At.map Int.toNat, ?_, by simp [h], fun i h1 h2 => ?_⟩
  · refine List.ext_getElem (by simp [qB]) fun i h1 h2 => ?_
    have := (hb i h1 (by omega)).1
    simp [qB]; omega
  · have := hb i (by omega) h1
    simp; omega
def dH (runs : List (List aA)) (a : List Nat) (w : Nat) (i : Nat) : Option (Int × Int) :=
  match runs[i]?, a[i]?, runs[w]?, a[w]? with
  | some l, some (n + 1), some r, some m =>
    match l[n]?, r[m]? with
    | some x, some y => if bl y.Key x.Key = true ∨ (x.Key = y.Key ∧ w < i) then some ((w : Int), 6) else none
    | _, _ => none
  | _, _, _, _ => none
theorem cmpKey (fu : Nat) (x y : List UInt8) : cL fu x y = some (if bl x y = true then -1 else if x = y then 0 else 1) := by
  simp only [cL, vP, beq_self_eq_true, Bool.not_true, Option.bind_some, Bool.false_eq_true, ↓reduceIte, bl]
  by_cases h : Op.bytesLess x y = true
  · simp [h]
  · by_cases e : x = y
    · subst e; have := fG x; simp only [bl] at this; simp [this]
    · simp [h, e]
theorem cmpInt (fu : Nat) (x y : Int) : oM fu x y = some (if x < y then -1 else if y < x then 1 else 0) := by
  simp only [oM, tQ, decide_true, Bool.not_true, Option.bind_some, Bool.false_eq_true, ↓reduceIte, decide_eq_true_eq]
  split
  · rfl
  · split <;> rfl
theorem zn2 (x y : Int) : Ev (fun fu => fM fu [x, y]) (if x ≠ 0 then x else y) := by
  unfold fM
  by_cases hx : x = 0
  · subst hx
    by_cases hy : y = 0
    · subst hy
      refine Ev.bind (a := .inl ()) (Ev.succ (Ev.succ (Ev.succ (Ev.of (fun fu => ?_) (Ev.ret _))))) (Ev.of (fun fu => by simp) (Ev.ret _))
      simp [mI, ix, wr]
    · refine Ev.bind (a := .inr y) (Ev.succ (Ev.succ (Ev.of (fun fu => ?_) (Ev.ret _)))) (Ev.of (fun fu => by simp) (Ev.ret _))
      simp [mI, ix, wr, hy]
  · refine Ev.bind (a := .inr x) (Ev.succ (Ev.of (fun fu => ?_) (Ev.ret _))) (Ev.of (fun fu => by simp [hx]) (Ev.ret _))
    simp [mI, ix, hx]
theorem zim (s : gB) (a : List Nat) (hA : s.At = qB a) (ha : At s.Runs a) (hs : a.length ≤ 1000) (hlen : ∀ l ∈ s.Runs, l.length ≤ 6000) (w : Nat) (hw : w < s.Runs.length) (hwa : w < a.length) (hq : a[w] < s.Runs[w].length) :
    Ev (fun fu => vF s ((w : Int), s.Runs[w][a[w]].Key, 0) fu 0) (pick (dH s.Runs a w) a.length 0) := by
  have hl : s.At.length = a.length := by rw [hA, yF]
  refine Ev.loop (L := vF s ((w : Int), s.Runs[w][a[w]].Key, 0)) (len := a.length) (dH s.Runs a w) (Ev.succ (Ev.of (fun fu => by simp [vF, hl]) (Ev.ret _))) (fun n hn => ?_) a.length 0 (by omega)
  have hr : n < s.Runs.length := by rw [← ha.1]; exact hn
  have d : decide ((n : Int) < (s.At.length : Int)) = true := decide_eq_true (by omega)
  have ixA : ix s.At (n : Int) = some ((a[n] : Nat) : Int) := by rw [hA]; exact fF a n hn
  have hle := ha.2 n hr hn
  have h6 := hlen _ (List.getElem_mem hr)
  simp only [dH, List.getElem?_eq_getElem hr, List.getElem?_eq_getElem hn, List.getElem?_eq_getElem hw, List.getElem?_eq_getElem hwa]
  cases hk : a[n] with
  | zero =>
    have f : ∀ fu, vF s ((w : Int), s.Runs[w][a[w]].Key, 0) (fu + 1) (n : Int) = vF s ((w : Int), s.Runs[w][a[w]].Key, 0) fu ((n + 1 : Nat) : Int) := fun fu => by
      simp only [vF, d, ↓reduceIte, ixA, hk, Option.bind_some, oC n (by omega)]
      simp
    simp only
    exact ⟨fun r q => by (simp at q), fun _ r k => Ev.succ (Ev.of f k)⟩
  | succ m =>
    have hm : m < s.Runs[n].length := by omega
    have w1 : IntKind.i64.wrap (((m + 1 : Nat) : Int) - 1) = (m : Int) := by rw [wr (by omega) (by omega)]; omega
    have d0 : decide ((0 : Int) < ((m + 1 : Nat) : Int)) = true := decide_eq_true (by omega)
    simp only [List.getElem?_eq_getElem hm, List.getElem?_eq_getElem hq]
    generalize hx : s.Runs[n][m] = x
    generalize hy : s.Runs[w][a[w]] = y
    have f : ∀ fu, vF s ((w : Int), y.Key, 0) (fu + 1) (n : Int) = ((fM fu [if bl x.Key y.Key = true then -1 else if x.Key = y.Key then 0 else 1, if (n : Int) < (w : Int) then -1 else if (w : Int) < (n : Int) then 1 else 0]).bind fun vr61 => some (decide (0 < vr61))).bind fun b62 => if b62 = true then some (.inr ((w : Int), 6)) else vF s ((w : Int), y.Key, 0) fu ((n + 1 : Nat) : Int) := fun fu => by
      simp only [vF, d, ↓reduceIte, ixA, hk, Option.bind_some, oC n (by omega), d0, yA s.Runs n hr, w1, yA s.Runs[n] m hm, hx, cmpKey, cmpInt]
    have o := zn2 (if bl x.Key y.Key = true then -1 else if x.Key = y.Key then 0 else 1) (if (n : Int) < (w : Int) then -1 else if (w : Int) < (n : Int) then 1 else 0)
    have hiff : decide (0 < (if (if bl x.Key y.Key = true then (-1 : Int) else if x.Key = y.Key then 0 else 1) ≠ 0 then (if bl x.Key y.Key = true then (-1 : Int) else if x.Key = y.Key then 0 else 1) else (if (n : Int) < (w : Int) then -1 else if (w : Int) < (n : Int) then 1 else 0))) = decide (bl y.Key x.Key = true ∨ (x.Key = y.Key ∧ w < n)) := by
      refine decide_eq_decide.2 ?_
      rcases vR x.Key y.Key with h | h | h
      · have hne : x.Key ≠ y.Key := fun e => by rw [e, fG] at h; cases h
        simp [h, mK h, hne]
      · simp only [h, fG, Bool.false_eq_true, ↓reduceIte, ne_eq, not_true_eq_false, true_and, false_or]
        by_cases q : (n : Int) < (w : Int)
        · rw [if_pos q]; omega
        · rw [if_neg q]
          by_cases q2 : (w : Int) < (n : Int)
          · rw [if_pos q2]; omega
          · rw [if_neg q2]; omega
      · have hne : x.Key ≠ y.Key := fun e => by rw [e, fG] at h; cases h
        simp [h, mK h, hne]
    refine ⟨fun r q => Ev.succ (Ev.of f ?_), fun q r k => Ev.succ (Ev.of f ?_)⟩
    · split at q
      · rename_i e; cases q
        refine Ev.bind (a := true) (Ev.bind o (Ev.of (fun fu => by rw [hiff, decide_eq_true e]) (Ev.ret _))) (Ev.ret _)
      · cases q
    · split at q
      · cases q
      · rename_i e
        refine Ev.bind (a := false) (Ev.bind o (Ev.of (fun fu => by rw [hiff, decide_eq_false e]) (Ev.ret _))) ?_
        simp only [Bool.false_eq_true, ↓reduceIte]; exact k
theorem zlL (s : gB) (a : List Nat) (hA : s.At = qB a) (ha : At s.Runs a) (hs : a.length ≤ 1000) (hlen : ∀ l ∈ s.Runs, l.length ≤ 6000) (w : Nat) (hw : w < s.Runs.length) (hwa : w < a.length) (hq : a[w] < s.Runs[w].length) :
    Ev (fun fu => bJ s (w : Int) fu 0) (pick (dH s.Runs a w) a.length 0) := by
  have hl : s.Runs.length = a.length := by rw [ha.1]
  have dw : decide ((0 : Int) ≤ (w : Int)) = true := decide_eq_true (by omega)
  refine Ev.loop (L := bJ s (w : Int)) (len := a.length) (dH s.Runs a w) (Ev.succ (Ev.of (fun fu => by simp [bJ, hl]) (Ev.ret _))) (fun n hn => ?_) a.length 0 (by omega)
  have hr : n < s.Runs.length := by rw [← ha.1]; exact hn
  have d : decide ((n : Int) < (s.Runs.length : Int)) = true := decide_eq_true (by omega)
  have ixA : ix s.At (n : Int) = some ((a[n] : Nat) : Int) := by rw [hA]; exact fF a n hn
  have ixW : ix s.At (w : Int) = some ((a[w] : Nat) : Int) := by rw [hA]; exact fF a w hwa
  have hle := ha.2 n hr hn
  have h6 := hlen _ (List.getElem_mem hr)
  simp only [dH, List.getElem?_eq_getElem hr, List.getElem?_eq_getElem hn, List.getElem?_eq_getElem hw, List.getElem?_eq_getElem hwa]
  cases hk : a[n] with
  | zero =>
    have f : ∀ fu, bJ s (w : Int) (fu + 1) (n : Int) = bJ s (w : Int) fu ((n + 1 : Nat) : Int) := fun fu => by
      simp only [bJ, d, dw, ↓reduceIte, ixA, hk, Option.bind_some, oC n (by omega)]
      simp
    simp only
    exact ⟨fun r q => by (simp at q), fun _ r k => Ev.succ (Ev.of f k)⟩
  | succ m =>
    have hm : m < s.Runs[n].length := by omega
    have w1 : IntKind.i64.wrap (((m + 1 : Nat) : Int) - 1) = (m : Int) := by rw [wr (by omega) (by omega)]; omega
    have d0 : decide (((m + 1 : Nat) : Int) = 0) = false := decide_eq_false (by omega)
    simp only [List.getElem?_eq_getElem hm, List.getElem?_eq_getElem hq]
    generalize hx : s.Runs[n][m] = x
    generalize hy : s.Runs[w][a[w]] = y
    have f : ∀ fu, bJ s (w : Int) (fu + 1) (n : Int) = if bl y.Key x.Key = true ∨ (x.Key = y.Key ∧ w < n) then some (.inr ((w : Int), 6)) else bJ s (w : Int) fu ((n + 1 : Nat) : Int) := fun fu => by
      have c1 : decide ((w : Int) < (n : Int)) = decide (w < n) := decide_eq_decide.2 (by omega)
      simp only [bJ, d, dw, ↓reduceIte, ixA, ixW, hk, Option.bind_some, oC n (by omega), d0, Bool.false_eq_true, yA s.Runs n hr, yA s.Runs w hw, w1, yA s.Runs[n] m hm, yA s.Runs[w] a[w] hq, hx, hy, c1]
      rcases vR x.Key y.Key with h | h | h
      · have hne : x.Key ≠ y.Key := fun e => by rw [e, fG] at h; cases h
        have h' : Op.bytesLess x.Key y.Key = true := h
        simp [h', mK h, hne]
      · by_cases q : w < n <;> simp [h, fG, q]
      · have hne : x.Key ≠ y.Key := fun e => by rw [e, fG] at h; cases h
        have h' : Op.bytesLess x.Key y.Key = false := mK h
        simp [h, h', hne]
    refine ⟨fun r q => Ev.succ (Ev.of f ?_), fun q r k => Ev.succ (Ev.of f ?_)⟩
    · split at q
      · rename_i e; cases q; simp only [if_pos e]; exact Ev.ret _
      · cases q
    · split at q
      · cases q
      · rename_i e; simp only [if_neg e]; exact k
theorem zh4 (l : List aA) (hg : zN l) (m : Nat) : ∀ n : Nat, n + m = l.length → Ev (fun fu => qF l fu (n : Int)) (.inl ()) := by
  have hl := hg.1
  induction m with
  | zero => intro n hn; exact Ev.succ (Ev.of (fun fu => by simp [qF, show ¬ (n : Int) < (l.length : Int) by omega]) (Ev.ret _))
  | succ m ih =>
    intro n hn
    have hnl : n < l.length := by omega
    obtain ⟨hc, hb⟩ := hg.2 n hnl
    refine Ev.succ (Ev.of (fun fu => ?_) (ih (n + 1) (by omega)))
    by_cases h0 : 0 < n
    · have w2 : IntKind.i64.wrap ((n : Int) - 1) = ((n - 1 : Nat) : Int) := by rw [wr (by omega) (by omega)]; omega
      have hb' := hb h0
      have hnb1 : Op.bytesLess l[n].Key l[n - 1].Key = false := mK hb'
      have hnb2 : ¬ l[n].Key = l[n - 1].Key := fun e => by rw [e, fG] at hb'; cases hb'
      simp only [qF, xP, hc, w2, yA l n hnl, yA l (n - 1) (by omega), oC n (by omega)]
      simp [hnl, h0, hnb1, hnb2, hc, -Int.natCast_add]
    · simp only [qF, xP, hc, yA l n hnl, oC n (by omega)]
      simp [hnl, h0, hc, -Int.natCast_add]
theorem zgP (l : List aA) (hg : zN l) : Ev (fun fu => pJ fu l) (0, 0) := by
  have hl := hg.1
  unfold pJ
  have hd : ¬ decide ((5000 : Int) < (l.length : Int)) = true := by simp; omega
  simp only [if_neg hd]
  exact Ev.bind (zh4 l hg l.length 0 (by omega)) (Ev.ret _)
theorem zfq (runs : List (List aA)) (hg : zC runs) (m : Nat) : ∀ n : Nat, n + m = runs.length → Ev (fun fu => nF runs fu (n : Int)) (.inl ()) := by
  have hl := hg.2.1
  induction m with
  | zero => intro n hn; exact Ev.succ (Ev.of (fun fu => by simp [nF, show ¬ (n : Int) < (runs.length : Int) by omega]) (Ev.ret _))
  | succ m ih =>
    intro n hn
    have hnl : n < runs.length := by omega
    have f : ∀ fu, nF runs (fu + 1) (n : Int) = (pJ fu runs[n]).bind fun vr => if vr.2 = 0 then nF runs fu ((n + 1 : Nat) : Int) else some (.inr ((n : Int), vr.2)) := by
      intro fu
      simp only [nF, yA runs n hnl, oC n (by omega)]
      simp [hnl]
    exact Ev.succ (Ev.of f (Ev.bind (zgP _ (hg.2.2 _ (List.getElem_mem hnl))) (ih (n + 1) (by omega))))
theorem zk1 (runs : List (List aA)) (hg : zC runs) {c : Int × Int} (h : Ev (fun fu => zJ fu runs) c) : c = (0, 0) := by
  refine Ev.uniq h ?_
  have h0 := hg.1
  have hl := hg.2.1
  unfold zJ
  have e1 : ¬ decide ((runs.length : Int) = 0) = true := by simp; intro e; simp [e] at h0
  have e2 : ¬ decide ((32 : Int) < (runs.length : Int)) = true := by simp; omega
  simp only [if_neg e1, if_neg e2]
  exact Ev.bind (zfq runs hg runs.length 0 (by omega)) (Ev.ret _)
def Ok (s : gB) (a : List Nat) : Prop := zC s.Runs ∧ At s.Runs a ∧ s = gC s.Runs a ∧ ((∃ i, ∃ h : i < s.Runs.length, ∃ h2 : i < a.length, a[i] ≠ s.Runs[i].length) → pick (dH s.Runs a (wn s.Runs a)) a.length 0 = .inl ())
theorem za7 (s : gB) (hs : zdp s) : ∃ r, Ev (fun fu => wG fu s) r ∧ Ev (fun fu => sM fu s) r ∧ ((r = (0, 0) ∧ ∃ a, Ok s a) ∨ r.2 ≠ 0) ∧ (∀ a, Ok s a → r = (0, 0)) := by
  obtain ⟨c, c1, c2, c3⟩ := xY s.Runs hs.near.fits (by have := hs.near.1; omega)
  unfold wG sM
  rcases c3 with ⟨rfl, hg⟩ | hc
  · have h0 := hg.1
    have h32 := hg.2.1
    by_cases hl : s.At.length = s.Runs.length
    · have hd : decide ((s.At.length : Int) = (s.Runs.length : Int)) = true := decide_eq_true (by omega)
      have l1 := zfl s hl hs.at'
      have l2 := zgG s hl hs.at'
      cases hp : pick (qL s) s.At.length 0 with
      | inr r =>
        obtain ⟨i, h1, h2, h3⟩ := hX hp
        rw [hp] at l1 l2
        refine ⟨r, Ev.bind c1 ?_, Ev.bind c2 ?_, .inr ?_, fun a hok => ?_⟩
        · simp only [decide_true, Bool.not_true, Bool.false_eq_true, ↓reduceIte, hd]; exact Ev.bind l1 (Ev.ret _)
        · simp only [decide_true, Bool.not_true, Bool.false_eq_true, ↓reduceIte, hd]; exact Ev.bind l2 (Ev.ret _)
        · simp only [qL] at h3
          split at h3
          · split at h3
            · cases h3; simp
            · cases h3
          · cases h3
        · exfalso
          have e : s.At = qB a := by rw [hok.2.2.1]; rfl
          have h2' : i < s.Runs.length := by omega
          have h2a : i < a.length := by rw [hok.2.1.1]; exact h2'
          have hle := hok.2.1.2 i h2' h2a
          simp only [qL, e] at h3
          rw [show (qB a)[i]? = some ((a[i] : Nat) : Int) by simp [qB, h2a], List.getElem?_eq_getElem h2'] at h3
          simp only at h3
          rw [if_neg (by omega)] at h3
          cases h3
      | inl u =>
        rw [hp] at l1 l2
        obtain ⟨a, hA, ha⟩ := places s hl hp
        have hal : a.length = s.Runs.length := ha.1
        have tr := ze2 s.Runs a ha h0 h32
        have st := uU s.Runs a ha h0 h32
        have al := zfv s.Tree (yC (tB s.Runs a)) hs.keys hs.lose
        obtain ⟨q, q1, q2⟩ := zcG s.Tree (yC (tB s.Runs a)) (by have := hs.keys; omega) (by have := hs.lose; omega)
        by_cases ht : s.Tree = yC (tB s.Runs a)
        · rw [decide_eq_true ht] at al
          obtain rfl : q = true := q2.2 ht
          have hst : s = gC s.Runs a := by
            obtain ⟨r, t, u⟩ := s
            simp only at hA ht ⊢
            simp only [gC, hA, ht]
          have hf := mY s.Runs a ha h0 h32
          have hwin := zbq (tB s.Runs a) (vT s.Runs a) (by rw [yD]; exact h0) (by rw [yD]; exact h32)
          rcases dL s.Runs a ha h0 with ⟨hfin, hall⟩ | ⟨hw, hwa, hq, hk⟩
          · rw [if_pos hfin] at hf hwin
            have rl2 : Ev (fun fu => bJ s (-1) fu 0) (.inl ()) := Ev.succ (Ev.of (fun fu => by simp [bJ]) (Ev.ret _))
            refine ⟨(0, 0), Ev.bind c1 ?_, Ev.bind c2 ?_, .inl ⟨rfl, a, hg, ha, hst, ?_⟩, fun _ _ => rfl⟩
            · simp only [decide_true, Bool.not_true, Bool.false_eq_true, ↓reduceIte, hd]
              rw [hA]
              refine Ev.bind l1 (Ev.bind tr (Ev.bind al ?_))
              simp only [Bool.not_true, Bool.false_eq_true, ↓reduceIte]
              rw [ht]
              exact Ev.bind hwin (Ev.of (fun fu => by simp) (Ev.ret _))
            · simp only [decide_true, Bool.not_true, Bool.false_eq_true, ↓reduceIte, hd]
              rw [hA]
              refine Ev.bind l2 (Ev.bind st (Ev.bind q1 ?_))
              simp only [Bool.not_true, Bool.false_eq_true, ↓reduceIte]
              exact Ev.bind hf (Ev.bind rl2 (Ev.ret _))
            · rintro ⟨i, h1, h2, h3⟩; exact absurd (hall i h1 h2) h3
          · rw [if_neg (by rw [hk]; simp)] at hf hwin
            rw [hk] at hwin
            have k1 := zim s a hA ha (by rw [hal]; omega) hs.near.2.1 (wn s.Runs a) hw hwa hq
            have k2 := zlL s a hA ha (by rw [hal]; omega) hs.near.2.1 (wn s.Runs a) hw hwa hq
            have e1 : Ev (fun fu => wG fu s) (match pick (dH s.Runs a (wn s.Runs a)) a.length 0 with | .inl _ => (0, 0) | .inr y => y) := by
              unfold wG
              refine Ev.bind c1 ?_
              simp only [decide_true, Bool.not_true, Bool.false_eq_true, ↓reduceIte, hd]
              rw [hA]
              refine Ev.bind l1 (Ev.bind tr (Ev.bind al ?_))
              simp only [Bool.not_true, Bool.false_eq_true, ↓reduceIte]
              rw [ht]
              refine Ev.bind hwin ?_
              simp only [decide_true, Bool.not_true, Bool.false_eq_true, ↓reduceIte]
              refine Ev.bind k1 ?_
              cases pick (dH s.Runs a (wn s.Runs a)) a.length 0 <;> exact Ev.ret _
            have e2 : Ev (fun fu => sM fu s) (match pick (dH s.Runs a (wn s.Runs a)) a.length 0 with | .inl _ => (0, 0) | .inr y => y) := by
              unfold sM
              refine Ev.bind c2 ?_
              simp only [decide_true, Bool.not_true, Bool.false_eq_true, ↓reduceIte, hd]
              rw [hA]
              refine Ev.bind l2 (Ev.bind st (Ev.bind q1 ?_))
              simp only [Bool.not_true, Bool.false_eq_true, ↓reduceIte]
              refine Ev.bind hf (Ev.bind k2 ?_)
              cases pick (dH s.Runs a (wn s.Runs a)) a.length 0 <;> exact Ev.ret _
            refine ⟨_, e1, e2, ?_, fun a' hok => ?_⟩
            · cases hpk : pick (dH s.Runs a (wn s.Runs a)) a.length 0 with
              | inl u => exact .inl ⟨rfl, a, hg, ha, hst, fun _ => hpk⟩
              | inr y =>
                right
                obtain ⟨i, h1, h2, h3⟩ := hX hpk
                simp only [dH] at h3
                split at h3
                · split at h3
                  · split at h3
                    · cases h3; simp
                    · cases h3
                  · cases h3
                · cases h3
            · have : qB a' = qB a := by
                have e : s.At = qB a' := by rw [hok.2.2.1]; rfl
                rw [← e, hA]
              have : a' = a := by
                refine List.map_inj_right (fun x y h => ?_) |>.1 this
                exact Int.ofNat.inj h
              subst this
              rw [hok.2.2.2 ⟨_, hw, hwa, by omega⟩]
        · rw [decide_eq_false ht] at al
          obtain rfl : q = false := by cases q; rfl; exact absurd (q2.1 rfl) ht
          refine ⟨(-1, 6), Ev.bind c1 ?_, Ev.bind c2 ?_, .inr (by simp), fun a' hok => ?_⟩
          · simp only [decide_true, Bool.not_true, Bool.false_eq_true, ↓reduceIte, hd]
            rw [hA]
            refine Ev.bind l1 (Ev.bind tr (Ev.bind al (Ev.ret _)))
          · simp only [decide_true, Bool.not_true, Bool.false_eq_true, ↓reduceIte, hd]
            rw [hA]
            refine Ev.bind l2 (Ev.bind st (Ev.bind q1 (Ev.ret _)))
          · exfalso
            have : qB a' = qB a := by
              have e : s.At = qB a' := by rw [hok.2.2.1]; rfl
              rw [← e, hA]
            have : a' = a := by
              refine List.map_inj_right (fun x y h => ?_) |>.1 this
              exact Int.ofNat.inj h
            subst this
            exact ht (by rw [hok.2.2.1]; rfl)
    · have hd : decide ((s.At.length : Int) = (s.Runs.length : Int)) = false := decide_eq_false (by omega)
      refine ⟨(-1, 6), Ev.bind c1 ?_, Ev.bind c2 ?_, .inr (by simp), fun a hok => ?_⟩
      · simp only [decide_true, Bool.not_true, Bool.false_eq_true, ↓reduceIte, hd, Bool.not_false]; exact Ev.ret _
      · simp only [decide_true, Bool.not_true, Bool.false_eq_true, ↓reduceIte, hd, Bool.not_false]; exact Ev.ret _
      · exfalso; apply hl; rw [hok.2.2.1]; simp [gC, yF, hok.2.1.1]
  · refine ⟨c, Ev.bind c1 ?_, Ev.bind c2 ?_, .inr hc, fun a hok => ?_⟩
    · simp only [decide_eq_false hc, Bool.not_false, ↓reduceIte]; exact Ev.ret _
    · simp only [decide_eq_false hc, Bool.not_false, ↓reduceIte]; exact Ev.ret _
    · exfalso
      exact hc (by rw [zk1 s.Runs hok.1 c1])
theorem Ok.good {s : gB} {a : List Nat} (h : Ok s a) : zC s.Runs := h.1
theorem Ok.eq {s : gB} {a : List Nat} (h : Ok s a) : s = gC s.Runs a := h.2.2.1
def zcy : aA := ⟨[], [], false, 0⟩
theorem ziH (fu : Nat) (runs : List (List aA)) (h : zC runs) : eL fu runs = some runs := by
  have h0 := h.1
  have h32 := h.2.1
  have hne : runs.isEmpty = false := by cases runs; simp at h0; rfl
  have g2 : 2 * ((0 + runs.length) * 24) ≤ 281474976710656 := by omega
  simp only [eL, hne, Bool.false_eq_true, ↓reduceIte, if_pos g2]
theorem zgS (fu : Nat) (l : List Int) (h : l.length ≤ 100000) : vL fu l = some l := by
  unfold vL
  cases l with
  | nil => rfl
  | cons x l =>
    have g2 : 2 * ((0 + (x :: l).length) * 8) ≤ 281474976710656 := by omega
    simp only [List.isEmpty_cons, Bool.false_eq_true, ↓reduceIte, if_pos g2]
theorem zdm {runs : List (List aA)} {a : List Nat} (h : At runs a) : (qB a).length = runs.length := by rw [yF, h.1]
def nT (runs : List (List aA)) (a : List Nat) : aA × Int × gB × Int :=
  if aB runs a = 0 then (zcy, 0, qV, 12) else
    ((runs[wn runs a]?.getD [])[a[wn runs a]?.getD 0]?.getD zcy, (wn runs a : Int), gC runs (bE a (wn runs a)), 0)
theorem zeh (runs : List (List aA)) (a : List Nat) (hall : ∀ i (h1 : i < runs.length) (h2 : i < a.length), a[i] = runs[i].length) : aB runs a = 0 := mU runs a hall
theorem zhF (runs : List (List aA)) (a : List Nat) (hw : wn runs a < runs.length) (hwa : wn runs a < a.length) (hq : a[wn runs a] < runs[wn runs a].length) : aB runs a ≠ 0 := by
  have := yQ runs a _ hw hwa hq; omega
theorem zbL (runs : List (List aA)) (a : List Nat) (hw : wn runs a < runs.length) (hwa : wn runs a < a.length) (hq : a[wn runs a] < runs[wn runs a].length) :
    nT runs a = (runs[wn runs a][a[wn runs a]], (wn runs a : Int), gC runs (bE a (wn runs a)), 0) := by
  unfold nT
  rw [if_neg (zhF runs a hw hwa hq)]
  simp only [List.getElem?_eq_getElem hw, List.getElem?_eq_getElem hwa, Option.getD_some, List.getElem?_eq_getElem hq]
theorem zhT (runs : List (List aA)) (a : List Nat) (hg : zC runs) (ha : At runs a) (hc : Ev (fun fu => wG fu (gC runs a)) (0, 0)) : Ev (fun fu => oO fu (gC runs a)) (nT runs a) := by
  have h0 := hg.1
  have h32 := hg.2.1
  have hil : (qB a).length ≤ 100000 := by rw [zdm ha]; omega
  unfold oO
  refine Ev.bind hc ?_
  simp only [decide_true, Bool.not_true, Bool.false_eq_true, ↓reduceIte, gC, ziH _ _ hg, zgS _ _ hil, Option.bind_some]
  rcases dL runs a ha h0 with ⟨hd, hall⟩ | ⟨hw, hwa, hq, hk⟩
  · refine Ev.bind (zdY runs a h0 h32 hd _ rfl (qB a)) (Ev.of (fun fu => ?_) (Ev.ret _))
    simp only [nT, zeh runs a hall, ↓reduceIte]; rfl
  · refine Ev.bind (zde runs a h0 h32 hw hwa hq hk _ rfl) ?_
    have hle : runs[wn runs a].length ≤ 5000 := (hg.2.2 _ (List.getElem_mem hw)).1
    have hs' : (qB a).set (wn runs a) ((a[wn runs a] + 1 : Nat) : Int) = qB (bE a (wn runs a)) := by rw [aZ, mQ a _ hwa]
    have hix : ix (qB (bE a (wn runs a))) ((wn runs a : Nat) : Int) = some ((a[wn runs a] + 1 : Nat) : Int) := by
      rw [fF _ _ (by rw [vQ]; exact hwa)]; simp [mQ a _ hwa]
    have hnx : ∀ fu, dJ fu runs[wn runs a] ((a[wn runs a] + 1 : Nat) : Int) = some (jF runs[wn runs a] (a[wn runs a] + 1)) := fun fu => zao fu _ _ (by omega)
    simp only [decide_true, Bool.not_true, Bool.false_eq_true, ↓reduceIte, fF a _ hwa, yA runs _ hw, Option.bind_some, Int.toNat_natCast, oC _ (show a[wn runs a] < 9223372036854775807 by omega), hs', hix, hnx]
    obtain ⟨g, hrd⟩ := zd2 runs a hg ha hw hwa hq hk _ rfl
    rw [zbL runs a hw hwa hq]
    exact Ev.bind hrd (Ev.ret _)
theorem zmK (runs : List (List aA)) (a : List Nat) (hg : zC runs) (ha : At runs a) (hc : Ev (fun fu => sM fu (gC runs a)) (0, 0)) : Ev (fun fu => gZ fu (gC runs a)) (nT runs a) := by
  have h0 := hg.1
  have h32 := hg.2.1
  have g2 : 2 * ((0 + (qB a).length) * 8) ≤ 281474976710656 := by rw [zdm ha]; omega
  unfold gZ
  refine Ev.bind hc ?_
  have hf := mY runs a ha h0 h32
  simp only [decide_true, Bool.not_true, Bool.false_eq_true, ↓reduceIte, gC, if_pos g2]
  refine Ev.bind hf ?_
  rcases dL runs a ha h0 with ⟨hd, hall⟩ | ⟨hw, hwa, hq, hk⟩
  · rw [if_pos hd]
    refine Ev.of (fun fu => ?_) (Ev.ret _)
    simp only [nT, zeh runs a hall, ↓reduceIte]; rfl
  · rw [if_neg (by rw [hk]; simp)]
    have hle : runs[wn runs a].length ≤ 5000 := (hg.2.2 _ (List.getElem_mem hw)).1
    have hs' : (qB a).set (wn runs a) ((a[wn runs a] + 1 : Nat) : Int) = qB (bE a (wn runs a)) := by rw [aZ, mQ a _ hwa]
    have hdw : decide (((wn runs a : Nat) : Int) < 0) = false := decide_eq_false (by omega)
    simp only [if_pos g2, hdw, Bool.false_eq_true, ↓reduceIte, fF a _ hwa, yA runs _ hw, yA _ _ hq, Option.bind_some, Int.toNat_natCast, oC _ (show a[wn runs a] < 9223372036854775807 by omega), hs']
    rw [zbL runs a hw hwa hq]
    exact Ev.bind (uU runs _ (cX runs a _ ha hw hwa hq) h0 h32) (Ev.ret _)
theorem zcV (runs : List (List aA)) (a : List Nat) (ha : At runs a) (n : Nat) (h : n < runs.length) (h2 : n < a.length) : aB (runs.drop n) (a.drop n) = (runs[n].length - a[n]) + aB (runs.drop (n + 1)) (a.drop (n + 1)) := by
  unfold aB
  rw [List.drop_eq_getElem_cons h, List.drop_eq_getElem_cons h2, List.zipWith_cons_cons, List.sum_cons]
theorem zk7 (runs : List (List aA)) (hg : zC runs) (a : List Nat) (ha : At runs a) (m : Nat) : ∀ (n c : Nat), n + m = runs.length → c ≤ 1000000 * n →
    Ev (fun fu => pI (gC runs a) fu (c : Int) (n : Int)) ((c + aB (runs.drop n) (a.drop n) : Nat) : Int) := by
  have h32 := hg.2.1
  induction m with
  | zero =>
    intro n c hn hc
    obtain rfl : n = runs.length := by omega
    refine Ev.succ (Ev.of (fun fu => ?_) (Ev.ret _))
    simp [pI, gC, aB]
  | succ m ih =>
    intro n c hn hc
    have hr : n < runs.length := by omega
    have h2 : n < a.length := by rw [ha.1]; exact hr
    have hle := ha.2 n hr h2
    have h5 := (hg.2.2 _ (List.getElem_mem hr)).1
    have w1 : IntKind.i64.wrap ((runs[n].length : Int) - ((a[n] : Nat) : Int)) = ((runs[n].length - a[n] : Nat) : Int) := by rw [wr (by omega) (by omega)]; omega
    have w2 : IntKind.i64.wrap ((c : Int) + ((runs[n].length - a[n] : Nat) : Int)) = ((c + (runs[n].length - a[n]) : Nat) : Int) := by rw [wr (by omega) (by omega)]; omega
    have d : decide ((n : Int) < (runs.length : Int)) = true := decide_eq_true (by omega)
    have := ih (n + 1) (c + (runs[n].length - a[n])) (by omega) (by omega)
    rw [zcV runs a ha n hr h2, ← Nat.add_assoc]
    refine Ev.succ (Ev.of (fun fu => ?_) this)
    have e1 : (gC runs a).Runs = runs := rfl
    have e2 : (gC runs a).At = qB a := rfl
    simp only [pI, e1, e2, d, ↓reduceIte, yA runs n hr, fF a n h2, Option.bind_some, w1, w2, oC n (by omega)]
theorem zhh (runs : List (List aA)) (hg : zC runs) (a : List Nat) (ha : At runs a) (m : Nat) : ∀ (n c : Nat), n + m = runs.length → c ≤ 1000000 * n →
    Ev (fun fu => vV (gC runs a) fu (c : Int) (n : Int)) ((c + aB (runs.drop n) (a.drop n) : Nat) : Int) := by
  have h32 := hg.2.1
  induction m with
  | zero =>
    intro n c hn hc
    obtain rfl : n = runs.length := by omega
    refine Ev.succ (Ev.of (fun fu => ?_) (Ev.ret _))
    simp [vV, gC, aB]
  | succ m ih =>
    intro n c hn hc
    have hr : n < runs.length := by omega
    have h2 : n < a.length := by rw [ha.1]; exact hr
    have hle := ha.2 n hr h2
    have h5 := (hg.2.2 _ (List.getElem_mem hr)).1
    have w1 : IntKind.i64.wrap ((c : Int) + (runs[n].length : Int)) = ((c + runs[n].length : Nat) : Int) := by rw [wr (by omega) (by omega)]; omega
    have w2 : IntKind.i64.wrap (((c + runs[n].length : Nat) : Int) - ((a[n] : Nat) : Int)) = ((c + (runs[n].length - a[n]) : Nat) : Int) := by rw [wr (by omega) (by omega)]; omega
    have d : decide ((n : Int) < (runs.length : Int)) = true := decide_eq_true (by omega)
    have := ih (n + 1) (c + (runs[n].length - a[n])) (by omega) (by omega)
    rw [zcV runs a ha n hr h2, ← Nat.add_assoc]
    refine Ev.succ (Ev.of (fun fu => ?_) this)
    have e1 : (gC runs a).Runs = runs := rfl
    have e2 : (gC runs a).At = qB a := rfl
    simp only [vV, e1, e2, d, ↓reduceIte, yA runs n hr, fF a n h2, Option.bind_some, w1, w2, oC n (by omega)]
theorem zgf (runs : List (List aA)) (a : List Nat) (hg : zC runs) (ha : At runs a) (hc : Ev (fun fu => wG fu (gC runs a)) (0, 0)) : Ev (fun fu => iP fu (gC runs a)) ((aB runs a : Int), 0) := by
  unfold iP
  refine Ev.bind hc ?_
  simp only [decide_true, Bool.not_true, Bool.false_eq_true, ↓reduceIte]
  have := zk7 runs hg a ha runs.length 0 0 (by omega) (by omega)
  simp only [Nat.zero_add, List.drop_zero] at this
  exact Ev.bind this (Ev.ret _)
theorem zg1 (runs : List (List aA)) (a : List Nat) (hg : zC runs) (ha : At runs a) (hc : Ev (fun fu => sM fu (gC runs a)) (0, 0)) : Ev (fun fu => zan fu (gC runs a)) ((aB runs a : Int), 0) := by
  unfold zan
  refine Ev.bind hc ?_
  simp only [decide_true, Bool.not_true, Bool.false_eq_true, ↓reduceIte]
  have := zhh runs hg a ha runs.length 0 0 (by omega) (by omega)
  simp only [Nat.zero_add, List.drop_zero] at this
  exact Ev.bind this (Ev.ret _)
theorem zdv (runs : List (List aA)) (a : List Nat) (ha : At runs a) (h0 : 0 < runs.length) (hw : wn runs a < runs.length) (hwa : wn runs a < a.length) (hq : a[wn runs a] < runs[wn runs a].length)
    (i : Nat) (h1 : i < runs.length) (h2 : i < a.length) (h3 : a[i] < runs[i].length) : i = wn runs a ∨ (bl runs[wn runs a][a[wn runs a]].Key runs[i][a[i]].Key = true ∨ (runs[wn runs a][a[wn runs a]].Key = runs[i][a[i]].Key ∧ wn runs a < i)) := by
  by_cases e : i = wn runs a
  · exact .inl e
  · right
    have hk1 : wn runs a < (tB runs a).length := by rw [yD]; exact hw
    have hk2 : i < (tB runs a).length := by rw [yD]; exact h1
    have l := zbW (tB runs a) i hk2 e
    have g1 : (tB runs a)[wn runs a] = ⟨runs[wn runs a][a[wn runs a]].Key, false⟩ := by rw [gR runs a _ hk1 hw hwa, pQ _ _ hq]
    have g2 : (tB runs a)[i] = ⟨runs[i][a[i]].Key, false⟩ := by rw [gR runs a _ hk2 h1 h2, pQ _ _ h3]
    have lk := zZ (tB runs a) (wn runs a) i hk1 hk2 (by rw [g1]) (by rw [g2])
    rw [show lt (tB runs a) (wn runs a) i = true from l, g1, g2] at lk
    simp only at lk
    split at lk
    · rename_i e2; exact .inr ⟨e2, of_decide_eq_true lk.symm⟩
    · exact .inl lk.symm
def lx (k : List UInt8) (i : Nat) (l : List UInt8) (j : Nat) : Prop := bl k l = true ∨ (k = l ∧ i < j)
theorem lx_bl {k l m : List UInt8} {i j : Nat} (h : lx k i l j) (h2 : bl l m = true) : bl k m = true := by
  rcases h with h | ⟨rfl, _⟩
  · exact pM h h2
  · exact h2
def zeC (runs : List (List aA)) (a : List Nat) : Prop :=
  ∀ i (h1 : i < runs.length) (h2 : i < a.length) m (hm : m < runs[i].length), a[i] = m + 1 → ∀ j (h3 : j < runs.length) (h4 : j < a.length) (h5 : a[j] < runs[j].length), lx runs[i][m].Key i runs[j][a[j]].Key j
structure wM (runs : List (List aA)) (a : List Nat) : Prop where
  at' : At runs a
  passed : zeC runs a
theorem zeu (runs : List (List aA)) : wM runs (cE runs) := ⟨wL runs, fun i h1 h2 m hm e => by simp [cE] at e⟩
theorem zbx (a : List Nat) (w i : Nat) (h : i < (bE a w).length) (hw : w < a.length) (hi : i < a.length) : (bE a w)[i] = if w = i then a[w] + 1 else a[i] := by
  simp only [mQ a w hw, List.getElem_set]
theorem znV (runs : List (List aA)) (a : List Nat) (hg : zC runs) (h : wM runs a) (hw : wn runs a < runs.length) (hwa : wn runs a < a.length) (hq : a[wn runs a] < runs[wn runs a].length) : wM runs (bE a (wn runs a)) := by
  refine ⟨cX runs a _ h.at' hw hwa hq, ?_⟩
  have asc : ∀ n (hn : n + 1 < runs[wn runs a].length), bl (runs[wn runs a][n]'(by omega)).Key runs[wn runs a][n + 1].Key = true := fun n hn =>
    ((hg.2.2 _ (List.getElem_mem hw)).2 (n + 1) hn).2 (by omega)
  intro i h1 h2 m hm e j h3 h4 h5
  have h2' : i < a.length := by rw [vQ] at h2; exact h2
  have h4' : j < a.length := by rw [vQ] at h4; exact h4
  have gi := zbx a (wn runs a) i h2 hwa h2'
  have gj := zbx a (wn runs a) j h4 hwa h4'
  simp only [gj] at h5 ⊢
  rw [gi] at e
  by_cases ei : wn runs a = i
  · subst ei
    simp only [↓reduceIte] at e
    obtain rfl : m = a[wn runs a] := by omega
    by_cases ej : wn runs a = j
    · subst ej
      simp only [↓reduceIte] at h5 ⊢
      exact .inl (asc _ h5)
    · simp only [if_neg ej] at h5 ⊢
      rcases zdv runs a h.at' hg.1 hw hwa hq j h3 h4' h5 with e | e
      · exact absurd e.symm ej
      · exact e
  · simp only [if_neg ei] at e
    by_cases ej : wn runs a = j
    · subst ej
      simp only [↓reduceIte] at h5 ⊢
      exact .inl (lx_bl (h.passed i h1 h2' m hm e _ hw hwa hq) (asc _ h5))
    · simp only [if_neg ej] at h5 ⊢
      exact h.passed i h1 h2' m hm e j h3 h4' h5
theorem zgZ (runs : List (List aA)) (a : List Nat) (hg : zC runs) (h : wM runs a) : (∃ i, ∃ h : i < runs.length, ∃ h2 : i < a.length, a[i] ≠ runs[i].length) → pick (dH runs a (wn runs a)) a.length 0 = .inl () := by
  rintro ⟨i, h1, h2, h3⟩
  rcases dL runs a h.at' hg.1 with ⟨hd, hall⟩ | ⟨hw, hwa, hq, hk⟩
  · exact absurd (hall i h1 h2) h3
  · refine zmq fun j k1 k2 => ?_
    have hj : j < a.length := by omega
    have hjr : j < runs.length := by rw [← h.at'.1]; exact hj
    simp only [dH, List.getElem?_eq_getElem hjr, List.getElem?_eq_getElem hj, List.getElem?_eq_getElem hw, List.getElem?_eq_getElem hwa]
    cases e : a[j] with
    | zero => rfl
    | succ m =>
      have hle := h.at'.2 j hjr hj
      have hm : m < runs[j].length := by omega
      simp only [List.getElem?_eq_getElem hm, List.getElem?_eq_getElem hq]
      refine if_neg ?_
      rcases h.passed j hjr hj m hm e _ hw hwa hq with p | ⟨p, q⟩
      · rw [mK p]
        simp
        intro e; rw [e, fG] at p; cases p
      · rw [p, fG]; simp; omega
theorem zaZ (runs : List (List aA)) (a : List Nat) (hg : zC runs) (h : wM runs a) : Ok (gC runs a) a := ⟨hg, h.at', rfl, zgZ runs a hg h⟩
theorem zaz (runs : List (List aA)) (a : List Nat) (hn : aN runs) (hg : zC runs) (h : wM runs a) : Ev (fun fu => wG fu (gC runs a)) (0, 0) := by
  have hl := zbt runs a h.at'
  have := hn.1
  obtain ⟨r, r1, -, -, r4⟩ := za7 (gC runs a) ⟨hn, by rw [hl.1]; omega, by rw [hl.2.2.1]; omega, by rw [hl.2.2.2]; omega⟩
  rw [r4 a (zaZ runs a hg h)] at r1
  exact r1
def eC (runs : List (List aA)) (i : Nat) : List Nat := pH runs i (cE runs)
theorem zls (runs : List (List aA)) (i : Nat) : ∀ a, pH runs (i + 1) a = bE (pH runs i a) (wn runs (pH runs i a)) := by
  induction i with
  | zero => intro a; rfl
  | succ i ih => intro a; exact ih (bE a (wn runs a))
theorem qU (runs : List (List aA)) (i : Nat) : eC runs (i + 1) = bE (eC runs i) (wn runs (eC runs i)) := zls runs i _
def mC (runs : List (List aA)) : Nat := aB runs (cE runs)
structure Plc (runs : List (List aA)) (i : Nat) : Prop where
  rch : wM runs (eC runs i)
  left : aB runs (eC runs i) = mC runs - i
theorem mN (runs : List (List aA)) (hg : zC runs) (i : Nat) (h : i ≤ mC runs) : Plc runs i := by
  induction i with
  | zero => exact ⟨zeu runs, rfl⟩
  | succ i ih =>
    have p := ih (by omega)
    rcases dL runs (eC runs i) p.rch.at' hg.1 with ⟨hd, hall⟩ | ⟨hw, hwa, hq, hk⟩
    · have := mU runs _ hall
      rw [p.left] at this; omega
    · have := yQ runs _ _ hw hwa hq
      rw [← qU, p.left] at this
      exact ⟨by rw [qU]; exact znV runs _ hg p.rch hw hwa hq, by omega⟩
structure Cur (runs : List (List aA)) (i : Nat) : Prop where
  hw : wn runs (eC runs i) < runs.length
  hwa : wn runs (eC runs i) < (eC runs i).length
  hq : (eC runs i)[wn runs (eC runs i)] < runs[wn runs (eC runs i)].length
theorem vX (runs : List (List aA)) (hg : zC runs) (i : Nat) (h : i < mC runs) : Cur runs i := by
  have p := mN runs hg i (by omega)
  rcases dL runs (eC runs i) p.rch.at' hg.1 with ⟨hd, hall⟩ | ⟨hw, hwa, hq, hk⟩
  · have := mU runs _ hall
    rw [p.left] at this; omega
  · exact ⟨hw, hwa, hq⟩
theorem zmz (runs : List (List aA)) (m : Nat) : ∀ (a : List Nat) (i : Nat), i < m → (uF runs m a)[i]? = some ((runs[wn runs (pH runs i a)]?.getD [])[(pH runs i a)[wn runs (pH runs i a)]?.getD 0]?.getD ⟨[], [], false, 0⟩, wn runs (pH runs i a)) := by
  induction m with
  | zero => intro a i h; omega
  | succ m ih =>
    intro a i h
    cases i with
    | zero => rfl
    | succ i => simp only [uF, List.getElem?_cons_succ]; exact ih _ i (by omega)
def aC (runs : List (List aA)) : List aA := nN (uF runs (mC runs) (cE runs))
def allF (runs : List (List aA)) : List Int := aQ (uF runs (mC runs) (cE runs))
theorem wS (runs : List (List aA)) : (aC runs).length = mC runs := by simp [aC, nN, zoc]
theorem zfs (runs : List (List aA)) (i : Nat) (h : i < mC runs) (c : Cur runs i) : ix (aC runs) (i : Int) = some ((runs[wn runs (eC runs i)]'(c.hw))[(eC runs i)[wn runs (eC runs i)]'(c.hwa)]'(c.hq)) := by
  rw [mS]
  simp only [aC, nN, List.getElem?_map, zmz runs _ _ i h, Option.map_some]
  have h1 := c.hw
  have h2 := c.hwa
  have h3 := c.hq
  simp only [eC] at h1 h2 h3 ⊢
  simp only [List.getElem?_eq_getElem h1, List.getElem?_eq_getElem h2, Option.getD_some, List.getElem?_eq_getElem h3]
def cS (runs : List (List aA)) : Nat := (runs.map List.length).sum
theorem zci : ∀ (runs : List (List aA)) (a : List Nat), aB runs a ≤ cS runs
  | [], _ => by simp [aB, cS]
  | _ :: _, [] => by simp [aB]
  | l :: runs, n :: a => by
    have := zci runs a
    simp only [aB, cS, List.zipWith_cons_cons, List.sum_cons, List.map_cons] at this ⊢
    omega
structure eK (runs : List (List aA)) : Prop where
  near : aN runs
  few : zC runs → mC runs ≤ 120
def tL (b s : Bool) (k : List UInt8) (e : aA) : Bool := !(s && e.Key == k) && !(b && e.Dead)
def eH (b : Bool) : Bool → List UInt8 → List aA → List aA
  | _, _, [] => []
  | s, k, e :: l => if tL b s k e then e :: eH b true e.Key l else eH b true e.Key l
def nE : Bool → List UInt8 → List aA → Bool × List UInt8
  | s, k, [] => (s, k)
  | _, _, e :: l => nE true e.Key l
def nI (b : Bool) (l : List aA) : List aA := eH b false [] l
def pF (b : Bool) (l : List aA) : mB := ⟨(nE false [] l).1, (nE false [] l).2, b⟩
def pG : Bool → List UInt8 → List aA → Prop
  | _, _, [] => True
  | s, k, e :: l => chk e = 0 ∧ (s = true → bl e.Key k = false) ∧ pG true e.Key l
def iO (s : Bool) (k : List UInt8) : Prop := k.length ≤ 32 ∧ (s = false → k = [])
theorem zlk {e : aA} (h : chk e = 0) : e.Key.length ≤ 32 := by
  simp only [chk] at h
  split at h
  · cases h
  · omega
theorem nV {e : aA} (h : chk e = 0) : iO true e.Key := ⟨zlk h, by simp⟩
theorem sZ (b : Bool) : ∀ (l : List aA) s k, (eH b s k l).length ≤ l.length
  | [], _, _ => Nat.le_refl _
  | e :: l, s, k => by
    have := sZ b l true e.Key
    simp only [eH]
    split <;> simp only [List.length_cons] <;> omega
theorem zd0 (b : Bool) : ∀ (l r : List aA) s k, eH b s k (l ++ r) = eH b s k l ++ eH b (nE s k l).1 (nE s k l).2 r
  | [], r, s, k => rfl
  | e :: l, r, s, k => by
    have := zd0 b l r true e.Key
    simp only [eH, nE, List.cons_append, this]
    split <;> rfl
theorem zdM : ∀ (l r : List aA) s k, nE s k (l ++ r) = nE (nE s k l).1 (nE s k l).2 r
  | [], _, _, _ => rfl
  | e :: l, r, s, k => by simp only [nE, List.cons_append, zdM l r]
theorem zc0 : ∀ (l r : List aA) s k, pG s k (l ++ r) ↔ pG s k l ∧ pG (nE s k l).1 (nE s k l).2 r
  | [], r, s, k => by simp [pG, nE]
  | e :: l, r, s, k => by simp only [pG, nE, List.cons_append, zc0 l r, and_assoc]
theorem zeI : ∀ (l : List aA) s k, iO s k → pG s k l → iO (nE s k l).1 (nE s k l).2
  | [], _, _, h, _ => h
  | e :: l, s, k, _, f => zeI l true e.Key (nV f.1) f.2.2
theorem zbl : ∀ (l : List aA) s k (h : 0 < l.length), nE s k l = (true, l[l.length - 1].Key)
  | [e], _, _, _ => rfl
  | e :: f :: l, s, k, h => by
    have := zbl (f :: l) true e.Key (by simp)
    rw [nE, this]
    simp
theorem zfK (fu : Nat) (k : List UInt8) : cN fu k = some (if 32 < k.length then 3 else 0) := by
  have c1 : decide ((32 : Int) < (k.length : Int)) = decide (32 < k.length) := decide_eq_decide.2 (by omega)
  simp only [cN, c1]
  by_cases h : 32 < k.length <;> simp [h]
theorem zcL (fu : Nat) (s : Bool) (k : List UInt8) (b : Bool) (h : iO s k) : xN fu ⟨s, k, b⟩ = some 0 := by
  simp only [xN, zfK, if_neg (show ¬ 32 < k.length by have := h.1; omega), Option.bind_some]
  cases s with
  | false => rw [h.2 rfl]; simp
  | true => simp
theorem zj3 (fu : Nat) (s : Bool) (k : List UInt8) (b : Bool) (h : iO s k) : zbV fu ⟨s, k, b⟩ = some 0 := by
  have d : decide ((32 : Int) < (k.length : Int)) = false := decide_eq_false (by have := h.1; omega)
  simp only [zbV, d, Bool.false_eq_true, ↓reduceIte]
  cases s with
  | false => rw [h.2 rfl]; simp
  | true => simp
theorem zhr (fu : Nat) (s : Bool) (k : List UInt8) (b : Bool) (e : aA) (h : iO s k) (h1 : chk e = 0) (h2 : s = true → bl e.Key k = false) : lM fu ⟨s, k, b⟩ e = some (tL b s k e, ⟨true, e.Key, b⟩, 0) := by
  have h2' : s = true → Op.bytesLess e.Key k = false := h2
  simp only [lM, zcL fu s k b h, xP, h1, Option.bind_some, tL]
  cases s with
  | false => cases b <;> cases hd : e.Dead <;> simp
  | true =>
    simp only [h2' rfl]
    cases hk : (e.Key == k) <;> cases b <;> cases hd : e.Dead <;> simp
theorem zmk (fu : Nat) (s : Bool) (k : List UInt8) (b : Bool) (e : aA) (h : iO s k) (h1 : chk e = 0) (h2 : s = true → bl e.Key k = false) : zbg fu ⟨s, k, b⟩ e = some (tL b s k e, ⟨true, e.Key, b⟩, 0) := by
  have h2' : s = true → Op.bytesLess e.Key k = false := h2
  simp only [zbg, zj3 fu s k b h, sW, h1, Option.bind_some, tL]
  cases s with
  | false => cases b <;> cases hd : e.Dead <;> simp
  | true =>
    simp only [h2' rfl]
    cases hk : (e.Key == k) <;> cases b <;> cases hd : e.Dead <;> simp
theorem zfS (l : List aA) (v : mB) (hl : l.length ≤ 1000000) (m : Nat) : ∀ (n : Nat) (s : Bool) (k : List UInt8) (out : List aA), n + m = l.length → iO s k → pG s k (l.drop n) → out.length ≤ n →
    Ev (fun fu => iH l v fu (n : Int) s k out) (.inl ((nE s k (l.drop n)).1, (nE s k (l.drop n)).2, out ++ eH v.Bottom s k (l.drop n))) := by
  induction m with
  | zero =>
    intro n s k out hn hs hf ho
    obtain rfl : n = l.length := by omega
    exact Ev.succ (Ev.of (fun fu => by simp [iH, List.drop_length, nE, eH]) (Ev.ret _))
  | succ m ih =>
    intro n s k out hn hs hf ho
    have hnl : n < l.length := by omega
    have d : decide ((n : Int) < (l.length : Int)) = true := decide_eq_true (by omega)
    rw [List.drop_eq_getElem_cons hnl] at hf ⊢
    have h2 : s = true → Op.bytesLess l[n].Key k = false := hf.2.1
    have g : 2 * ((out.length + 1) * 48) ≤ 281474976710656 := by omega
    have hcl : (⟨l[n].Key, l[n].Val, l[n].Dead, l[n].Seq⟩ : aA) = l[n] := rfl
    have ih1 := ih (n + 1) true l[n].Key (out ++ [l[n]]) (by omega) (nV hf.1) hf.2.2 (by simp; omega)
    have ih2 := ih (n + 1) true l[n].Key out (by omega) (nV hf.1) hf.2.2 (by omega)
    simp only [nE, eH]
    refine Ev.succ ?_
    simp only [iH, d, ↓reduceIte, yA l n hnl, Option.bind_some, zcL _ s k v.Bottom hs, xP, hf.1, decide_true, Bool.not_true, Bool.false_eq_true, oC n (by omega), aR, hcl, if_pos g, tL]
    rw [List.append_assoc] at ih1
    cases s with
    | false =>
      simp only [Bool.false_eq_true, ↓reduceIte, Option.bind_some, Bool.false_and, Bool.not_false, Bool.true_and]
      cases hb : v.Bottom with
      | false => rw [hb] at ih1; exact ih1
      | true =>
        rw [hb] at ih1 ih2
        cases hd : l[n].Dead with
        | false => exact ih1
        | true => exact ih2
    | true =>
      simp only [↓reduceIte, h2 rfl, Option.bind_some, Bool.false_eq_true, Bool.true_and]
      cases hk : (l[n].Key == k) with
      | true => exact ih2
      | false =>
        simp only [Bool.false_eq_true, ↓reduceIte, Bool.not_false, Bool.true_and]
        cases hb : v.Bottom with
        | false => rw [hb] at ih1; exact ih1
        | true =>
          rw [hb] at ih1 ih2
          cases hd : l[n].Dead with
          | false => exact ih1
          | true => exact ih2
theorem zhi (l : List aA) (b : Bool) (hl : l.length ≤ 20000) (hf : pG false [] l) : Ev (fun fu => kQ fu l b) (nI b l, 0, 0) := by
  unfold kQ
  have d : decide ((20000 : Int) < (l.length : Int)) = false := decide_eq_false (by omega)
  simp only [d, Bool.false_eq_true, ↓reduceIte, kL, Option.bind_some]
  have := zfS l ⟨false, [], b⟩ (by omega) l.length 0 false [] [] (by omega) ⟨by simp, fun _ => rfl⟩ (by simpa using hf) (by simp)
  exact Ev.bind this (by simp only [List.drop_zero, List.nil_append]; exact Ev.ret _)
theorem znC (l : List aA) (b : Bool) (hl : l.length ≤ 1000000) (m : Nat) : ∀ (n : Nat) (s : Bool) (k : List UInt8) (out : List aA), n + m = l.length → iO s k → pG s k (l.drop n) → out.length ≤ n →
    Ev (fun fu => aU l fu (n : Int) s k b out) (.inl ((nE s k (l.drop n)).1, (nE s k (l.drop n)).2, b, out ++ eH b s k (l.drop n))) := by
  induction m with
  | zero =>
    intro n s k out hn hs hf ho
    obtain rfl : n = l.length := by omega
    exact Ev.succ (Ev.of (fun fu => by simp [aU, List.drop_length, nE, eH]) (Ev.ret _))
  | succ m ih =>
    intro n s k out hn hs hf ho
    have hnl : n < l.length := by omega
    have d : decide ((n : Int) < (l.length : Int)) = true := decide_eq_true (by omega)
    rw [List.drop_eq_getElem_cons hnl] at hf ⊢
    have g : 2 * ((out.length + 1) * 48) ≤ 281474976710656 := by omega
    have ih1 := ih (n + 1) true l[n].Key (out ++ [l[n]]) (by omega) (nV hf.1) hf.2.2 (by simp; omega)
    have ih2 := ih (n + 1) true l[n].Key out (by omega) (nV hf.1) hf.2.2 (by omega)
    simp only [nE, eH]
    refine Ev.succ ?_
    simp only [aU, d, ↓reduceIte, yA l n hnl, Option.bind_some, zmk _ s k b l[n] hs hf.1 hf.2.1, decide_true, Bool.not_true, Bool.false_eq_true, oC n (by omega), if_pos g]
    rw [List.append_assoc] at ih1
    cases tL b s k l[n] with
    | true => exact ih1
    | false => exact ih2
theorem zoS (l : List aA) (b : Bool) (hl : l.length ≤ 20000) (hf : pG false [] l) : Ev (fun fu => zbe fu l b) (nI b l, 0, 0) := by
  unfold zbe
  have d : decide ((20000 : Int) < (l.length : Int)) = false := decide_eq_false (by omega)
  simp only [d, Bool.false_eq_true, ↓reduceIte, pT, Option.bind_some]
  have := znC l b (by omega) l.length 0 false [] [] (by omega) ⟨by simp, fun _ => rfl⟩ (by simpa using hf) (by simp)
  exact Ev.bind this (by simp only [List.drop_zero, List.nil_append]; exact Ev.ret _)
theorem zei (l : List aA) (b : Bool) (hl : l.length ≤ 20000) (hf : pG false [] l) : Ev (fun fu => zY fu l b) (nI b l, pF b l) := by
  unfold zY
  refine Ev.bind (zoS l b hl hf) ?_
  simp only [pT, Option.bind_some]
  by_cases h : 0 < l.length
  · have d : decide ((0 : Int) < (l.length : Int)) = true := decide_eq_true (by omega)
    have w : IntKind.i64.wrap ((l.length : Int) - 1) = ((l.length - 1 : Nat) : Int) := by rw [wr (by omega) (by omega)]; omega
    simp only [d, ↓reduceIte, w, yA l (l.length - 1) (by omega), Option.bind_some, pF, zbl l false [] h]
    exact Ev.ret _
  · have d : decide ((0 : Int) < (l.length : Int)) = false := decide_eq_false (by omega)
    obtain rfl : l = [] := List.length_eq_zero_iff.1 (by omega)
    simp only [d, Bool.false_eq_true, ↓reduceIte, pF, nE]
    exact Ev.ret _
theorem zeF : ∀ (l : List aA) (s : Bool) (k : List UInt8), (∀ i (h : i < l.length), chk l[i] = 0) → (∀ i (h : i + 1 < l.length), bl l[i + 1].Key l[i].Key = false) → (∀ h : 0 < l.length, s = true → bl l[0].Key k = false) → pG s k l
  | [], _, _, _, _, _ => trivial
  | e :: l, s, k, h1, h2, h3 => ⟨h1 0 (by simp), h3 (by simp), zeF l true e.Key (fun i h => h1 (i + 1) (by simp; omega)) (fun i h => h2 (i + 1) (by simp; omega)) (fun h _ => h2 0 (by simp; omega))⟩
theorem zer : ∀ (l : List aA) (n : Nat) s k, pG s k l → pG s k (l.take n)
  | [], n, _, _, _ => by simp [pG]
  | e :: l, 0, _, _, _ => trivial
  | e :: l, n + 1, s, k, h => ⟨h.1, h.2.1, zer l n true e.Key h.2.2⟩
theorem tX (runs : List (List aA)) (i : Nat) (h : i < mC runs) (c : Cur runs i) (h2 : i < (aC runs).length) : (aC runs)[i] = (runs[wn runs (eC runs i)]'(c.hw))[(eC runs i)[wn runs (eC runs i)]'(c.hwa)]'(c.hq) := by
  have := zfs runs i h c
  rw [yA _ _ h2] at this
  exact Option.some.inj this
theorem zj9 (runs : List (List aA)) (hg : zC runs) : pG false [] (aC runs) := by
  refine zeF _ _ _ (fun i h => ?_) (fun i h => ?_) (by simp)
  · rw [wS] at h
    have c := vX runs hg i h
    rw [tX runs i h c]
    exact ((hg.2.2 _ (List.getElem_mem c.hw)).2 _ c.hq).1
  · rw [wS] at h
    have c := vX runs hg (i + 1) h
    have c' := vX runs hg i (by omega)
    have p := mN runs hg (i + 1) (by omega)
    have hw := c.hw
    have hwa := c.hwa
    have hq := c.hq
    have hw' := c'.hw
    have hwa' := c'.hwa
    have hq' := c'.hq
    rw [tX runs i (by omega) c', tX runs (i + 1) h c]
    have hl2 : wn runs (eC runs i) < (eC runs (i + 1)).length := by rw [qU, vQ]; exact hwa'
    have e1 : (eC runs (i + 1))[wn runs (eC runs i)] = (eC runs i)[wn runs (eC runs i)] + 1 := by
      have := zbx (eC runs i) (wn runs (eC runs i)) (wn runs (eC runs i)) (by rw [vQ]; exact hwa') hwa' hwa'
      simp only [qU, this, ↓reduceIte]
    rcases p.rch.passed (wn runs (eC runs i)) hw' hl2 _ hq' e1 _ hw hwa hq with l | ⟨l, l2⟩
    · exact mK l
    · rw [l]; exact fG _
theorem zab : ∀ (runs : List (List aA)) (a : List Nat), a.length = runs.length → (∀ i (h : i < runs.length) (h2 : i < a.length), a[i] ≤ runs[i].length) → aB runs a + a.sum = cS runs
  | [], [], _, _ => rfl
  | l :: runs, n :: a, hl, h => by
    have := zab runs a (by simpa using hl) (fun i h1 h2 => h (i + 1) (by simp; omega) (by simp; omega))
    have h0 := h 0 (by simp) (by simp)
    simp only [List.getElem_cons_zero] at h0
    simp only [aB, cS, List.zipWith_cons_cons, List.sum_cons, List.map_cons] at this ⊢
    omega
theorem zkM (runs : List (List aA)) : (cE runs).sum = 0 := by
  simp [cE]
theorem znx (runs : List (List aA)) : mC runs = cS runs := by
  have := zab runs (cE runs) (wL runs).1 (wL runs).2
  rw [zkM] at this
  simpa [mC] using this
theorem zdJ (runs : List (List aA)) (a : List Nat) (h : At runs a) : aB runs a + a.sum = mC runs := by
  rw [znx]; exact zab runs a h.1 h.2
theorem zbB (runs : List (List aA)) (hg : zC runs) (i : Nat) (h : i ≤ mC runs) : (eC runs i).sum = i := by
  have p := mN runs hg i h
  have := zdJ runs _ p.rch.at'
  have := p.left
  omega
theorem zcO : ∀ (a b : List Nat), a.length = b.length → (∀ i (h1 : i < a.length) (h2 : i < b.length), a[i] ≤ b[i]) → a.sum ≤ b.sum ∧ (a.sum = b.sum → a = b)
  | [], [], _, _ => ⟨Nat.le_refl _, fun _ => rfl⟩
  | x :: a, y :: b, hl, h => by
    obtain ⟨p, q⟩ := zcO a b (by simpa using hl) (fun i h1 h2 => h (i + 1) (by simp; omega) (by simp; omega))
    have h0 := h 0 (by simp) (by simp)
    simp only [List.getElem_cons_zero] at h0
    simp only [List.sum_cons]
    refine ⟨by omega, fun e => ?_⟩
    obtain rfl : x = y := by omega
    rw [q (by omega)]
theorem more (a b : List Nat) (hl : a.length = b.length) (hs : a.sum = b.sum) (hne : a ≠ b) : ∃ i, ∃ h1 : i < a.length, ∃ h2 : i < b.length, a[i] < b[i] := by
  refine Classical.byContradiction fun hn => hne ?_
  have := zcO b a hl.symm fun i h1 h2 => Nat.le_of_not_lt fun h => hn ⟨i, h2, h1, h⟩
  exact (this.2 hs.symm).symm
def le (k l : List UInt8) : Prop := bl k l = true ∨ k = l
theorem zaj (l : List aA) (hg : zN l) (i : Nat) : ∀ (d : Nat) (h : i + d < l.length), le (l[i]'(by omega)).Key l[i + d].Key ∧ (0 < d → bl (l[i]'(by omega)).Key l[i + d].Key = true)
  | 0, _ => ⟨.inr rfl, by omega⟩
  | d + 1, h => by
    have p := (zaj l hg i d (by omega)).1
    have q : bl (l[i + d]'(by omega)).Key l[i + (d + 1)].Key = true := (hg.2 (i + (d + 1)) h).2 (by omega)
    rcases p with p | p
    · exact ⟨.inl (pM p q), fun _ => pM p q⟩
    · rw [p]; exact ⟨.inl q, fun _ => q⟩
theorem zcc (l : List aA) (hg : zN l) (i j : Nat) (h : i ≤ j) (hj : j < l.length) : le (l[i]'(by omega)).Key l[j].Key := by
  obtain ⟨d, rfl⟩ : ∃ d, j = i + d := ⟨j - i, by omega⟩
  exact (zaj l hg i d hj).1
theorem run_lt (l : List aA) (hg : zN l) (i j : Nat) (h : i < j) (hj : j < l.length) : bl (l[i]'(by omega)).Key l[j].Key = true := by
  obtain ⟨d, rfl⟩ : ∃ d, j = i + d := ⟨j - i, by omega⟩
  exact (zaj l hg i d hj).2 (by omega)
theorem zbw {a b c : List UInt8} (h : bl a b = true) (k : le b c) : bl a c = true := by
  rcases k with k | rfl
  · exact pM h k
  · exact h
theorem le_bl {a b c : List UInt8} (h : le a b) (k : bl b c = true) : bl a c = true := by
  rcases h with h | rfl
  · exact pM h k
  · exact k
theorem zlu (runs : List (List aA)) (hg : zC runs) (a b : List Nat) (ha : wM runs a) (hb : wM runs b) (hs : a.sum = b.sum) : a = b := by
  refine Classical.byContradiction fun hne => ?_
  have hl : a.length = b.length := by rw [ha.at'.1, hb.at'.1]
  obtain ⟨i, i1, i2, i3⟩ := more a b hl hs hne
  obtain ⟨j, j1, j2, j3⟩ := more b a hl.symm hs.symm (Ne.symm hne)
  have ir : i < runs.length := by rw [← ha.at'.1]; exact i1
  have jr : j < runs.length := by rw [← ha.at'.1]; exact j2
  have hbi := hb.at'.2 i ir i2
  have haj := ha.at'.2 j jr j2
  have gi := hg.2.2 _ (List.getElem_mem ir)
  have gj := hg.2.2 _ (List.getElem_mem jr)
  have p1 := ha.passed j jr j2 (a[j] - 1) (by omega) (by omega) i ir i1 (by omega)
  have p2 := hb.passed i ir i2 (b[i] - 1) (by omega) (by omega) j jr j1 (by omega)
  have q1 := zcc runs[i] gi a[i] (b[i] - 1) (by omega) (by omega)
  have q2 := zcc runs[j] gj b[j] (a[j] - 1) (by omega) (by omega)
  rcases p1 with p1 | ⟨p1, o1⟩
  · have r1 := zbw p1 q1
    have r2 : bl runs[j][a[j] - 1].Key runs[j][b[j]].Key = true := by
      rcases p2 with p2 | ⟨p2, _⟩
      · exact pM r1 p2
      · rw [← p2]; exact r1
    have := zbw r2 q2
    rw [fG] at this; cases this
  · rcases p2 with p2 | ⟨p2, o2⟩
    · have r1 := le_bl q1 p2
      rw [← p1] at r1
      have := zbw r1 q2
      rw [fG] at this; cases this
    · omega
theorem zhQ (runs : List (List aA)) (hg : zC runs) (a : List Nat) (ha : At runs a) (h : (∃ i, ∃ h : i < runs.length, ∃ h2 : i < a.length, a[i] ≠ runs[i].length) → pick (dH runs a (wn runs a)) a.length 0 = .inl ()) : zeC runs a := by
  intro i h1 h2 m hm e j h3 h4 h5
  have hp := h ⟨j, h3, h4, by omega⟩
  rcases dL runs a ha hg.1 with ⟨hd, hall⟩ | ⟨hw, hwa, hq, hk⟩
  · have := hall j h3 h4; omega
  · have hb := aY hp i (by omega) (by omega)
    simp only [dH, List.getElem?_eq_getElem h1, List.getElem?_eq_getElem h2, e, List.getElem?_eq_getElem hw, List.getElem?_eq_getElem hwa, List.getElem?_eq_getElem hm, List.getElem?_eq_getElem hq] at hb
    have hb' : ¬ (bl runs[wn runs a][a[wn runs a]].Key runs[i][m].Key = true ∨ (runs[i][m].Key = runs[wn runs a][a[wn runs a]].Key ∧ wn runs a < i)) := by
      intro q; rw [if_pos q] at hb; cases hb
    have w1 : lx runs[i][m].Key i runs[wn runs a][a[wn runs a]].Key (wn runs a) := by
      rcases vR runs[i][m].Key runs[wn runs a][a[wn runs a]].Key with t | t | t
      · exact .inl t
      · refine .inr ⟨t, ?_⟩
        have : ¬ wn runs a < i := fun q => hb' (.inr ⟨t, q⟩)
        rcases Nat.lt_or_ge i (wn runs a) with q | q
        · exact q
        · obtain rfl : i = wn runs a := by omega
          have := run_lt _ (hg.2.2 _ (List.getElem_mem h1)) m a[wn runs a] (by omega) hq
          rw [t, fG] at this; cases this
      · exact absurd (.inl t) hb'
    rcases zdv runs a ha hg.1 hw hwa hq j h3 h4 h5 with rfl | w2
    · exact w1
    · rcases w2 with w2 | ⟨w2, w3⟩
      · rcases w1 with w1 | ⟨w1, _⟩
        · exact .inl (pM w1 w2)
        · rw [w1]; exact .inl w2
      · rcases w1 with w1 | ⟨w1, w4⟩
        · rw [← w2]; exact .inl w1
        · exact .inr ⟨w1.trans w2, by omega⟩
theorem ok_plc (s : gB) (a : List Nat) (h : Ok s a) : a = eC s.Runs a.sum ∧ a.sum ≤ mC s.Runs := by
  obtain ⟨hg, ha, he, hr⟩ := h
  have hs := zdJ s.Runs a ha
  have hle : a.sum ≤ mC s.Runs := by omega
  exact ⟨zlu s.Runs hg a _ ⟨ha, zhQ s.Runs hg a ha hr⟩ (mN s.Runs hg _ hle).rch (zbB s.Runs hg _ hle).symm, hle⟩
theorem jY (x y : mB) : mB.eqb x y = decide (x = y) := by
  obtain ⟨a, b, c⟩ := x
  obtain ⟨a', b', c'⟩ := y
  by_cases h1 : a = a' <;> by_cases h2 : b = b' <;> by_cases h3 : c = c' <;> simp [mB.eqb, h1, h2, h3]
theorem zn4 (l k : List aA) (hl : l.length < 1000000000000000000) : ∃ b, Ev (fun fu => nO fu l k) b ∧ (b = true ↔ l = k) := by
  unfold nO
  by_cases h : l.length = k.length
  · have hd : (!decide ((l.length : Int) = (k.length : Int))) = false := by simp; omega
    simp only [hd, Bool.false_eq_true, ↓reduceIte]
    obtain ⟨r, r1, r2⟩ := Ev.eqs false l k h (L := lI l k) (fun fu => by simp [lI]) (fun fu n h1 h2 => by
      have d : decide ((n : Int) < (l.length : Int)) = true := decide_eq_true (by omega)
      simp only [lI, d, ↓reduceIte, yA l n h1, yA k n h2, Option.bind_some, dY, oC n (by omega)]
      by_cases e : l[n] = k[n] <;> simp [e])
    rcases r2 with ⟨rfl, e⟩ | ⟨rfl, e⟩
    · exact ⟨true, Ev.bind r1 (Ev.ret _), by simp [e]⟩
    · exact ⟨false, Ev.bind r1 (Ev.ret _), by simp [e]⟩
  · have hd : (!decide ((l.length : Int) = (k.length : Int))) = true := by simp; omega
    simp only [hd, ↓reduceIte]
    exact ⟨false, Ev.ret _, by simp; intro e; exact h (by rw [e])⟩
theorem zbf {L : Nat → Int → Int → Option Int} (a : List Nat) (hl : a.length ≤ 1000000) (hb : a.sum ≤ 1000000) (stop : ∀ fu c, L (fu + 1) c (a.length : Int) = some c)
    (step : ∀ fu c n (h : n < a.length), L (fu + 1) c (n : Int) = L fu (IntKind.i64.wrap (c + (a[n] : Int))) ((n + 1 : Nat) : Int)) : Ev (fun fu => L fu 0 0) (a.sum : Int) := by
  have go : ∀ m (n c : Nat), n + m = a.length → c + (a.drop n).sum = a.sum → Ev (fun fu => L fu (c : Int) (n : Int)) (a.sum : Int) := by
    intro m
    induction m with
    | zero =>
      intro n c hn hc
      obtain rfl : n = a.length := by omega
      simp only [List.drop_length, List.sum_nil, Nat.add_zero] at hc
      subst hc
      exact Ev.succ (Ev.of (fun fu => stop fu _) (Ev.ret _))
    | succ m ih =>
      intro n c hn hc
      have hnl : n < a.length := by omega
      rw [List.drop_eq_getElem_cons hnl, List.sum_cons] at hc
      have w : IntKind.i64.wrap ((c : Int) + (a[n] : Int)) = ((c + a[n] : Nat) : Int) := by rw [wr (by omega) (by omega)]; omega
      exact Ev.succ (Ev.of (fun fu => (step fu c n hnl).trans (by rw [w])) (ih (n + 1) (c + a[n]) (by omega) (by omega)))
  exact go a.length 0 0 (by omega) (by simp)
def uC (runs : List (List aA)) (b : Bool) (n : Nat) : pB := ⟨gC runs (eC runs n), pF b ((aC runs).take n), nI b ((aC runs).take n), (n : Int)⟩
structure eQ (s : pB) : Prop where
  merge : zdp s.Merge
  seen : eK s.Merge.Runs
  out : s.Out.length ≤ 1000
theorem hZ (runs : List (List aA)) (b : Bool) (n : Nat) (hs : eK runs) (hg : zC runs) (hn : n ≤ mC runs) : eQ (uC runs b n) := by
  have p := mN runs hg n hn
  have hl := zbt runs _ p.rch.at'
  have h1 := hs.near.1
  refine ⟨⟨hs.near, ?_, ?_, ?_⟩, hs, ?_⟩
  · show (gC runs (eC runs n)).At.length ≤ 1000
    rw [hl.1]; omega
  · show (gC runs (eC runs n)).Tree.Keys.length ≤ 1000
    rw [hl.2.2.1]; omega
  · show (gC runs (eC runs n)).Tree.Lose.length ≤ 1000
    rw [hl.2.2.2]; omega
  · show (nI b ((aC runs).take n)).length ≤ 1000
    have := sZ b ((aC runs).take n) false []
    have h2 := hs.few hg
    have h3 : ((aC runs).take n).length ≤ n := by simp; omega
    show (eH b false [] ((aC runs).take n)).length ≤ 1000
    omega
theorem zbd (runs : List (List aA)) (hg : zC runs) (n : Nat) : pG false [] ((aC runs).take n) := zer _ _ _ _ (zj9 runs hg)
theorem shd_eq (b : Bool) (l : List aA) (h : 0 < l.length) : pF b l = ⟨true, l[l.length - 1].Key, b⟩ := by simp only [pF, zbl l false [] h]
theorem fin6 (x : Bool) (p : Prop) [Decidable p] : (if (!x) = true then some true else some (!decide p)).bind (fun b => if b = true then some (6 : Int) else some 0) = some (if x = true ∧ p then 0 else 6) := by
  cases x <;> by_cases h : p <;> simp [h]
theorem znN (runs : List (List aA)) (hn : aN runs) (hg : zC runs) : Ev (fun fu => zJ fu runs) (0, 0) ∧ Ev (fun fu => fU fu runs) (0, 0) := by
  obtain ⟨c, c1, c2, c3⟩ := xY runs hn.fits (by have := hn.1; omega)
  rcases c3 with ⟨rfl, _⟩ | hc
  · exact ⟨c1, c2⟩
  · exfalso
    have h := zaz runs _ hn hg (zeu runs)
    have : Ev (fun fu => wG fu (gC runs (cE runs))) c := by
      unfold wG
      refine Ev.bind c1 (Ev.of (fun fu => ?_) (Ev.ret _))
      simp only [decide_eq_false hc, Bool.not_false, ↓reduceIte]
    have := Ev.uniq this h
    rw [this] at hc
    exact hc rfl
theorem zeR (runs : List (List aA)) (hn : aN runs) (hg : zC runs) : Ev (fun fu => cI fu runs) (gC runs (cE runs), 0, 0) ∧ Ev (fun fu => mO fu runs) (gC runs (cE runs), 0, 0) := by
  obtain ⟨b, b1, b2, b3⟩ := zbc runs hn.fits (by have := hn.1; omega)
  rcases b3 with ⟨_, rfl⟩ | ⟨_, hb⟩
  · exact ⟨b1, b2⟩
  · exfalso
    have g3 : (0 : Int) ≤ (runs.length : Int) ∧ (runs.length : Int) ≤ (runs.length : Int) ∧ (runs.length : Int) ≤ 9223372036854775807 ∧ 8 * (runs.length : Int) ≤ 281474976710656 := by have := hg.2.1; omega
    have : Ev (fun fu => mO fu runs) (gC runs (cE runs), 0, 0) := by
      unfold mO
      refine Ev.bind (znN runs hn hg).2 ?_
      simp only [decide_true, Bool.not_true, Bool.false_eq_true, ↓reduceIte, if_pos g3]
      rw [cV]
      exact Ev.bind (uU runs _ (wL runs) hg.1 hg.2.1) (Ev.ret _)
    have := Ev.uniq this b2
    rw [← this] at hb
    exact hb rfl
theorem zeE (runs : List (List aA)) (hn : aN runs) (hg : zC runs) : Ev (fun fu => iL fu runs) (aC runs, allF runs, 0) ∧ Ev (fun fu => xU fu runs) (aC runs, allF runs, 0) := by
  obtain ⟨w, w1, w2, w3⟩ := all_ev runs hn.fits (by have := hn.1; omega)
  rcases w3 with ⟨_, rfl⟩ | ⟨_, _, hw⟩
  · exact ⟨w1, w2⟩
  · exfalso
    have hr := zcE runs hg (cE runs)
    have : Ev (fun fu => iL fu runs) (aC runs, allF runs, 0) := by
      unfold iL
      rw [zcK]
      refine Ev.bind (zeR runs hn hg).1 ?_
      simp only [decide_true, Bool.not_true, Bool.false_eq_true, ↓reduceIte]
      exact Ev.bind (zew runs hg (gC runs (cE runs), 0, 0) rfl _ (cE runs) _ [] [] (wL runs) rfl rfl (by simp; omega) rfl) (Ev.of (fun fu => by simp [aC, allF, mC]) (Ev.ret _))
    have := Ev.uniq this w1
    rw [← this] at hw
    exact hw rfl
theorem zht (s : pB) (hs : eQ s) : ∃ r, Ev (fun fu => uO fu s) r ∧ Ev (fun fu => kX fu s) r ∧
    ((r = 0 ∧ zC s.Merge.Runs ∧ ∃ n, n ≤ mC s.Merge.Runs ∧ s = uC s.Merge.Runs s.Shadow.Bottom n) ∨ r ≠ 0) ∧
    (zC s.Merge.Runs → ∀ n, n ≤ mC s.Merge.Runs → s = uC s.Merge.Runs s.Shadow.Bottom n → r = 0) := by
  obtain ⟨c, c1, c2, c3, c4⟩ := za7 s.Merge hs.merge
  unfold uO kX
  have toOk : zC s.Merge.Runs → ∀ n, n ≤ mC s.Merge.Runs → s = uC s.Merge.Runs s.Shadow.Bottom n → Ok s.Merge (eC s.Merge.Runs n) := by
    intro hg n hn e
    have := zaZ s.Merge.Runs _ hg (mN s.Merge.Runs hg n hn).rch
    have e2 : s.Merge = gC s.Merge.Runs (eC s.Merge.Runs n) := congrArg pB.Merge e
    rw [← e2] at this
    exact this
  rcases c3 with ⟨rfl, a, ho⟩ | hc
  · obtain ⟨hp, hle⟩ := ok_plc _ a ho
    obtain ⟨hg, ha, he, hr⟩ := ho
    have h120 := hs.seen.few hg
    have hal : a.length ≤ 34 := by rw [ha.1]; exact hs.seen.near.1
    have hAt : s.Merge.At = qB a := congrArg gB.At he
    have z1 : Ev (fun fu => fI s fu 0 0) (a.sum : Int) := zbf a (by omega) (by omega) (fun fu c => by simp [fI, hAt, yF]) (fun fu c n h => by
      have d : decide ((n : Int) < ((qB a).length : Int)) = true := decide_eq_true (by rw [yF]; omega)
      simp only [fI, hAt, d, ↓reduceIte, fF a n h, Option.bind_some, oC n (by omega)])
    have z2 : Ev (fun fu => oU fu s) (a.sum : Int) := by
      unfold oU
      exact Ev.bind (zbf (L := qP s) a (by omega) (by omega) (fun fu c => by simp [qP, hAt, yF]) (fun fu c n h => by
        have d : decide ((n : Int) < ((qB a).length : Int)) = true := decide_eq_true (by rw [yF]; omega)
        simp only [qP, hAt, d, ↓reduceIte, fF a n h, Option.bind_some, oC n (by omega)])) (Ev.ret _)
    generalize hn : a.sum = n at *
    have o1 : decide ((20000 : Int) < (s.Out.length : Int)) = false := decide_eq_false (by have := hs.out; omega)
    have o2 : decide ((20000 : Int) < (n : Int)) = false := decide_eq_false (by omega)
    by_cases hst : s.Steps = (n : Int)
    · have d1 : decide (s.Steps = (n : Int)) = true := decide_eq_true hst
      obtain ⟨w1, w2⟩ := zeE s.Merge.Runs hs.seen.near hg
      have hlen := wS s.Merge.Runs
      have g : (0 : Int) ≤ (n : Int) ∧ (n : Int) ≤ ((aC s.Merge.Runs).length : Int) := by omega
      have hF := zbd s.Merge.Runs hg n
      have htl : ((aC s.Merge.Runs).take n).length = n := by simp; omega
      have f1 := zhi ((aC s.Merge.Runs).take n) s.Shadow.Bottom (by omega) hF
      have f2 := zei ((aC s.Merge.Runs).take n) s.Shadow.Bottom (by omega) hF
      obtain ⟨x, x1, x2⟩ := zn4 s.Out (nI s.Shadow.Bottom ((aC s.Merge.Runs).take n)) (by have := hs.out; omega)
      obtain ⟨y, y1, y2⟩ := zbm s.Out (nI s.Shadow.Bottom ((aC s.Merge.Runs).take n)) (by have := hs.out; omega)
      obtain rfl : x = y := Bool.eq_iff_iff.2 (x2.trans y2.symm)
      have sheq : ∀ n' : Nat, n' = n → s.Steps = n' := fun _ h => by rw [h]; exact hst
      have full : s.Out = nI s.Shadow.Bottom ((aC s.Merge.Runs).take n) → s.Shadow = pF s.Shadow.Bottom ((aC s.Merge.Runs).take n) → s = uC s.Merge.Runs s.Shadow.Bottom n := by
        intro e1 e2
        have e3 : s.Merge = gC s.Merge.Runs (eC s.Merge.Runs n) := by rw [← hp]; exact he
        show s = ⟨gC s.Merge.Runs (eC s.Merge.Runs n), pF s.Shadow.Bottom ((aC s.Merge.Runs).take n), nI s.Shadow.Bottom ((aC s.Merge.Runs).take n), (n : Int)⟩
        rw [← e3, ← e1, ← e2, ← hst]
      have only : ∀ n', n' ≤ mC s.Merge.Runs → s = uC s.Merge.Runs s.Shadow.Bottom n' → n' = n := by
        intro n' hn' e
        have : s.Steps = (n' : Int) := congrArg pB.Steps e
        omega
      refine ⟨if x = true ∧ s.Shadow = pF s.Shadow.Bottom ((aC s.Merge.Runs).take n) then 0 else 6, Ev.bind c1 ?_, Ev.bind c2 ?_, ?_, fun _ n' hn' e => ?_⟩
      · simp only [decide_true, Bool.not_true, Bool.false_eq_true, ↓reduceIte]
        refine Ev.bind z1 ?_
        simp only [o1, o2, Bool.false_eq_true, ↓reduceIte, Option.bind_some, d1, Bool.not_true]
        refine Ev.bind w1 ?_
        simp only [decide_true, Bool.not_true, Bool.false_eq_true, ↓reduceIte, if_pos g, Int.toNat_natCast]
        refine Ev.bind f1 ?_
        simp only [decide_true, Bool.not_true, Bool.false_eq_true, ↓reduceIte, kL, Option.bind_some, jY]
        by_cases h0 : 0 < n
        · have d0 : decide ((0 : Int) < (n : Int)) = true := decide_eq_true (by omega)
          have w : IntKind.i64.wrap ((n : Int) - 1) = ((n - 1 : Nat) : Int) := by rw [wr (by omega) (by omega)]; omega
          have e1 := shd_eq s.Shadow.Bottom ((aC s.Merge.Runs).take n) (by omega)
          have e2 : ((aC s.Merge.Runs).take n)[((aC s.Merge.Runs).take n).length - 1]'(by omega) = (aC s.Merge.Runs)[n - 1]'(by omega) := by
            rw [List.getElem_take]; congr 1; omega
          rw [e2] at e1
          simp only [d0, ↓reduceIte, w, yA (aC s.Merge.Runs) (n - 1) (by omega), Option.bind_some, e1]
          exact Ev.bind x1 (Ev.of (fun fu => fin6 x _) (Ev.ret _))
        · have d0 : decide ((0 : Int) < (n : Int)) = false := decide_eq_false (by omega)
          obtain rfl : n = 0 := by omega
          simp only [d0, Bool.false_eq_true, ↓reduceIte, List.take_zero, pF, nE] at x1 ⊢
          exact Ev.bind x1 (Ev.of (fun fu => fin6 x _) (Ev.ret _))
      · simp only [decide_true, Bool.not_true, Bool.false_eq_true, ↓reduceIte]
        refine Ev.bind z2 ?_
        simp only [o1, o2, Bool.false_eq_true, ↓reduceIte, Option.bind_some, d1, Bool.not_true]
        refine Ev.bind w2 ?_
        simp only [if_pos g, Int.toNat_natCast]
        refine Ev.bind f2 ?_
        simp only [jY]
        exact Ev.bind y1 (Ev.of (fun fu => fin6 x _) (Ev.ret _))
      · by_cases h : x = true ∧ s.Shadow = pF s.Shadow.Bottom ((aC s.Merge.Runs).take n)
        · rw [if_pos h]; exact .inl ⟨rfl, hg, n, hle, full (x2.1 h.1) h.2⟩
        · rw [if_neg h]; exact .inr (by decide)
      · obtain rfl := only n' hn' e
        rw [if_pos]
        exact ⟨x2.2 (congrArg pB.Out e), congrArg pB.Shadow e⟩
    · have d1 : decide (s.Steps = (n : Int)) = false := decide_eq_false hst
      refine ⟨7, Ev.bind c1 ?_, Ev.bind c2 ?_, .inr (by decide), fun hg' n' hn' e => ?_⟩
      · simp only [decide_true, Bool.not_true, Bool.false_eq_true, ↓reduceIte]
        refine Ev.bind z1 ?_
        simp only [o1, o2, Bool.false_eq_true, ↓reduceIte, Option.bind_some, d1, Bool.not_false]
        exact Ev.ret _
      · simp only [decide_true, Bool.not_true, Bool.false_eq_true, ↓reduceIte]
        refine Ev.bind z2 ?_
        simp only [o1, o2, Bool.false_eq_true, ↓reduceIte, Option.bind_some, d1, Bool.not_false]
        exact Ev.ret _
      · exfalso
        have h1 : s.Steps = (n' : Int) := congrArg pB.Steps e
        have h2 : s.Merge = gC s.Merge.Runs (eC s.Merge.Runs n') := congrArg pB.Merge e
        have h3 : qB a = qB (eC s.Merge.Runs n') := by rw [← hAt]; exact congrArg gB.At h2
        have h4 : a = eC s.Merge.Runs n' := (List.map_inj_right (fun x y h => by have h : (x : Int) = (y : Int) := h; omega)).1 h3
        have h5 := zbB s.Merge.Runs hg' n' hn'
        rw [← h4, hn] at h5
        exact hst (by rw [h1, h5])
  · refine ⟨c.2, Ev.bind c1 ?_, Ev.bind c2 ?_, .inr hc, fun hg n hn e => absurd (congrArg Prod.snd (c4 _ (toOk hg n hn e))) hc⟩
    · simp only [decide_eq_false hc, Bool.not_false, ↓reduceIte]; exact Ev.ret _
    · simp only [decide_eq_false hc, Bool.not_false, ↓reduceIte]; exact Ev.ret _
theorem zc1 (runs : List (List aA)) (a : List Nat) (hn : aN runs) (hg : zC runs) (h : wM runs a) : Ev (fun fu => sM fu (gC runs a)) (0, 0) := by
  have hl := zbt runs a h.at'
  have := hn.1
  obtain ⟨r, -, r1, -, r4⟩ := za7 (gC runs a) ⟨hn, by rw [hl.1]; omega, by rw [hl.2.2.1]; omega, by rw [hl.2.2.2]; omega⟩
  rw [r4 a (zaZ runs a hg h)] at r1
  exact r1
inductive Said (s : pB) (r : Int) : Prop
  | at (e : r = 0) (hg : zC s.Merge.Runs) (n : Nat) (hn : n ≤ mC s.Merge.Runs) (hs : s = uC s.Merge.Runs s.Shadow.Bottom n)
  | no (h : r ≠ 0)
theorem zlg (runs : List (List aA)) (b : Bool) (n : Nat) (hs : eK runs) (hg : zC runs) (hn : n ≤ mC runs) : Ev (fun fu => uO fu (uC runs b n)) 0 ∧ Ev (fun fu => kX fu (uC runs b n)) 0 := by
  obtain ⟨r, r1, r2, -, r4⟩ := zht (uC runs b n) (hZ runs b n hs hg hn)
  have := r4 hg n hn rfl
  subst this
  exact ⟨r1, r2⟩
theorem zW (runs : List (List aA)) (b : Bool) (n : Nat) (hs : eK runs) (hg : zC runs) (hn : n ≤ mC runs) : Ev (fun fu => zK fu (uC runs b n)) (((mC runs - n : Nat) : Int), 0) ∧ Ev (fun fu => jW fu (uC runs b n)) (((mC runs - n : Nat) : Int), 0) := by
  obtain ⟨c1, c2⟩ := zlg runs b n hs hg hn
  have p := mN runs hg n hn
  have l1 := zgf runs _ hg p.rch.at' (zaz runs _ hs.near hg p.rch)
  have l2 := zg1 runs _ hg p.rch.at' (zc1 runs _ hs.near hg p.rch)
  rw [p.left] at l1 l2
  constructor
  · unfold zK
    refine Ev.bind c1 ?_
    simp only [decide_true, Bool.not_true, Bool.false_eq_true, ↓reduceIte]
    exact Ev.bind l1 (Ev.ret _)
  · unfold jW
    refine Ev.bind c2 ?_
    simp only [decide_true, Bool.not_true, Bool.false_eq_true, ↓reduceIte]
    exact Ev.bind l2 (Ev.ret _)
theorem zdK (runs : List (List aA)) (b : Bool) (n : Nat) (h : n ≤ mC runs) : (nI b ((aC runs).take n)).length ≤ n := by
  have := sZ b ((aC runs).take n) false []
  have h3 : ((aC runs).take n).length ≤ n := by simp; omega
  exact Nat.le_trans this h3
theorem ze3 (runs : List (List aA)) (i : Nat) (hs : eK runs) (hg : zC runs) (h : i < mC runs) (h2 : i < (aC runs).length) : Ev (fun fu => oO fu (gC runs (eC runs i))) ((aC runs)[i], (wn runs (eC runs i) : Int), gC runs (eC runs (i + 1)), 0) ∧
    Ev (fun fu => gZ fu (gC runs (eC runs i))) ((aC runs)[i], (wn runs (eC runs i) : Int), gC runs (eC runs (i + 1)), 0) := by
  have p := mN runs hg i (by omega)
  have c := vX runs hg i h
  have e := zbL runs _ c.hw c.hwa c.hq
  have n1 := zhT runs _ hg p.rch.at' (zaz runs _ hs.near hg p.rch)
  have n2 := zmK runs _ hg p.rch.at' (zc1 runs _ hs.near hg p.rch)
  rw [e, ← tX runs i h c h2, ← qU] at n1 n2
  exact ⟨n1, n2⟩
theorem zbo (runs : List (List aA)) (i : Nat) (h2 : i < (aC runs).length) : (aC runs).take (i + 1) = (aC runs).take i ++ [(aC runs)[i]] := (List.take_append_getElem h2).symm
theorem zg2 (runs : List (List aA)) (b : Bool) (i : Nat) (h2 : i < (aC runs).length) : pF b ((aC runs).take (i + 1)) = ⟨true, (aC runs)[i].Key, b⟩ := by
  rw [zbo runs i h2]
  simp only [pF, zdM, nE]
theorem zmv (runs : List (List aA)) (b : Bool) (i : Nat) (h2 : i < (aC runs).length) : nI b ((aC runs).take (i + 1)) = nI b ((aC runs).take i) ++ (if tL b (pF b ((aC runs).take i)).Some (pF b ((aC runs).take i)).Last (aC runs)[i] then [(aC runs)[i]] else []) := by
  rw [zbo runs i h2]
  simp only [nI, zd0, eH, pF]
  rfl
theorem zgb (runs : List (List aA)) (b : Bool) (i : Nat) (hg : zC runs) (h2 : i < (aC runs).length) (fu : Nat) : lM fu (pF b ((aC runs).take i)) (aC runs)[i] = some (tL b (pF b ((aC runs).take i)).Some (pF b ((aC runs).take i)).Last (aC runs)[i], pF b ((aC runs).take (i + 1)), 0) := by
  have f := zbd runs hg (i + 1)
  rw [zbo runs i h2, zc0] at f
  have ok := zeI _ false [] ⟨by simp, fun _ => rfl⟩ f.1
  rw [zg2 runs b i h2]
  exact zhr fu _ _ b _ ok f.2.1 f.2.2.1
def tupSl (s : pB) : List (List aA) × List Int × List cA × List Int × Int × Bool × List UInt8 × Bool × Int × List aA :=
  (s.Merge.Runs, s.Merge.At, s.Merge.Tree.Keys, s.Merge.Tree.Lose, s.Merge.Tree.Win, s.Shadow.Some, s.Shadow.Last, s.Shadow.Bottom, s.Steps, s.Out)
theorem znl (runs : List (List aA)) (b : Bool) (hs : eK runs) (hg : zC runs) (n U : Nat) (v : Int × Int) (k : Int) (hU : (if v.1 < k then v.1 else k) = (U : Int)) (hn : n + U ≤ mC runs) (m : Nat) : ∀ i, i + m = U →
    Ev (fun fu => kH v k fu (i : Int) (uC runs b (n + i)).Merge.Runs (uC runs b (n + i)).Merge.At (uC runs b (n + i)).Merge.Tree.Keys (uC runs b (n + i)).Merge.Tree.Lose (uC runs b (n + i)).Merge.Tree.Win (uC runs b (n + i)).Shadow.Some (uC runs b (n + i)).Shadow.Last (uC runs b (n + i)).Shadow.Bottom (uC runs b (n + i)).Steps (uC runs b (n + i)).Out) (.inl (tupSl (uC runs b (n + U)))) := by
  have h120 := hs.few hg
  induction m with
  | zero =>
    intro i hi
    obtain rfl : i = U := by omega
    have d : decide ((i : Int) < (i : Int)) = false := decide_eq_false (by omega)
    refine Ev.succ ?_
    simp only [kH, hU, d, Bool.false_eq_true, ↓reduceIte]
    exact Ev.ret _
  | succ m ih =>
    intro i hi
    have d : decide ((i : Int) < (U : Int)) = true := decide_eq_true (by omega)
    have hl : n + i < (aC runs).length := by rw [wS]; omega
    have nx := (ze3 runs (n + i) hs hg (by omega) hl).1
    have hrec := ih (i + 1) (by omega)
    refine Ev.succ ?_
    simp only [kH, hU, d, ↓reduceIte]
    refine Ev.bind (a := ((aC runs)[n + i], (wn runs (eC runs (n + i)) : Int), gC runs (eC runs (n + i + 1)), 0)) nx ?_
    simp only [decide_true, Bool.not_true, Bool.false_eq_true, ↓reduceIte]
    have sh : ∀ fu, lM fu ⟨(uC runs b (n + i)).Shadow.Some, (uC runs b (n + i)).Shadow.Last, (uC runs b (n + i)).Shadow.Bottom⟩ (aC runs)[n + i] = _ := zgb runs b (n + i) hg hl
    have hk := zdK runs b (n + i) (by omega)
    have g : 2 * (((uC runs b (n + i)).Out.length + 1) * 48) ≤ 281474976710656 := by show 2 * (((nI b ((aC runs).take (n + i))).length + 1) * 48) ≤ 281474976710656; omega
    have w1 : IntKind.i64.wrap ((uC runs b (n + i)).Steps + 1) = (uC runs b (n + (i + 1))).Steps := oC (n + i) (by omega)
    have ko : (uC runs b (n + (i + 1))).Out = _ := zmv runs b (n + i) hl
    simp only [sh, Option.bind_some, decide_true, Bool.not_true, Bool.false_eq_true, ↓reduceIte, if_pos g, oC i (show i < 9223372036854775807 by omega), w1]
    rw [ko] at hrec
    cases hkp : tL b (pF b ((aC runs).take (n + i))).Some (pF b ((aC runs).take (n + i))).Last (aC runs)[n + i] with
    | true => rw [hkp] at hrec; exact hrec
    | false =>
      rw [hkp] at hrec
      simp only [Bool.false_eq_true, ↓reduceIte, List.append_nil] at hrec
      exact hrec
theorem zkj (runs : List (List aA)) (hs : eK runs) (hg : zC runs) (n U : Nat) (v : Int × Int) (k : Int) (hU : (if v.1 < k then v.1 else k) = (U : Int)) (hn : n + U ≤ mC runs) (m : Nat) : ∀ i, i + m = U →
    Ev (fun fu => pV v k fu (i : Int) (gC runs (eC runs (n + i))).Runs (gC runs (eC runs (n + i))).At (gC runs (eC runs (n + i))).Tree.Keys (gC runs (eC runs (n + i))).Tree.Lose (gC runs (eC runs (n + i))).Tree.Win)
      ((gC runs (eC runs (n + U))).Runs, (gC runs (eC runs (n + U))).At, (gC runs (eC runs (n + U))).Tree.Keys, (gC runs (eC runs (n + U))).Tree.Lose, (gC runs (eC runs (n + U))).Tree.Win) := by
  have h120 := hs.few hg
  induction m with
  | zero =>
    intro i hi
    obtain rfl : i = U := by omega
    have d : decide ((i : Int) < (i : Int)) = false := decide_eq_false (by omega)
    refine Ev.succ ?_
    simp only [pV, hU, d, Bool.false_eq_true, ↓reduceIte]
    exact Ev.ret _
  | succ m ih =>
    intro i hi
    have d : decide ((i : Int) < (U : Int)) = true := decide_eq_true (by omega)
    have hl : n + i < (aC runs).length := by rw [wS]; omega
    have nx := (ze3 runs (n + i) hs hg (by omega) hl).2
    have hrec := ih (i + 1) (by omega)
    refine Ev.succ ?_
    simp only [pV, hU, d, ↓reduceIte]
    refine Ev.bind (a := ((aC runs)[n + i], (wn runs (eC runs (n + i)) : Int), gC runs (eC runs (n + i + 1)), 0)) nx ?_
    simp only [oC i (show i < 9223372036854775807 by omega)]
    exact hrec
def used (runs : List (List aA)) (n : Nat) (k : Nat) : Nat := min k (mC runs - n)
theorem zkG (runs : List (List aA)) (b : Bool) (n : Nat) (hs : eK runs) (hg : zC runs) (hn : n ≤ mC runs) : Ev (fun fu => oU fu (uC runs b n)) (n : Int) := by
  have p := mN runs hg n hn
  have hal : (eC runs n).length ≤ 34 := by rw [p.rch.at'.1]; exact hs.near.1
  have h120 := hs.few hg
  have e := zbB runs hg n hn
  have hAt : (uC runs b n).Merge.At = qB (eC runs n) := rfl
  unfold oU
  have := zbf (L := qP (uC runs b n)) (eC runs n) (by omega) (by omega) (fun fu c => by simp [qP, hAt, yF]) (fun fu c i h => by
    have d : decide ((i : Int) < ((qB (eC runs n)).length : Int)) = true := decide_eq_true (by rw [yF]; omega)
    simp only [qP, hAt, d, ↓reduceIte, fF _ i h, Option.bind_some, oC i (show i < 9223372036854775807 by omega)])
  rw [e] at this
  exact Ev.bind this (Ev.ret _)
theorem zb7 (runs : List (List aA)) (b : Bool) (n k : Nat) (hs : eK runs) (hg : zC runs) (hn : n ≤ mC runs) :
    Ev (fun fu => yN fu (uC runs b n) (k : Int)) (uC runs b (n + used runs n k), (used runs n k : Int), 0) ∧ Ev (fun fu => zX fu (uC runs b n) (k : Int)) (uC runs b (n + used runs n k), (used runs n k : Int), 0) := by
  obtain ⟨c1, c2⟩ := zW runs b n hs hg hn
  have h120 := hs.few hg
  have p := mN runs hg n hn
  have hal : (qB (eC runs n)).length ≤ 34 := by rw [yF, p.rch.at'.1]; exact hs.near.1
  have hk := zdK runs b n hn
  have hu : used runs n k ≤ mC runs - n := Nat.min_le_right _ _
  have hU : (if ((mC runs - n : Nat) : Int) < (k : Int) then ((mC runs - n : Nat) : Int) else (k : Int)) = (used runs n k : Int) := by
    unfold used; split <;> omega
  have d1 : decide ((k : Int) < 0) = false := decide_eq_false (by omega)
  have hSt : (uC runs b n).Steps = (n : Int) := rfl
  have w : IntKind.i64.wrap ((n : Int) + (used runs n k : Int)) = ((n + used runs n k : Nat) : Int) := by rw [wr (by omega) (by omega)]; omega
  have d2 : decide ((20000 : Int) < ((n + used runs n k : Nat) : Int)) = false := decide_eq_false (by omega)
  have g1 : 2 * ((uC runs b n).Out.length * 48) ≤ 281474976710656 := by show 2 * ((nI b ((aC runs).take n)).length * 48) ≤ 281474976710656; omega
  have g2 : 2 * ((uC runs b n).Merge.At.length * 8) ≤ 281474976710656 := by show 2 * ((qB (eC runs n)).length * 8) ≤ 281474976710656; omega
  constructor
  · have st := znl runs b hs hg n (used runs n k) (((mC runs - n : Nat) : Int), 0) (k : Int) hU (by omega) (used runs n k) 0 (by omega)
    unfold yN
    refine Ev.bind c1 ?_
    simp only [decide_true, Bool.not_true, Bool.false_eq_true, ↓reduceIte, d1, hU, hSt, w, d2, if_pos g1, if_pos g2]
    refine Ev.bind st ?_
    exact Ev.ret _
  · have st := zkj runs hs hg n (used runs n k) (((mC runs - n : Nat) : Int), 0) (k : Int) hU (by omega) (used runs n k) 0 (by omega)
    unfold zX
    refine Ev.bind c2 ?_
    simp only [decide_true, Bool.not_true, Bool.false_eq_true, ↓reduceIte, d1, Option.bind_some]
    refine Ev.bind (zkG runs b n hs hg hn) ?_
    simp only [hU, hSt, w, d2, Bool.false_eq_true, ↓reduceIte]
    refine Ev.bind st ?_
    refine Ev.bind (zeE runs hs.near hg).2 ?_
    have g3 : (0 : Int) ≤ ((n + used runs n k : Nat) : Int) ∧ ((n + used runs n k : Nat) : Int) ≤ ((aC runs).length : Int) := by rw [wS]; omega
    simp only [if_pos g3, Int.toNat_natCast]
    have htl : ((aC runs).take (n + used runs n k)).length ≤ 20000 := by simp; omega
    refine Ev.bind (zei _ b htl (zbd runs hg _)) ?_
    exact Ev.ret _
theorem zeU (a b : pB) (ha : eQ a) : ∃ r, Ev (fun fu => rQ fu a b) r ∧ (r = true ↔ a = b) := by
  obtain ⟨m, m1, m2⟩ := zoR a.Merge b.Merge (by have := ha.merge.at'; omega) (by have := ha.seen.near.1; omega) (by have := ha.merge.keys; omega) (by have := ha.merge.lose; omega) (fun l hl => by have := ha.seen.near.2.1 l hl; omega)
  obtain ⟨o, o1, o2⟩ := zbm a.Out b.Out (by have := ha.out; omega)
  obtain ⟨am, ash, ao, ast⟩ := a
  obtain ⟨bm, bsh, bo, bst⟩ := b
  unfold rQ
  simp only [jY] at *
  by_cases h1 : am = bm
  · obtain rfl : m = true := m2.2 h1
    by_cases h2 : ash = bsh
    · by_cases h3 : ao = bo
      · obtain rfl : o = true := o2.2 h3
        by_cases h4 : ast = bst
        · exact ⟨true, Ev.bind m1 (Ev.bind (a := true) (Ev.of (fun fu => by simp [h2]) (Ev.ret _)) (Ev.bind (a := true) (Ev.bind o1 (Ev.ret _)) (Ev.bind (a := true) (Ev.of (fun fu => by simp [h4]) (Ev.ret _)) (Ev.ret _)))), by simp [h1, h2, h3, h4]⟩
        · exact ⟨false, Ev.bind m1 (Ev.bind (a := true) (Ev.of (fun fu => by simp [h2]) (Ev.ret _)) (Ev.bind (a := true) (Ev.bind o1 (Ev.ret _)) (Ev.bind (a := false) (Ev.of (fun fu => by simp [h4]) (Ev.ret _)) (Ev.ret _)))), by simp [h4]⟩
      · obtain rfl : o = false := by cases o with | false => rfl | true => exact absurd (o2.1 rfl) h3
        exact ⟨false, Ev.bind m1 (Ev.bind (a := true) (Ev.of (fun fu => by simp [h2]) (Ev.ret _)) (Ev.bind (a := false) (Ev.bind o1 (Ev.ret _)) (Ev.bind (a := false) (Ev.of (fun fu => by simp) (Ev.ret _)) (Ev.ret _)))), by simp [h3]⟩
    · exact ⟨false, Ev.bind m1 (Ev.bind (a := false) (Ev.of (fun fu => by simp [h2]) (Ev.ret _)) (Ev.bind (a := false) (Ev.of (fun fu => by simp) (Ev.ret _)) (Ev.bind (a := false) (Ev.of (fun fu => by simp) (Ev.ret _)) (Ev.ret _)))), by simp [h2]⟩
  · obtain rfl : m = false := by cases m with | false => rfl | true => exact absurd (m2.1 rfl) h1
    exact ⟨false, Ev.bind m1 (Ev.bind (a := false) (Ev.of (fun fu => by simp) (Ev.ret _)) (Ev.bind (a := false) (Ev.of (fun fu => by simp) (Ev.ret _)) (Ev.bind (a := false) (Ev.of (fun fu => by simp) (Ev.ret _)) (Ev.ret _)))), by simp [h1]⟩
theorem zjN (a : pB) (ha : eQ a) : Ev (fun fu => rQ fu a a) true := by
  obtain ⟨r, r1, r2⟩ := zeU a a ha
  obtain rfl : r = true := r2.2 rfl
  exact r1
theorem zgT (runs : List (List aA)) (b : Bool) (hs : eK runs) (hg : zC runs) : Ev (fun fu => iQ fu runs b) (uC runs b 0, 0, 0) ∧ Ev (fun fu => zbM fu runs b) (uC runs b 0, 0, 0) := by
  obtain ⟨a1, a2⟩ := zeR runs hs.near hg
  constructor
  · unfold iQ
    refine Ev.bind a1 ?_
    simp only [decide_true, Bool.not_true, Bool.false_eq_true, ↓reduceIte, kL, Option.bind_some]
    exact Ev.ret _
  · unfold zbM
    refine Ev.bind a2 ?_
    simp only [decide_true, Bool.not_true, Bool.false_eq_true, ↓reduceIte, pT, Option.bind_some]
    exact Ev.ret _
theorem nK {β : Type} (E : Nat → Sum Unit β → Prop) (len : Nat) (Q : Nat → Prop) (Bad : Nat → β → Prop) (stop : E len (.inl ()))
    (step : ∀ n, n < len → (∃ v, Bad n v ∧ E n (.inr v)) ∨ (Q n ∧ ∀ r, E (n + 1) r → E n r)) :
    ∃ r, E 0 r ∧ ((r = .inl () ∧ ∀ i, i < len → Q i) ∨ ∃ n v, n < len ∧ Bad n v ∧ r = .inr v ∧ ∀ i, i < n → Q i) := by
  have go : ∀ m n, n + m = len → ∃ r, E n r ∧ ((r = .inl () ∧ ∀ i, n ≤ i → i < len → Q i) ∨ ∃ k v, n ≤ k ∧ k < len ∧ Bad k v ∧ r = .inr v ∧ ∀ i, n ≤ i → i < k → Q i) := by
    intro m
    induction m with
    | zero =>
      intro n hn
      obtain rfl : n = len := by omega
      exact ⟨_, stop, .inl ⟨rfl, fun i h1 h2 => by omega⟩⟩
    | succ m ih =>
      intro n hn
      rcases step n (by omega) with ⟨v, hb, he⟩ | ⟨hq, hs⟩
      · exact ⟨_, he, .inr ⟨n, v, Nat.le_refl _, by omega, hb, rfl, fun i h1 h2 => by omega⟩⟩
      · obtain ⟨r, r1, r2⟩ := ih (n + 1) (by omega)
        refine ⟨r, hs r r1, ?_⟩
        rcases r2 with ⟨e, h⟩ | ⟨k, v, h1, h2, h3, h4, h5⟩
        · refine .inl ⟨e, fun i h1 h2 => ?_⟩
          by_cases e : i = n
          · rw [e]; exact hq
          · exact h i (by omega) h2
        · refine .inr ⟨k, v, by omega, h2, h3, h4, fun i q1 q2 => ?_⟩
          by_cases e : i = n
          · rw [e]; exact hq
          · exact h5 i (by omega) q2
  obtain ⟨r, r1, r2⟩ := go len 0 (by omega)
  refine ⟨r, r1, ?_⟩
  rcases r2 with ⟨e, h⟩ | ⟨k, v, h1, h2, h3, h4, h5⟩
  · exact .inl ⟨e, fun i h2 => h i (by omega) h2⟩
  · exact .inr ⟨k, v, h2, h3, h4, fun i q => h5 i (by omega) q⟩
def hS (l : List aA) : Prop := l.length ≤ 30 ∧ ∀ e ∈ l, e.Key.length ≤ 100
theorem znW (l : List aA) : ∃ b, Ev (fun fu => pW fu l) b ∧ (b = false → hS l) := by
  obtain ⟨r, r1, r2⟩ := nK (β := Bool) (fun n r => Ev (fun fu => rJ l fu (n : Int)) r) (min l.length 40) (fun i => ∀ h : i < l.length, l[i].Key.length ≤ 100) (fun _ v => v = true)
    (by
      refine Ev.succ (Ev.of (fun fu => ?_) (Ev.ret _))
      by_cases h : l.length ≤ 40
      · rw [Nat.min_eq_left h]; simp [rJ]
      · rw [Nat.min_eq_right (by omega)]; simp [rJ])
    (fun n hn => by
      have hl : n < l.length := Nat.lt_of_lt_of_le hn (Nat.min_le_left _ _)
      have h40 : n < 40 := Nat.lt_of_lt_of_le hn (Nat.min_le_right _ _)
      have d1 : decide ((n : Int) < (l.length : Int)) = true := decide_eq_true (by omega)
      have d2 : decide ((n : Int) < 40) = true := decide_eq_true (by omega)
      have c1 : decide ((100 : Int) < (l[n].Key.length : Int)) = decide (100 < l[n].Key.length) := decide_eq_decide.2 (by omega)
      have c2 : decide ((100 : Int) < (l[n].Val.length : Int)) = decide (100 < l[n].Val.length) := decide_eq_decide.2 (by omega)
      by_cases hk : 100 < l[n].Key.length
      · exact .inl ⟨true, rfl, Ev.succ (Ev.of (fun fu => by simp only [rJ, d1, d2, yA l n hl, c1, decide_eq_true hk, ↓reduceIte, Option.bind_some]) (Ev.ret _))⟩
      · by_cases hv : 100 < l[n].Val.length
        · exact .inl ⟨true, rfl, Ev.succ (Ev.of (fun fu => by simp only [rJ, d1, d2, yA l n hl, c1, c2, decide_eq_false hk, decide_eq_true hv, Bool.false_eq_true, ↓reduceIte, Option.bind_some]) (Ev.ret _))⟩
        · refine .inr ⟨fun _ => by omega, fun r hr => Ev.succ (Ev.of (fun fu => ?_) hr)⟩
          simp only [rJ, d1, d2, ↓reduceIte, Option.bind_some, yA l n hl, c1, c2, decide_eq_false hk, decide_eq_false hv, Bool.false_eq_true, oC n (show n < 9223372036854775807 by omega)])
  unfold pW
  rcases r2 with ⟨rfl, h⟩ | ⟨n, v, -, rfl, rfl, -⟩
  · refine ⟨_, Ev.bind r1 (Ev.ret _), fun hb => ?_⟩
    have hl : l.length ≤ 30 := by have := of_decide_eq_false hb; omega
    refine ⟨hl, fun e he => ?_⟩
    obtain ⟨i, hi, rfl⟩ := List.mem_iff_getElem.1 he
    exact h i (by omega) hi
  · exact ⟨true, Ev.bind r1 (Ev.ret _), by simp⟩
theorem zlA (l : List eB) : ∃ b, Ev (fun fu => wU fu l) b ∧ (b = false → l.length ≤ 6 ∧ ∀ r ∈ l, hS r.Entries) := by
  obtain ⟨r, r1, r2⟩ := nK (β := Bool) (fun n r => Ev (fun fu => iK l fu (n : Int)) r) (min l.length 10) (fun i => ∀ h : i < l.length, hS l[i].Entries) (fun _ v => v = true)
    (by
      refine Ev.succ (Ev.of (fun fu => ?_) (Ev.ret _))
      by_cases h : l.length ≤ 10
      · rw [Nat.min_eq_left h]; simp [iK]
      · rw [Nat.min_eq_right (by omega)]; simp [iK])
    (fun n hn => by
      have hl : n < l.length := Nat.lt_of_lt_of_le hn (Nat.min_le_left _ _)
      have h40 : n < 10 := Nat.lt_of_lt_of_le hn (Nat.min_le_right _ _)
      have d1 : decide ((n : Int) < (l.length : Int)) = true := decide_eq_true (by omega)
      have d2 : decide ((n : Int) < 10) = true := decide_eq_true (by omega)
      obtain ⟨b, b1, b2⟩ := znW l[n].Entries
      cases b with
      | true =>
        refine .inl ⟨true, rfl, Ev.succ ?_⟩
        simp only [iK, d1, d2, ↓reduceIte, Option.bind_some, yA l n hl]
        exact Ev.bind b1 (Ev.ret _)
      | false =>
        refine .inr ⟨fun _ => b2 rfl, fun r hr => Ev.succ ?_⟩
        simp only [iK, d1, d2, ↓reduceIte, Option.bind_some, yA l n hl, oC n (show n < 9223372036854775807 by omega)]
        exact Ev.bind b1 hr)
  unfold wU
  rcases r2 with ⟨rfl, h⟩ | ⟨n, v, -, rfl, rfl, -⟩
  · refine ⟨_, Ev.bind r1 (Ev.ret _), fun hb => ?_⟩
    have hl : l.length ≤ 6 := by have := of_decide_eq_false hb; omega
    refine ⟨hl, fun e he => ?_⟩
    obtain ⟨i, hi, rfl⟩ := List.mem_iff_getElem.1 he
    exact h i (by omega) hi
  · exact ⟨true, Ev.bind r1 (Ev.ret _), by simp⟩
def qH (l : dB) : Prop := l.Levels.length ≤ 14 ∧ ∀ x ∈ l.Levels, x.Runs.length ≤ 6 ∧ ∀ r ∈ x.Runs, hS r.Entries
theorem zlN (l : dB) : ∃ b, Ev (fun fu => dT fu l) b ∧ (b = false → qH l) := by
  obtain ⟨r, r1, r2⟩ := nK (β := Bool) (fun n r => Ev (fun fu => gK l fu (n : Int)) r) (min l.Levels.length 20) (fun i => ∀ h : i < l.Levels.length, l.Levels[i].Runs.length ≤ 6 ∧ ∀ r ∈ l.Levels[i].Runs, hS r.Entries) (fun _ v => v = true)
    (by
      refine Ev.succ (Ev.of (fun fu => ?_) (Ev.ret _))
      by_cases h : l.Levels.length ≤ 20
      · rw [Nat.min_eq_left h]; simp [gK]
      · rw [Nat.min_eq_right (by omega)]; simp [gK])
    (fun n hn => by
      have hl : n < l.Levels.length := Nat.lt_of_lt_of_le hn (Nat.min_le_left _ _)
      have h40 : n < 20 := Nat.lt_of_lt_of_le hn (Nat.min_le_right _ _)
      have d1 : decide ((n : Int) < (l.Levels.length : Int)) = true := decide_eq_true (by omega)
      have d2 : decide ((n : Int) < 20) = true := decide_eq_true (by omega)
      obtain ⟨b, b1, b2⟩ := zlA l.Levels[n].Runs
      cases b with
      | true =>
        refine .inl ⟨true, rfl, Ev.succ ?_⟩
        simp only [gK, d1, d2, ↓reduceIte, Option.bind_some, yA l.Levels n hl]
        exact Ev.bind b1 (Ev.ret _)
      | false =>
        refine .inr ⟨fun _ => b2 rfl, fun r hr => Ev.succ ?_⟩
        simp only [gK, d1, d2, ↓reduceIte, Option.bind_some, yA l.Levels n hl, oC n (show n < 9223372036854775807 by omega)]
        exact Ev.bind b1 hr)
  unfold dT
  rcases r2 with ⟨rfl, h⟩ | ⟨n, v, -, rfl, rfl, -⟩
  · refine ⟨_, Ev.bind r1 (Ev.ret _), fun hb => ?_⟩
    have hl : l.Levels.length ≤ 14 := by have := of_decide_eq_false hb; omega
    refine ⟨hl, fun e he => ?_⟩
    obtain ⟨i, hi, rfl⟩ := List.mem_iff_getElem.1 he
    exact h i (by omega) hi
  · exact ⟨true, Ev.bind r1 (Ev.ret _), by simp⟩
theorem zmI (b n : Nat) (hb : b ≤ 16) (hn : n ≤ 12) : Ev (fun fu => zbj fu (b : Int) (n : Int)) ((b * 2 ^ n : Nat) : Int) := by
  have go : ∀ (m i c : Nat), i + m = n → c ≤ 16 * 2 ^ i → Ev (fun fu => yV (n : Int) fu (c : Int) (i : Int)) ((c * 2 ^ m : Nat) : Int) := by
    intro m
    induction m with
    | zero =>
      intro i c hi _
      obtain rfl : i = n := by omega
      exact Ev.succ (Ev.of (fun fu => by simp [yV]) (Ev.ret _))
    | succ m ih =>
      intro i c hi hc
      have d1 : decide ((i : Int) < (n : Int)) = true := decide_eq_true (by omega)
      have hp : 2 ^ i ≤ 2 ^ 12 := Nat.pow_le_pow_right (by decide) (by omega)
      have w1 : IntKind.i64.wrap (2 * (c : Int)) = ((2 * c : Nat) : Int) := by rw [wr (by omega) (by omega)]; omega
      have := ih (i + 1) (2 * c) (by omega) (by rw [Nat.pow_succ]; omega)
      rw [show 2 * c * 2 ^ m = c * 2 ^ (m + 1) by rw [Nat.pow_succ, Nat.mul_comm 2 c, Nat.mul_assoc, Nat.mul_comm 2]] at this
      refine Ev.succ (Ev.of (fun fu => ?_) this)
      simp only [yV, d1, ↓reduceIte, w1, oC i (show i < 9223372036854775807 by omega)]
  unfold zbj
  exact Ev.bind (go n 0 b (by omega) (by simpa using hb)) (Ev.ret _)
def fX (r : eB) : Prop := zN r.Entries ∧ 1 ≤ r.Id ∧ r.Id ≤ 1000000
theorem ids_l1 (ids : List Int) (r : eB) (hl : ids.length ≤ 1000) : ∃ x, Ev (fun fu => aS ids r fu 0) x ∧ ((x = .inl () ∧ r.Id ∉ ids) ∨ (x = .inr 8 ∧ r.Id ∈ ids)) := by
  obtain ⟨x, x1, x2⟩ := nK (β := Int) (fun n x => Ev (fun fu => aS ids r fu (n : Int)) x) ids.length (fun i => ∀ h : i < ids.length, ids[i] ≠ r.Id) (fun i v => v = 8 ∧ ∃ h : i < ids.length, ids[i] = r.Id)
    (Ev.succ (Ev.of (fun fu => by simp [aS]) (Ev.ret _)))
    (fun n hn => by
      have d1 : decide ((n : Int) < (ids.length : Int)) = true := decide_eq_true (by omega)
      by_cases e : ids[n] = r.Id
      · exact .inl ⟨8, ⟨rfl, hn, e⟩, Ev.succ (Ev.of (fun fu => by simp [aS, hn, yA ids n hn, e]) (Ev.ret _))⟩
      · refine .inr ⟨fun _ => e, fun x hx => Ev.succ (Ev.of (fun fu => ?_) hx)⟩
        simp only [aS, d1, ↓reduceIte, yA ids n hn, Option.bind_some, decide_eq_false e, Bool.false_eq_true, oC n (show n < 9223372036854775807 by omega)])
  refine ⟨x, x1, ?_⟩
  rcases x2 with ⟨rfl, h⟩ | ⟨n, v, -, ⟨rfl, hn, e⟩, rfl, -⟩
  · refine .inl ⟨rfl, fun hm => ?_⟩
    obtain ⟨i, hi, e⟩ := List.mem_iff_getElem.1 hm
    exact h i hi hi e
  · exact .inr ⟨rfl, e ▸ List.getElem_mem hn⟩
theorem zmR (r : eB) (hr : hS r.Entries) (most : Int) : ∃ c, Ev (fun fu => qQ fu r most) c ∧
    (∀ ids : List Int, ids.length ≤ 1000 → Ev (fun fu => zaA fu r most ids) (if c = 0 then (if r.Id ∈ ids then 8 else 0) else c)) ∧ (c = 0 → fX r) := by
  obtain ⟨q, q1, q2, q3⟩ := zcQ r.Entries (fun e he => by have := hr.2 e he; omega)
  unfold qQ zaA uR zcF
  by_cases h1 : r.Id < 1
  · have d1 : decide (r.Id < 1) = true := decide_eq_true h1
    refine ⟨7, Ev.of (fun fu => by simp [d1]) (Ev.ret _), fun ids _ => Ev.of (fun fu => by simp [d1]) (Ev.ret _), by simp⟩
  · by_cases h2 : 1000000 < r.Id
    · refine ⟨7, Ev.of (fun fu => by simp [h1, h2]) (Ev.ret _), fun ids _ => Ev.of (fun fu => by simp [h1, h2]) (Ev.ret _), by simp⟩
    · simp only [decide_eq_false h1, decide_eq_false h2, Bool.false_eq_true, ↓reduceIte, Option.bind_some, Option.bind_assoc]
      by_cases h3 : q.2 = 0
      · by_cases h4 : (r.Entries.length : Int) = 0
        · refine ⟨4, Ev.bind q1 (Ev.of (fun fu => by simp [h3, h4]) (Ev.ret _)), fun ids _ => Ev.bind q2 (Ev.of (fun fu => by simp [h3, h4]) (Ev.ret _)), by simp⟩
        · by_cases h5 : most < (r.Entries.length : Int)
          · refine ⟨3, Ev.bind q1 (Ev.of (fun fu => by simp only [h3, h4, h5, decide_true, decide_false, Bool.not_true, Bool.false_eq_true, ↓reduceIte]) (Ev.ret _)), fun ids _ => Ev.bind q2 (Ev.of (fun fu => by simp only [h3, h4, h5, decide_true, decide_false, Bool.not_true, Bool.false_eq_true, ↓reduceIte]; rfl) (Ev.ret _)), by simp⟩
          · refine ⟨0, Ev.bind q1 (Ev.of (fun fu => by simp only [h3, h4, h5, decide_true, decide_false, Bool.not_true, Bool.false_eq_true, ↓reduceIte]) (Ev.ret _)), fun ids hi => Ev.bind q2 ?_, fun _ => ⟨q3 h3, by omega, by omega⟩⟩
            simp only [h3, h4, h5, decide_true, decide_false, Bool.not_true, Bool.false_eq_true, ↓reduceIte]
            obtain ⟨x, x1, x2⟩ := ids_l1 ids r hi
            rcases x2 with ⟨rfl, hx⟩ | ⟨rfl, hx⟩
            · rw [if_neg hx]; exact Ev.bind x1 (Ev.ret _)
            · rw [if_pos hx]; exact Ev.bind x1 (Ev.ret _)
      · refine ⟨q.2, Ev.bind q1 (Ev.of (fun fu => by simp only [decide_eq_false h3, Bool.not_false, ↓reduceIte]) (Ev.ret _)), fun ids _ => Ev.bind q2 (Ev.of (fun fu => by simp only [decide_eq_false h3, Bool.not_false, ↓reduceIte]; rw [if_neg h3]) (Ev.ret _)), fun h => absurd h h3⟩
def Inv (mp : List (Int × Bool)) (ids : List Int) : Prop := ∀ x, bF mp x = if x ∈ ids then some true else none
theorem zjV {α : Type} (mp : List (Int × α)) (n x : Int) (y : α) : bF (kF mp n y) x = if x = n then some y else bF mp x := by
  induction mp with
  | nil => simp only [kF, bF]
  | cons e mp ih =>
    obtain ⟨k, v⟩ := e
    simp only [kF]
    by_cases h : n = k
    · rw [if_pos h]; subst h
      simp only [bF]
      by_cases h2 : x = n <;> simp [h2]
    · rw [if_neg h]
      simp only [bF, ih]
      by_cases h2 : x = k
      · rw [if_pos h2, if_pos h2]
        rw [if_neg (by omega)]
      · rw [if_neg h2, if_neg h2]
theorem Inv.add {mp : List (Int × Bool)} {ids : List Int} (h : Inv mp ids) (n : Int) : Inv (kF mp n true) (ids ++ [n]) := by
  intro x
  rw [zjV, h x]
  by_cases e : x = n
  · simp [e]
  · by_cases e2 : x ∈ ids <;> simp [e, e2]
theorem zhW (l : dB) (x : sA) (i B : Nat) (hi : i < 12) (hB : l.B = (B : Int)) (hB2 : B ≤ 16) (hs : ∀ r ∈ x.Runs, hS r.Entries) (hlen : x.Runs.length ≤ 6) (m : Nat) : ∀ (k : Nat) (mp : List (Int × Bool)) (ids : List Int) (run : Int), k + m = x.Runs.length → Inv mp ids → ids.length + m ≤ 200 →
    (∃ mp' ids' run', Ev (fun fu => sF x (i : Int) l fu 0 (k : Int) mp run) (.inl (run', 0, mp')) ∧ Ev (fun fu => sL x l (i : Int) fu (k : Int) ids) (.inl ids') ∧ Inv mp' ids' ∧ ids'.length ≤ ids.length + m ∧ ∀ j, k ≤ j → ∀ h : j < x.Runs.length, fX x.Runs[j]) ∨
    (∃ (k' c : Int) (mp' : List (Int × Bool)), c ≠ 0 ∧ Ev (fun fu => sF x (i : Int) l fu 0 (k : Int) mp run) (.inr (k', c, mp')) ∧ Ev (fun fu => sL x l (i : Int) fu (k : Int) ids) (.inr ((i : Int), k', c))) := by
  induction m with
  | zero =>
    intro k mp ids run hk hinv hl
    obtain rfl : k = x.Runs.length := by omega
    exact .inl ⟨mp, ids, run, Ev.succ (Ev.of (fun fu => by simp [sF]) (Ev.ret _)), Ev.succ (Ev.of (fun fu => by simp [sL]) (Ev.ret _)), hinv, Nat.le_refl _, fun j h1 h2 => by omega⟩
  | succ m ih =>
    intro k mp ids run hk hinv hl
    have hkl : k < x.Runs.length := by omega
    have d1 : decide ((k : Int) < (x.Runs.length : Int)) = true := decide_eq_true (by omega)
    have hp : 2 ^ i ≤ 2 ^ 12 := Nat.pow_le_pow_right (by decide) (by omega)
    have hm : B * 2 ^ i ≤ 16 * 2 ^ 12 := Nat.mul_le_mul hB2 hp
    have hw : IntKind.i64.wrap (l.B * 2 ^ (min (i : Int).toNat (IntKind.bits .i64))) = ((B * 2 ^ i : Nat) : Int) := by
      have e : min (i : Int).toNat (IntKind.bits .i64) = i := by
        have : IntKind.bits .i64 = 64 := rfl
        rw [this]; omega
      have e2 : l.B * 2 ^ i = ((B * 2 ^ i : Nat) : Int) := by rw [hB]; simp
      rw [e, e2, wr (by omega) (by omega)]
    have h0 : (0 : Int) ≤ (i : Int) := by omega
    obtain ⟨c, c1, c2, c3⟩ := zmR x.Runs[k] (hs _ (List.getElem_mem hkl)) ((B * 2 ^ i : Nat) : Int)
    have c2 := c2 ids (by omega)
    have sz := zmI B i hB2 (by omega)
    rw [← hB] at sz
    have g : 2 * ((ids.length + 1) * 8) ≤ 281474976710656 := by omega
    by_cases hc : c = 0
    · subst hc
      rw [if_pos rfl] at c2
      by_cases hin : x.Runs[k].Id ∈ ids
      · rw [if_pos hin] at c2
        have hg : bF mp x.Runs[k].Id = some true := by rw [hinv, if_pos hin]
        refine .inr ⟨(k : Int), 8, mp, by decide, Ev.succ ?_, Ev.succ ?_⟩
        · simp only [sF, d1, ↓reduceIte, yA x.Runs k hkl, Option.bind_some, if_pos h0, hw]
          refine Ev.bind c1 ?_
          simp only [decide_true, ↓reduceIte, hg, Option.getD_some]
          exact Ev.ret _
        · simp only [sL, d1, ↓reduceIte, yA x.Runs k hkl, Option.bind_some]
          refine Ev.bind sz (Ev.bind c2 ?_)
          exact Ev.ret _
      · rw [if_neg hin] at c2
        have hg : bF mp x.Runs[k].Id = none := by rw [hinv, if_neg hin]
        have rec' := ih (k + 1) (kF mp x.Runs[k].Id true) (ids ++ [x.Runs[k].Id]) (k : Int) (by omega) (hinv.add _) (by simp; omega)
        have s1 : ∀ r, Ev (fun fu => sF x (i : Int) l fu 0 ((k + 1 : Nat) : Int) (kF mp x.Runs[k].Id true) (k : Int)) r → Ev (fun fu => sF x (i : Int) l fu 0 (k : Int) mp run) r := fun r hr => by
          refine Ev.succ ?_
          simp only [sF, d1, ↓reduceIte, yA x.Runs k hkl, Option.bind_some, if_pos h0, hw]
          refine Ev.bind c1 ?_
          simp only [decide_true, ↓reduceIte, hg, Option.getD_none, Bool.false_eq_true, Bool.not_true, oC k (show k < 9223372036854775807 by omega)]
          exact hr
        have s2 : ∀ r, Ev (fun fu => sL x l (i : Int) fu ((k + 1 : Nat) : Int) (ids ++ [x.Runs[k].Id])) r → Ev (fun fu => sL x l (i : Int) fu (k : Int) ids) r := fun r hr => by
          refine Ev.succ ?_
          simp only [sL, d1, ↓reduceIte, yA x.Runs k hkl, Option.bind_some]
          refine Ev.bind sz (Ev.bind c2 ?_)
          simp only [decide_true, Bool.not_true, Bool.false_eq_true, ↓reduceIte, if_pos g, oC k (show k < 9223372036854775807 by omega)]
          exact hr
        rcases rec' with ⟨mp', ids', run', q1, q2, q3, q4, q5⟩ | ⟨k', c, mp', q0, q1, q2⟩
        · refine .inl ⟨mp', ids', run', s1 _ q1, s2 _ q2, q3, by simp at q4; omega, fun j h1 h2 => ?_⟩
          by_cases e : j = k
          · subst e; exact c3 rfl
          · exact q5 j (by omega) h2
        · exact .inr ⟨k', c, mp', q0, s1 _ q1, s2 _ q2⟩
    · rw [if_neg hc] at c2
      refine .inr ⟨(k : Int), c, mp, hc, Ev.succ ?_, Ev.succ ?_⟩
      · simp only [sF, d1, ↓reduceIte, yA x.Runs k hkl, Option.bind_some, if_pos h0, hw]
        refine Ev.bind c1 ?_
        simp only [decide_eq_false hc, Bool.false_eq_true, ↓reduceIte, Bool.not_false]
        exact Ev.ret _
      · simp only [sL, d1, ↓reduceIte, yA x.Runs k hkl, Option.bind_some]
        refine Ev.bind sz (Ev.bind c2 ?_)
        simp only [decide_eq_false hc, Bool.not_false, ↓reduceIte]
        exact Ev.ret _
theorem zhH (l : dB) (B : Nat) (hB : l.B = (B : Int)) (hB2 : B ≤ 16) (hs : qH l) (h12 : l.Levels.length ≤ 12) (m : Nat) : ∀ (i : Nat) (mp : List (Int × Bool)) (ids : List Int) (run level : Int), i + m = l.Levels.length → Inv mp ids → ids.length + 6 * m ≤ 150 →
    (∃ mp' ids' run' level', Ev (fun fu => dG l fu run 0 (i : Int) mp level) (level', run', 0, mp') ∧ Ev (fun fu => kM l fu (i : Int) ids) (.inl ids') ∧ ∀ j, i ≤ j → ∀ h : j < l.Levels.length, l.Levels[j].Runs.length ≤ 2 ∧ ∀ r ∈ l.Levels[j].Runs, fX r) ∨
    (∃ (i' k' c : Int) (mp' : List (Int × Bool)), c ≠ 0 ∧ Ev (fun fu => dG l fu run 0 (i : Int) mp level) (i', k', c, mp') ∧ Ev (fun fu => kM l fu (i : Int) ids) (.inr (i', k', c))) := by
  induction m with
  | zero =>
    intro i mp ids run level hi hinv hl
    obtain rfl : i = l.Levels.length := by omega
    exact .inl ⟨mp, ids, run, level, Ev.succ (Ev.of (fun fu => by simp [dG]) (Ev.ret _)), Ev.succ (Ev.of (fun fu => by simp [kM]) (Ev.ret _)), fun j h1 h2 => by omega⟩
  | succ m ih =>
    intro i mp ids run level hi hinv hl
    have hil : i < l.Levels.length := by omega
    have d1 : decide ((i : Int) < (l.Levels.length : Int)) = true := decide_eq_true (by omega)
    have hx := hs.2 _ (List.getElem_mem hil)
    by_cases h2 : 2 < l.Levels[i].Runs.length
    · have d2 : decide ((2 : Int) < (l.Levels[i].Runs.length : Int)) = true := decide_eq_true (by omega)
      refine .inr ⟨(i : Int), 0, 3, mp, by decide, Ev.succ ?_, Ev.succ ?_⟩
      · simp only [dG, d1, ↓reduceIte, yA l.Levels i hil, Option.bind_some, d2]
        exact Ev.ret _
      · simp only [kM, d1, ↓reduceIte, yA l.Levels i hil, Option.bind_some, d2]
        exact Ev.ret _
    · have d2 : decide ((2 : Int) < (l.Levels[i].Runs.length : Int)) = false := decide_eq_false (by omega)
      rcases zhW l l.Levels[i] i B (by omega) hB hB2 hx.2 hx.1 l.Levels[i].Runs.length 0 mp ids 0 (by omega) hinv (by omega) with ⟨mp', ids', run', q1, q2, q3, q4, q5⟩ | ⟨k', c, mp', q0, q1, q2⟩
      · have s1 : ∀ r, Ev (fun fu => dG l fu run' 0 ((i + 1 : Nat) : Int) mp' (i : Int)) r → Ev (fun fu => dG l fu run 0 (i : Int) mp level) r := fun r hr => by
          refine Ev.succ ?_
          simp only [dG, d1, ↓reduceIte, yA l.Levels i hil, Option.bind_some, d2, Bool.false_eq_true]
          refine Ev.bind q1 ?_
          simp only [oC i (show i < 9223372036854775807 by omega)]
          exact hr
        have s2 : ∀ r, Ev (fun fu => kM l fu ((i + 1 : Nat) : Int) ids') r → Ev (fun fu => kM l fu (i : Int) ids) r := fun r hr => by
          refine Ev.succ ?_
          simp only [kM, d1, ↓reduceIte, yA l.Levels i hil, Option.bind_some, d2, Bool.false_eq_true]
          refine Ev.bind q2 ?_
          simp only [oC i (show i < 9223372036854775807 by omega)]
          exact hr
        rcases ih (i + 1) mp' ids' run' (i : Int) (by omega) q3 (by omega) with ⟨mp2, ids2, run2, lev2, t1, t2, t3⟩ | ⟨i2, k2, c2, mp2, t0, t1, t2⟩
        · refine .inl ⟨mp2, ids2, run2, lev2, s1 _ t1, s2 _ t2, fun j h1 h3 => ?_⟩
          by_cases e : j = i
          · subst e
            refine ⟨by omega, fun r hr => ?_⟩
            obtain ⟨n, hn, rfl⟩ := List.mem_iff_getElem.1 hr
            exact q5 n (by omega) hn
          · exact t3 j (by omega) h3
        · exact .inr ⟨i2, k2, c2, mp2, t0, s1 _ t1, s2 _ t2⟩
      · refine .inr ⟨(i : Int), k', c, mp', q0, Ev.succ ?_, Ev.succ ?_⟩
        · simp only [dG, d1, ↓reduceIte, yA l.Levels i hil, Option.bind_some, d2, Bool.false_eq_true]
          refine Ev.bind q1 ?_
          exact Ev.ret _
        · simp only [kM, d1, ↓reduceIte, yA l.Levels i hil, Option.bind_some, d2, Bool.false_eq_true]
          refine Ev.bind q2 ?_
          exact Ev.ret _
structure tS (l : dB) : Prop where
  b : 1 ≤ l.B ∧ l.B ≤ 16
  few : l.Levels.length ≤ 12
  runs : ∀ x ∈ l.Levels, x.Runs.length ≤ 2 ∧ ∀ r ∈ x.Runs, fX r
theorem zou (l : dB) (hs : qH l) : ∃ r, Ev (fun fu => lJ fu l) r ∧ Ev (fun fu => vK fu l) r ∧ ((r = (0, 0, 0) ∧ tS l) ∨ r.2.2 ≠ 0) := by
  unfold lJ vK
  by_cases h1 : l.B < 1
  · exact ⟨(0, 0, 7), Ev.of (fun fu => by simp [h1]) (Ev.ret _), Ev.of (fun fu => by simp [h1]) (Ev.ret _), .inr (by decide)⟩
  · by_cases h2 : 16 < l.B
    · exact ⟨(0, 0, 7), Ev.of (fun fu => by simp [h1, h2]) (Ev.ret _), Ev.of (fun fu => by simp [h1, h2]) (Ev.ret _), .inr (by decide)⟩
    · simp only [decide_eq_false h1, decide_eq_false h2, Bool.false_eq_true, ↓reduceIte, Option.bind_some]
      by_cases h3 : 12 < l.Levels.length
      · have d : decide ((12 : Int) < (l.Levels.length : Int)) = true := decide_eq_true (by omega)
        simp only [d, ↓reduceIte]
        exact ⟨(0, 0, 3), Ev.ret _, Ev.ret _, .inr (by decide)⟩
      · have d : decide ((12 : Int) < (l.Levels.length : Int)) = false := decide_eq_false (by omega)
        simp only [d, Bool.false_eq_true, ↓reduceIte]
        obtain ⟨B, hB⟩ : ∃ B : Nat, l.B = (B : Int) := ⟨l.B.toNat, by omega⟩
        rcases zhH l B hB (by omega) hs (by omega) l.Levels.length 0 [] [] 0 0 (by omega) (fun x => by simp [bF]) (by simp; omega) with ⟨mp', ids', run', lev', q1, q2, q3⟩ | ⟨i', k', c, mp', q0, q1, q2⟩
        · obtain ⟨b, hb⟩ : ∃ b : Bool, (if decide ((0 : Int) < (l.Levels.length : Int)) = true then (ix l.Levels (IntKind.i64.wrap ((l.Levels.length : Int) - 1))).bind fun e218 => some (decide ((e218.Runs.length : Int) = 0)) else some false) = some b := by
            by_cases h0 : 0 < l.Levels.length
            · have d0 : decide ((0 : Int) < (l.Levels.length : Int)) = true := decide_eq_true (by omega)
              have w : IntKind.i64.wrap ((l.Levels.length : Int) - 1) = ((l.Levels.length - 1 : Nat) : Int) := by rw [wr (by omega) (by omega)]; omega
              simp only [d0, ↓reduceIte, w, yA l.Levels (l.Levels.length - 1) (by omega), Option.bind_some]
              exact ⟨_, rfl⟩
            · have d0 : decide ((0 : Int) < (l.Levels.length : Int)) = false := decide_eq_false (by omega)
              simp only [d0, Bool.false_eq_true, ↓reduceIte]
              exact ⟨_, rfl⟩
          cases b with
          | true =>
            refine ⟨(IntKind.i64.wrap ((l.Levels.length : Int) - 1), 0, 6), Ev.bind q1 ?_, Ev.bind q2 ?_, .inr (show (6 : Int) ≠ 0 by decide)⟩
            · simp only [decide_true, Bool.not_true, Bool.false_eq_true, ↓reduceIte, hb, Option.bind_some]; exact Ev.ret _
            · simp only [hb, Option.bind_some, ↓reduceIte]; exact Ev.ret _
          | false =>
            refine ⟨(0, 0, 0), Ev.bind q1 ?_, Ev.bind q2 ?_, .inl ⟨rfl, ⟨⟨by omega, by omega⟩, by omega, fun x hx => ?_⟩⟩⟩
            · simp only [decide_true, Bool.not_true, Bool.false_eq_true, ↓reduceIte, hb, Option.bind_some]; exact Ev.ret _
            · simp only [hb, Option.bind_some, Bool.false_eq_true, ↓reduceIte]; exact Ev.ret _
            · obtain ⟨n, hn, rfl⟩ := List.mem_iff_getElem.1 hx
              exact q3 n (by omega) hn
        · refine ⟨(i', k', c), Ev.bind q1 ?_, Ev.bind q2 ?_, .inr q0⟩
          · simp only [decide_eq_false q0, Bool.not_false, ↓reduceIte]; exact Ev.ret _
          · exact Ev.ret _
def kG (b : Int) (xs : List Int) : Int := xs.foldl (fun b x => if b < x then x else b) b
theorem zfn (xs ys : List Int) (b : Int) : kG b (xs ++ ys) = kG (kG b xs) ys := by simp [kG]
theorem zlj {xs ys : List Int} (h : xs.Perm ys) (b : Int) : kG b xs = kG b ys := by
  induction h generalizing b with
  | nil => rfl
  | cons x _ ih => exact ih _
  | swap x y l =>
    show kG (if (if b < y then y else b) < x then x else (if b < y then y else b)) l = kG (if (if b < x then x else b) < y then y else (if b < x then x else b)) l
    congr 1
    split <;> split <;> (try split) <;> omega
  | trans _ _ ih1 ih2 => exact (ih1 b).trans (ih2 b)
def rM (xs : List sA) : List Int := (xs.map fun x => x.Runs.map eB.Id).flatten
theorem zf8 (l : dB) (hs : qH l) : Ev (fun fu => mM fu l) (kG 0 (rM l.Levels)) := by
  have inner : ∀ (x : sA) (_ : x.Runs.length ≤ 6) (m k : Nat) (best : Int), k + m = x.Runs.length → Ev (fun fu => aI x fu best (k : Int)) (kG best ((x.Runs.drop k).map eB.Id)) := by
    intro x hx m
    induction m with
    | zero =>
      intro k best hk
      obtain rfl : k = x.Runs.length := by omega
      exact Ev.succ (Ev.of (fun fu => by simp [aI, kG]) (Ev.ret _))
    | succ m ih =>
      intro k best hk
      have hkl : k < x.Runs.length := by omega
      have d : decide ((k : Int) < (x.Runs.length : Int)) = true := decide_eq_true (by omega)
      have := ih (k + 1) (if best < x.Runs[k].Id then x.Runs[k].Id else best) (by omega)
      rw [List.drop_eq_getElem_cons hkl]
      refine Ev.succ ?_
      simp only [aI, d, ↓reduceIte, yA x.Runs k hkl, Option.bind_some, oC k (show k < 9223372036854775807 by omega)]
      exact this
  have outer : ∀ (m i : Nat) (best : Int), i + m = l.Levels.length → Ev (fun fu => wH l fu best (i : Int)) (kG best (rM (l.Levels.drop i))) := by
    intro m
    induction m with
    | zero =>
      intro i best hi
      obtain rfl : i = l.Levels.length := by omega
      exact Ev.succ (Ev.of (fun fu => by simp [wH, kG, rM]) (Ev.ret _))
    | succ m ih =>
      intro i best hi
      have hil : i < l.Levels.length := by omega
      have d : decide ((i : Int) < (l.Levels.length : Int)) = true := decide_eq_true (by omega)
      have hx := (hs.2 _ (List.getElem_mem hil)).1
      have := ih (i + 1) (kG best (l.Levels[i].Runs.map eB.Id)) (by omega)
      have h14 := hs.1
      rw [List.drop_eq_getElem_cons hil]
      rw [show rM (l.Levels[i] :: l.Levels.drop (i + 1)) = l.Levels[i].Runs.map eB.Id ++ rM (l.Levels.drop (i + 1)) from rfl, zfn]
      refine Ev.succ ?_
      simp only [wH, d, ↓reduceIte, yA l.Levels i hil, Option.bind_some, oC i (show i < 9223372036854775807 by omega)]
      refine Ev.bind (inner l.Levels[i] hx l.Levels[i].Runs.length 0 best (by omega)) ?_
      exact this
  unfold mM
  exact Ev.bind (outer l.Levels.length 0 0 (by omega)) (Ev.ret _)
def lG : Nat → List sA → List Nat
  | _, [] => []
  | n, x :: xs => if x.Runs.length = 2 then n :: lG (n + 1) xs else lG (n + 1) xs
def qC (l : dB) : List Nat := lG 0 l.Levels
theorem zak : ∀ (xs : List sA) (n i : Nat), i ∈ lG n xs → n ≤ i ∧ ∃ h : i - n < xs.length, xs[i - n].Runs.length = 2
  | [], n, i, h => by simp [lG] at h
  | x :: xs, n, i, h => by
    simp only [lG] at h
    have aB : i ∈ lG (n + 1) xs → n ≤ i ∧ ∃ h : i - n < (x :: xs).length, (x :: xs)[i - n].Runs.length = 2 := fun h => by
      obtain ⟨h1, h2, h3⟩ := zak xs (n + 1) i h
      refine ⟨by omega, by simp; omega, ?_⟩
      have e : i - n = (i - (n + 1)) + 1 := by omega
      simp only [e, List.getElem_cons_succ]; exact h3
    split at h
    · rename_i hx
      rcases List.mem_cons.1 h with rfl | h
      · exact ⟨Nat.le_refl _, by simp, by simpa using hx⟩
      · exact aB h
    · exact aB h
theorem zdX (l : dB) (k : Nat) (h : k < (qC l).length) : ∃ h2 : (qC l)[k] < l.Levels.length, l.Levels[(qC l)[k]].Runs.length = 2 := by
  obtain ⟨-, h2, h3⟩ := zak l.Levels 0 _ (List.getElem_mem h)
  exact ⟨by simpa using h2, by simpa using h3⟩
theorem zai : ∀ (xs : List sA) (n : Nat), (lG n xs).Pairwise (· < ·)
  | [], _ => List.Pairwise.nil
  | x :: xs, n => by
    simp only [lG]
    split
    · exact List.Pairwise.cons (fun i hi => by have := (zak xs (n + 1) i hi).1; omega) (zai xs (n + 1))
    · exact zai xs (n + 1)
theorem zoV (l : dB) (i j : Nat) (hi : i < (qC l).length) (hj : j < (qC l).length) (h : (qC l)[i] = (qC l)[j]) : i = j := by
  have p := List.pairwise_iff_getElem.1 (zai l.Levels 0)
  rcases Nat.lt_trichotomy i j with q | q | q
  · have := p i j hi hj q; exact absurd h (by show ¬ (lG 0 l.Levels)[i] = (lG 0 l.Levels)[j]; omega)
  · exact q
  · have := p j i hj hi q; exact absurd h (by show ¬ (lG 0 l.Levels)[i] = (lG 0 l.Levels)[j]; omega)
theorem zcH (l : dB) (hl : l.Levels.length ≤ 14) : Ev (fun fu => iN fu l.B l.Levels) (qB (qC l)) ∧ Ev (fun fu => yY fu l) (qB (qC l)) := by
  have go : ∀ (m n : Nat) (acc : List Nat), n + m = l.Levels.length → acc.length ≤ n → Ev (fun fu => jH l.Levels fu (n : Int) (qB acc)) (qB (acc ++ lG n (l.Levels.drop n))) ∧ Ev (fun fu => nR l fu (n : Int) (qB acc)) (qB (acc ++ lG n (l.Levels.drop n))) := by
    intro m
    induction m with
    | zero =>
      intro n acc hn _
      obtain rfl : n = l.Levels.length := by omega
      exact ⟨Ev.succ (Ev.of (fun fu => by simp [jH, lG]) (Ev.ret _)), Ev.succ (Ev.of (fun fu => by simp [nR, lG]) (Ev.ret _))⟩
    | succ m ih =>
      intro n acc hn ha
      have hnl : n < l.Levels.length := by omega
      have d : decide ((n : Int) < (l.Levels.length : Int)) = true := decide_eq_true (by omega)
      have g : 2 * (((qB acc).length + 1) * 8) ≤ 281474976710656 := by rw [yF]; omega
      rw [List.drop_eq_getElem_cons hnl]
      by_cases h2 : l.Levels[n].Runs.length = 2
      · have d2 : decide ((l.Levels[n].Runs.length : Int) = 2) = true := decide_eq_true (by omega)
        have e : qB acc ++ [(n : Int)] = qB (acc ++ [n]) := by simp [qB]
        obtain ⟨i1, i2⟩ := ih (n + 1) (acc ++ [n]) (by omega) (by simp; omega)
        rw [List.append_assoc, List.singleton_append] at i1 i2
        simp only [lG, if_pos h2]
        constructor
        · refine Ev.succ ?_
          simp only [jH, d, d2, ↓reduceIte, yA l.Levels n hnl, Option.bind_some, if_pos g, e, oC n (show n < 9223372036854775807 by omega)]
          exact i1
        · refine Ev.succ ?_
          simp only [nR, d, d2, ↓reduceIte, yA l.Levels n hnl, Option.bind_some, if_pos g, e, oC n (show n < 9223372036854775807 by omega)]
          exact i2
      · have d2 : decide ((l.Levels[n].Runs.length : Int) = 2) = false := decide_eq_false (by omega)
        obtain ⟨i1, i2⟩ := ih (n + 1) acc (by omega) (by omega)
        simp only [lG, if_neg h2]
        constructor
        · refine Ev.succ ?_
          simp only [jH, d, d2, ↓reduceIte, yA l.Levels n hnl, Option.bind_some, Bool.false_eq_true, oC n (show n < 9223372036854775807 by omega)]
          exact i1
        · refine Ev.succ ?_
          simp only [nR, d, d2, ↓reduceIte, yA l.Levels n hnl, Option.bind_some, Bool.false_eq_true, oC n (show n < 9223372036854775807 by omega)]
          exact i2
  obtain ⟨g1, g2⟩ := go l.Levels.length 0 [] (by omega) (by simp)
  unfold iN yY
  exact ⟨Ev.bind g1 (Ev.ret _), Ev.bind g2 (Ev.ret _)⟩
def sX (x : sA) : List (List aA) := match x.Runs with | [a, b] => [b.Entries, a.Entries] | _ => []
def nC (l : dB) (i : Nat) : List (List aA) := match l.Levels[i]? with | some x => sX x | none => []
theorem zc9 (x : sA) (h : x.Runs.length = 2) : ∃ a b, x.Runs = [a, b] := by
  match hx : x.Runs, h with
  | [a, b], _ => exact ⟨a, b, rfl⟩
theorem ze1 (l : dB) (i : Nat) (hi : i < l.Levels.length) : nC l i = sX l.Levels[i] := by
  unfold nC; rw [List.getElem?_eq_getElem hi]
theorem zaS (l : dB) (hs : qH l) (hg : tS l) (i : Nat) (hi : i < l.Levels.length) (h2 : l.Levels[i].Runs.length = 2) : zC (nC l i) ∧ eK (nC l i) := by
  obtain ⟨a, b, e⟩ := zc9 _ h2
  have hr := (hg.runs _ (List.getElem_mem hi)).2
  have hs2 := (hs.2 _ (List.getElem_mem hi)).2
  have ha := hr a (by rw [e]; simp)
  have hb := hr b (by rw [e]; simp)
  have sa := hs2 a (by rw [e]; simp)
  have sb := hs2 b (by rw [e]; simp)
  have er : nC l i = [b.Entries, a.Entries] := by rw [ze1 l i hi]; unfold sX; rw [e]
  rw [er]
  have near : aN [b.Entries, a.Entries] := ⟨by simp, fun x hx => by
    rcases List.mem_cons.1 hx with rfl | hx
    · have := sb.1; omega
    · rcases List.mem_cons.1 hx with rfl | hx
      · have := sa.1; omega
      · simp at hx, fun x hx y hy => by
    rcases List.mem_cons.1 hx with rfl | hx
    · have := sb.2 y hy; omega
    · rcases List.mem_cons.1 hx with rfl | hx
      · have := sa.2 y hy; omega
      · simp at hx⟩
  refine ⟨⟨by simp, by simp, fun x hx => ?_⟩, ⟨near, fun _ => ?_⟩⟩
  · rcases List.mem_cons.1 hx with rfl | hx
    · exact hb.1
    · rcases List.mem_cons.1 hx with rfl | hx
      · exact ha.1
      · simp at hx
  · have := zci [b.Entries, a.Entries] (cE [b.Entries, a.Entries])
    have h1 := sa.1
    have h3 := sb.1
    simp only [cS, List.map_cons, List.map_nil, List.sum_cons, List.sum_nil] at this
    show aB [b.Entries, a.Entries] (cE [b.Entries, a.Entries]) ≤ 120
    omega
def aL (l : dB) (i : Nat) (b : Bool) (n : Nat) : xA := ⟨(i : Int), uC (nC l i) b n⟩
theorem zfj (l : dB) (hs : qH l) (hg : tS l) (i : Nat) (b : Bool) (hi : i < l.Levels.length) (h2 : l.Levels[i].Runs.length = 2) : Ev (fun fu => eO fu l (i : Int) b) (aL l i b 0) ∧ Ev (fun fu => zbX fu l (i : Int) b) (aL l i b 0) := by
  obtain ⟨x, y, e⟩ := zc9 _ h2
  obtain ⟨g, s⟩ := zaS l hs hg i hi h2
  obtain ⟨b1, b2⟩ := zgT (nC l i) b s g
  have er : nC l i = [y.Entries, x.Entries] := by rw [ze1 l i hi]; unfold sX; rw [e]
  have b1' := b1; have b2' := b2
  rw [er] at b1' b2'
  have i1 : ix l.Levels[i].Runs 1 = some y := by rw [e]; rfl
  have i0 : ix l.Levels[i].Runs 0 = some x := by rw [e]; rfl
  constructor
  · unfold eO
    simp only [yA l.Levels i hi, Option.bind_some, i1, i0]
    refine Ev.bind b1' ?_
    show Ev _ (xA.mk (i : Int) (uC (nC l i) b 0))
    rw [er]; exact Ev.ret _
  · unfold zbX zce
    have d : decide ((l.Levels.length : Int) ≤ (i : Int)) = false := decide_eq_false (by omega)
    simp only [d, Bool.false_eq_true, ↓reduceIte, yA l.Levels i hi, Option.bind_some, i1, i0]
    refine Ev.bind b2' ?_
    show Ev _ (xA.mk (i : Int) (uC (nC l i) b 0))
    rw [er]; exact Ev.ret _
def jP (l : dB) (i : Nat) : Bool := decide (i + 1 = l.Levels.length)
theorem zd5 (fu : Nat) (l : dB) (hl : l.Levels.length ≤ 14) (i : Nat) : jL fu l (i : Int) = some (jP l i) := by
  unfold jL jP
  rw [wr (by omega) (by omega)]
  congr 1
  exact decide_eq_decide.2 (by omega)
theorem zeH (l k : List aA) (hl : l.length ≤ 1000000) : ∃ b, Ev (fun fu => jN fu l k) b ∧ (b = true ↔ l = k) := by
  unfold jN dR
  by_cases h : l.length = k.length
  · have hd : (!decide ((l.length : Int) = (k.length : Int))) = false := by simp; omega
    simp only [hd, Bool.false_eq_true, ↓reduceIte]
    obtain ⟨r, r1, r2⟩ := Ev.eqs false l k h (L := bI l k) (fun fu => by simp [bI]) (fun fu n h1 h2 => by
      have d : decide ((n : Int) < (l.length : Int)) = true := decide_eq_true (by omega)
      simp only [bI, d, ↓reduceIte, yA l n h1, yA k n h2, Option.bind_some, dY, oC n (by omega)]
      by_cases e : l[n] = k[n] <;> simp [e])
    rcases r2 with ⟨rfl, e⟩ | ⟨rfl, e⟩
    · exact ⟨true, Ev.bind (Ev.bind r1 (Ev.ret _)) (Ev.ret _), by simp [e]⟩
    · exact ⟨false, Ev.bind (Ev.bind r1 (Ev.ret _)) (Ev.ret _), by simp [e]⟩
  · have hd : (!decide ((l.length : Int) = (k.length : Int))) = true := by simp; omega
    simp only [hd, ↓reduceIte]
    exact ⟨false, Ev.bind (Ev.ret _) (Ev.ret _), by simp; intro e; exact h (by rw [e])⟩
theorem zlC (l k : List (List aA)) (hl : l.length ≤ 1000) (hE : ∀ x ∈ l, x.length ≤ 1000000) : ∃ b, Ev (fun fu => oP fu l k) b ∧ (b = true ↔ l = k) := by
  unfold oP
  by_cases h : l.length = k.length
  · have hd : (!decide ((l.length : Int) = (k.length : Int))) = false := by simp; omega
    simp only [hd, Bool.false_eq_true, ↓reduceIte]
    obtain ⟨r, r1, r2⟩ := nK (β := Bool) (fun n r => Ev (fun fu => lH l k fu (n : Int)) r) l.length (fun i => ∀ (h1 : i < l.length) (h2 : i < k.length), l[i] = k[i]) (fun n v => v = false ∧ ∃ (h1 : n < l.length) (h2 : n < k.length), l[n] ≠ k[n])
      (Ev.succ (Ev.of (fun fu => by simp [lH]) (Ev.ret _)))
      (fun n hn => by
        have h2 : n < k.length := by omega
        have d : decide ((n : Int) < (l.length : Int)) = true := decide_eq_true (by omega)
        obtain ⟨b, b1, b2⟩ := zeH l[n] k[n] (hE _ (List.getElem_mem hn))
        cases b with
        | true =>
          refine .inr ⟨fun _ _ => b2.1 rfl, fun r hr => Ev.succ ?_⟩
          simp only [lH, d, ↓reduceIte, yA l n hn, yA k n h2, Option.bind_some, oC n (show n < 9223372036854775807 by omega)]
          exact Ev.bind b1 hr
        | false =>
          refine .inl ⟨false, ⟨rfl, hn, h2, fun e => by have := b2.2 e; cases this⟩, Ev.succ ?_⟩
          simp only [lH, d, ↓reduceIte, yA l n hn, yA k n h2, Option.bind_some]
          exact Ev.bind b1 (Ev.ret _))
    rcases r2 with ⟨rfl, e⟩ | ⟨n, v, -, ⟨rfl, h1, h2, e⟩, rfl, -⟩
    · refine ⟨true, Ev.bind r1 (Ev.ret _), ⟨fun _ => ?_, fun _ => rfl⟩⟩
      exact List.ext_getElem h fun i h1 h2 => e i h1 h1 h2
    · exact ⟨false, Ev.bind r1 (Ev.ret _), ⟨fun q => (by cases q), fun q => (by subst q; exact absurd rfl e)⟩⟩
  · have hd : (!decide ((l.length : Int) = (k.length : Int))) = true := by simp; omega
    simp only [hd, ↓reduceIte]
    exact ⟨false, Ev.ret _, by simp; intro e; exact h (by rw [e])⟩
theorem lY {p q : Prop} {x y : Bool} {A : Nat → Option Bool} (hx : x = true ↔ p) (hA : Ev A y) (hy : y = true ↔ q) : ∃ z, Ev (fun fu => if x = true then (A fu).bind fun v => some v else some false) z ∧ (z = true ↔ p ∧ q) := by
  cases x with
  | true => exact ⟨y, Ev.bind hA (Ev.ret _), by rw [hy]; exact ⟨fun h => ⟨hx.1 rfl, h⟩, fun h => h.2⟩⟩
  | false => exact ⟨false, Ev.ret _, ⟨fun h => (by cases h), fun h => (by have := hx.2 h.1; cases this)⟩⟩
theorem andP {p q : Prop} {x y : Bool} (hx : x = true ↔ p) (hy : y = true ↔ q) : ∃ z, Ev (fun _ => if x = true then some y else some false) z ∧ (z = true ↔ p ∧ q) := by
  cases x with
  | true => exact ⟨y, Ev.ret _, by rw [hy]; exact ⟨fun h => ⟨hx.1 rfl, h⟩, fun h => h.2⟩⟩
  | false => exact ⟨false, Ev.ret _, ⟨fun h => (by cases h), fun h => (by have := hx.2 h.1; cases this)⟩⟩
theorem zjQ (a b : pB) (ha : eQ a) : ∃ r, Ev (fun fu => uP fu a b) r ∧ (r = true ↔ a = b) := by
  have hn := ha.seen.near
  obtain ⟨x1, e1, h1⟩ := zlC a.Merge.Runs b.Merge.Runs (by have := hn.1; omega) (fun l hl => by have := hn.2.1 l hl; omega)
  obtain ⟨y2, f2, g2⟩ := zbR a.Merge.At b.Merge.At ha.merge.at'
  obtain ⟨x2, e2, h2⟩ := lY h1 f2 g2
  obtain ⟨y3, f3, g3⟩ := zcC a.Merge.Tree.Keys b.Merge.Tree.Keys ha.merge.keys
  obtain ⟨x3, e3, h3⟩ := lY h2 f3 g3
  obtain ⟨y4, f4, g4⟩ := zbR a.Merge.Tree.Lose b.Merge.Tree.Lose ha.merge.lose
  obtain ⟨x4, e4, h4⟩ := lY h3 f4 g4
  obtain ⟨x5, e5, h5⟩ := andP h4 (decide_eq_true_iff (p := a.Merge.Tree.Win = b.Merge.Tree.Win))
  obtain ⟨x6, e6, h6⟩ := andP h5 (show mB.eqb a.Shadow b.Shadow = true ↔ a.Shadow = b.Shadow by rw [jY]; exact decide_eq_true_iff)
  obtain ⟨y7, f7, g7⟩ := zeH a.Out b.Out (by have := ha.out; omega)
  obtain ⟨x7, e7, h7⟩ := lY h6 f7 g7
  obtain ⟨x8, e8, h8⟩ := andP h7 (decide_eq_true_iff (p := a.Steps = b.Steps))
  refine ⟨x8, ?_, h8.trans ⟨fun h => ?_, fun h => by subst h; simp⟩⟩
  · unfold uP
    exact Ev.bind e1 (Ev.bind e2 (Ev.bind e3 (Ev.bind e4 (Ev.bind e5 (Ev.bind e6 (Ev.bind e7 (Ev.bind e8 (Ev.ret _))))))))
  · obtain ⟨⟨⟨⟨⟨⟨⟨q1, q2⟩, q3⟩, q4⟩, q5⟩, q6⟩, q7⟩, q8⟩ := h
    obtain ⟨⟨ar, aa, ⟨ak, al, aw⟩⟩, ash, ao, ast⟩ := a
    obtain ⟨⟨br, ba, ⟨bk, bl', bw⟩⟩, bsh, bo, bst⟩ := b
    simp only at q1 q2 q3 q4 q5 q6 q7 q8
    subst q1 q2 q3 q4 q5 q6 q7 q8
    rfl
theorem zio (l : dB) (hs : qH l) (hc : Ev (fun fu => vK fu l) (0, 0, 0)) : Ev (fun fu => pZ fu l) ((l.Levels.map fun x => x.Runs.reverse).flatten, 0) := by
  have inner : ∀ (x : sA) (_ : x.Runs.length ≤ 6) (k : Nat) (out : List eB), k ≤ x.Runs.length → out.length ≤ 1000 → Ev (fun fu => bQ x fu ((k : Int) - 1) out) (out ++ (x.Runs.take k).reverse) := by
    intro x hx k
    induction k with
    | zero =>
      intro out _ _
      exact Ev.succ (Ev.of (fun fu => by simp [bQ]) (Ev.ret _))
    | succ k ih =>
      intro out hk ho
      have hkl : k < x.Runs.length := by omega
      have e1 : ((k + 1 : Nat) : Int) - 1 = (k : Int) := by omega
      have d : decide ((0 : Int) ≤ (k : Int)) = true := decide_eq_true (by omega)
      have g : 2 * ((out.length + 1) * 32) ≤ 281474976710656 := by omega
      have w : IntKind.i64.wrap ((k : Int) - 1) = (k : Int) - 1 := wr (by omega) (by omega)
      have e2 : (x.Runs.take (k + 1)).reverse = x.Runs[k] :: (x.Runs.take k).reverse := by
        rw [← List.take_append_getElem hkl, List.reverse_append]; rfl
      rw [e1, e2]
      by_cases ho2 : out.length < 1000
      · have := ih (out ++ [x.Runs[k]]) (by omega) (by simp; omega)
        rw [List.append_assoc, List.singleton_append] at this
        refine Ev.succ ?_
        simp only [bQ, d, ↓reduceIte, yA x.Runs k hkl, Option.bind_some, if_pos g, w]
        exact this
      ·
        have hgen : ∀ (k : Nat) (out : List eB), k ≤ x.Runs.length → out.length ≤ 2000 - k → k ≤ 6 → Ev (fun fu => bQ x fu ((k : Int) - 1) out) (out ++ (x.Runs.take k).reverse) := by
          intro k
          induction k with
          | zero => intro out _ _ _; exact Ev.succ (Ev.of (fun fu => by simp [bQ]) (Ev.ret _))
          | succ k ih2 =>
            intro out hk ho h6
            have hkl : k < x.Runs.length := by omega
            have e1 : ((k + 1 : Nat) : Int) - 1 = (k : Int) := by omega
            have d : decide ((0 : Int) ≤ (k : Int)) = true := decide_eq_true (by omega)
            have g : 2 * ((out.length + 1) * 32) ≤ 281474976710656 := by omega
            have w : IntKind.i64.wrap ((k : Int) - 1) = (k : Int) - 1 := wr (by omega) (by omega)
            have e2 : (x.Runs.take (k + 1)).reverse = x.Runs[k] :: (x.Runs.take k).reverse := by
              rw [← List.take_append_getElem hkl, List.reverse_append]; rfl
            rw [e1, e2]
            have := ih2 (out ++ [x.Runs[k]]) (by omega) (by simp; omega) (by omega)
            rw [List.append_assoc, List.singleton_append] at this
            refine Ev.succ ?_
            simp only [bQ, d, ↓reduceIte, yA x.Runs k hkl, Option.bind_some, if_pos g, w]
            exact this
        have := hgen (k + 1) out (by omega) (by omega) (by omega)
        rw [e1, e2] at this
        exact this
  have outer : ∀ (m i : Nat) (out : List eB), i + m = l.Levels.length → out.length ≤ 6 * i → Ev (fun fu => wW l fu (i : Int) out) (out ++ ((l.Levels.drop i).map fun x => x.Runs.reverse).flatten) := by
    intro m
    induction m with
    | zero =>
      intro i out hi _
      obtain rfl : i = l.Levels.length := by omega
      exact Ev.succ (Ev.of (fun fu => by simp [wW]) (Ev.ret _))
    | succ m ih =>
      intro i out hi ho
      have hil : i < l.Levels.length := by omega
      have h14 := hs.1
      have d : decide ((i : Int) < (l.Levels.length : Int)) = true := decide_eq_true (by omega)
      have hx := (hs.2 _ (List.getElem_mem hil)).1
      have w : IntKind.i64.wrap ((l.Levels[i].Runs.length : Int) - 1) = (l.Levels[i].Runs.length : Int) - 1 := wr (by omega) (by omega)
      have i1 := inner l.Levels[i] hx l.Levels[i].Runs.length out (Nat.le_refl _) (by omega)
      rw [List.take_length] at i1
      have := ih (i + 1) (out ++ l.Levels[i].Runs.reverse) (by omega) (by simp; omega)
      rw [List.drop_eq_getElem_cons hil, List.map_cons, List.flatten_cons, ← List.append_assoc]
      refine Ev.succ ?_
      simp only [wW, d, ↓reduceIte, yA l.Levels i hil, Option.bind_some, w, oC i (show i < 9223372036854775807 by omega)]
      exact Ev.bind i1 this
  unfold pZ
  refine Ev.bind hc ?_
  simp only [decide_true, Bool.not_true, Bool.false_eq_true, ↓reduceIte]
  exact Ev.bind (outer l.Levels.length 0 [] (by omega) (by simp)) (Ev.ret _)
theorem zey : ∀ (xs : List sA), ((xs.map fun x => x.Runs.reverse).flatten.map eB.Id).Perm (rM xs)
  | [] => List.Perm.nil
  | x :: xs => by
    simp only [rM, List.map_cons, List.flatten_cons, List.map_append]
    exact List.Perm.append ((List.reverse_perm _).map _) (zey xs)
theorem zdw : ∀ (xs : List sA), (∀ x ∈ xs, x.Runs.length ≤ 6) → ((xs.map fun x => x.Runs.reverse).flatten).length ≤ 6 * xs.length
  | [], _ => by simp
  | x :: xs, h => by
    have h1 := h x (by simp)
    have h2 := zdw xs fun y hy => h y (by simp [hy])
    simp only [List.map_cons, List.flatten_cons, List.length_append, List.length_reverse, List.length_cons]
    omega
theorem zh7 (l : dB) (hs : qH l) (hc : Ev (fun fu => vK fu l) (0, 0, 0)) : Ev (fun fu => zaL fu l) (kG 0 (rM l.Levels)) := by
  rw [← zlj (zey l.Levels)]
  have hl := zdw l.Levels fun x hx => (hs.2 x hx).1
  have h14 := hs.1
  generalize hv : (l.Levels.map fun x => x.Runs.reverse).flatten = v at hl
  have go : ∀ (m i : Nat) (best : Int), i + m = v.length → Ev (fun fu => bV (v, 0) fu best (i : Int)) (kG best ((v.drop i).map eB.Id)) := by
    intro m
    induction m with
    | zero =>
      intro i best hi
      obtain rfl : i = v.length := by omega
      exact Ev.succ (Ev.of (fun fu => by simp [bV, kG]) (Ev.ret _))
    | succ m ih =>
      intro i best hi
      have hil : i < v.length := by omega
      have d : decide ((i : Int) < (v.length : Int)) = true := decide_eq_true (by omega)
      have := ih (i + 1) (if best < v[i].Id then v[i].Id else best) (by omega)
      rw [List.drop_eq_getElem_cons hil]
      refine Ev.succ ?_
      simp only [bV, d, ↓reduceIte, yA v i hil, Option.bind_some, oC i (show i < 9223372036854775807 by omega)]
      exact this
  have nw := zio l hs hc
  rw [hv] at nw
  unfold zaL
  exact Ev.bind nw (Ev.bind (go v.length 0 0 (by omega)) (Ev.ret _))
theorem zge (l : dB) (hs : qH l) (hc : Ev (fun fu => vK fu l) (0, 0, 0)) (hg : tS l) (i : Nat) (hi : i < l.Levels.length) : Ev (fun fu => hY fu l (i : Int)) (jP l i) := by
  have h12 := hg.few
  have d1 : decide ((i : Int) < 0) = false := decide_eq_false (by omega)
  have d2 : decide ((12 : Int) ≤ (i : Int)) = false := decide_eq_false (by omega)
  have e : (!decide (((i + 1 : Nat) : Int) < (l.Levels.length : Int))) = jP l i := by
    unfold jP
    by_cases q : i + 1 = l.Levels.length
    · rw [decide_eq_true q, decide_eq_false (by omega)]; rfl
    · rw [decide_eq_false q, decide_eq_true (by omega)]; rfl
  unfold hY zcs zcv
  refine Ev.bind (a := (decide (((i + 1 : Nat) : Int) < (l.Levels.length : Int)), 0)) (Ev.bind (a := 0) (Ev.bind hc ?_) ?_) ?_
  · simp only [decide_true, ↓reduceIte, d1, d2, Bool.false_eq_true, Option.bind_some]; exact Ev.ret _
  · simp only [decide_true, Bool.not_true, Bool.false_eq_true, ↓reduceIte, oC i (show i < 9223372036854775807 by omega)]; exact Ev.ret _
  · rw [← e]; exact Ev.ret _
end Go.T
end
