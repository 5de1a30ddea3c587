/- New, Of and Begin return what the document says, of levels that are not long; no other condition. -/
import Derived.Test.YtnlggkiekcpahaaGreatCGp
import Derived.Test.YtnlggkiekcpahaaGreatCGm
import Derived.Laws.BitsLemmas
import Derived.KernelRfl
import Derived.Test.YtnlggkiekcpahaaGreatCGt
set_option linter.unusedSimpArgs false
set_option linter.unusedVariables false
section
namespace Go.T
open Go Go.AM
def Ev {α : Type} (g : Nat → Option α) (r : α) : Prop := ∃ N, ∀ fu, N ≤ fu → g fu = some r
theorem Ev.ret {α : Type} (r : α) : Ev (fun _ => some r) r := ⟨0, fun _ _ => rfl⟩
theorem Ev.bind {α β : Type} {g : Nat → Option α} {a : α} {k : Nat → α → Option β} {r : β} (h : Ev g a) (h2 : Ev (fun fu => k fu a) r) : Ev (fun fu => (g fu).bind (k fu)) r := by
  obtain ⟨n, h⟩ := h
  obtain ⟨m, h2⟩ := h2
  exact ⟨n + m, fun fu hfu => by show (g fu).bind (k fu) = _; rw [h fu (by omega)]; exact h2 fu (by omega)⟩
theorem Ev.succ {α : Type} {g : Nat → Option α} {r : α} (h : Ev (fun fu => g (fu + 1)) r) : Ev g r := by
  obtain ⟨n, h⟩ := h
  exact ⟨n + 1, fun fu hfu => by obtain ⟨m, rfl⟩ : ∃ m, fu = m + 1 := ⟨fu - 1, by omega⟩; exact h m (by omega)⟩
theorem Ev.of {α : Type} {g g' : Nat → Option α} {r : α} (e : ∀ fu, g fu = g' fu) (h : Ev g' r) : Ev g r := by
  obtain ⟨n, h⟩ := h
  exact ⟨n, fun fu hfu => (e fu).trans (h fu hfu)⟩
theorem Ev.mono {α : Type} {g : Nat → Option α} {r : α} {n : Nat} (m : ∀ fu, bA (g fu) (g (fu + 1))) (h : g n = some r) : Ev g r := by
  refine ⟨n, fun fu hfu => ?_⟩
  induction fu with
  | zero => rw [show n = 0 by omega] at h; exact h
  | succ fu ih =>
    by_cases e : n = fu + 1
    · rw [← e]; exact h
    · exact m fu r (ih (by omega))
theorem Ev.uniq {α : Type} {g : Nat → Option α} {r s : α} (h : Ev g r) (k : Ev g s) : r = s := by
  obtain ⟨n, h⟩ := h
  obtain ⟨m, k⟩ := k
  have := (h (n + m) (by omega)).symm.trans (k (n + m) (by omega))
  exact Option.some.inj this
theorem Ev.one {α : Type} {g : Nat → Option α} {r : α} (h : Ev g r) : ∃ fu, g fu = some r := by
  obtain ⟨n, h⟩ := h; exact ⟨n, h n (Nat.le_refl n)⟩
theorem wr {n : Int} (h1 : -9223372036854775808 ≤ n) (h2 : n ≤ 9223372036854775807) : IntKind.i64.wrap n = n := by
  rw [IntKind.wrap_i64]; omega
theorem zbO {α : Type} (l : List α) (n : Nat) : ix l (n : Int) = l[n]? := by simp [ix]
theorem iB {α : Type} (l : List α) (n : Nat) (h : n < l.length) : ix l (n : Int) = some l[n] := by simp [ix, h]
abbrev bl := Op.bytesLess
theorem bH (a : List UInt8) : bl a a = false := by
  induction a with
  | nil => rfl
  | cons x a ih => simpa [bl, Op.bytesLess] using ih
theorem nS : ∀ (a b : List UInt8), bl a b = true ∨ a = b ∨ bl b a = true
  | [], [] => .inr (.inl rfl)
  | [], _ :: _ => .inl rfl
  | _ :: _, [] => .inr (.inr rfl)
  | x :: a, y :: b => by
    have tri : x < y ∨ x = y ∨ y < x := by
      rcases Nat.lt_trichotomy x.toNat y.toNat with h | h | h
      · exact .inl (UInt8.lt_iff_toNat_lt.2 h)
      · exact .inr (.inl (UInt8.toNat_inj.1 h))
      · exact .inr (.inr (UInt8.lt_iff_toNat_lt.2 h))
    rcases tri with h | h | h
    · left; simp [bl, Op.bytesLess, h]
    · subst h
      rcases nS a b with k | k | k
      · left; simp [bl, Op.bytesLess]; exact k
      · right; left; rw [k]
      · right; right; simp [bl, Op.bytesLess]; exact k
    · right; right; simp [bl, Op.bytesLess, h]
theorem fX : ∀ {a b c : List UInt8}, bl a b = true → bl b c = true → bl a c = true
  | a, [], c, h, _ => by cases a <;> simp [bl, Op.bytesLess] at h
  | a, b, [], _, k => by cases b <;> simp [bl, Op.bytesLess] at k
  | [], y :: b, z :: c, _, _ => rfl
  | x :: a, y :: b, z :: c, h, k => by
    simp only [bl, Op.bytesLess, Bool.or_eq_true, decide_eq_true_eq, Bool.and_eq_true, beq_iff_eq] at h k ⊢
    rcases h with h | ⟨rfl, h⟩
    · rcases k with k | ⟨rfl, k⟩
      · exact .inl (UInt8.lt_trans h k)
      · exact .inl h
    · rcases k with k | ⟨rfl, k⟩
      · exact .inl k
      · exact .inr ⟨rfl, fX h k⟩
theorem gL {a b : List UInt8} (h : bl a b = true) : bl b a = false := by
  cases k : bl b a with
  | false => rfl
  | true => have := fX h k; rw [bH] at this; cases this
def chk (e : aA) : Int := if 32 < e.Key.length ∨ 64 < e.Val.length then 3 else if e.Dead = true ∧ e.Val ≠ [] then 6 else if e.Seq < 1 ∨ 1000000000 < e.Seq then 7 else 0
theorem pR (fu : Nat) (e : aA) : iL fu e = some (chk e) := by
  obtain ⟨k, v, d, s⟩ := e
  have c1 : decide ((32 : Int) < (k.length : Int)) = decide (32 < k.length) := decide_eq_decide.2 (by omega)
  have c2 : decide ((64 : Int) < (v.length : Int)) = decide (64 < v.length) := decide_eq_decide.2 (by omega)
  simp only [iL, wN, chk, c1, c2]
  by_cases h1 : 32 < k.length <;> by_cases h2 : 64 < v.length <;> cases d <;> by_cases h4 : v = [] <;> by_cases h5 : s < 1 <;> by_cases h6 : 1000000000 < s <;> simp [h1, h2, h4, h5, h6]
theorem gX (fu : Nat) (e : aA) : zU fu e = some (chk e) := by
  obtain ⟨k, v, d, s⟩ := e
  have c1 : decide ((32 : Int) < (k.length : Int)) = decide (32 < k.length) := decide_eq_decide.2 (by omega)
  have c2 : decide ((64 : Int) < (v.length : Int)) = decide (64 < v.length) := decide_eq_decide.2 (by omega)
  simp only [zU, chk, c1, c2]
  by_cases h1 : 32 < k.length <;> by_cases h2 : 64 < v.length <;> cases d <;> by_cases h4 : v = [] <;> by_cases h5 : s < 1 <;> by_cases h6 : 1000000000 < s <;> simp [h1, h2, h4, h5, h6]
def cp : List UInt8 → List UInt8 → Nat
  | x :: a, y :: b => if x = y then cp a b + 1 else 0
  | _, _ => 0
theorem zfW (a b : List UInt8) (ha : a.length ≤ 1000000000000) (m : Nat) : ∀ n : Nat, n + m = a.length → Ev (fun fu => lI a b fu (n : Int)) ((n + cp (a.drop n) (b.drop n) : Nat) : Int) := by
  induction m with
  | zero =>
    intro n hn
    refine Ev.succ (Ev.of (g' := fun _ => some ((n : Int))) (fun fu => ?_) ?_)
    · simp [lI, show ¬ (n : Int) < (a.length : Int) by omega]
    · rw [show a.drop n = [] from List.drop_eq_nil_of_le (by omega)]
      exact Ev.ret _
  | succ m ih =>
    intro n hn
    have hna : n < a.length := by omega
    rw [List.drop_eq_getElem_cons hna]
    refine Ev.succ ?_
    by_cases hb : n < b.length
    · rw [List.drop_eq_getElem_cons hb]
      by_cases he : a[n] = b[n]
      · refine Ev.of (g' := fun fu => lI a b fu ((n + 1 : Nat) : Int)) (fun fu => ?_) ?_
        · simp [lI, hna, hb, zbO, he]
          rw [wr (by omega) (by omega)]
        · have := ih (n + 1) (by omega)
          rw [show ((n + cp (a[n] :: a.drop (n + 1)) (b[n] :: b.drop (n + 1)) : Nat) : Int) = ((n + 1 + cp (a.drop (n + 1)) (b.drop (n + 1)) : Nat) : Int) by
            rw [he]; simp [cp]; omega]
          exact this
      · refine Ev.of (g' := fun _ => some ((n : Int))) (fun fu => ?_) ?_
        · have : ¬ (a[n].toNat : Int) = (b[n].toNat : Int) := fun h => he (UInt8.toNat_inj.1 (by omega))
          simp [lI, hna, hb, zbO, this]
        · simp only [cp, if_neg he, Nat.add_zero]
          exact Ev.ret _
    · refine Ev.of (g' := fun _ => some ((n : Int))) (fun fu => ?_) ?_
      · simp [lI, hna, hb]
      · rw [show b.drop n = [] from List.drop_eq_nil_of_le (by omega)]
        exact Ev.ret _
theorem zcX : ∀ a b, cp a b ≤ a.length ∧ cp a b ≤ b.length
  | [], b => by simp [cp]
  | _ :: _, [] => by simp [cp]
  | x :: a, y :: b => by
    have := zcX a b
    simp only [cp]
    split <;> simp <;> omega
theorem zbm : ∀ a b, (cp a b = a.length → cp a b = b.length → a = b) ∧
    (cp a b = a.length → cp a b ≠ b.length → bl a b = true) ∧
    (cp a b ≠ a.length → cp a b = b.length → bl b a = true) ∧
    (∀ (h1 : cp a b < a.length) (h2 : cp a b < b.length), a[cp a b] ≠ b[cp a b] ∧ bl a b = decide (a[cp a b] < b[cp a b]))
  | [], [] => by simp [cp]
  | [], _ :: _ => by simp [cp, bl, Op.bytesLess]
  | _ :: _, [] => by simp [cp, bl, Op.bytesLess]
  | x :: a, y :: b => by
    obtain ⟨h1, h2, h3, h4⟩ := zbm a b
    by_cases e : x = y
    · subst e
      simp only [cp, ↓reduceIte, List.length_cons, Nat.add_right_cancel_iff, ne_eq, List.getElem_cons_succ, bl, Op.bytesLess, Nat.add_lt_add_iff_right]
      simp only [UInt8.lt_irrefl, decide_false, beq_self_eq_true, Bool.true_and, Bool.false_or]
      exact ⟨fun p q => by rw [h1 p q], h2, h3, h4⟩
    · simp only [cp, if_neg e, List.length_cons]
      refine ⟨by omega, by omega, by omega, fun _ _ => ?_⟩
      simp [bl, Op.bytesLess, e]
theorem zgc (a b : List UInt8) (ha : a.length ≤ 1000000000000) : ∃ r, Ev (fun fu => qL fu a b) r ∧ ((0 ≤ r) ↔ bl a b = false) := by
  have hc : Ev (fun fu => mU fu a b) (cp a b : Int) := by
    unfold mU
    refine Ev.bind (a := (cp a b : Int)) ?_ (Ev.ret _)
    have := zfW a b ha a.length 0 (by omega)
    simpa using this
  obtain ⟨k1, k2⟩ := zcX a b
  obtain ⟨h1, h2, h3, h4⟩ := zbm a b
  unfold qL
  have d1 : decide ((cp a b : Int) = (a.length : Int)) = decide (cp a b = a.length) := decide_eq_decide.2 (by omega)
  have d2 : decide ((cp a b : Int) = (b.length : Int)) = decide (cp a b = b.length) := decide_eq_decide.2 (by omega)
  have d3 : decide ((cp a b : Int) < (b.length : Int)) = decide (cp a b < b.length) := decide_eq_decide.2 (by omega)
  by_cases p : cp a b = a.length
  · by_cases q : cp a b = b.length
    · refine ⟨0, Ev.bind hc (Ev.of (fun fu => ?_) (Ev.ret _)), ?_⟩
      · simp only [d1, d2, d3, decide_eq_true p, decide_eq_true q]; rfl
      · rw [h1 p q]; simp [bH]
    · refine ⟨-1, Ev.bind hc (Ev.of (fun fu => ?_) (Ev.ret _)), ?_⟩
      · simp only [d1, d2, d3, decide_eq_true p, decide_eq_false q]; rfl
      · rw [h2 p q]; simp
  · by_cases q : cp a b = b.length
    · refine ⟨1, Ev.bind hc (Ev.of (fun fu => ?_) (Ev.ret _)), ?_⟩
      · simp only [d1, d2, d3, decide_eq_false p, decide_eq_true q, decide_eq_false (show ¬ cp a b < b.length by omega)]; rfl
      · rw [gL (h3 p q)]; simp
    · obtain ⟨j1, j2⟩ := h4 (by omega) (by omega)
      refine ⟨if a[cp a b] < b[cp a b] then -1 else 1, Ev.bind hc (Ev.of (fun fu => ?_) (Ev.ret _)), ?_⟩
      · have d4 : decide ((a[cp a b].toNat : Int) < (b[cp a b].toNat : Int)) = decide (a[cp a b] < b[cp a b]) := decide_eq_decide.2 (by rw [UInt8.lt_iff_toNat_lt]; omega)
        simp only [d1, d2, d3, decide_eq_false p, decide_eq_false q, decide_eq_true (show cp a b < b.length by omega), iB a (cp a b) (by omega), iB b (cp a b) (by omega), d4]
        by_cases z : a[cp a b] < b[cp a b]
        · have z' := UInt8.lt_iff_toNat_lt.1 z
          simp [z, z']
        · have z' : b[cp a b].toNat ≤ a[cp a b].toNat := by rw [UInt8.lt_iff_toNat_lt] at z; omega
          simp [z, z']
      · rw [j2]; split <;> simp [*]
def zdt (l : List aA) (i : Nat) : Prop := ∀ h : i < l.length, chk l[i] = 0 ∧ (∀ h0 : 0 < i, bl l[i - 1].Key l[i].Key = true)
theorem zlj (l : List aA) (hl : l.length ≤ 1000000000000) (hk : ∀ e ∈ l, e.Key.length ≤ 1000000000000) (m : Nat) : ∀ n : Nat, n + m = l.length →
    ∃ r, Ev (fun fu => dF l fu (n : Int)) r ∧ Ev (fun fu => oH l fu (n : Int)) r ∧
      ((r = .inl () ∧ ∀ i, n ≤ i → zdt l i) ∨ ∃ i : Nat, ∃ c, r = .inr ((i : Int), c) ∧ c ≠ 0) := by
  induction m with
  | zero =>
    intro n hn
    refine ⟨.inl (), Ev.succ (Ev.of (fun fu => ?_) (Ev.ret _)), Ev.succ (Ev.of (fun fu => ?_) (Ev.ret _)), .inl ⟨rfl, fun i hi h => by omega⟩⟩
    · simp [dF, show ¬ (n : Int) < (l.length : Int) by omega]
    · simp [oH, show ¬ (n : Int) < (l.length : Int) by omega]
  | succ m ih =>
    intro n hn
    have hnl : n < l.length := by omega
    have w1 : IntKind.i64.wrap ((n : Int) + 1) = ((n + 1 : Nat) : Int) := by rw [wr (by omega) (by omega)]; rfl
    obtain ⟨r, r1, r2, r3⟩ := ih (n + 1) (by omega)
    by_cases hc : chk l[n] = 0
    · by_cases h0 : 0 < n
      · have w2 : IntKind.i64.wrap ((n : Int) - 1) = ((n - 1 : Nat) : Int) := by rw [wr (by omega) (by omega)]; omega
        have hn1 : n - 1 < l.length := by omega
        obtain ⟨o, o1, o2⟩ := zgc l[n - 1].Key l[n].Key (hk _ (List.getElem_mem hn1))
        cases hb : bl l[n - 1].Key l[n].Key with
        | true =>
          have ho : ¬ 0 ≤ o := by rw [o2, hb]; simp
          have hnb : (Op.bytesLess l[n].Key l[n - 1].Key || l[n].Key == l[n - 1].Key) = false := by
            rw [show Op.bytesLess l[n].Key l[n - 1].Key = false from gL hb]
            have : l[n].Key ≠ l[n - 1].Key := fun e => by rw [e, bH] at hb; cases hb
            simp [this]
          refine ⟨r, Ev.succ (Ev.of (fun fu => ?_) r1), Ev.succ ?_, ?_⟩
          · simp only [dF, pR, hc, w1, w2, iB l n hnl, iB l (n - 1) hn1]
            have hnb' := hnb
            simp only [Bool.or_eq_false_iff, Bool.or_eq_true, beq_iff_eq, beq_eq_false_iff_ne, ne_eq] at hnb'
            simp [hnl, h0, hnb', hc]
          · refine Ev.of (g' := fun fu => (qL fu l[n - 1].Key l[n].Key).bind fun vr35 => if 0 ≤ vr35 then some (.inr ((n : Int), 6)) else oH l fu ((n + 1 : Nat) : Int)) (fun fu => ?_) (Ev.bind o1 ?_)
            · simp only [oH, gX, hc, w1, w2, iB l n hnl, iB l (n - 1) hn1]
              cases hq : qL fu l[n - 1].Key l[n].Key <;> simp [hnl, h0, hc, hq]
            · simp only [if_neg ho]; exact r2
          · rcases r3 with ⟨e, h⟩ | h
            · refine .inl ⟨e, fun i hi hl => ?_⟩
              by_cases q : i = n
              · subst q; exact ⟨hc, fun _ => hb⟩
              · exact h i (by omega) hl
            · exact .inr h
        | false =>
          have ho : 0 ≤ o := by rw [o2, hb]
          have hnb : (Op.bytesLess l[n].Key l[n - 1].Key || l[n].Key == l[n - 1].Key) = true := by
            rcases nS l[n - 1].Key l[n].Key with h | h | h
            · rw [hb] at h; cases h
            · simp [h]
            · simp only [bl] at h; simp [h]
          refine ⟨.inr (n, 6), Ev.succ (Ev.of (fun fu => ?_) (Ev.ret _)), Ev.succ ?_, .inr ⟨n, 6, rfl, by decide⟩⟩
          · simp only [dF, pR, hc, w1, w2, iB l n hnl, iB l (n - 1) hn1]
            have hnb' := hnb
            simp only [Bool.or_eq_false_iff, Bool.or_eq_true, beq_iff_eq, beq_eq_false_iff_ne, ne_eq] at hnb'
            simp [hnl, h0, hnb', hc]
          · refine Ev.of (g' := fun fu => (qL fu l[n - 1].Key l[n].Key).bind fun vr35 => if 0 ≤ vr35 then some (.inr ((n : Int), 6)) else oH l fu ((n + 1 : Nat) : Int)) (fun fu => ?_) (Ev.bind o1 ?_)
            · simp only [oH, gX, hc, w1, w2, iB l n hnl, iB l (n - 1) hn1]
              cases hq : qL fu l[n - 1].Key l[n].Key <;> simp [hnl, h0, hc, hq]
            · simp only [if_pos ho]; exact Ev.ret _
      · obtain rfl : n = 0 := by omega
        refine ⟨r, Ev.succ (Ev.of (fun fu => ?_) r1), Ev.succ (Ev.of (fun fu => ?_) r2), ?_⟩
        · simp only [dF, pR, hc, w1, iB l 0 hnl]
          simp [hnl, hc]
        · simp only [oH, gX, hc, w1, iB l 0 hnl]
          simp [hnl, hc]
        · rcases r3 with ⟨e, h⟩ | h
          · refine .inl ⟨e, fun i hi hl => ?_⟩
            by_cases q : i = 0
            · subst q; exact ⟨hc, fun h => by omega⟩
            · exact h i (by omega) hl
          · exact .inr h
    · refine ⟨.inr (n, chk l[n]), Ev.succ (Ev.of (fun fu => ?_) (Ev.ret _)), Ev.succ (Ev.of (fun fu => ?_) (Ev.ret _)), .inr ⟨n, _, rfl, hc⟩⟩
      · simp only [dF, pR, iB l n hnl]
        simp [hnl, hc]
      · simp only [oH, gX, iB l n hnl]
        simp [hnl, hc]
def qS (l : List aA) : Prop := l.length ≤ 5000 ∧ ∀ i, zdt l i
theorem zb7 (l : List aA) (hk : ∀ e ∈ l, e.Key.length ≤ 1000000000000) :
    ∃ r, Ev (fun fu => rI fu l) r ∧ Ev (fun fu => cP fu l) r ∧ (r.2 = 0 → qS l) := by
  unfold rI cP
  by_cases h : 5000 < l.length
  · refine ⟨(-1, 3), Ev.of (fun fu => ?_) (Ev.ret _), Ev.of (fun fu => ?_) (Ev.ret _), by simp⟩ <;>
      rw [if_pos (by simp; omega)]
  · obtain ⟨r, r1, r2, r3⟩ := zlj l (by omega) hk l.length 0 (by omega)
    have hd : ¬ decide ((5000 : Int) < (l.length : Int)) = true := by simp; omega
    simp only [if_neg hd]
    rcases r3 with ⟨rfl, h3⟩ | ⟨i, c, rfl, hc⟩
    · exact ⟨(0, 0), Ev.bind r1 (Ev.ret _), Ev.bind r2 (Ev.ret _), fun _ => ⟨by omega, fun i => h3 i (by omega)⟩⟩
    · exact ⟨(i, c), Ev.bind r1 (Ev.ret _), Ev.bind r2 (Ev.ret _), fun h => absurd h hc⟩
def jE (runs : List (List aA)) : Prop := ∀ l ∈ runs, ∀ e ∈ l, e.Key.length ≤ 1000000000000
theorem zm3 (runs : List (List aA)) (hf : jE runs) (hl : runs.length ≤ 1000) (m : Nat) : ∀ n : Nat, n + m = runs.length →
    ∃ r, Ev (fun fu => bF runs fu (n : Int)) r ∧ Ev (fun fu => gJ runs fu (n : Int)) r ∧
      ((r = .inl () ∧ ∀ i, n ≤ i → ∀ h : i < runs.length, qS runs[i]) ∨ ∃ i : Nat, ∃ c, r = .inr ((i : Int), c) ∧ c ≠ 0) := by
  induction m with
  | zero =>
    intro n hn
    refine ⟨.inl (), Ev.succ (Ev.of (fun fu => ?_) (Ev.ret _)), Ev.succ (Ev.of (fun fu => ?_) (Ev.ret _)), .inl ⟨rfl, fun i hi h => by omega⟩⟩
    · simp [bF, show ¬ (n : Int) < (runs.length : Int) by omega]
    · simp [gJ, show ¬ (n : Int) < (runs.length : Int) by omega]
  | succ m ih =>
    intro n hn
    have hnl : n < runs.length := by omega
    have w1 : IntKind.i64.wrap ((n : Int) + 1) = ((n + 1 : Nat) : Int) := by rw [wr (by omega) (by omega)]; rfl
    obtain ⟨r, r1, r2, r3⟩ := ih (n + 1) (by omega)
    obtain ⟨⟨p, c⟩, c1, c2, c3⟩ := zb7 runs[n] (hf _ (List.getElem_mem hnl))
    have f1 : ∀ fu, bF runs (fu + 1) (n : Int) = (rI fu runs[n]).bind fun vr => if vr.2 = 0 then bF runs fu ((n + 1 : Nat) : Int) else some (.inr ((n : Int), vr.2)) := by
      intro fu
      simp only [bF, w1, iB runs n hnl]
      simp [hnl]
    have f2 : ∀ fu, gJ runs (fu + 1) (n : Int) = (cP fu runs[n]).bind fun vr => if vr.2 = 0 then gJ runs fu ((n + 1 : Nat) : Int) else some (.inr ((n : Int), vr.2)) := by
      intro fu
      simp only [gJ, w1, iB runs n hnl]
      simp [hnl]
    by_cases hc : c = 0
    · subst hc
      refine ⟨r, Ev.succ (Ev.of f1 (Ev.bind c1 r1)), Ev.succ (Ev.of f2 (Ev.bind c2 r2)), ?_⟩
      rcases r3 with ⟨e, h⟩ | h
      · refine .inl ⟨e, fun i hi hl => ?_⟩
        by_cases q : i = n
        · subst q; exact c3 rfl
        · exact h i (by omega) hl
      · exact .inr h
    · refine ⟨.inr (n, c), Ev.succ (Ev.of f1 (Ev.bind c1 ?_)), Ev.succ (Ev.of f2 (Ev.bind c2 ?_)), .inr ⟨n, c, rfl, hc⟩⟩
      · simp only [if_neg hc]; exact Ev.ret _
      · simp only [if_neg hc]; exact Ev.ret _
def tF (runs : List (List aA)) : Prop := 0 < runs.length ∧ runs.length ≤ 32 ∧ ∀ l ∈ runs, qS l
theorem yZ (runs : List (List aA)) (hf : jE runs) (hl : runs.length ≤ 1000) :
    ∃ r, Ev (fun fu => wI fu runs) r ∧ Ev (fun fu => rP fu runs) r ∧ ((r = (0, 0) ∧ tF runs) ∨ r.2 ≠ 0) := by
  unfold wI rP
  by_cases h : runs.length = 0
  · refine ⟨(-1, 6), Ev.of (fun fu => ?_) (Ev.ret _), Ev.of (fun fu => ?_) (Ev.ret _), .inr (by simp)⟩ <;> simp [h]
  · by_cases h2 : 32 < runs.length
    · refine ⟨(-1, 3), Ev.of (fun fu => ?_) (Ev.ret _), Ev.of (fun fu => ?_) (Ev.ret _), .inr (by simp)⟩ <;>
        rw [if_neg (by simp; intro e; simp [e] at h), if_pos (by simp; omega)]
    · obtain ⟨r, r1, r2, r3⟩ := zm3 runs hf hl runs.length 0 (by omega)
      have e1 : ¬ decide ((runs.length : Int) = 0) = true := by simp; intro e; simp [e] at h
      have e2 : ¬ decide ((32 : Int) < (runs.length : Int)) = true := by simp; omega
      simp only [if_neg e1, if_neg e2]
      rcases r3 with ⟨rfl, h3⟩ | ⟨i, c, rfl, hc⟩
      · refine ⟨(0, 0), Ev.bind r1 (Ev.ret _), Ev.bind r2 (Ev.ret _), .inl ⟨rfl, by omega, by omega, fun l hl => ?_⟩⟩
        obtain ⟨i, hi, rfl⟩ := List.mem_iff_getElem.1 hl
        exact h3 i (by omega) hi
      · exact ⟨(i, c), Ev.bind r1 (Ev.ret _), Ev.bind r2 (Ev.ret _), .inr hc⟩
def lt (keys : List eA) (p q : Nat) : Bool :=
  match keys[p]?, keys[q]? with
  | some a, some b => if a.Done ≠ b.Done then b.Done else if a.Key ≠ b.Key then bl a.Key b.Key else decide (p < q)
  | _, _ => false
def tI (keys : List eA) : Prop := ∀ k ∈ keys, k.Done = true → k.Key = []
theorem zjS (fu : Nat) (keys : List eA) (p q : Nat) (hp : p < keys.length) (hq : q < keys.length) : fM fu p q keys = some (lt keys p q) := by
  simp only [fM, iB keys p hp, iB keys q hq, lt, List.getElem?_eq_getElem hp, List.getElem?_eq_getElem hq]
  by_cases h1 : keys[p].Done = keys[q].Done <;> by_cases h2 : keys[p].Key = keys[q].Key <;> simp [h1, h2, bl]
theorem zie (fu : Nat) (keys : List eA) (hpl : tI keys) (p q : Nat) (hp : p < keys.length) (hq : q < keys.length) : kU fu keys p q = some (lt keys p q) := by
  simp only [kU, iB keys p hp, iB keys q hq, lt, List.getElem?_eq_getElem hp, List.getElem?_eq_getElem hq]
  have k1 := hpl _ (List.getElem_mem hp)
  have k2 := hpl _ (List.getElem_mem hq)
  cases d1 : keys[p].Done <;> cases d2 : keys[q].Done
  · by_cases h2 : keys[p].Key = keys[q].Key <;> simp [d1, d2, h2, bl]
  · simp [d1, d2]
  · simp [d1, d2]
  · have : keys[p].Key = keys[q].Key := by rw [k1 d1, k2 d2]
    simp [d1, d2, this]
theorem fY (keys : List eA) (p q : Nat) (hp : p < keys.length) (hq : q < keys.length) (h : p ≠ q) : lt keys q p = !lt keys p q := by
  simp only [lt, List.getElem?_eq_getElem hp, List.getElem?_eq_getElem hq]
  by_cases d : keys[p].Done = keys[q].Done
  · by_cases k : keys[p].Key = keys[q].Key
    · simp [d, k]
      by_cases z : p < q
      · simp [z]; omega
      · simp [z]; omega
    · have k' : ¬ keys[q].Key = keys[p].Key := fun e => k e.symm
      simp only [ne_eq, d, k, k', not_true_eq_false, not_false_eq_true, ↓reduceIte]
      rcases nS keys[p].Key keys[q].Key with h | h | h
      · rw [h, gL h]; rfl
      · exact absurd h k
      · rw [h, gL h]; rfl
  · have d' : ¬ keys[q].Done = keys[p].Done := fun e => d e.symm
    simp only [ne_eq, d, d', not_false_eq_true, ↓reduceIte]
    cases h1 : keys[p].Done <;> cases h2 : keys[q].Done <;> simp_all
def pl (keys : List eA) : Nat → Nat → Nat × Nat
  | 0, node => (node - keys.length, 0)
  | k + 1, node => if keys.length ≤ node then (node - keys.length, 0) else
    let a := (pl keys k (2 * node)).1
    let b := (pl keys k (2 * node + 1)).1
    if lt keys a b then (a, b) else (b, a)
theorem zfr (keys : List eA) : ∀ k k' node, 1 ≤ node → keys.length - node ≤ k → keys.length - node ≤ k' → pl keys k node = pl keys k' node := by
  intro k
  induction k with
  | zero =>
    intro k' node h1 h2 h3
    cases k' with
    | zero => rfl
    | succ k' => simp only [pl]; rw [if_pos (by omega)]
  | succ k ih =>
    intro k' node h1 h2 h3
    cases k' with
    | zero => simp only [pl]; rw [if_pos (by omega)]
    | succ k' =>
      simp only [pl]
      by_cases h : keys.length ≤ node
      · rw [if_pos h, if_pos h]
      · rw [if_neg h, if_neg h, ih k' (2 * node) (by omega) (by omega) (by omega), ih k' (2 * node + 1) (by omega) (by omega) (by omega)]
def nd (keys : List eA) (node : Nat) : Nat × Nat := pl keys keys.length node
theorem gO (keys : List eA) (node : Nat) (h : keys.length ≤ node) : nd keys node = (node - keys.length, 0) := by
  unfold nd
  cases hk : keys.length with
  | zero => simp [pl, hk]
  | succ n => simp only [pl]; rw [if_pos h, hk]
theorem fV (keys : List eA) (node : Nat) (h1 : 1 ≤ node) (h : node < keys.length) :
    nd keys node = if lt keys (nd keys (2 * node)).1 (nd keys (2 * node + 1)).1 then ((nd keys (2 * node)).1, (nd keys (2 * node + 1)).1) else ((nd keys (2 * node + 1)).1, (nd keys (2 * node)).1) := by
  have e1 : nd keys node = pl keys (keys.length + 1) node := zfr keys _ _ node h1 (by omega) (by omega)
  rw [e1]
  simp only [pl]
  rw [if_neg (by omega)]
  rfl
theorem nd_lt (keys : List eA) (m : Nat) : ∀ node, 1 ≤ node → node < 2 * keys.length → keys.length - node ≤ m → (nd keys node).1 < keys.length ∧ (nd keys node).2 < keys.length := by
  induction m with
  | zero =>
    intro node h1 h2 h3
    rw [gO keys node (by omega)]
    simp only
    omega
  | succ m ih =>
    intro node h1 h2 h3
    by_cases h : keys.length ≤ node
    · rw [gO keys node h]; simp only; omega
    · rw [fV keys node h1 (by omega)]
      have a := ih (2 * node) (by omega) (by omega) (by omega)
      have b := ih (2 * node + 1) (by omega) (by omega) (by omega)
      split
      · exact ⟨a.1, b.1⟩
      · exact ⟨b.1, a.1⟩
theorem bP (keys : List eA) (node : Nat) (h1 : 1 ≤ node) (h2 : node < 2 * keys.length) : (nd keys node).1 < keys.length ∧ (nd keys node).2 < keys.length :=
  nd_lt keys _ node h1 h2 (Nat.le_refl _)
theorem zbH (keys : List eA) (hpl : tI keys) (hl : keys.length ≤ 1000000) (m : Nat) : ∀ node : Nat, 1 ≤ node → node < 2 * keys.length → keys.length - node ≤ m →
    Ev (fun fu => aK fu keys (node : Int)) (((nd keys node).1 : Int), ((nd keys node).2 : Int)) := by
  induction m with
  | zero =>
    intro node h1 h2 h3
    rw [gO keys node (by omega)]
    refine Ev.succ (Ev.of (fun fu => ?_) (Ev.ret _))
    simp only [aK]
    rw [if_pos (by simp; omega), wr (by omega) (by omega)]
    congr 2
    omega
  | succ m ih =>
    intro node h1 h2 h3
    by_cases h : keys.length ≤ node
    · rw [gO keys node h]
      refine Ev.succ (Ev.of (fun fu => ?_) (Ev.ret _))
      simp only [aK]
      rw [if_pos (by simp; omega), wr (by omega) (by omega)]
      congr 2
      omega
    · have a := ih (2 * node) (by omega) (by omega) (by omega)
      have b := ih (2 * node + 1) (by omega) (by omega) (by omega)
      have ka := bP keys (2 * node) (by omega) (by omega)
      have kb := bP keys (2 * node + 1) (by omega) (by omega)
      refine Ev.succ ?_
      simp only [aK]
      have w1 : IntKind.i64.wrap (2 * (node : Int)) = ((2 * node : Nat) : Int) := by rw [wr (by omega) (by omega)]; omega
      have w2 : IntKind.i64.wrap (((2 * node : Nat) : Int) + 1) = ((2 * node + 1 : Nat) : Int) := by rw [wr (by omega) (by omega)]; omega
      simp only [w1, w2]
      rw [show (decide ((keys.length : Int) ≤ (node : Int))) = false by simp; omega]
      simp only [Bool.false_eq_true, ↓reduceIte]
      refine Ev.bind a (Ev.bind b (Ev.of (fun fu => ?_) (Ev.ret _)))
      simp only [zie fu keys hpl _ _ ka.1 kb.1, Option.bind_some]
      rw [fV keys node h1 (by omega)]
      split <;> rfl
def pf (keys : List eA) (i : Nat) : List Int := (List.range (2 * keys.length)).map fun j => if i < j then ((nd keys j).1 : Int) else 0
def lf (keys : List eA) (i : Nat) : List Int := (List.range keys.length).map fun j => if i < j then ((nd keys j).2 : Int) else 0
theorem yP (keys : List eA) (i : Nat) : (pf keys i).length = 2 * keys.length := by simp [pf]
theorem mJ (keys : List eA) (i : Nat) : (lf keys i).length = keys.length := by simp [lf]
theorem sQ (keys : List eA) (i j : Nat) (h : j < (pf keys i).length) : (pf keys i)[j] = if i < j then ((nd keys j).1 : Int) else 0 := by simp [pf]
theorem hP (keys : List eA) (i j : Nat) (h : j < (lf keys i).length) : (lf keys i)[j] = if i < j then ((nd keys j).2 : Int) else 0 := by simp [lf]
theorem iY (keys : List eA) (i : Nat) : (pf keys (i + 1)).set (i + 1) ((nd keys (i + 1)).1 : Int) = pf keys i := by
  refine List.ext_getElem (by simp [yP]) fun j h1 h2 => ?_
  rw [List.getElem_set, sQ]
  split
  · rename_i e; subst e; rw [sQ, if_pos (by omega)]
  · rename_i e; rw [sQ]
    by_cases h : i < j
    · rw [if_pos h, if_pos (by omega)]
    · rw [if_neg h, if_neg (by omega)]
theorem zb1 (keys : List eA) (i : Nat) : (lf keys (i + 1)).set (i + 1) ((nd keys (i + 1)).2 : Int) = lf keys i := by
  refine List.ext_getElem (by simp [mJ]) fun j h1 h2 => ?_
  rw [List.getElem_set, hP]
  split
  · rename_i e; subst e; rw [hP, if_pos (by omega)]
  · rename_i e; rw [hP]
    by_cases h : i < j
    · rw [if_pos h, if_pos (by omega)]
    · rw [if_neg h, if_neg (by omega)]
theorem zl5 (keys : List eA) (i : Nat) (hn : keys.length ≤ i + 1) : lf keys (i + 1) = lf keys i := by
  refine List.ext_getElem (by simp [mJ]) fun j h1 h2 => ?_
  rw [mJ] at h1
  rw [hP, hP, if_neg (by omega), if_neg (by omega)]
theorem zfK (keys : List eA) (hl : keys.length ≤ 1000000) : ∀ i : Nat, i < 2 * keys.length → Ev (fun fu => oG keys keys fu (i : Int) (pf keys i) (lf keys i)) (pf keys 0, lf keys 0) := by
  intro i
  induction i with
  | zero =>
    intro _
    refine Ev.succ (Ev.of (fun fu => ?_) (Ev.ret _))
    simp [oG]
  | succ i ih =>
    intro hi
    have hi' := ih (by omega)
    refine Ev.succ (Ev.of (fun fu => ?_) hi')
    have w1 : IntKind.i64.wrap (((i + 1 : Nat) : Int) - 1) = (i : Int) := by rw [wr (by omega) (by omega)]; omega
    have t1 : (((i + 1 : Nat) : Int)).toNat = i + 1 := rfl
    have p0 : decide ((0 : Int) < ((i + 1 : Nat) : Int)) = true := decide_eq_true (by omega)
    simp only [oG, p0, ↓reduceIte, w1, t1]
    rw [iB (pf keys (i + 1)) (i + 1) (by rw [yP]; omega)]
    simp only [Option.bind_some]
    by_cases h : keys.length ≤ i + 1
    · have d : decide ((keys.length : Int) ≤ ((i + 1 : Nat) : Int)) = true := by simp; omega
      simp only [d, ↓reduceIte]
      have e : IntKind.i64.wrap (((i + 1 : Nat) : Int) - (keys.length : Int)) = ((nd keys (i + 1)).1 : Int) := by
        rw [wr (by omega) (by omega), gO keys (i + 1) h]; simp only; omega
      rw [e, iY, zl5 keys i h]
    · have d : decide ((keys.length : Int) ≤ ((i + 1 : Nat) : Int)) = false := by simp; omega
      have w2 : IntKind.i64.wrap (2 * ((i + 1 : Nat) : Int)) = ((2 * (i + 1) : Nat) : Int) := by rw [wr (by omega) (by omega)]; omega
      have w3 : IntKind.i64.wrap (((2 * (i + 1) : Nat) : Int) + 1) = ((2 * (i + 1) + 1 : Nat) : Int) := by rw [wr (by omega) (by omega)]; omega
      simp only [d, Bool.false_eq_true, ↓reduceIte, w2, w3]
      rw [iB (pf keys (i + 1)) (2 * (i + 1)) (by rw [yP]; omega), iB (pf keys (i + 1)) (2 * (i + 1) + 1) (by rw [yP]; omega), iB (lf keys (i + 1)) (i + 1) (by rw [mJ]; omega)]
      simp only [Option.bind_some, sQ, show i + 1 < 2 * (i + 1) by omega, show i + 1 < 2 * (i + 1) + 1 by omega, ↓reduceIte]
      rw [zjS fu keys _ _ (bP keys (2 * (i + 1)) (by omega) (by omega)).1 (bP keys (2 * (i + 1) + 1) (by omega) (by omega)).1]
      simp only [Option.bind_some]
      have hn := fV keys (i + 1) (by omega) (by omega)
      cases hlt : lt keys (nd keys (2 * (i + 1))).1 (nd keys (2 * (i + 1) + 1)).1 with
      | true =>
        rw [hlt] at hn
        simp only [↓reduceIte] at hn
        simp only [Bool.not_true, Bool.false_eq_true, ↓reduceIte]
        rw [← iY keys i, ← zb1 keys i, hn]
      | false =>
        rw [hlt] at hn
        simp only [Bool.false_eq_true, ↓reduceIte] at hn
        simp only [Bool.not_false, ↓reduceIte]
        rw [← iY keys i, ← zb1 keys i, hn]
def aE (keys : List eA) : eB := ⟨keys, lf keys 0, ((nd keys 1).1 : Int)⟩
theorem za6 (keys : List eA) (h0 : 0 < keys.length) (hl : keys.length ≤ 1000000) : Ev (fun fu => lN fu keys) (aE keys) := by
  have w1 : IntKind.i64.wrap (2 * (keys.length : Int)) = ((2 * keys.length : Nat) : Int) := by rw [wr (by omega) (by omega)]; omega
  have w2 : IntKind.i64.wrap (((2 * keys.length : Nat) : Int) - 1) = ((2 * keys.length - 1 : Nat) : Int) := by rw [wr (by omega) (by omega)]; omega
  have hne : keys.isEmpty = false := by cases keys; simp at h0; rfl
  simp only [lN, kM, jQ, Option.bind_some, w1, w2, hne, Bool.false_eq_true, ↓reduceIte]
  have g1 : (0 : Int) ≤ ((2 * keys.length : Nat) : Int) ∧ ((2 * keys.length : Nat) : Int) ≤ ((2 * keys.length : Nat) : Int) ∧ ((2 * keys.length : Nat) : Int) ≤ 9223372036854775807 ∧ 8 * ((2 * keys.length : Nat) : Int) ≤ 281474976710656 := by omega
  have g2 : 2 * ((0 + keys.length) * 24) ≤ 281474976710656 := by omega
  have g3 : (0 : Int) ≤ (keys.length : Int) ∧ (keys.length : Int) ≤ (keys.length : Int) ∧ (keys.length : Int) ≤ 9223372036854775807 ∧ 8 * (keys.length : Int) ≤ 281474976710656 := by omega
  simp only [if_pos g1, if_pos g2, if_pos g3, Option.bind_some]
  have q1 : (List.replicate ((2 * keys.length : Nat) : Int).toNat 0 : List Int) = pf keys (2 * keys.length - 1) := by
    refine List.ext_getElem (by rw [yP, List.length_replicate]; omega) fun j h1 h2 => ?_
    rw [yP] at h2
    rw [sQ, if_neg (by omega)]; simp
  have q2 : (List.replicate keys.length 0 : List Int) = lf keys (2 * keys.length - 1) := by
    refine List.ext_getElem (by simp [mJ]) fun j h1 h2 => ?_
    rw [mJ] at h2
    rw [hP, if_neg (by omega)]; simp
  rw [q1, q2]
  refine Ev.bind (zfK keys hl _ (by omega)) (Ev.of (fun fu => ?_) (Ev.ret _))
  simp only
  rw [show (1 : Int) = ((1 : Nat) : Int) from rfl, iB (pf keys 0) 1 (by rw [yP]; omega)]
  simp only [Option.bind_some, sQ, Nat.lt_one_iff, ↓reduceIte, aE]
theorem zfc (keys : List eA) (hpl : tI keys) (hl : keys.length ≤ 1000000) (m : Nat) : ∀ n : Nat, n + m = keys.length → Ev (fun fu => aH keys fu (n : Int)) (.inl ()) := by
  induction m with
  | zero =>
    intro n hn
    refine Ev.succ (Ev.of (fun fu => ?_) (Ev.ret _))
    simp [aH, show ¬ (n : Int) < (keys.length : Int) by omega]
  | succ m ih =>
    intro n hn
    have hnl : n < keys.length := by omega
    have w1 : IntKind.i64.wrap ((n : Int) + 1) = ((n + 1 : Nat) : Int) := by rw [wr (by omega) (by omega)]; rfl
    refine Ev.succ (Ev.of (fun fu => ?_) (ih (n + 1) (by omega)))
    simp only [aH, kQ, w1, iB keys n hnl]
    have k1 := hpl _ (List.getElem_mem hnl)
    have d : decide ((n : Int) < (keys.length : Int)) = true := decide_eq_true (by omega)
    cases h : keys[n].Done with
    | false => simp [h, hnl, -Int.natCast_add]
    | true => simp [h, hnl, k1 h, -Int.natCast_add]
theorem za8 (keys : List eA) (hpl : tI keys) (h0 : 0 < keys.length) (hl : keys.length ≤ 32) : Ev (fun fu => tK fu keys) 0 := by
  have d1 : decide ((keys.length : Int) = 0) = false := decide_eq_false (by omega)
  have d2 : decide ((32 : Int) < (keys.length : Int)) = false := decide_eq_false (by omega)
  simp only [tK, iQ, wP, d1, d2, Bool.false_eq_true, ↓reduceIte]
  refine Ev.bind (a := false) (Ev.bind (a := (-1 : Int)) (Ev.bind (zfc keys hpl (by omega) keys.length 0 (by omega)) (Ev.ret _)) (Ev.of (fun fu => ?_) (Ev.ret _))) (Ev.of (fun fu => ?_) (Ev.ret _))
  · rfl
  · rfl
theorem zim (keys : List eA) (hpl : tI keys) (h0 : 0 < keys.length) (hl : keys.length ≤ 32) : Ev (fun fu => fO fu keys) (aE keys, 0) := by
  unfold fO
  refine Ev.bind (za8 keys hpl h0 hl) ?_
  simp only [decide_true, Bool.not_true, Bool.false_eq_true, ↓reduceIte]
  exact Ev.bind (za6 keys h0 (by omega)) (Ev.ret _)
theorem zfB (keys : List eA) (hpl : tI keys) (hl : keys.length ≤ 1000000) (m : Nat) : ∀ n : Nat, n + m = keys.length → Ev (fun fu => xK keys fu (n : Int)) (.inl ()) := by
  induction m with
  | zero =>
    intro n hn
    refine Ev.succ (Ev.of (fun fu => ?_) (Ev.ret _))
    simp [xK, show ¬ (n : Int) < (keys.length : Int) by omega]
  | succ m ih =>
    intro n hn
    have hnl : n < keys.length := by omega
    have w1 : IntKind.i64.wrap ((n : Int) + 1) = ((n + 1 : Nat) : Int) := by rw [wr (by omega) (by omega)]; rfl
    refine Ev.succ (Ev.of (fun fu => ?_) (ih (n + 1) (by omega)))
    simp only [xK, w1, iB keys n hnl]
    have k1 := hpl _ (List.getElem_mem hnl)
    have d : decide ((n : Int) < (keys.length : Int)) = true := decide_eq_true (by omega)
    cases h : keys[n].Done with
    | false => simp [h, hnl, -Int.natCast_add]
    | true => simp [h, hnl, k1 h, -Int.natCast_add]
def uf (keys : List eA) (i : Nat) : List Int := (List.range keys.length).map fun j => if 0 < j ∧ j < i then ((nd keys j).2 : Int) else 0
theorem aT (keys : List eA) (i : Nat) : (uf keys i).length = keys.length := by simp [uf]
theorem oU (keys : List eA) (i j : Nat) (h : j < (uf keys i).length) : (uf keys i)[j] = if 0 < j ∧ j < i then ((nd keys j).2 : Int) else 0 := by simp [uf]
theorem uf_set (keys : List eA) (i : Nat) (hi : 0 < i) : (uf keys i).set i ((nd keys i).2 : Int) = uf keys (i + 1) := by
  refine List.ext_getElem (by simp [aT]) fun j h1 h2 => ?_
  rw [List.getElem_set, oU]
  split
  · rename_i e; subst e; rw [oU, if_pos (by omega)]
  · rename_i e; rw [oU]
    by_cases h : 0 < j ∧ j < i
    · rw [if_pos h, if_pos (by omega)]
    · rw [if_neg h, if_neg (by omega)]
theorem zg3 (keys : List eA) (hpl : tI keys) (hl : keys.length ≤ 1000000) (m : Nat) : ∀ n : Nat, 0 < n → n + m = keys.length → Ev (fun fu => tL keys fu (n : Int) (uf keys n)) (uf keys keys.length) := by
  induction m with
  | zero =>
    intro n h0 hn
    obtain rfl : n = keys.length := by omega
    refine Ev.succ (Ev.of (fun fu => ?_) (Ev.ret _))
    simp [tL]
  | succ m ih =>
    intro n h0 hn
    have hnl : n < keys.length := by omega
    have w1 : IntKind.i64.wrap ((n : Int) + 1) = ((n + 1 : Nat) : Int) := by rw [wr (by omega) (by omega)]; rfl
    have d : decide ((n : Int) < (keys.length : Int)) = true := decide_eq_true (by omega)
    refine Ev.succ ?_
    simp only [tL, w1, d, ↓reduceIte]
    refine Ev.bind (zbH keys hpl hl keys.length n h0 (by omega) (by omega)) (Ev.of (fun fu => ?_) (ih (n + 1) (by omega) (by omega)))
    rw [iB (uf keys n) n (by rw [aT]; omega)]
    simp only [Option.bind_some, Int.toNat_natCast]
    rw [uf_set keys n h0]
theorem zlp (keys : List eA) (hpl : tI keys) (h0 : 0 < keys.length) (hl : keys.length ≤ 1000000) : Ev (fun fu => qT fu keys) (aE keys) := by
  have g2 : 2 * ((0 + keys.length) * 24) ≤ 281474976710656 := by omega
  have g3 : (0 : Int) ≤ (keys.length : Int) ∧ (keys.length : Int) ≤ (keys.length : Int) ∧ (keys.length : Int) ≤ 9223372036854775807 ∧ 8 * (keys.length : Int) ≤ 281474976710656 := by omega
  simp only [qT, if_pos g2, if_pos g3]
  have q2 : (List.replicate keys.length 0 : List Int) = uf keys 1 := by
    refine List.ext_getElem (by simp [aT]) fun j h1 h2 => ?_
    rw [aT] at h2
    rw [oU, if_neg (by omega)]; simp
  have q3 : uf keys keys.length = lf keys 0 := by
    refine List.ext_getElem (by simp [aT, mJ]) fun j h1 h2 => ?_
    rw [aT] at h1
    rw [oU, hP]
    by_cases h : 0 < j
    · rw [if_pos ⟨h, h1⟩, if_pos h]
    · rw [if_neg (by omega), if_neg h]
  rw [q2]
  have a := zg3 keys hpl hl (keys.length - 1) 1 (by omega) (by omega)
  have b := zbH keys hpl hl keys.length 1 (by omega) (by omega) (by omega)
  refine Ev.bind a (Ev.bind b (Ev.of (fun fu => ?_) (Ev.ret _)))
  rw [q3]; rfl
theorem zix (keys : List eA) (hpl : tI keys) (h0 : 0 < keys.length) (hl : keys.length ≤ 32) : Ev (fun fu => yT fu keys) (aE keys, 0) := by
  unfold yT
  have hr : Ev (fun fu => fT fu keys) 0 := by
    have d1 : decide ((keys.length : Int) = 0) = false := decide_eq_false (by omega)
    have d2 : decide ((32 : Int) < (keys.length : Int)) = false := decide_eq_false (by omega)
    simp only [fT, d1, d2, Bool.false_eq_true, ↓reduceIte]
    exact Ev.bind (zfB keys hpl (by omega) keys.length 0 (by omega)) (Ev.ret _)
  refine Ev.bind hr ?_
  simp only [decide_true, Bool.not_true, Bool.false_eq_true, ↓reduceIte]
  exact Ev.bind (zlp keys hpl h0 (by omega)) (Ev.ret _)
def kG (l : List aA) (a : Nat) : eA := match l[a]? with | some e => ⟨e.Key, false⟩ | none => ⟨[], true⟩
def hC (runs : List (List aA)) (at' : List Nat) : List eA := (List.range runs.length).map fun i => kG (runs[i]?.getD []) (at'[i]?.getD 0)
theorem qE (runs : List (List aA)) (a : List Nat) : (hC runs a).length = runs.length := by simp [hC]
theorem zP (runs : List (List aA)) (a : List Nat) (i : Nat) (h : i < (hC runs a).length) (h1 : i < runs.length) (h2 : i < a.length) : (hC runs a)[i] = kG runs[i] a[i] := by simp [hC, h1, h2]
theorem zfH (l : List aA) (a : Nat) : (kG l a).Done = true → (kG l a).Key = [] := by
  unfold kG; split <;> simp
theorem rZ (runs : List (List aA)) (a : List Nat) : tI (hC runs a) := by
  intro k hk
  simp only [hC, List.mem_map] at hk
  obtain ⟨i, -, rfl⟩ := hk
  exact zfH _ _
def At (runs : List (List aA)) (a : List Nat) : Prop := a.length = runs.length ∧ ∀ i (h : i < runs.length) (h2 : i < a.length), a[i] ≤ runs[i].length
def cD (a : List Nat) : List Int := a.map fun (n : Nat) => (n : Int)
theorem kO (a : List Nat) : (cD a).length = a.length := by simp [cD]
theorem dM (a : List Nat) (i : Nat) (h : i < a.length) : ix (cD a) (i : Int) = some ((a[i] : Nat) : Int) := by
  rw [iB (cD a) i (by rw [kO]; exact h)]; simp [cD]
theorem zdP (fu : Nat) (l : List aA) (a : Nat) (h : a ≤ l.length) : jK fu l (a : Int) = some (kG l a) := by
  unfold jK kG
  by_cases e : a = l.length
  · subst e; simp
  · have hl : a < l.length := by omega
    have d : decide ((a : Int) = (l.length : Int)) = false := decide_eq_false (by omega)
    rw [d, iB l a hl]; simp [hl]
def kf (runs : List (List aA)) (a : List Nat) (n : Nat) : List eA := (List.range runs.length).map fun i => if i < n then kG (runs[i]?.getD []) (a[i]?.getD 0) else ⟨[], false⟩
theorem aV (runs : List (List aA)) (a : List Nat) (n : Nat) : (kf runs a n).length = runs.length := by simp [kf]
theorem kf_set (runs : List (List aA)) (a : List Nat) (n : Nat) (h1 : n < runs.length) (h2 : n < a.length) : (kf runs a n).set n (kG runs[n] a[n]) = kf runs a (n + 1) := by
  refine List.ext_getElem (by simp [aV]) fun j k1 k2 => ?_
  rw [List.getElem_set]
  simp only [kf, List.getElem_map, List.getElem_range]
  split
  · rename_i e; subst e; simp [h1, h2]
  · rename_i e
    by_cases h : j < n
    · rw [if_pos h, if_pos (by omega)]
    · rw [if_neg h, if_neg (by omega)]
theorem zkh (runs : List (List aA)) (a : List Nat) (ha : At runs a) (hl : runs.length ≤ 1000000) (m : Nat) : ∀ n : Nat, n + m = runs.length →
    Ev (fun fu => qH runs (cD a) fu (n : Int) (kf runs a n)) (hC runs a) := by
  induction m with
  | zero =>
    intro n hn
    have : kf runs a n = hC runs a := by
      refine List.ext_getElem (by simp [aV, qE]) fun j h1 h2 => ?_
      rw [aV] at h1
      simp only [kf, hC, List.getElem_map, List.getElem_range]
      rw [if_pos (by omega)]
    rw [this]
    refine Ev.succ (Ev.of (fun fu => ?_) (Ev.ret _))
    simp [qH, show ¬ (n : Int) < (runs.length : Int) by omega]
  | succ m ih =>
    intro n hn
    have hnl : n < runs.length := by omega
    have hna : n < a.length := by rw [ha.1]; exact hnl
    have w1 : IntKind.i64.wrap ((n : Int) + 1) = ((n + 1 : Nat) : Int) := by rw [wr (by omega) (by omega)]; rfl
    have d : decide ((n : Int) < (runs.length : Int)) = true := decide_eq_true (by omega)
    refine Ev.succ (Ev.of (fun fu => ?_) (ih (n + 1) (by omega)))
    simp only [qH, w1, d, ↓reduceIte, iB runs n hnl, dM a n hna, Option.bind_some, zdP fu runs[n] a[n] (ha.2 n hnl hna)]
    rw [iB (kf runs a n) n (by rw [aV]; exact hnl)]
    simp only [Option.bind_some, Int.toNat_natCast]
    rw [kf_set runs a n hnl hna]
theorem zdo (runs : List (List aA)) (a : List Nat) (ha : At runs a) (h0 : 0 < runs.length) (hl : runs.length ≤ 32) : Ev (fun fu => xM fu runs (cD a)) (aE (hC runs a)) := by
  have g3 : (0 : Int) ≤ (runs.length : Int) ∧ (runs.length : Int) ≤ (runs.length : Int) ∧ (runs.length : Int) ≤ 9223372036854775807 ∧ 24 * (runs.length : Int) ≤ 281474976710656 := by omega
  simp only [xM, if_pos g3]
  have q : (List.replicate runs.length (eA.mk [] false) : List eA) = kf runs a 0 := by
    refine List.ext_getElem (by simp [aV]) fun j h1 h2 => ?_
    simp [kf]
  rw [q]
  refine Ev.bind (zkh runs a ha (by omega) runs.length 0 (by omega)) ?_
  refine Ev.bind (zim (hC runs a) (rZ runs a) (by rw [qE]; exact h0) (by rw [qE]; exact hl)) (Ev.ret _)
theorem zgb (runs : List (List aA)) (a : List Nat) (n : Nat) (h1 : n < runs.length) (h2 : n < a.length) : (hC runs a).take (n + 1) = (hC runs a).take n ++ [kG runs[n] a[n]] := by
  rw [List.take_succ_eq_append_getElem (by rw [qE]; exact h1), zP runs a n _ h1 h2]
theorem zhR (runs : List (List aA)) (a : List Nat) (ha : At runs a) (hl : runs.length ≤ 1000000) (m : Nat) : ∀ n : Nat, n + m = runs.length →
    Ev (fun fu => nK runs (cD a) fu (n : Int) ((hC runs a).take n)) (hC runs a) := by
  induction m with
  | zero =>
    intro n hn
    rw [List.take_of_length_le (by rw [qE]; omega)]
    refine Ev.succ (Ev.of (fun fu => ?_) (Ev.ret _))
    simp [nK, show ¬ (n : Int) < (runs.length : Int) by omega]
  | succ m ih =>
    intro n hn
    have hnl : n < runs.length := by omega
    have hna : n < a.length := by rw [ha.1]; exact hnl
    have w1 : IntKind.i64.wrap ((n : Int) + 1) = ((n + 1 : Nat) : Int) := by rw [wr (by omega) (by omega)]; rfl
    have d : decide ((n : Int) < (runs.length : Int)) = true := decide_eq_true (by omega)
    have hg : 2 * ((((hC runs a).take n).length + 1) * 24) ≤ 281474976710656 := by rw [List.length_take, qE]; omega
    have hle := ha.2 n hnl hna
    refine Ev.succ (Ev.of (fun fu => ?_) (ih (n + 1) (by omega)))
    simp only [nK, w1, d, ↓reduceIte, iB runs n hnl, dM a n hna, Option.bind_some, if_pos hg]
    rw [zgb runs a n hnl hna]
    by_cases e : a[n] = runs[n].length
    · have d2 : decide (((a[n] : Nat) : Int) = (runs[n].length : Int)) = true := decide_eq_true (by omega)
      simp only [d2, Bool.not_true, Bool.false_eq_true, ↓reduceIte]
      simp [kG, e]
    · have d2 : decide (((a[n] : Nat) : Int) = (runs[n].length : Int)) = false := decide_eq_false (by omega)
      have hlt : a[n] < runs[n].length := by omega
      simp only [d2, Bool.not_false, ↓reduceIte, iB runs[n] a[n] hlt, Option.bind_some]
      simp [kG, hlt]
theorem zaz (runs : List (List aA)) (a : List Nat) (ha : At runs a) (h0 : 0 < runs.length) (hl : runs.length ≤ 32) : Ev (fun fu => cS fu runs (cD a)) ⟨runs, cD a, aE (hC runs a)⟩ := by
  have g1 : 2 * ((0 + runs.length) * 24) ≤ 281474976710656 := by omega
  have g2 : 2 * ((0 + (cD a).length) * 8) ≤ 281474976710656 := by rw [kO, ha.1]; omega
  simp only [cS, if_pos g1, if_pos g2]
  refine Ev.bind (a := hC runs a) ?_ ?_
  · have := zhR runs a ha (by omega) runs.length 0 (by omega)
    simpa using this
  · exact Ev.bind (zix (hC runs a) (rZ runs a) (by rw [qE]; exact h0) (by rw [qE]; exact hl)) (Ev.ret _)
def yE (runs : List (List aA)) (a : List Nat) : kB := ⟨runs, cD a, aE (hC runs a)⟩
def qF (runs : List (List aA)) : List Nat := List.replicate runs.length 0
theorem aW (runs : List (List aA)) : At runs (qF runs) := ⟨by simp [qF], fun i h h2 => by simp [qF]⟩
theorem hY (runs : List (List aA)) : (List.replicate runs.length 0 : List Int) = cD (qF runs) := by simp [cD, qF]
def mQ : kB := ⟨[], [], ⟨[], [], 0⟩⟩
theorem zlF (runs : List (List aA)) (hf : jE runs) (hl : runs.length ≤ 1000) :
    ∃ r, Ev (fun fu => jL fu runs) r ∧ Ev (fun fu => aN fu runs) r ∧ ((tF runs ∧ r = (yE runs (qF runs), 0, 0)) ∨ (r.1 = mQ ∧ r.2.2 ≠ 0)) := by
  obtain ⟨⟨p, c⟩, r1, r2, r3⟩ := yZ runs hf hl
  rcases r3 with ⟨e, hg⟩ | hc
  · cases e
    obtain ⟨h0, h32, hr⟩ := hg
    have g3 : (0 : Int) ≤ (runs.length : Int) ∧ (runs.length : Int) ≤ (runs.length : Int) ∧ (runs.length : Int) ≤ 9223372036854775807 ∧ 8 * (runs.length : Int) ≤ 281474976710656 := by omega
    have g2 : 2 * ((0 + runs.length) * 24) ≤ 281474976710656 := by omega
    have hne : runs.isEmpty = false := by cases runs; simp at h0; rfl
    refine ⟨(yE runs (qF runs), 0, 0), ?_, ?_, .inl ⟨⟨h0, h32, hr⟩, rfl⟩⟩
    · unfold jL
      refine Ev.bind r1 ?_
      simp only [decide_true, Bool.not_true, Bool.false_eq_true, ↓reduceIte, if_pos g3, cN, hne, if_pos g2, Option.bind_some]
      rw [hY]
      exact Ev.bind (zdo runs _ (aW runs) h0 h32) (Ev.ret _)
    · unfold aN
      refine Ev.bind r2 ?_
      simp only [decide_true, Bool.not_true, Bool.false_eq_true, ↓reduceIte, if_pos g3]
      rw [hY]
      exact Ev.bind (zaz runs _ (aW runs) h0 h32) (Ev.ret _)
  · refine ⟨(mQ, p, c), ?_, ?_, .inr ⟨rfl, hc⟩⟩
    · unfold jL
      refine Ev.bind r1 (Ev.of (fun fu => ?_) (Ev.ret _))
      simp only [decide_eq_false hc, Bool.not_false, ↓reduceIte]; rfl
    · unfold aN
      refine Ev.bind r2 (Ev.of (fun fu => ?_) (Ev.ret _))
      simp only [decide_eq_false hc, Bool.not_false, ↓reduceIte]; rfl
def below (n w node : Nat) : Nat → Prop
  | 0 => node = w + n
  | k + 1 => node = w + n ∨ below n w (2 * node) k ∨ below n w (2 * node + 1) k
def up (n w d : Nat) : Nat := (w + n) / 2 ^ d
def gE (x c : Nat) : Prop := ∃ d, x / 2 ^ d = c
theorem gE.refl (x : Nat) : gE x x := ⟨0, by simp⟩
theorem gE.up {x c : Nat} (h : gE x c) : gE x (c / 2) := by
  obtain ⟨d, rfl⟩ := h
  exact ⟨d + 1, by rw [Nat.pow_succ, ← Nat.div_div_eq_div_mul]⟩
theorem gE.le {x c : Nat} (h : gE x c) : c ≤ x := by
  obtain ⟨d, rfl⟩ := h
  exact Nat.div_le_self _ _
theorem gE.chain {x a b : Nat} (ha : gE x a) (hb : gE x b) : gE a b ∨ gE b a := by
  obtain ⟨d, rfl⟩ := ha
  obtain ⟨e, rfl⟩ := hb
  rcases Nat.le_total d e with h | h
  · exact .inl ⟨e - d, by rw [Nat.div_div_eq_div_mul, ← Nat.pow_add, Nat.add_sub_cancel' h]⟩
  · exact .inr ⟨d - e, by rw [Nat.div_div_eq_div_mul, ← Nat.pow_add, Nat.add_sub_cancel' h]⟩
theorem gE.half {x c : Nat} (h : gE x c) : c = x ∨ c ≤ x / 2 := by
  obtain ⟨d, rfl⟩ := h
  cases d with
  | zero => simp
  | succ d =>
    right
    rw [Nat.pow_succ, Nat.mul_comm, ← Nat.div_div_eq_div_mul]
    exact Nat.div_le_self _ _
theorem gE.one {x p : Nat} (hp : 1 ≤ p) (ha : gE x (2 * p)) (hb : gE x (2 * p + 1)) : False := by
  rcases ha.chain hb with h | h
  · have := h.le; omega
  · rcases h.half with h | h <;> omega
theorem ziD (keys : List eA) (m : Nat) : ∀ node, 1 ≤ node → node < 2 * keys.length → keys.length - node ≤ m → gE ((nd keys node).1 + keys.length) node := by
  induction m with
  | zero =>
    intro node h1 h2 h3
    rw [gO keys node (by omega)]
    simp only
    rw [Nat.sub_add_cancel (by omega)]
    exact .refl _
  | succ m ih =>
    intro node h1 h2 h3
    by_cases h : keys.length ≤ node
    · rw [gO keys node h]
      simp only
      rw [Nat.sub_add_cancel h]
      exact .refl _
    · have a := ih (2 * node) (by omega) (by omega) (by omega)
      have b := ih (2 * node + 1) (by omega) (by omega) (by omega)
      rw [fV keys node h1 (by omega)]
      split
      · have := gE.up a; rwa [show 2 * node / 2 = node by omega] at this
      · have := gE.up b; rwa [show (2 * node + 1) / 2 = node by omega] at this
theorem za5 (keys : List eA) (node : Nat) (h1 : 1 ≤ node) (h2 : node < 2 * keys.length) : gE ((nd keys node).1 + keys.length) node := ziD keys _ node h1 h2 (Nat.le_refl _)
theorem zgR (keys : List eA) (hl : keys.length ≤ 1000000) (m : Nat) : ∀ n : Nat, n + m = keys.length → Ev (fun fu => jH (aE keys) (aE keys) fu (n : Int)) (.inl ()) := by
  induction m with
  | zero =>
    intro n hn
    refine Ev.succ (Ev.of (fun fu => ?_) (Ev.ret _))
    have d : decide ((n : Int) < ((aE keys).Lose.length : Int)) = false := decide_eq_false (by simp only [aE, mJ]; omega)
    simp only [jH, d, Bool.false_eq_true, ↓reduceIte]
  | succ m ih =>
    intro n hn
    have w1 : IntKind.i64.wrap ((n : Int) + 1) = ((n + 1 : Nat) : Int) := by rw [wr (by omega) (by omega)]; rfl
    refine Ev.succ (Ev.of (fun fu => ?_) (ih (n + 1) (by omega)))
    have d : decide ((n : Int) < ((aE keys).Lose.length : Int)) = true := decide_eq_true (by simp only [aE, mJ]; omega)
    simp only [jH, d, ↓reduceIte, w1, iB (aE keys).Lose n (by simp only [aE, mJ]; omega), Option.bind_some, decide_true, Bool.not_true, Bool.false_eq_true]
theorem zeD (keys : List eA) (hpl : tI keys) (h0 : 0 < keys.length) (hl : keys.length ≤ 32) : Ev (fun fu => uO fu (aE keys)) (0, 0) := by
  unfold uO
  refine Ev.bind (za8 keys hpl h0 hl) ?_
  have d : decide (((aE keys).Lose.length : Int) = ((aE keys).Keys.length : Int)) = true := decide_eq_true (by simp [aE, mJ])
  simp only [decide_true, Bool.not_true, Bool.false_eq_true, ↓reduceIte, d]
  refine Ev.bind (za6 keys h0 (by omega)) (Ev.bind (zgR keys (by omega) keys.length 0 (by omega)) (Ev.of (fun fu => ?_) (Ev.ret _)))
  simp
def sE (keys : List eA) : Nat := (nd keys 1).1
theorem cH (keys : List eA) (h0 : 0 < keys.length) : sE keys < keys.length := (bP keys 1 (by omega) (by omega)).1
theorem zhz (keys : List eA) (hpl : tI keys) (h0 : 0 < keys.length) (hl : keys.length ≤ 32) :
    Ev (fun fu => nM fu (aE keys)) (if (keys[sE keys]'(cH keys h0)).Done then 12 else 0) := by
  unfold nM
  refine Ev.bind (zeD keys hpl h0 hl) (Ev.of (fun fu => ?_) (Ev.ret _))
  have : ix (aE keys).Keys (aE keys).Win = some (keys[sE keys]'(cH keys h0)) := iB keys (sE keys) (cH keys h0)
  simp only [decide_true, Bool.not_true, Bool.false_eq_true, ↓reduceIte, this, Option.bind_some]
  split <;> rfl
theorem zmo (keys : List eA) (hpl : tI keys) (h0 : 0 < keys.length) (hl : keys.length ≤ 32) :
    Ev (fun fu => tM fu (aE keys)) (if (keys[sE keys]'(cH keys h0)).Done then (0, [], 12) else ((sE keys : Int), (keys[sE keys]'(cH keys h0)).Key, 0)) := by
  unfold tM
  refine Ev.bind (zhz keys hpl h0 hl) (Ev.of (fun fu => ?_) (Ev.ret _))
  have : ix (aE keys).Keys (aE keys).Win = some (keys[sE keys]'(cH keys h0)) := iB keys (sE keys) (cH keys h0)
  cases h : (keys[sE keys]'(cH keys h0)).Done with
  | true => rfl
  | false => simp only [decide_true, Bool.not_true, Bool.false_eq_true, ↓reduceIte, this, Option.bind_some]; rfl
theorem lt_trans (keys : List eA) (p q r : Nat) (hp : p < keys.length) (hq : q < keys.length) (hr : r < keys.length) (h : lt keys p q = true) (k : lt keys q r = true) : lt keys p r = true := by
  simp only [lt, List.getElem?_eq_getElem hp, List.getElem?_eq_getElem hq, List.getElem?_eq_getElem hr] at *
  generalize keys[p] = a at *
  generalize keys[q] = b at *
  generalize keys[r] = c at *
  obtain ⟨ak, ad⟩ := a
  obtain ⟨bk, bd⟩ := b
  obtain ⟨ck, cd⟩ := c
  simp only at *
  cases ad <;> cases bd <;> cases cd <;> simp at h k ⊢
  all_goals
    by_cases e1 : ak = bk
    · subst e1
      by_cases e2 : ak = ck
      · subst e2; simp at h k ⊢; omega
      · simp [e2] at k ⊢; exact k
    · simp [e1] at h
      by_cases e2 : bk = ck
      · subst e2; simp [e1]; exact h
      · simp [e2] at k
        have := fX h k
        have ne : ak ≠ ck := fun e => by subst e; rw [bH] at this; cases this
        simp [ne]; exact this
theorem gE.child {x c : Nat} (h : gE x c) (hne : c ≠ x) : ∃ b, gE x b ∧ b / 2 = c := by
  obtain ⟨d, rfl⟩ := h
  cases d with
  | zero => simp at hne
  | succ d => exact ⟨x / 2 ^ d, ⟨d, rfl⟩, by rw [Nat.pow_succ, ← Nat.div_div_eq_div_mul]⟩
theorem zeb (keys : List eA) (m : Nat) : ∀ node, 1 ≤ node → node < 2 * keys.length → keys.length - node ≤ m → ∀ x, x < keys.length → gE (x + keys.length) node → x ≠ (nd keys node).1 → lt keys (nd keys node).1 x = true := by
  have leaf : ∀ node, keys.length ≤ node → node < 2 * keys.length → ∀ x, x < keys.length → gE (x + keys.length) node → x ≠ (nd keys node).1 → lt keys (nd keys node).1 x = true := by
    intro node h1 h2 x hx ha hne
    rw [gO keys node h1] at hne
    simp only at hne
    rcases ha.half with h | h <;> omega
  induction m with
  | zero => intro node h1 h2 h3; exact leaf node (by omega) h2
  | succ m ih =>
    intro node h1 h2 h3 x hx ha hne
    by_cases h : keys.length ≤ node
    · exact leaf node h h2 x hx ha hne
    · have a := ih (2 * node) (by omega) (by omega) (by omega)
      have b := ih (2 * node + 1) (by omega) (by omega) (by omega)
      have ka := (bP keys (2 * node) (by omega) (by omega)).1
      have kb := (bP keys (2 * node + 1) (by omega) (by omega)).1
      obtain ⟨c, c1, c2⟩ := ha.child (by omega)
      have hn := fV keys node h1 (by omega)
      have dis : (nd keys (2 * node)).1 ≠ (nd keys (2 * node + 1)).1 := fun e => by
        have q1 := za5 keys (2 * node) (by omega) (by omega)
        have q2 := za5 keys (2 * node + 1) (by omega) (by omega)
        rw [e] at q1
        exact gE.one h1 q1 q2
      have sG := fY keys _ _ ka kb dis
      have side : c = 2 * node ∨ c = 2 * node + 1 := by omega
      cases hlt : lt keys (nd keys (2 * node)).1 (nd keys (2 * node + 1)).1 with
      | true =>
        rw [hlt] at hn sG
        simp only [↓reduceIte] at hn
        rw [hn] at hne ⊢
        rcases side with rfl | rfl
        · exact a x hx c1 hne
        · by_cases e : x = (nd keys (2 * node + 1)).1
          · subst e; exact hlt
          · exact lt_trans keys _ _ _ ka kb hx hlt (b x hx c1 e)
      | false =>
        rw [hlt] at hn sG
        simp only [Bool.false_eq_true, ↓reduceIte] at hn
        simp only [Bool.not_false] at sG
        rw [hn] at hne ⊢
        rcases side with rfl | rfl
        · by_cases e : x = (nd keys (2 * node)).1
          · subst e; exact sG
          · exact lt_trans keys _ _ _ kb ka hx sG (a x hx c1 e)
        · exact b x hx c1 hne
theorem oZ (l : List aA) (a : Nat) : (kG l a).Done = decide (l.length ≤ a) := by
  unfold kG
  by_cases h : a < l.length
  · simp [h]
  · simp [h]; omega
theorem bQ (l : List aA) (a : Nat) (h : a < l.length) : kG l a = ⟨l[a].Key, false⟩ := by simp [kG, h]
def uM (keys : List eA) (n : Nat) (b : Int) : Prop :=
  (b = -1 ∧ ∀ j (h : j < keys.length), j < n → keys[j].Done = true) ∨
  ∃ w : Nat, ∃ hw : w < keys.length, b = (w : Int) ∧ w < n ∧ keys[w].Done = false ∧ ∀ j, j < n → j < keys.length → j ≠ w → lt keys w j = true
theorem tZ (keys : List eA) (p q : Nat) (hp : p < keys.length) (hq : q < keys.length) (h1 : keys[p].Done = false) (h2 : keys[q].Done = true) : lt keys p q = true := by
  simp only [lt, List.getElem?_eq_getElem hp, List.getElem?_eq_getElem hq, h1, h2]; rfl
theorem zfL (keys : List eA) (n : Nat) (b : Int) (hn : n < keys.length) (h : uM keys n b) (hd : keys[n].Done = true) : uM keys (n + 1) b := by
  rcases h with ⟨e, h⟩ | ⟨w, hw, e, h1, h2, h3⟩
  · refine .inl ⟨e, fun j hj hn' => ?_⟩
    by_cases q : j = n
    · subst q; exact hd
    · exact h j hj (by omega)
  · refine .inr ⟨w, hw, e, by omega, h2, fun j hj hl hne => ?_⟩
    by_cases q : j = n
    · subst q; exact tZ keys w j hw hl h2 hd
    · exact h3 j (by omega) hl hne
theorem zh9 (keys : List eA) (n : Nat) (hn : n < keys.length) (h : uM keys n (-1)) (hd : keys[n].Done = false) : uM keys (n + 1) (n : Int) := by
  rcases h with ⟨e, h⟩ | ⟨w, hw, e, _⟩
  · refine .inr ⟨n, hn, rfl, by omega, hd, fun j hj hl hne => ?_⟩
    exact tZ keys n j hn hl hd (h j hl (by omega))
  · omega
theorem zaq (keys : List eA) (p q : Nat) (hp : p < keys.length) (hq : q < keys.length) (h1 : keys[p].Done = false) (h2 : keys[q].Done = false) :
    lt keys p q = if keys[p].Key = keys[q].Key then decide (p < q) else bl keys[p].Key keys[q].Key := by
  simp only [lt, List.getElem?_eq_getElem hp, List.getElem?_eq_getElem hq, h1, h2]
  by_cases e : keys[p].Key = keys[q].Key <;> simp [e]
theorem zhG (keys : List eA) (n w : Nat) (hn : n < keys.length) (hw : w < keys.length) (h : uM keys n (w : Int)) (hd : keys[n].Done = false) :
    uM keys (n + 1) (if bl keys[n].Key keys[w].Key = true then (n : Int) else (w : Int)) := by
  rcases h with ⟨e, _⟩ | ⟨w', hw', e, h1, h2, h3⟩
  · omega
  · obtain rfl : w' = w := by omega
    have k := zaq keys n w' hn hw hd h2
    have k' := zaq keys w' n hw hn h2 hd
    by_cases b : bl keys[n].Key keys[w'].Key = true
    · rw [if_pos b]
      have ne : ¬ keys[n].Key = keys[w'].Key := fun e => by rw [e, bH] at b; cases b
      rw [if_neg ne, b] at k
      refine .inr ⟨n, hn, rfl, by omega, hd, fun j hj hl hne => ?_⟩
      by_cases q : j = w'
      · subst q; exact k
      · exact lt_trans keys n w' j hn hw hl k (h3 j (by omega) hl q)
    · rw [if_neg b]
      refine .inr ⟨w', hw, rfl, by omega, h2, fun j hj hl hne => ?_⟩
      by_cases q : j = n
      · subst q
        rw [k']
        by_cases e2 : keys[w'].Key = keys[j].Key
        · rw [if_pos e2]; exact decide_eq_true (by omega)
        · rw [if_neg e2]
          rcases nS keys[w'].Key keys[j].Key with h | h | h
          · exact h
          · exact absurd h e2
          · exact absurd h b
      · exact h3 j (by omega) hl hne
theorem zff (runs : List (List aA)) (a : List Nat) (ha : At runs a) (hl : runs.length ≤ 1000000) (m : Nat) : ∀ (n : Nat) (b : Int), n + m = runs.length → uM (hC runs a) n b →
    ∃ r, Ev (fun fu => lO runs (cD a) fu b (n : Int)) r ∧ uM (hC runs a) runs.length r := by
  induction m with
  | zero =>
    intro n b hn hb
    obtain rfl : n = runs.length := by omega
    refine ⟨b, Ev.succ (Ev.of (fun fu => ?_) (Ev.ret _)), hb⟩
    simp [lO]
  | succ m ih =>
    intro n b hn hb
    have hnl : n < runs.length := by omega
    have hna : n < a.length := by rw [ha.1]; exact hnl
    have hk : n < (hC runs a).length := by rw [qE]; exact hnl
    have w1 : IntKind.i64.wrap ((n : Int) + 1) = ((n + 1 : Nat) : Int) := by rw [wr (by omega) (by omega)]; rfl
    have d : decide ((n : Int) < (runs.length : Int)) = true := decide_eq_true (by omega)
    have kg := zP runs a n hk hnl hna
    by_cases q : a[n] < runs[n].length
    · have d2 : decide (((a[n] : Nat) : Int) < (runs[n].length : Int)) = true := decide_eq_true (by omega)
      have hd : ((hC runs a)[n]).Done = false := by rw [kg, bQ _ _ q]
      by_cases hneg : b = -1
      · subst hneg
        obtain ⟨r, r1, r2⟩ := ih (n + 1) n (by omega) (zh9 _ n hk hb hd)
        refine ⟨r, Ev.succ (Ev.of (fun fu => ?_) r1), r2⟩
        simp only [lO, w1, d, ↓reduceIte, dM a n hna, iB runs n hnl, Option.bind_some, d2]
        rfl
      · obtain ⟨w, hw, rfl, h1, h2, h3⟩ : ∃ w : Nat, ∃ hw : w < (hC runs a).length, b = (w : Int) ∧ w < n ∧ (hC runs a)[w].Done = false ∧ True := by
          rcases hb with ⟨e, _⟩ | ⟨w, hw, e, h1, h2, _⟩
          · exact absurd e hneg
          · exact ⟨w, hw, e, h1, h2, trivial⟩
        have hwl : w < runs.length := by rw [qE] at hw; exact hw
        have hwa : w < a.length := by rw [ha.1]; exact hwl
        have kw := zP runs a w hw hwl hwa
        have qw : a[w] < runs[w].length := by
          rw [kw, oZ] at h2
          have := of_decide_eq_false h2
          omega
        have nx := zhG _ n w hk hw hb hd
        have e1 : (hC runs a)[n].Key = runs[n][a[n]].Key := by rw [kg, bQ _ _ q]
        have e2 : (hC runs a)[w].Key = runs[w][a[w]].Key := by rw [kw, bQ _ _ qw]
        rw [e1, e2] at nx
        have dn : decide ((w : Int) < 0) = false := decide_eq_false (by omega)
        obtain ⟨r, r1, r2⟩ := ih (n + 1) _ (by omega) nx
        refine ⟨r, Ev.succ (Ev.of (fun fu => ?_) r1), r2⟩
        simp only [lO, w1, d, ↓reduceIte, dM a n hna, iB runs n hnl, dM a w hwa, iB runs w hwl, iB runs[n] a[n] q, iB runs[w] a[w] qw, Option.bind_some, d2, dn, Bool.false_eq_true, bl]
        split <;> rfl
    · have d2 : decide (((a[n] : Nat) : Int) < (runs[n].length : Int)) = false := decide_eq_false (by omega)
      have hd : ((hC runs a)[n]).Done = true := by rw [kg, oZ]; exact decide_eq_true (by omega)
      obtain ⟨r, r1, r2⟩ := ih (n + 1) b (by omega) (zfL _ n b hk hb hd)
      refine ⟨r, Ev.succ (Ev.of (fun fu => ?_) r1), r2⟩
      simp only [lO, w1, d, ↓reduceIte, dM a n hna, iB runs n hnl, Option.bind_some, d2]
      rfl
theorem zjE (x : Nat) (h : 1 ≤ x) : gE x 1 := by
  induction x using Nat.strongRecOn with
  | _ x ih =>
    by_cases e : x = 1
    · subst e; exact .refl 1
    · obtain ⟨d, hd⟩ := ih (x / 2) (by omega) (by omega)
      exact ⟨d + 1, by rw [Nat.pow_succ, Nat.mul_comm, ← Nat.div_div_eq_div_mul]; exact hd⟩
theorem nY (keys : List eA) (x : Nat) (hx : x < keys.length) (h : x ≠ sE keys) : lt keys (sE keys) x = true :=
  zeb keys _ 1 (Nat.le_refl 1) (by omega) (Nat.le_refl _) x hx (zjE _ (by omega)) h
theorem zgQ (keys : List eA) (h0 : 0 < keys.length) (b : Int) (h : uM keys keys.length b) : b = if (keys[sE keys]'(cH keys h0)).Done then -1 else (sE keys : Int) := by
  have hw := cH keys h0
  rcases h with ⟨e, h⟩ | ⟨w, hw', e, h1, h2, h3⟩
  · rw [h _ hw hw]; exact e
  · by_cases q : w = sE keys
    · subst q; rw [h2]; exact e
    · have a := nY keys w hw' q
      have b' := h3 _ hw hw (Ne.symm q)
      have t := fY keys w (sE keys) hw' hw q
      rw [a, b'] at t; cases t
def wn (runs : List (List aA)) (a : List Nat) : Nat := sE (hC runs a)
def vG (a : List Nat) (w : Nat) : List Nat := a.set w (a[w]?.getD 0 + 1)
theorem zbD (a : List Nat) (w : Nat) (h : w < a.length) : vG a w = a.set w (a[w] + 1) := by simp [vG, h]
theorem kW (a : List Nat) (w : Nat) : (vG a w).length = a.length := by simp [vG]
theorem wn_lt (runs : List (List aA)) (a : List Nat) (h0 : 0 < runs.length) : wn runs a < runs.length := by
  have := cH (hC runs a) (by rw [qE]; exact h0)
  rwa [qE] at this
inductive Turn (runs : List (List aA)) (a : List Nat) (h0 : 0 < runs.length) : Prop
  | fin (h : ((hC runs a)[sE (hC runs a)]'(cH _ (by rw [qE]; exact h0))).Done = true) (all : ∀ i (h1 : i < runs.length) (h2 : i < a.length), a[i] = runs[i].length)
  | go (hw : wn runs a < runs.length) (hwa : wn runs a < a.length) (hq : a[wn runs a] < runs[wn runs a].length)
      (h : ((hC runs a)[sE (hC runs a)]'(cH _ (by rw [qE]; exact h0))) = ⟨runs[wn runs a][a[wn runs a]].Key, false⟩)
theorem turn (runs : List (List aA)) (a : List Nat) (ha : At runs a) (h0 : 0 < runs.length) : Turn runs a h0 := by
  have hw := wn_lt runs a h0
  have hwa : wn runs a < a.length := by rw [ha.1]; exact hw
  have hk := cH (hC runs a) (by rw [qE]; exact h0)
  have kg : (hC runs a)[sE (hC runs a)] = kG runs[wn runs a] a[wn runs a] := zP runs a (wn runs a) hk hw hwa
  by_cases q : a[wn runs a] < runs[wn runs a].length
  · exact .go hw hwa q (by rw [kg, bQ _ _ q])
  · have hd : (hC runs a)[sE (hC runs a)].Done = true := by rw [kg, oZ]; exact decide_eq_true (by omega)
    refine .fin hd fun i h1 h2 => ?_
    have hle := ha.2 i h1 h2
    by_cases e : i = wn runs a
    · subst e; omega
    · have hik : i < (hC runs a).length := by rw [qE]; exact h1
      have l := nY (hC runs a) i hik e
      by_cases hlt : a[i] < runs[i].length
      · have d2 : ((hC runs a)[i]).Done = false := by rw [zP runs a i hik h1 h2, bQ _ _ hlt]
        have := tZ (hC runs a) i (sE (hC runs a)) hik hk d2 hd
        have t := fY (hC runs a) i (sE (hC runs a)) hik hk e
        rw [l, this] at t; cases t
      · omega
theorem stp_at (runs : List (List aA)) (a : List Nat) (w : Nat) (ha : At runs a) (h1 : w < runs.length) (h2 : w < a.length) (h : a[w] < runs[w].length) : At runs (vG a w) := by
  refine ⟨by rw [kW]; exact ha.1, fun i k1 k2 => ?_⟩
  simp only [zbD a w h2, List.getElem_set]
  split
  · rename_i e; subst e; omega
  · exact ha.2 i k1 (by rw [kW] at k2; exact k2)
def lB (runs : List (List aA)) (a : List Nat) : Nat := (List.zipWith (fun l n => l.length - n) runs a).sum
theorem zbt : ∀ (runs : List (List aA)) (a : List Nat) (w : Nat) (h1 : w < runs.length) (h2 : w < a.length), a[w] < runs[w].length → lB runs (vG a w) + 1 = lB runs a
  | l :: runs, n :: a, 0, _, _, h => by
    simp only [List.getElem_cons_zero] at h
    simp [lB, vG]; omega
  | l :: runs, n :: a, w + 1, h1, h2, h => by
    have := zbt runs a w (by simpa using h1) (by simpa using h2) (by simpa using h)
    simp [lB, vG] at this ⊢; omega
theorem zb8 : ∀ (runs : List (List aA)) (a : List Nat), (∀ i (h1 : i < runs.length) (h2 : i < a.length), a[i] = runs[i].length) → lB runs a = 0
  | [], a, _ => by simp [lB]
  | _ :: _, [], _ => by simp [lB]
  | l :: runs, n :: a, h => by
    have h0 := h 0 (by simp) (by simp)
    have := zb8 runs a fun i h1 h2 => by have := h (i + 1) (by simp; omega) (by simp; omega); simpa using this
    simp [lB] at this h0 ⊢
    exact ⟨by omega, this⟩
def outs (runs : List (List aA)) : Nat → List Nat → List (aA × Nat)
  | 0, _ => []
  | n + 1, a => ((runs[wn runs a]?.getD [])[a[wn runs a]?.getD 0]?.getD ⟨[], [], false, 0⟩, wn runs a) :: outs runs n (vG a (wn runs a))
def ents (l : List (aA × Nat)) : List aA := l.map (·.1)
def froms (l : List (aA × Nat)) : List Int := l.map fun x => (x.2 : Int)
def jU (runs : List (List aA)) : Nat → List Nat → List Nat
  | 0, a => a
  | n + 1, a => jU runs n (vG a (wn runs a))
def pick {ρ : Type} (c : Nat → Option ρ) : Nat → Nat → Sum Unit ρ
  | 0, _ => .inl ()
  | m + 1, n => match c n with | some r => .inr r | none => pick c m (n + 1)
theorem Ev.loop {ρ : Type} {L : Nat → Int → Option (Sum Unit ρ)} {len : Nat} (c : Nat → Option ρ) (stop : Ev (fun fu => L fu (len : Int)) (.inl ()))
    (step : ∀ n, n < len → (∀ r, c n = some r → Ev (fun fu => L fu (n : Int)) (.inr r)) ∧ (c n = none → ∀ r, Ev (fun fu => L fu ((n + 1 : Nat) : Int)) r → Ev (fun fu => L fu (n : Int)) r)) (m : Nat) :
    ∀ n, n + m = len → Ev (fun fu => L fu (n : Int)) (pick c m n) := by
  induction m with
  | zero => intro n hn; obtain rfl : n = len := by omega
            exact stop
  | succ m ih =>
    intro n hn
    obtain ⟨s1, s2⟩ := step n (by omega)
    simp only [pick]
    cases h : c n with
    | some r => exact s1 r h
    | none => exact s2 h _ (ih (n + 1) (by omega))
theorem zaE {ρ : Type} {c : Nat → Option ρ} {m n : Nat} {u : Unit} (h : pick c m n = .inl u) : ∀ i, n ≤ i → i < n + m → c i = none := by
  induction m generalizing n with
  | zero => intro i h1 h2; omega
  | succ m ih =>
    intro i h1 h2
    simp only [pick] at h
    cases hc : c n with
    | some r => rw [hc] at h; cases h
    | none =>
      rw [hc] at h
      by_cases e : i = n
      · subst e; exact hc
      · exact ih h i (by omega) (by omega)
theorem zhp {ρ : Type} {c : Nat → Option ρ} {m n : Nat} (h : ∀ i, n ≤ i → i < n + m → c i = none) : pick c m n = .inl () := by
  induction m generalizing n with
  | zero => rfl
  | succ m ih => simp only [pick, h n (by omega) (by omega)]; exact ih fun i h1 h2 => h i (by omega) (by omega)
theorem xV {ρ : Type} {c : Nat → Option ρ} {m n : Nat} {r : ρ} (h : pick c m n = .inr r) : ∃ i, n ≤ i ∧ i < n + m ∧ c i = some r := by
  induction m generalizing n with
  | zero => cases h
  | succ m ih =>
    simp only [pick] at h
    cases hc : c n with
    | some r' => rw [hc] at h; cases h; exact ⟨n, by omega, by omega, hc⟩
    | none =>
      rw [hc] at h
      obtain ⟨i, h1, h2, h3⟩ := ih h
      exact ⟨i, by omega, by omega, h3⟩
theorem gD (n : Nat) (h : n < 9223372036854775807) : IntKind.i64.wrap ((n : Int) + 1) = ((n + 1 : Nat) : Int) := by rw [wr (by omega) (by omega)]; rfl
theorem zcl (x y : aA) : aA.eqb x y = decide (x = y) := by
  obtain ⟨a, b, c, d⟩ := x
  obtain ⟨a', b', c', d'⟩ := y
  by_cases h1 : a = a' <;> by_cases h2 : b = b' <;> by_cases h3 : c = c' <;> by_cases h4 : d = d' <;> simp [aA.eqb, h1, h2, h3, h4]
theorem zdf (x y : eA) : eA.eqb x y = decide (x = y) := by
  obtain ⟨a, b⟩ := x
  obtain ⟨a', b'⟩ := y
  by_cases h1 : a = a' <;> by_cases h2 : b = b' <;> simp [eA.eqb, h1, h2]
theorem Ev.eqs {α ρ : Type} [DecidableEq α] (bad : ρ) (l k : List α) (h : l.length = k.length) {L : Nat → Int → Option (Sum Unit ρ)}
    (stop : ∀ fu, L (fu + 1) (l.length : Int) = some (.inl ())) (step : ∀ fu n (h1 : n < l.length) (h2 : n < k.length), L (fu + 1) (n : Int) = if l[n] = k[n] then L fu ((n + 1 : Nat) : Int) else some (.inr bad)) :
    ∃ r, Ev (fun fu => L fu 0) r ∧ ((r = .inl () ∧ l = k) ∨ (r = .inr bad ∧ l ≠ k)) := by
  have lp := Ev.loop (L := L) (len := l.length) (fun i => if l[i]? = k[i]? then none else some bad)
    (Ev.succ (Ev.of stop (Ev.ret _))) (fun n hn => by
      have hk : n < k.length := by omega
      simp only [List.getElem?_eq_getElem hn, List.getElem?_eq_getElem hk, Option.some.injEq]
      refine ⟨fun r hr => Ev.succ (Ev.of (fun fu => step fu n hn hk) ?_), fun hr r q => Ev.succ (Ev.of (fun fu => step fu n hn hk) ?_)⟩
      · by_cases e : l[n] = k[n]
        · rw [if_pos e] at hr; cases hr
        · rw [if_neg e] at hr; cases hr; simp only [if_neg e]; exact Ev.ret _
      · by_cases e : l[n] = k[n]
        · simp only [if_pos e]; exact q
        · rw [if_neg e] at hr; cases hr) l.length 0 (by omega)
  cases hp : pick (fun i => if l[i]? = k[i]? then none else some bad) l.length 0 with
  | inl u =>
    rw [hp] at lp
    refine ⟨_, lp, .inl ⟨rfl, List.ext_getElem h fun i h1 h2 => ?_⟩⟩
    have := zaE hp i (by omega) (by omega)
    simp only [List.getElem?_eq_getElem h1, List.getElem?_eq_getElem h2, Option.some.injEq] at this
    by_cases e : l[i] = k[i]
    · exact e
    · rw [if_neg e] at this; cases this
  | inr r =>
    rw [hp] at lp
    obtain ⟨i, h1, h2, h3⟩ := xV hp
    by_cases e : l[i]? = k[i]?
    · simp [e] at h3
    · simp [e] at h3
      subst h3
      exact ⟨_, lp, .inr ⟨rfl, fun e' => by subst e'; simp at e⟩⟩
theorem zdp (l k : List aA) (hl : l.length < 1000000000000000000) : ∃ b, Ev (fun fu => oO fu l k) b ∧ (b = true ↔ l = k) := by
  unfold oO
  by_cases h : l.length = k.length
  · have hd : (!decide ((l.length : Int) = (k.length : Int))) = false := by simp; omega
    simp only [hd, Bool.false_eq_true, ↓reduceIte]
    obtain ⟨r, r1, r2⟩ := Ev.eqs false l k h (L := sL l k) (fun fu => by simp [sL]) (fun fu n h1 h2 => by
      have d : decide ((n : Int) < (l.length : Int)) = true := decide_eq_true (by omega)
      simp only [sL, d, ↓reduceIte, iB l n h1, iB k n h2, Option.bind_some, zcl, gD n (by omega)]
      by_cases e : l[n] = k[n] <;> simp [e])
    rcases r2 with ⟨rfl, e⟩ | ⟨rfl, e⟩
    · exact ⟨true, Ev.bind r1 (Ev.ret _), by simp [e]⟩
    · exact ⟨false, Ev.bind r1 (Ev.ret _), by simp [e]⟩
  · have hd : (!decide ((l.length : Int) = (k.length : Int))) = true := by simp; omega
    simp only [hd, ↓reduceIte]
    exact ⟨false, Ev.ret _, by simp; intro e; exact h (by rw [e])⟩
theorem za9 (l k : List Int) (hl : l.length < 1000000000000000000) : ∃ b, Ev (fun fu => mO fu l k) b ∧ (b = true ↔ l = k) := by
  unfold mO
  by_cases h : l.length = k.length
  · have hd : (!decide ((l.length : Int) = (k.length : Int))) = false := by simp; omega
    simp only [hd, Bool.false_eq_true, ↓reduceIte]
    obtain ⟨r, r1, r2⟩ := Ev.eqs false l k h (L := eM l k) (fun fu => by simp [eM]) (fun fu n h1 h2 => by
      have d : decide ((n : Int) < (l.length : Int)) = true := decide_eq_true (by omega)
      simp only [eM, d, ↓reduceIte, iB l n h1, iB k n h2, Option.bind_some, gD n (by omega)]
      by_cases e : l[n] = k[n] <;> simp [e])
    rcases r2 with ⟨rfl, e⟩ | ⟨rfl, e⟩
    · exact ⟨true, Ev.bind r1 (Ev.ret _), by simp [e]⟩
    · exact ⟨false, Ev.bind r1 (Ev.ret _), by simp [e]⟩
  · have hd : (!decide ((l.length : Int) = (k.length : Int))) = true := by simp; omega
    simp only [hd, ↓reduceIte]
    exact ⟨false, Ev.ret _, by simp; intro e; exact h (by rw [e])⟩
theorem zmO (a b : eB) (hl : a.Keys.length < 1000000000000000000) (h : a.Keys.length = b.Keys.length) : ∃ r, Ev (fun fu => cK a b fu 0) r ∧ ((r = .inl () ∧ a.Keys = b.Keys) ∨ (r = .inr false ∧ a.Keys ≠ b.Keys)) :=
  Ev.eqs false a.Keys b.Keys h (L := cK a b) (fun fu => by simp [cK]) (fun fu n h1 h2 => by
    have d : decide ((n : Int) < (a.Keys.length : Int)) = true := decide_eq_true (by omega)
    simp only [cK, d, ↓reduceIte, iB a.Keys n h1, iB b.Keys n h2, Option.bind_some, zdf, gD n (by omega)]
    by_cases e : a.Keys[n] = b.Keys[n] <;> simp [e])
theorem zcC (a b : eB) (hl : a.Keys.length < 1000000000000000000) (hl2 : a.Lose.length < 1000000000000000000) : ∃ r, Ev (fun fu => aP fu a b) r ∧ (r = true ↔ a = b) := by
  obtain ⟨i, i1, i2⟩ := za9 a.Lose b.Lose hl2
  obtain ⟨ak, al, aw⟩ := a
  obtain ⟨bk, bl, bw⟩ := b
  simp only at *
  unfold aP
  by_cases h : ak.length = bk.length
  · have hd : (!decide ((ak.length : Int) = (bk.length : Int))) = false := by simp; omega
    by_cases hw : aw = bw
    · simp only [hd, hw, decide_true, Bool.not_true, Bool.false_eq_true, ↓reduceIte, Option.bind_some]
      cases i with
      | false =>
        refine ⟨false, Ev.bind (Ev.bind i1 (Ev.ret _)) (Ev.ret _), ?_⟩
        simp at i2
        simp; intro _ e; exact absurd e i2
      | true =>
        obtain ⟨r, r1, r2⟩ := zmO ⟨ak, al, aw⟩ ⟨bk, bl, bw⟩ hl h
        subst hw
        rcases r2 with ⟨rfl, e⟩ | ⟨rfl, e⟩
        · refine ⟨true, Ev.bind (a := false) (Ev.bind i1 (Ev.ret _)) (Ev.bind r1 (Ev.ret _)), ?_⟩
          simp at i2 e
          simp [i2, e]
        · refine ⟨false, Ev.bind (a := false) (Ev.bind i1 (Ev.ret _)) (Ev.bind r1 (Ev.ret _)), ?_⟩
          simp at e
          simp; intro e'; exact absurd e' e
    · refine ⟨false, Ev.of (fun fu => ?_) (Ev.ret _), by simp; intro _ _ e; exact absurd e hw⟩
      simp [hd, hw]
  · refine ⟨false, Ev.of (fun fu => ?_) (Ev.ret _), by simp; intro e; exact absurd (by rw [e]) h⟩
    have hd : (!decide ((ak.length : Int) = (bk.length : Int))) = true := by simp; omega
    simp [hd]
theorem zeT (a b : kB) (hA : a.At.length < 1000000000000000000) (hR : a.Runs.length < 1000000000000000000) (hl : a.Tree.Keys.length < 1000000000000000000) (hl2 : a.Tree.Lose.length < 1000000000000000000)
    (hE : ∀ l ∈ a.Runs, l.length < 1000000000000000000) : ∃ r, Ev (fun fu => iV fu a b) r ∧ (r = true ↔ a = b) := by
  obtain ⟨i, i1, i2⟩ := za9 a.At b.At hA
  obtain ⟨j, j1, j2⟩ := zcC a.Tree b.Tree hl hl2
  obtain ⟨ar, aa, at'⟩ := a
  obtain ⟨br, ba, bt⟩ := b
  simp only at *
  unfold iV
  by_cases h : ar.length = br.length
  · have hd : (!decide ((ar.length : Int) = (br.length : Int))) = false := by simp; omega
    simp only [hd, Bool.false_eq_true, ↓reduceIte]
    cases i with
    | false =>
      refine ⟨false, Ev.bind (a := true) (Ev.bind i1 (Ev.ret _)) (Ev.bind (a := true) (Ev.ret _) (Ev.ret _)), ?_⟩
      simp at i2
      simp; intro _ e; exact absurd e i2
    | true =>
      cases j with
      | false =>
        refine ⟨false, Ev.bind (a := false) (Ev.bind i1 (Ev.ret _)) (Ev.bind (a := true) (Ev.bind j1 (Ev.ret _)) (Ev.ret _)), ?_⟩
        simp at j2
        simp; intro _ _ e; exact absurd e j2
      | true =>
        obtain ⟨r, r1, r2⟩ : ∃ r, Ev (fun fu => oI ⟨ar, aa, at'⟩ ⟨br, ba, bt⟩ fu 0) r ∧ ((r = .inl () ∧ ar = br) ∨ (r = .inr false ∧ ar ≠ br)) := by
          have lp := Ev.loop (L := oI ⟨ar, aa, at'⟩ ⟨br, ba, bt⟩) (len := ar.length) (fun i => if ar[i]? = br[i]? then none else some false)
            (Ev.succ (Ev.of (fun fu => by simp [oI]) (Ev.ret _))) (fun n hn => by
              have hk : n < br.length := by omega
              have d : decide ((n : Int) < (ar.length : Int)) = true := decide_eq_true (by omega)
              obtain ⟨q, q1, q2⟩ := zdp ar[n] br[n] (hE _ (List.getElem_mem hn))
              have f : ∀ fu, oI ⟨ar, aa, at'⟩ ⟨br, ba, bt⟩ (fu + 1) (n : Int) = (oO fu ar[n] br[n]).bind fun r => if r = true then oI ⟨ar, aa, at'⟩ ⟨br, ba, bt⟩ fu ((n + 1 : Nat) : Int) else some (.inr false) := fun fu => by
                simp only [oI, d, ↓reduceIte, iB ar n hn, iB br n hk, Option.bind_some, gD n (by omega)]
                congr 1; funext r; cases r <;> rfl
              simp only [List.getElem?_eq_getElem hn, List.getElem?_eq_getElem hk, Option.some.injEq]
              refine ⟨fun r hr => Ev.succ (Ev.of f (Ev.bind q1 ?_)), fun hr r q => Ev.succ (Ev.of f (Ev.bind q1 ?_))⟩
              · by_cases e : ar[n] = br[n]
                · rw [if_pos e] at hr; cases hr
                · rw [if_neg e] at hr; cases hr
                  simp only [if_neg (show ¬ q = true from fun z => e (q2.1 z))]; exact Ev.ret _
              · by_cases e : ar[n] = br[n]
                · simp only [if_pos (q2.2 e)]; exact q
                · rw [if_neg e] at hr; cases hr) ar.length 0 (by omega)
          cases hp : pick (fun i => if ar[i]? = br[i]? then none else some false) ar.length 0 with
          | inl u =>
            rw [hp] at lp
            refine ⟨_, lp, .inl ⟨rfl, List.ext_getElem h fun i h1 h2 => ?_⟩⟩
            have := zaE hp i (by omega) (by omega)
            simp only [List.getElem?_eq_getElem h1, List.getElem?_eq_getElem h2, Option.some.injEq] at this
            by_cases e : ar[i] = br[i]
            · exact e
            · rw [if_neg e] at this; cases this
          | inr r =>
            rw [hp] at lp
            obtain ⟨i, h1, h2, h3⟩ := xV hp
            by_cases e : ar[i]? = br[i]?
            · simp [e] at h3
            · simp [e] at h3
              subst h3
              exact ⟨_, lp, .inr ⟨rfl, fun e' => by subst e'; simp at e⟩⟩
        simp at i2 j2
        rcases r2 with ⟨rfl, e⟩ | ⟨rfl, e⟩
        · exact ⟨true, Ev.bind (a := false) (Ev.bind i1 (Ev.ret _)) (Ev.bind (a := false) (Ev.bind j1 (Ev.ret _)) (Ev.bind r1 (Ev.ret _))), by simp [e, i2, j2]⟩
        · exact ⟨false, Ev.bind (a := false) (Ev.bind i1 (Ev.ret _)) (Ev.bind (a := false) (Ev.bind j1 (Ev.ret _)) (Ev.bind r1 (Ev.ret _))), by simp [e]⟩
  · refine ⟨false, Ev.of (fun fu => ?_) (Ev.ret _), by simp; intro e; exact absurd (by rw [e]) h⟩
    have hd : (!decide ((ar.length : Int) = (br.length : Int))) = true := by simp; omega
    simp [hd]
theorem zmi (runs : List (List aA)) (a : List Nat) (ha : At runs a) (h0 : 0 < runs.length) (hl : runs.length ≤ 32) :
    Ev (fun fu => iZ fu runs (cD a)) (if ((hC runs a)[sE (hC runs a)]'(cH _ (by rw [qE]; exact h0))).Done then -1 else (wn runs a : Int)) := by
  unfold iZ
  obtain ⟨r, r1, r2⟩ := zff runs a ha (by omega) runs.length 0 (-1) (by omega) (.inl ⟨rfl, fun j h1 h2 => by omega⟩)
  have := zgQ (hC runs a) (by rw [qE]; exact h0) r (by rw [qE]; exact r2)
  rw [this] at r1
  exact Ev.bind r1 (Ev.ret _)
def dN (runs : List (List aA)) : Prop := runs.length ≤ 34 ∧ (∀ l ∈ runs, l.length ≤ 6000) ∧ ∀ l ∈ runs, ∀ e ∈ l, e.Key.length ≤ 200
theorem dN.fits {runs : List (List aA)} (h : dN runs) : jE runs := fun l hl e he => Nat.le_trans (h.2.2 l hl e he) (by decide)
theorem zaZ (runs : List (List aA)) (a : List Nat) (ha : At runs a) : (yE runs a).At.length = runs.length ∧ (yE runs a).Runs.length = runs.length ∧ (yE runs a).Tree.Keys.length = runs.length ∧ (yE runs a).Tree.Lose.length = runs.length := by
  simp [yE, aE, kO, qE, mJ, ha.1]
structure zaS (s : kB) : Prop where
  near : dN s.Runs
  at' : s.At.length ≤ 1000
  keys : s.Tree.Keys.length ≤ 1000
  lose : s.Tree.Lose.length ≤ 1000
theorem zmL (l k : List eA) (hl : l.length ≤ 1000) : ∃ b, Ev (fun fu => fK fu l k) b ∧ (b = true ↔ l = k) := by
  unfold fK
  by_cases h : l.length = k.length
  · have hd : (!decide ((l.length : Int) = (k.length : Int))) = false := by simp; omega
    simp only [hd, Bool.false_eq_true, ↓reduceIte]
    obtain ⟨r, r1, r2⟩ := Ev.eqs false l k h (L := gH l k) (fun fu => by simp [gH]) (fun fu n h1 h2 => by
      have d : decide ((n : Int) < (l.length : Int)) = true := decide_eq_true (by omega)
      simp only [gH, d, ↓reduceIte, iB l n h1, iB k n h2, Option.bind_some, zdf, gD n (by omega)]
      by_cases e : l[n] = k[n] <;> simp [e])
    rcases r2 with ⟨rfl, e⟩ | ⟨rfl, e⟩
    · exact ⟨true, Ev.bind r1 (Ev.ret _), by simp [e]⟩
    · exact ⟨false, Ev.bind r1 (Ev.ret _), by simp [e]⟩
  · have hd : (!decide ((l.length : Int) = (k.length : Int))) = true := by simp; omega
    simp only [hd, ↓reduceIte]
    exact ⟨false, Ev.ret _, by simp; intro e; exact h (by rw [e])⟩
theorem zk4 (l k : List Int) (hl : l.length ≤ 1000) : ∃ b, Ev (fun fu => yI fu l k) b ∧ (b = true ↔ l = k) := by
  unfold yI
  by_cases h : l.length = k.length
  · have hd : (!decide ((l.length : Int) = (k.length : Int))) = false := by simp; omega
    simp only [hd, Bool.false_eq_true, ↓reduceIte]
    obtain ⟨r, r1, r2⟩ := Ev.eqs false l k h (L := dH l k) (fun fu => by simp [dH]) (fun fu n h1 h2 => by
      have d : decide ((n : Int) < (l.length : Int)) = true := decide_eq_true (by omega)
      simp only [dH, d, ↓reduceIte, iB l n h1, iB k n h2, Option.bind_some, gD n (by omega)]
      by_cases e : l[n] = k[n] <;> simp [e])
    rcases r2 with ⟨rfl, e⟩ | ⟨rfl, e⟩
    · exact ⟨true, Ev.bind r1 (Ev.ret _), by simp [e]⟩
    · exact ⟨false, Ev.bind r1 (Ev.ret _), by simp [e]⟩
  · have hd : (!decide ((l.length : Int) = (k.length : Int))) = true := by simp; omega
    simp only [hd, ↓reduceIte]
    exact ⟨false, Ev.ret _, by simp; intro e; exact h (by rw [e])⟩
theorem ziM (a b : eB) (hk : a.Keys.length ≤ 1000) (hl : a.Lose.length ≤ 1000) : Ev (fun fu => tO fu a b) (decide (a = b)) := by
  obtain ⟨i, i1, i2⟩ := zmL a.Keys b.Keys hk
  obtain ⟨j, j1, j2⟩ := zk4 a.Lose b.Lose hl
  obtain ⟨ak, al, aw⟩ := a
  obtain ⟨bk, bl, bw⟩ := b
  simp only at *
  unfold tO
  by_cases hw : aw = bw
  · subst hw
    simp only [decide_true, ↓reduceIte]
    refine Ev.bind (Ev.bind i1 (Ev.ret _)) ?_
    cases i with
    | false =>
      simp at i2
      exact Ev.of (fun fu => by simp [i2]) (Ev.ret _)
    | true =>
      simp at i2
      refine Ev.bind (a := j) (Ev.bind j1 (Ev.ret _)) (Ev.of (fun fu => ?_) (Ev.ret _))
      cases j <;> simp at j2 <;> simp [i2, j2]
  · exact Ev.of (fun fu => by simp [hw]) (Ev.ret _)
def qK (s : kB) (i : Nat) : Option (Int × Int) :=
  match s.At[i]?, s.Runs[i]? with
  | some n, some l => if n < 0 ∨ (l.length : Int) < n then some ((i : Int), 6) else none
  | _, _ => none
theorem ze3 (s : kB) (h : s.At.length = s.Runs.length) (hs : s.At.length ≤ 1000) : Ev (fun fu => vF s fu 0) (pick (qK s) s.At.length 0) := by
  refine Ev.loop (L := vF s) (len := s.At.length) (qK s) (Ev.succ (Ev.of (fun fu => by simp [vF]) (Ev.ret _))) (fun n hn => ?_) s.At.length 0 (by omega)
  have hr : n < s.Runs.length := by omega
  have d : decide ((n : Int) < (s.At.length : Int)) = true := decide_eq_true (by omega)
  have f : ∀ fu, vF s (fu + 1) (n : Int) = if s.At[n] < 0 ∨ (s.Runs[n].length : Int) < s.At[n] then some (.inr ((n : Int), 6)) else vF s fu ((n + 1 : Nat) : Int) := fun fu => by
    simp only [vF, d, ↓reduceIte, iB s.At n hn, iB s.Runs n hr, Option.bind_some, gD n (by omega)]
    by_cases e1 : s.At[n] < 0 <;> by_cases e2 : (s.Runs[n].length : Int) < s.At[n] <;> simp [e1, e2]
  simp only [qK, List.getElem?_eq_getElem hn, List.getElem?_eq_getElem hr]
  refine ⟨fun r q => Ev.succ (Ev.of f ?_), fun q r k => Ev.succ (Ev.of f ?_)⟩
  · split at q
    · rename_i e; cases q; simp only [if_pos e]; exact Ev.ret _
    · cases q
  · split at q
    · cases q
    · rename_i e; simp only [if_neg e]; exact k
theorem zkk (s : kB) (h : s.At.length = s.Runs.length) (hs : s.At.length ≤ 1000) : Ev (fun fu => pN s fu 0) (pick (qK s) s.At.length 0) := by
  refine Ev.loop (L := pN s) (len := s.At.length) (qK s) (Ev.succ (Ev.of (fun fu => by simp [pN]) (Ev.ret _))) (fun n hn => ?_) s.At.length 0 (by omega)
  have hr : n < s.Runs.length := by omega
  have d : decide ((n : Int) < (s.At.length : Int)) = true := decide_eq_true (by omega)
  have f : ∀ fu, pN s (fu + 1) (n : Int) = if s.At[n] < 0 ∨ (s.Runs[n].length : Int) < s.At[n] then some (.inr ((n : Int), 6)) else pN s fu ((n + 1 : Nat) : Int) := fun fu => by
    simp only [pN, d, ↓reduceIte, iB s.At n hn, iB s.Runs n hr, Option.bind_some, gD n (by omega)]
    by_cases e1 : s.At[n] < 0 <;> by_cases e2 : (s.Runs[n].length : Int) < s.At[n] <;> simp [e1, e2]
  simp only [qK, List.getElem?_eq_getElem hn, List.getElem?_eq_getElem hr]
  refine ⟨fun r q => Ev.succ (Ev.of f ?_), fun q r k => Ev.succ (Ev.of f ?_)⟩
  · split at q
    · rename_i e; cases q; simp only [if_pos e]; exact Ev.ret _
    · cases q
  · split at q
    · cases q
    · rename_i e; simp only [if_neg e]; exact k
theorem places (s : kB) (h : s.At.length = s.Runs.length) (hp : pick (qK s) s.At.length 0 = .inl ()) : ∃ a, s.At = cD a ∧ At s.Runs a := by
  have hb : ∀ i (h1 : i < s.At.length) (h2 : i < s.Runs.length), 0 ≤ s.At[i] ∧ s.At[i] ≤ (s.Runs[i].length : Int) := by
    intro i h1 h2
    have := zaE hp i (by omega) (by omega)
    simp only [qK, List.getElem?_eq_getElem h1, List.getElem?_eq_getElem h2] at this
    split at this
    · cases this
    · omega
  refine ⟨s.At.map Int.toNat, ?_, by simp [h], fun i h1 h2 => ?_⟩
  · refine List.ext_getElem (by simp [cD]) fun i h1 h2 => ?_
    have := (hb i h1 (by omega)).1
    simp [cD]; omega
  · have := hb i (by omega) h1
    simp; omega
def xG (runs : List (List aA)) (a : List Nat) (w : Nat) (i : Nat) : Option (Int × Int) :=
  match runs[i]?, a[i]?, runs[w]?, a[w]? with
  | some l, some (n + 1), some r, some m =>
    match l[n]?, r[m]? with
    | some x, some y => if bl y.Key x.Key = true ∨ (x.Key = y.Key ∧ w < i) then some ((w : Int), 6) else none
    | _, _ => none
  | _, _, _, _ => none
theorem cmpKey (fu : Nat) (x y : List UInt8) : iK fu x y = some (if bl x y = true then -1 else if x = y then 0 else 1) := by
  simp only [iK, jO, beq_self_eq_true, Bool.not_true, Option.bind_some, Bool.false_eq_true, ↓reduceIte, bl]
  by_cases h : Op.bytesLess x y = true
  · simp [h]
  · by_cases e : x = y
    · subst e; have := bH x; simp only [bl] at this; simp [this]
    · simp [h, e]
theorem cmpInt (fu : Nat) (x y : Int) : cM fu x y = some (if x < y then -1 else if y < x then 1 else 0) := by
  simp only [cM, qN, decide_true, Bool.not_true, Option.bind_some, Bool.false_eq_true, ↓reduceIte, decide_eq_true_eq]
  split
  · rfl
  · split <;> rfl
theorem zl9 (x y : Int) : Ev (fun fu => wK fu [x, y]) (if x ≠ 0 then x else y) := by
  unfold wK
  by_cases hx : x = 0
  · subst hx
    by_cases hy : y = 0
    · subst hy
      refine Ev.bind (a := .inl ()) (Ev.succ (Ev.succ (Ev.succ (Ev.of (fun fu => ?_) (Ev.ret _))))) (Ev.of (fun fu => by simp) (Ev.ret _))
      simp [iH, ix, wr]
    · refine Ev.bind (a := .inr y) (Ev.succ (Ev.succ (Ev.of (fun fu => ?_) (Ev.ret _)))) (Ev.of (fun fu => by simp) (Ev.ret _))
      simp [iH, ix, wr, hy]
  · refine Ev.bind (a := .inr x) (Ev.succ (Ev.of (fun fu => ?_) (Ev.ret _))) (Ev.of (fun fu => by simp [hx]) (Ev.ret _))
    simp [iH, ix, hx]
theorem zlK (s : kB) (a : List Nat) (hA : s.At = cD a) (ha : At s.Runs a) (hs : a.length ≤ 1000) (hlen : ∀ l ∈ s.Runs, l.length ≤ 6000) (w : Nat) (hw : w < s.Runs.length) (hwa : w < a.length) (hq : a[w] < s.Runs[w].length) :
    Ev (fun fu => gF s ((w : Int), s.Runs[w][a[w]].Key, 0) fu 0) (pick (xG s.Runs a w) a.length 0) := by
  have hl : s.At.length = a.length := by rw [hA, kO]
  refine Ev.loop (L := gF s ((w : Int), s.Runs[w][a[w]].Key, 0)) (len := a.length) (xG s.Runs a w) (Ev.succ (Ev.of (fun fu => by simp [gF, hl]) (Ev.ret _))) (fun n hn => ?_) a.length 0 (by omega)
  have hr : n < s.Runs.length := by rw [← ha.1]; exact hn
  have d : decide ((n : Int) < (s.At.length : Int)) = true := decide_eq_true (by omega)
  have ixA : ix s.At (n : Int) = some ((a[n] : Nat) : Int) := by rw [hA]; exact dM a n hn
  have hle := ha.2 n hr hn
  have h6 := hlen _ (List.getElem_mem hr)
  simp only [xG, List.getElem?_eq_getElem hr, List.getElem?_eq_getElem hn, List.getElem?_eq_getElem hw, List.getElem?_eq_getElem hwa]
  cases hk : a[n] with
  | zero =>
    have f : ∀ fu, gF s ((w : Int), s.Runs[w][a[w]].Key, 0) (fu + 1) (n : Int) = gF s ((w : Int), s.Runs[w][a[w]].Key, 0) fu ((n + 1 : Nat) : Int) := fun fu => by
      simp only [gF, d, ↓reduceIte, ixA, hk, Option.bind_some, gD n (by omega)]
      simp
    simp only
    exact ⟨fun r q => by (simp at q), fun _ r k => Ev.succ (Ev.of f k)⟩
  | succ m =>
    have hm : m < s.Runs[n].length := by omega
    have w1 : IntKind.i64.wrap (((m + 1 : Nat) : Int) - 1) = (m : Int) := by rw [wr (by omega) (by omega)]; omega
    have d0 : decide ((0 : Int) < ((m + 1 : Nat) : Int)) = true := decide_eq_true (by omega)
    simp only [List.getElem?_eq_getElem hm, List.getElem?_eq_getElem hq]
    generalize hx : s.Runs[n][m] = x
    generalize hy : s.Runs[w][a[w]] = y
    have f : ∀ fu, gF s ((w : Int), y.Key, 0) (fu + 1) (n : Int) = ((wK fu [if bl x.Key y.Key = true then -1 else if x.Key = y.Key then 0 else 1, if (n : Int) < (w : Int) then -1 else if (w : Int) < (n : Int) then 1 else 0]).bind fun vr61 => some (decide (0 < vr61))).bind fun b62 => if b62 = true then some (.inr ((w : Int), 6)) else gF s ((w : Int), y.Key, 0) fu ((n + 1 : Nat) : Int) := fun fu => by
      simp only [gF, d, ↓reduceIte, ixA, hk, Option.bind_some, gD n (by omega), d0, iB s.Runs n hr, w1, iB s.Runs[n] m hm, hx, cmpKey, cmpInt]
    have o := zl9 (if bl x.Key y.Key = true then -1 else if x.Key = y.Key then 0 else 1) (if (n : Int) < (w : Int) then -1 else if (w : Int) < (n : Int) then 1 else 0)
    have hiff : decide (0 < (if (if bl x.Key y.Key = true then (-1 : Int) else if x.Key = y.Key then 0 else 1) ≠ 0 then (if bl x.Key y.Key = true then (-1 : Int) else if x.Key = y.Key then 0 else 1) else (if (n : Int) < (w : Int) then -1 else if (w : Int) < (n : Int) then 1 else 0))) = decide (bl y.Key x.Key = true ∨ (x.Key = y.Key ∧ w < n)) := by
      refine decide_eq_decide.2 ?_
      rcases nS x.Key y.Key with h | h | h
      · have hne : x.Key ≠ y.Key := fun e => by rw [e, bH] at h; cases h
        simp [h, gL h, hne]
      · simp only [h, bH, Bool.false_eq_true, ↓reduceIte, ne_eq, not_true_eq_false, true_and, false_or]
        by_cases q : (n : Int) < (w : Int)
        · rw [if_pos q]; omega
        · rw [if_neg q]
          by_cases q2 : (w : Int) < (n : Int)
          · rw [if_pos q2]; omega
          · rw [if_neg q2]; omega
      · have hne : x.Key ≠ y.Key := fun e => by rw [e, bH] at h; cases h
        simp [h, gL h, hne]
    refine ⟨fun r q => Ev.succ (Ev.of f ?_), fun q r k => Ev.succ (Ev.of f ?_)⟩
    · split at q
      · rename_i e; cases q
        refine Ev.bind (a := true) (Ev.bind o (Ev.of (fun fu => by rw [hiff, decide_eq_true e]) (Ev.ret _))) (Ev.ret _)
      · cases q
    · split at q
      · cases q
      · rename_i e
        refine Ev.bind (a := false) (Ev.bind o (Ev.of (fun fu => by rw [hiff, decide_eq_false e]) (Ev.ret _))) ?_
        simp only [Bool.false_eq_true, ↓reduceIte]; exact k
theorem zfI (s : kB) (a : List Nat) (hA : s.At = cD a) (ha : At s.Runs a) (hs : a.length ≤ 1000) (hlen : ∀ l ∈ s.Runs, l.length ≤ 6000) (w : Nat) (hw : w < s.Runs.length) (hwa : w < a.length) (hq : a[w] < s.Runs[w].length) :
    Ev (fun fu => bI s (w : Int) fu 0) (pick (xG s.Runs a w) a.length 0) := by
  have hl : s.Runs.length = a.length := by rw [ha.1]
  have dw : decide ((0 : Int) ≤ (w : Int)) = true := decide_eq_true (by omega)
  refine Ev.loop (L := bI s (w : Int)) (len := a.length) (xG s.Runs a w) (Ev.succ (Ev.of (fun fu => by simp [bI, hl]) (Ev.ret _))) (fun n hn => ?_) a.length 0 (by omega)
  have hr : n < s.Runs.length := by rw [← ha.1]; exact hn
  have d : decide ((n : Int) < (s.Runs.length : Int)) = true := decide_eq_true (by omega)
  have ixA : ix s.At (n : Int) = some ((a[n] : Nat) : Int) := by rw [hA]; exact dM a n hn
  have ixW : ix s.At (w : Int) = some ((a[w] : Nat) : Int) := by rw [hA]; exact dM a w hwa
  have hle := ha.2 n hr hn
  have h6 := hlen _ (List.getElem_mem hr)
  simp only [xG, List.getElem?_eq_getElem hr, List.getElem?_eq_getElem hn, List.getElem?_eq_getElem hw, List.getElem?_eq_getElem hwa]
  cases hk : a[n] with
  | zero =>
    have f : ∀ fu, bI s (w : Int) (fu + 1) (n : Int) = bI s (w : Int) fu ((n + 1 : Nat) : Int) := fun fu => by
      simp only [bI, d, dw, ↓reduceIte, ixA, hk, Option.bind_some, gD n (by omega)]
      simp
    simp only
    exact ⟨fun r q => by (simp at q), fun _ r k => Ev.succ (Ev.of f k)⟩
  | succ m =>
    have hm : m < s.Runs[n].length := by omega
    have w1 : IntKind.i64.wrap (((m + 1 : Nat) : Int) - 1) = (m : Int) := by rw [wr (by omega) (by omega)]; omega
    have d0 : decide (((m + 1 : Nat) : Int) = 0) = false := decide_eq_false (by omega)
    simp only [List.getElem?_eq_getElem hm, List.getElem?_eq_getElem hq]
    generalize hx : s.Runs[n][m] = x
    generalize hy : s.Runs[w][a[w]] = y
    have f : ∀ fu, bI s (w : Int) (fu + 1) (n : Int) = if bl y.Key x.Key = true ∨ (x.Key = y.Key ∧ w < n) then some (.inr ((w : Int), 6)) else bI s (w : Int) fu ((n + 1 : Nat) : Int) := fun fu => by
      have c1 : decide ((w : Int) < (n : Int)) = decide (w < n) := decide_eq_decide.2 (by omega)
      simp only [bI, d, dw, ↓reduceIte, ixA, ixW, hk, Option.bind_some, gD n (by omega), d0, Bool.false_eq_true, iB s.Runs n hr, iB s.Runs w hw, w1, iB s.Runs[n] m hm, iB s.Runs[w] a[w] hq, hx, hy, c1]
      rcases nS x.Key y.Key with h | h | h
      · have hne : x.Key ≠ y.Key := fun e => by rw [e, bH] at h; cases h
        have h' : Op.bytesLess x.Key y.Key = true := h
        simp [h', gL h, hne]
      · by_cases q : w < n <;> simp [h, bH, q]
      · have hne : x.Key ≠ y.Key := fun e => by rw [e, bH] at h; cases h
        have h' : Op.bytesLess x.Key y.Key = false := gL h
        simp [h, h', hne]
    refine ⟨fun r q => Ev.succ (Ev.of f ?_), fun q r k => Ev.succ (Ev.of f ?_)⟩
    · split at q
      · rename_i e; cases q; simp only [if_pos e]; exact Ev.ret _
      · cases q
    · split at q
      · cases q
      · rename_i e; simp only [if_neg e]; exact k
theorem zit (l : List aA) (hg : qS l) (m : Nat) : ∀ n : Nat, n + m = l.length → Ev (fun fu => dF l fu (n : Int)) (.inl ()) := by
  have hl := hg.1
  induction m with
  | zero => intro n hn; exact Ev.succ (Ev.of (fun fu => by simp [dF, show ¬ (n : Int) < (l.length : Int) by omega]) (Ev.ret _))
  | succ m ih =>
    intro n hn
    have hnl : n < l.length := by omega
    obtain ⟨hc, hb⟩ := hg.2 n hnl
    refine Ev.succ (Ev.of (fun fu => ?_) (ih (n + 1) (by omega)))
    by_cases h0 : 0 < n
    · have w2 : IntKind.i64.wrap ((n : Int) - 1) = ((n - 1 : Nat) : Int) := by rw [wr (by omega) (by omega)]; omega
      have hb' := hb h0
      have hnb1 : Op.bytesLess l[n].Key l[n - 1].Key = false := gL hb'
      have hnb2 : ¬ l[n].Key = l[n - 1].Key := fun e => by rw [e, bH] at hb'; cases hb'
      simp only [dF, pR, hc, w2, iB l n hnl, iB l (n - 1) (by omega), gD n (by omega)]
      simp [hnl, h0, hnb1, hnb2, hc, -Int.natCast_add]
    · simp only [dF, pR, hc, iB l n hnl, gD n (by omega)]
      simp [hnl, h0, hc, -Int.natCast_add]
theorem zhd (l : List aA) (hg : qS l) : Ev (fun fu => rI fu l) (0, 0) := by
  have hl := hg.1
  unfold rI
  have hd : ¬ decide ((5000 : Int) < (l.length : Int)) = true := by simp; omega
  simp only [if_neg hd]
  exact Ev.bind (zit l hg l.length 0 (by omega)) (Ev.ret _)
theorem zgS (runs : List (List aA)) (hg : tF runs) (m : Nat) : ∀ n : Nat, n + m = runs.length → Ev (fun fu => bF runs fu (n : Int)) (.inl ()) := by
  have hl := hg.2.1
  induction m with
  | zero => intro n hn; exact Ev.succ (Ev.of (fun fu => by simp [bF, show ¬ (n : Int) < (runs.length : Int) by omega]) (Ev.ret _))
  | succ m ih =>
    intro n hn
    have hnl : n < runs.length := by omega
    have f : ∀ fu, bF runs (fu + 1) (n : Int) = (rI fu runs[n]).bind fun vr => if vr.2 = 0 then bF runs fu ((n + 1 : Nat) : Int) else some (.inr ((n : Int), vr.2)) := by
      intro fu
      simp only [bF, iB runs n hnl, gD n (by omega)]
      simp [hnl]
    exact Ev.succ (Ev.of f (Ev.bind (zhd _ (hg.2.2 _ (List.getElem_mem hnl))) (ih (n + 1) (by omega))))
theorem zh2 (runs : List (List aA)) (hg : tF runs) {c : Int × Int} (h : Ev (fun fu => wI fu runs) c) : c = (0, 0) := by
  refine Ev.uniq h ?_
  have h0 := hg.1
  have hl := hg.2.1
  unfold wI
  have e1 : ¬ decide ((runs.length : Int) = 0) = true := by simp; intro e; simp [e] at h0
  have e2 : ¬ decide ((32 : Int) < (runs.length : Int)) = true := by simp; omega
  simp only [if_neg e1, if_neg e2]
  exact Ev.bind (zgS runs hg runs.length 0 (by omega)) (Ev.ret _)
def Ok (s : kB) (a : List Nat) : Prop := tF s.Runs ∧ At s.Runs a ∧ s = yE s.Runs a ∧ ((∃ i, ∃ h : i < s.Runs.length, ∃ h2 : i < a.length, a[i] ≠ s.Runs[i].length) → pick (xG s.Runs a (wn s.Runs a)) a.length 0 = .inl ())
theorem zkY (s : kB) (hs : zaS s) : ∃ r, Ev (fun fu => pH fu s) r ∧ Ev (fun fu => cX fu s) r ∧ ((r = (0, 0) ∧ ∃ a, Ok s a) ∨ r.2 ≠ 0) ∧ (∀ a, Ok s a → r = (0, 0)) := by
  obtain ⟨c, c1, c2, c3⟩ := yZ s.Runs hs.near.fits (by have := hs.near.1; omega)
  unfold pH cX
  rcases c3 with ⟨rfl, hg⟩ | hc
  · have h0 := hg.1
    have h32 := hg.2.1
    by_cases hl : s.At.length = s.Runs.length
    · have hd : decide ((s.At.length : Int) = (s.Runs.length : Int)) = true := decide_eq_true (by omega)
      have l1 := ze3 s hl hs.at'
      have l2 := zkk s hl hs.at'
      cases hp : pick (qK s) s.At.length 0 with
      | inr r =>
        obtain ⟨i, h1, h2, h3⟩ := xV hp
        rw [hp] at l1 l2
        refine ⟨r, Ev.bind c1 ?_, Ev.bind c2 ?_, .inr ?_, fun a hok => ?_⟩
        · simp only [decide_true, Bool.not_true, Bool.false_eq_true, ↓reduceIte, hd]; exact Ev.bind l1 (Ev.ret _)
        · simp only [decide_true, Bool.not_true, Bool.false_eq_true, ↓reduceIte, hd]; exact Ev.bind l2 (Ev.ret _)
        · simp only [qK] at h3
          split at h3
          · split at h3
            · cases h3; simp
            · cases h3
          · cases h3
        · exfalso
          have e : s.At = cD a := by rw [hok.2.2.1]; rfl
          have h2' : i < s.Runs.length := by omega
          have h2a : i < a.length := by rw [hok.2.1.1]; exact h2'
          have hle := hok.2.1.2 i h2' h2a
          simp only [qK, e] at h3
          rw [show (cD a)[i]? = some ((a[i] : Nat) : Int) by simp [cD, h2a], List.getElem?_eq_getElem h2'] at h3
          simp only at h3
          rw [if_neg (by omega)] at h3
          cases h3
      | inl u =>
        rw [hp] at l1 l2
        obtain ⟨a, hA, ha⟩ := places s hl hp
        have hal : a.length = s.Runs.length := ha.1
        have tr := zdo s.Runs a ha h0 h32
        have st := zaz s.Runs a ha h0 h32
        have al := ziM s.Tree (aE (hC s.Runs a)) hs.keys hs.lose
        obtain ⟨q, q1, q2⟩ := zcC s.Tree (aE (hC s.Runs a)) (by have := hs.keys; omega) (by have := hs.lose; omega)
        by_cases ht : s.Tree = aE (hC s.Runs a)
        · rw [decide_eq_true ht] at al
          obtain rfl : q = true := q2.2 ht
          have hst : s = yE s.Runs a := by
            obtain ⟨r, t, u⟩ := s
            simp only at hA ht ⊢
            simp only [yE, hA, ht]
          have hf := zmi s.Runs a ha h0 h32
          have hwin := zmo (hC s.Runs a) (rZ s.Runs a) (by rw [qE]; exact h0) (by rw [qE]; exact h32)
          rcases turn s.Runs a ha h0 with ⟨hfin, hall⟩ | ⟨hw, hwa, hq, hk⟩
          · rw [if_pos hfin] at hf hwin
            have rl2 : Ev (fun fu => bI s (-1) fu 0) (.inl ()) := Ev.succ (Ev.of (fun fu => by simp [bI]) (Ev.ret _))
            refine ⟨(0, 0), Ev.bind c1 ?_, Ev.bind c2 ?_, .inl ⟨rfl, a, hg, ha, hst, ?_⟩, fun _ _ => rfl⟩
            · simp only [decide_true, Bool.not_true, Bool.false_eq_true, ↓reduceIte, hd]
              rw [hA]
              refine Ev.bind l1 (Ev.bind tr (Ev.bind al ?_))
              simp only [Bool.not_true, Bool.false_eq_true, ↓reduceIte]
              rw [ht]
              exact Ev.bind hwin (Ev.of (fun fu => by simp) (Ev.ret _))
            · simp only [decide_true, Bool.not_true, Bool.false_eq_true, ↓reduceIte, hd]
              rw [hA]
              refine Ev.bind l2 (Ev.bind st (Ev.bind q1 ?_))
              simp only [Bool.not_true, Bool.false_eq_true, ↓reduceIte]
              exact Ev.bind hf (Ev.bind rl2 (Ev.ret _))
            · rintro ⟨i, h1, h2, h3⟩; exact absurd (hall i h1 h2) h3
          · rw [if_neg (by rw [hk]; simp)] at hf hwin
            rw [hk] at hwin
            have k1 := zlK s a hA ha (by rw [hal]; omega) hs.near.2.1 (wn s.Runs a) hw hwa hq
            have k2 := zfI s a hA ha (by rw [hal]; omega) hs.near.2.1 (wn s.Runs a) hw hwa hq
            have e1 : Ev (fun fu => pH fu s) (match pick (xG s.Runs a (wn s.Runs a)) a.length 0 with | .inl _ => (0, 0) | .inr y => y) := by
              unfold pH
              refine Ev.bind c1 ?_
              simp only [decide_true, Bool.not_true, Bool.false_eq_true, ↓reduceIte, hd]
              rw [hA]
              refine Ev.bind l1 (Ev.bind tr (Ev.bind al ?_))
              simp only [Bool.not_true, Bool.false_eq_true, ↓reduceIte]
              rw [ht]
              refine Ev.bind hwin ?_
              simp only [decide_true, Bool.not_true, Bool.false_eq_true, ↓reduceIte]
              refine Ev.bind k1 ?_
              cases pick (xG s.Runs a (wn s.Runs a)) a.length 0 <;> exact Ev.ret _
            have e2 : Ev (fun fu => cX fu s) (match pick (xG s.Runs a (wn s.Runs a)) a.length 0 with | .inl _ => (0, 0) | .inr y => y) := by
              unfold cX
              refine Ev.bind c2 ?_
              simp only [decide_true, Bool.not_true, Bool.false_eq_true, ↓reduceIte, hd]
              rw [hA]
              refine Ev.bind l2 (Ev.bind st (Ev.bind q1 ?_))
              simp only [Bool.not_true, Bool.false_eq_true, ↓reduceIte]
              refine Ev.bind hf (Ev.bind k2 ?_)
              cases pick (xG s.Runs a (wn s.Runs a)) a.length 0 <;> exact Ev.ret _
            refine ⟨_, e1, e2, ?_, fun a' hok => ?_⟩
            · cases hpk : pick (xG s.Runs a (wn s.Runs a)) a.length 0 with
              | inl u => exact .inl ⟨rfl, a, hg, ha, hst, fun _ => hpk⟩
              | inr y =>
                right
                obtain ⟨i, h1, h2, h3⟩ := xV hpk
                simp only [xG] at h3
                split at h3
                · split at h3
                  · split at h3
                    · cases h3; simp
                    · cases h3
                  · cases h3
                · cases h3
            · have : cD a' = cD a := by
                have e : s.At = cD a' := by rw [hok.2.2.1]; rfl
                rw [← e, hA]
              have : a' = a := by
                refine List.map_inj_right (fun x y h => ?_) |>.1 this
                exact Int.ofNat.inj h
              subst this
              rw [hok.2.2.2 ⟨_, hw, hwa, by omega⟩]
        · rw [decide_eq_false ht] at al
          obtain rfl : q = false := by cases q; rfl; exact absurd (q2.1 rfl) ht
          refine ⟨(-1, 6), Ev.bind c1 ?_, Ev.bind c2 ?_, .inr (by simp), fun a' hok => ?_⟩
          · simp only [decide_true, Bool.not_true, Bool.false_eq_true, ↓reduceIte, hd]
            rw [hA]
            refine Ev.bind l1 (Ev.bind tr (Ev.bind al (Ev.ret _)))
          · simp only [decide_true, Bool.not_true, Bool.false_eq_true, ↓reduceIte, hd]
            rw [hA]
            refine Ev.bind l2 (Ev.bind st (Ev.bind q1 (Ev.ret _)))
          · exfalso
            have : cD a' = cD a := by
              have e : s.At = cD a' := by rw [hok.2.2.1]; rfl
              rw [← e, hA]
            have : a' = a := by
              refine List.map_inj_right (fun x y h => ?_) |>.1 this
              exact Int.ofNat.inj h
            subst this
            exact ht (by rw [hok.2.2.1]; rfl)
    · have hd : decide ((s.At.length : Int) = (s.Runs.length : Int)) = false := decide_eq_false (by omega)
      refine ⟨(-1, 6), Ev.bind c1 ?_, Ev.bind c2 ?_, .inr (by simp), fun a hok => ?_⟩
      · simp only [decide_true, Bool.not_true, Bool.false_eq_true, ↓reduceIte, hd, Bool.not_false]; exact Ev.ret _
      · simp only [decide_true, Bool.not_true, Bool.false_eq_true, ↓reduceIte, hd, Bool.not_false]; exact Ev.ret _
      · exfalso; apply hl; rw [hok.2.2.1]; simp [yE, kO, hok.2.1.1]
  · refine ⟨c, Ev.bind c1 ?_, Ev.bind c2 ?_, .inr hc, fun a hok => ?_⟩
    · simp only [decide_eq_false hc, Bool.not_false, ↓reduceIte]; exact Ev.ret _
    · simp only [decide_eq_false hc, Bool.not_false, ↓reduceIte]; exact Ev.ret _
    · exfalso
      exact hc (by rw [zh2 s.Runs hok.1 c1])
theorem Ok.good {s : kB} {a : List Nat} (h : Ok s a) : tF s.Runs := h.1
theorem Ok.eq {s : kB} {a : List Nat} (h : Ok s a) : s = yE s.Runs a := h.2.2.1
theorem zi7 (runs : List (List aA)) (a : List Nat) (ha : At runs a) (h0 : 0 < runs.length) (hw : wn runs a < runs.length) (hwa : wn runs a < a.length) (hq : a[wn runs a] < runs[wn runs a].length)
    (i : Nat) (h1 : i < runs.length) (h2 : i < a.length) (h3 : a[i] < runs[i].length) : i = wn runs a ∨ (bl runs[wn runs a][a[wn runs a]].Key runs[i][a[i]].Key = true ∨ (runs[wn runs a][a[wn runs a]].Key = runs[i][a[i]].Key ∧ wn runs a < i)) := by
  by_cases e : i = wn runs a
  · exact .inl e
  · right
    have hk1 : wn runs a < (hC runs a).length := by rw [qE]; exact hw
    have hk2 : i < (hC runs a).length := by rw [qE]; exact h1
    have l := nY (hC runs a) i hk2 e
    have g1 : (hC runs a)[wn runs a] = ⟨runs[wn runs a][a[wn runs a]].Key, false⟩ := by rw [zP runs a _ hk1 hw hwa, bQ _ _ hq]
    have g2 : (hC runs a)[i] = ⟨runs[i][a[i]].Key, false⟩ := by rw [zP runs a _ hk2 h1 h2, bQ _ _ h3]
    have lk := zaq (hC runs a) (wn runs a) i hk1 hk2 (by rw [g1]) (by rw [g2])
    rw [show lt (hC runs a) (wn runs a) i = true from l, g1, g2] at lk
    simp only at lk
    split at lk
    · rename_i e2; exact .inr ⟨e2, of_decide_eq_true lk.symm⟩
    · exact .inl lk.symm
def lx (k : List UInt8) (i : Nat) (l : List UInt8) (j : Nat) : Prop := bl k l = true ∨ (k = l ∧ i < j)
theorem lx_bl {k l m : List UInt8} {i j : Nat} (h : lx k i l j) (h2 : bl l m = true) : bl k m = true := by
  rcases h with h | ⟨rfl, _⟩
  · exact fX h h2
  · exact h2
def Passed (runs : List (List aA)) (a : List Nat) : Prop :=
  ∀ i (h1 : i < runs.length) (h2 : i < a.length) m (hm : m < runs[i].length), a[i] = m + 1 → ∀ j (h3 : j < runs.length) (h4 : j < a.length) (h5 : a[j] < runs[j].length), lx runs[i][m].Key i runs[j][a[j]].Key j
structure Rch (runs : List (List aA)) (a : List Nat) : Prop where
  at' : At runs a
  passed : Passed runs a
theorem zbS (runs : List (List aA)) : Rch runs (qF runs) := ⟨aW runs, fun i h1 h2 m hm e => by simp [qF] at e⟩
theorem za1 (a : List Nat) (w i : Nat) (h : i < (vG a w).length) (hw : w < a.length) (hi : i < a.length) : (vG a w)[i] = if w = i then a[w] + 1 else a[i] := by
  simp only [zbD a w hw, List.getElem_set]
theorem zmT (runs : List (List aA)) (a : List Nat) (hg : tF runs) (h : Rch runs a) (hw : wn runs a < runs.length) (hwa : wn runs a < a.length) (hq : a[wn runs a] < runs[wn runs a].length) : Rch runs (vG a (wn runs a)) := by
  refine ⟨stp_at runs a _ h.at' hw hwa hq, ?_⟩
  have asc : ∀ n (hn : n + 1 < runs[wn runs a].length), bl (runs[wn runs a][n]'(by omega)).Key runs[wn runs a][n + 1].Key = true := fun n hn =>
    ((hg.2.2 _ (List.getElem_mem hw)).2 (n + 1) hn).2 (by omega)
  intro i h1 h2 m hm e j h3 h4 h5
  have h2' : i < a.length := by rw [kW] at h2; exact h2
  have h4' : j < a.length := by rw [kW] at h4; exact h4
  have gi := za1 a (wn runs a) i h2 hwa h2'
  have gj := za1 a (wn runs a) j h4 hwa h4'
  simp only [gj] at h5 ⊢
  rw [gi] at e
  by_cases ei : wn runs a = i
  · subst ei
    simp only [↓reduceIte] at e
    obtain rfl : m = a[wn runs a] := by omega
    by_cases ej : wn runs a = j
    · subst ej
      simp only [↓reduceIte] at h5 ⊢
      exact .inl (asc _ h5)
    · simp only [if_neg ej] at h5 ⊢
      rcases zi7 runs a h.at' hg.1 hw hwa hq j h3 h4' h5 with e | e
      · exact absurd e.symm ej
      · exact e
  · simp only [if_neg ei] at e
    by_cases ej : wn runs a = j
    · subst ej
      simp only [↓reduceIte] at h5 ⊢
      exact .inl (lx_bl (h.passed i h1 h2' m hm e _ hw hwa hq) (asc _ h5))
    · simp only [if_neg ej] at h5 ⊢
      exact h.passed i h1 h2' m hm e j h3 h4' h5
theorem zio (runs : List (List aA)) (a : List Nat) (hg : tF runs) (h : Rch runs a) : (∃ i, ∃ h : i < runs.length, ∃ h2 : i < a.length, a[i] ≠ runs[i].length) → pick (xG runs a (wn runs a)) a.length 0 = .inl () := by
  rintro ⟨i, h1, h2, h3⟩
  rcases turn runs a h.at' hg.1 with ⟨hd, hall⟩ | ⟨hw, hwa, hq, hk⟩
  · exact absurd (hall i h1 h2) h3
  · refine zhp fun j k1 k2 => ?_
    have hj : j < a.length := by omega
    have hjr : j < runs.length := by rw [← h.at'.1]; exact hj
    simp only [xG, List.getElem?_eq_getElem hjr, List.getElem?_eq_getElem hj, List.getElem?_eq_getElem hw, List.getElem?_eq_getElem hwa]
    cases e : a[j] with
    | zero => rfl
    | succ m =>
      have hle := h.at'.2 j hjr hj
      have hm : m < runs[j].length := by omega
      simp only [List.getElem?_eq_getElem hm, List.getElem?_eq_getElem hq]
      refine if_neg ?_
      rcases h.passed j hjr hj m hm e _ hw hwa hq with p | ⟨p, q⟩
      · rw [gL p]
        simp
        intro e; rw [e, bH] at p; cases p
      · rw [p, bH]; simp; omega
theorem rch_ok (runs : List (List aA)) (a : List Nat) (hg : tF runs) (h : Rch runs a) : Ok (yE runs a) a := ⟨hg, h.at', rfl, zio runs a hg h⟩
theorem zlh (runs : List (List aA)) (a : List Nat) (hn : dN runs) (hg : tF runs) (h : Rch runs a) : Ev (fun fu => pH fu (yE runs a)) (0, 0) := by
  have hl := zaZ runs a h.at'
  have := hn.1
  obtain ⟨r, r1, -, -, r4⟩ := zkY (yE runs a) ⟨hn, by rw [hl.1]; omega, by rw [hl.2.2.1]; omega, by rw [hl.2.2.2]; omega⟩
  rw [r4 a (rch_ok runs a hg h)] at r1
  exact r1
def tG (runs : List (List aA)) (i : Nat) : List Nat := jU runs i (qF runs)
theorem zhK (runs : List (List aA)) (i : Nat) : ∀ a, jU runs (i + 1) a = vG (jU runs i a) (wn runs (jU runs i a)) := by
  induction i with
  | zero => intro a; rfl
  | succ i ih => intro a; exact ih (vG a (wn runs a))
theorem zbe (runs : List (List aA)) (i : Nat) : tG runs (i + 1) = vG (tG runs i) (wn runs (tG runs i)) := zhK runs i _
def sG (runs : List (List aA)) : Nat := lB runs (qF runs)
structure Plc (runs : List (List aA)) (i : Nat) : Prop where
  rch : Rch runs (tG runs i)
  left : lB runs (tG runs i) = sG runs - i
theorem zmU (runs : List (List aA)) (hg : tF runs) (i : Nat) (h : i ≤ sG runs) : Plc runs i := by
  induction i with
  | zero => exact ⟨zbS runs, rfl⟩
  | succ i ih =>
    have p := ih (by omega)
    rcases turn runs (tG runs i) p.rch.at' hg.1 with ⟨hd, hall⟩ | ⟨hw, hwa, hq, hk⟩
    · have := zb8 runs _ hall
      rw [p.left] at this; omega
    · have := zbt runs _ _ hw hwa hq
      rw [← zbe, p.left] at this
      exact ⟨by rw [zbe]; exact zmT runs _ hg p.rch hw hwa hq, by omega⟩
structure Cur (runs : List (List aA)) (i : Nat) : Prop where
  hw : wn runs (tG runs i) < runs.length
  hwa : wn runs (tG runs i) < (tG runs i).length
  hq : (tG runs i)[wn runs (tG runs i)] < runs[wn runs (tG runs i)].length
def gS (runs : List (List aA)) : List aA := ents (outs runs (sG runs) (qF runs))
def allF (runs : List (List aA)) : List Int := froms (outs runs (sG runs) (qF runs))
def mV (runs : List (List aA)) : Nat := (runs.map List.length).sum
theorem zcI : ∀ (runs : List (List aA)) (a : List Nat), lB runs a ≤ mV runs
  | [], _ => by simp [lB, mV]
  | _ :: _, [] => by simp [lB]
  | l :: runs, n :: a => by
    have := zcI runs a
    simp only [lB, mV, List.zipWith_cons_cons, List.sum_cons, List.map_cons] at this ⊢
    omega
structure cV (runs : List (List aA)) : Prop where
  near : dN runs
  few : tF runs → sG runs ≤ 120
def keep1 (b s : Bool) (k : List UInt8) (e : aA) : Bool := !(s && e.Key == k) && !(b && e.Dead)
def oR (b : Bool) : Bool → List UInt8 → List aA → List aA
  | _, _, [] => []
  | s, k, e :: l => if keep1 b s k e then e :: oR b true e.Key l else oR b true e.Key l
def bY : Bool → List UInt8 → List aA → Bool × List UInt8
  | s, k, [] => (s, k)
  | _, _, e :: l => bY true e.Key l
def kept (b : Bool) (l : List aA) : List aA := oR b false [] l
def shd (b : Bool) (l : List aA) : tB := ⟨(bY false [] l).1, (bY false [] l).2, b⟩
theorem zdu (b : Bool) : ∀ (l : List aA) s k, (oR b s k l).length ≤ l.length
  | [], _, _ => Nat.le_refl _
  | e :: l, s, k => by
    have := zdu b l true e.Key
    simp only [oR]
    split <;> simp only [List.length_cons] <;> omega
def le (k l : List UInt8) : Prop := bl k l = true ∨ k = l
theorem sh_eqb (x y : tB) : tB.eqb x y = decide (x = y) := by
  obtain ⟨a, b, c⟩ := x
  obtain ⟨a', b', c'⟩ := y
  by_cases h1 : a = a' <;> by_cases h2 : b = b' <;> by_cases h3 : c = c' <;> simp [tB.eqb, h1, h2, h3]
def lQ (runs : List (List aA)) (b : Bool) (n : Nat) : wB := ⟨yE runs (tG runs n), shd b ((gS runs).take n), kept b ((gS runs).take n), (n : Int)⟩
def dQ : wB := ⟨mQ, ⟨false, [], false⟩, [], 0⟩
structure bO (s : wB) : Prop where
  merge : zaS s.Merge
  seen : cV s.Merge.Runs
  out : s.Out.length ≤ 1000
theorem zbl (runs : List (List aA)) (b : Bool) (n : Nat) (hs : cV runs) (hg : tF runs) (hn : n ≤ sG runs) : bO (lQ runs b n) := by
  have p := zmU runs hg n hn
  have hl := zaZ runs _ p.rch.at'
  have h1 := hs.near.1
  refine ⟨⟨hs.near, ?_, ?_, ?_⟩, hs, ?_⟩
  · show (yE runs (tG runs n)).At.length ≤ 1000
    rw [hl.1]; omega
  · show (yE runs (tG runs n)).Tree.Keys.length ≤ 1000
    rw [hl.2.2.1]; omega
  · show (yE runs (tG runs n)).Tree.Lose.length ≤ 1000
    rw [hl.2.2.2]; omega
  · show (kept b ((gS runs).take n)).length ≤ 1000
    have := zdu b ((gS runs).take n) false []
    have h2 := hs.few hg
    have h3 : ((gS runs).take n).length ≤ n := by simp; omega
    show (oR b false [] ((gS runs).take n)).length ≤ 1000
    omega
theorem zfQ (runs : List (List aA)) (hn : dN runs) (hg : tF runs) : Ev (fun fu => wI fu runs) (0, 0) ∧ Ev (fun fu => rP fu runs) (0, 0) := by
  obtain ⟨c, c1, c2, c3⟩ := yZ runs hn.fits (by have := hn.1; omega)
  rcases c3 with ⟨rfl, _⟩ | hc
  · exact ⟨c1, c2⟩
  · exfalso
    have h := zlh runs _ hn hg (zbS runs)
    have : Ev (fun fu => pH fu (yE runs (qF runs))) c := by
      unfold pH
      refine Ev.bind c1 (Ev.of (fun fu => ?_) (Ev.ret _))
      simp only [decide_eq_false hc, Bool.not_false, ↓reduceIte]
    have := Ev.uniq this h
    rw [this] at hc
    exact hc rfl
theorem zkd (runs : List (List aA)) (hn : dN runs) (hg : tF runs) : Ev (fun fu => jL fu runs) (yE runs (qF runs), 0, 0) ∧ Ev (fun fu => aN fu runs) (yE runs (qF runs), 0, 0) := by
  obtain ⟨b, b1, b2, b3⟩ := zlF runs hn.fits (by have := hn.1; omega)
  rcases b3 with ⟨_, rfl⟩ | ⟨_, hb⟩
  · exact ⟨b1, b2⟩
  · exfalso
    have g3 : (0 : Int) ≤ (runs.length : Int) ∧ (runs.length : Int) ≤ (runs.length : Int) ∧ (runs.length : Int) ≤ 9223372036854775807 ∧ 8 * (runs.length : Int) ≤ 281474976710656 := by have := hg.2.1; omega
    have : Ev (fun fu => aN fu runs) (yE runs (qF runs), 0, 0) := by
      unfold aN
      refine Ev.bind (zfQ runs hn hg).2 ?_
      simp only [decide_true, Bool.not_true, Bool.false_eq_true, ↓reduceIte, if_pos g3]
      rw [hY]
      exact Ev.bind (zaz runs _ (aW runs) hg.1 hg.2.1) (Ev.ret _)
    have := Ev.uniq this b2
    rw [← this] at hb
    exact hb rfl
inductive Said (s : wB) (r : Int) : Prop
  | at (e : r = 0) (hg : tF s.Merge.Runs) (n : Nat) (hn : n ≤ sG s.Merge.Runs) (hs : s = lQ s.Merge.Runs s.Shadow.Bottom n)
  | no (h : r ≠ 0)
def used (runs : List (List aA)) (n : Nat) (k : Nat) : Nat := min k (sG runs - n)
theorem mX : bO dQ := by
  have hn : dN [] := ⟨by simp, by simp, by simp⟩
  exact ⟨⟨hn, by simp [dQ, mQ], by simp [dQ, mQ], by simp [dQ, mQ]⟩, ⟨hn, fun hg => absurd hg.1 (by simp [dQ, mQ])⟩, by simp [dQ]⟩
theorem zf4 (a b : wB) (ha : bO a) : ∃ r, Ev (fun fu => nP fu a b) r ∧ (r = true ↔ a = b) := by
  obtain ⟨m, m1, m2⟩ := zeT a.Merge b.Merge (by have := ha.merge.at'; omega) (by have := ha.seen.near.1; omega) (by have := ha.merge.keys; omega) (by have := ha.merge.lose; omega) (fun l hl => by have := ha.seen.near.2.1 l hl; omega)
  obtain ⟨o, o1, o2⟩ := zdp a.Out b.Out (by have := ha.out; omega)
  obtain ⟨am, ash, ao, ast⟩ := a
  obtain ⟨bm, bsh, bo, bst⟩ := b
  unfold nP
  simp only [sh_eqb] at *
  by_cases h1 : am = bm
  · obtain rfl : m = true := m2.2 h1
    by_cases h2 : ash = bsh
    · by_cases h3 : ao = bo
      · obtain rfl : o = true := o2.2 h3
        by_cases h4 : ast = bst
        · exact ⟨true, Ev.bind m1 (Ev.bind (a := true) (Ev.of (fun fu => by simp [h2]) (Ev.ret _)) (Ev.bind (a := true) (Ev.bind o1 (Ev.ret _)) (Ev.bind (a := true) (Ev.of (fun fu => by simp [h4]) (Ev.ret _)) (Ev.ret _)))), by simp [h1, h2, h3, h4]⟩
        · exact ⟨false, Ev.bind m1 (Ev.bind (a := true) (Ev.of (fun fu => by simp [h2]) (Ev.ret _)) (Ev.bind (a := true) (Ev.bind o1 (Ev.ret _)) (Ev.bind (a := false) (Ev.of (fun fu => by simp [h4]) (Ev.ret _)) (Ev.ret _)))), by simp [h4]⟩
      · obtain rfl : o = false := by cases o with | false => rfl | true => exact absurd (o2.1 rfl) h3
        exact ⟨false, Ev.bind m1 (Ev.bind (a := true) (Ev.of (fun fu => by simp [h2]) (Ev.ret _)) (Ev.bind (a := false) (Ev.bind o1 (Ev.ret _)) (Ev.bind (a := false) (Ev.of (fun fu => by simp) (Ev.ret _)) (Ev.ret _)))), by simp [h3]⟩
    · exact ⟨false, Ev.bind m1 (Ev.bind (a := false) (Ev.of (fun fu => by simp [h2]) (Ev.ret _)) (Ev.bind (a := false) (Ev.of (fun fu => by simp) (Ev.ret _)) (Ev.bind (a := false) (Ev.of (fun fu => by simp) (Ev.ret _)) (Ev.ret _)))), by simp [h2]⟩
  · obtain rfl : m = false := by cases m with | false => rfl | true => exact absurd (m2.1 rfl) h1
    exact ⟨false, Ev.bind m1 (Ev.bind (a := false) (Ev.of (fun fu => by simp) (Ev.ret _)) (Ev.bind (a := false) (Ev.of (fun fu => by simp) (Ev.ret _)) (Ev.bind (a := false) (Ev.of (fun fu => by simp) (Ev.ret _)) (Ev.ret _)))), by simp [h1]⟩
theorem zj8 (a : wB) (ha : bO a) : Ev (fun fu => nP fu a a) true := by
  obtain ⟨r, r1, r2⟩ := zf4 a a ha
  obtain rfl : r = true := r2.2 rfl
  exact r1
theorem zjL (runs : List (List aA)) (b : Bool) (hs : cV runs) (hg : tF runs) : Ev (fun fu => sN fu runs b) (lQ runs b 0, 0, 0) ∧ Ev (fun fu => gU fu runs b) (lQ runs b 0, 0, 0) := by
  obtain ⟨a1, a2⟩ := zkd runs hs.near hg
  constructor
  · unfold sN
    refine Ev.bind a1 ?_
    simp only [decide_true, Bool.not_true, Bool.false_eq_true, ↓reduceIte, kN, Option.bind_some]
    exact Ev.ret _
  · unfold gU
    refine Ev.bind a2 ?_
    simp only [decide_true, Bool.not_true, Bool.false_eq_true, ↓reduceIte, kV, Option.bind_some]
    exact Ev.ret _
theorem iT {β : Type} (E : Nat → Sum Unit β → Prop) (len : Nat) (Q : Nat → Prop) (Bad : Nat → β → Prop) (stop : E len (.inl ()))
    (step : ∀ n, n < len → (∃ v, Bad n v ∧ E n (.inr v)) ∨ (Q n ∧ ∀ r, E (n + 1) r → E n r)) :
    ∃ r, E 0 r ∧ ((r = .inl () ∧ ∀ i, i < len → Q i) ∨ ∃ n v, n < len ∧ Bad n v ∧ r = .inr v ∧ ∀ i, i < n → Q i) := by
  have go : ∀ m n, n + m = len → ∃ r, E n r ∧ ((r = .inl () ∧ ∀ i, n ≤ i → i < len → Q i) ∨ ∃ k v, n ≤ k ∧ k < len ∧ Bad k v ∧ r = .inr v ∧ ∀ i, n ≤ i → i < k → Q i) := by
    intro m
    induction m with
    | zero =>
      intro n hn
      obtain rfl : n = len := by omega
      exact ⟨_, stop, .inl ⟨rfl, fun i h1 h2 => by omega⟩⟩
    | succ m ih =>
      intro n hn
      rcases step n (by omega) with ⟨v, hb, he⟩ | ⟨hq, hs⟩
      · exact ⟨_, he, .inr ⟨n, v, Nat.le_refl _, by omega, hb, rfl, fun i h1 h2 => by omega⟩⟩
      · obtain ⟨r, r1, r2⟩ := ih (n + 1) (by omega)
        refine ⟨r, hs r r1, ?_⟩
        rcases r2 with ⟨e, h⟩ | ⟨k, v, h1, h2, h3, h4, h5⟩
        · refine .inl ⟨e, fun i h1 h2 => ?_⟩
          by_cases e : i = n
          · rw [e]; exact hq
          · exact h i (by omega) h2
        · refine .inr ⟨k, v, by omega, h2, h3, h4, fun i q1 q2 => ?_⟩
          by_cases e : i = n
          · rw [e]; exact hq
          · exact h5 i (by omega) q2
  obtain ⟨r, r1, r2⟩ := go len 0 (by omega)
  refine ⟨r, r1, ?_⟩
  rcases r2 with ⟨e, h⟩ | ⟨k, v, h1, h2, h3, h4, h5⟩
  · exact .inl ⟨e, fun i h2 => h i (by omega) h2⟩
  · exact .inr ⟨k, v, h2, h3, h4, fun i q => h5 i (by omega) q⟩
def nQ (l : List aA) : Prop := l.length ≤ 30 ∧ ∀ e ∈ l, e.Key.length ≤ 100
theorem zif (l : List aA) : ∃ b, Ev (fun fu => oT fu l) b ∧ (b = false → nQ l) := by
  obtain ⟨r, r1, r2⟩ := iT (β := Bool) (fun n r => Ev (fun fu => mI l fu (n : Int)) r) (min l.length 40) (fun i => ∀ h : i < l.length, l[i].Key.length ≤ 100) (fun _ v => v = true)
    (by
      refine Ev.succ (Ev.of (fun fu => ?_) (Ev.ret _))
      by_cases h : l.length ≤ 40
      · rw [Nat.min_eq_left h]; simp [mI]
      · rw [Nat.min_eq_right (by omega)]; simp [mI])
    (fun n hn => by
      have hl : n < l.length := Nat.lt_of_lt_of_le hn (Nat.min_le_left _ _)
      have h40 : n < 40 := Nat.lt_of_lt_of_le hn (Nat.min_le_right _ _)
      have d1 : decide ((n : Int) < (l.length : Int)) = true := decide_eq_true (by omega)
      have d2 : decide ((n : Int) < 40) = true := decide_eq_true (by omega)
      have c1 : decide ((100 : Int) < (l[n].Key.length : Int)) = decide (100 < l[n].Key.length) := decide_eq_decide.2 (by omega)
      have c2 : decide ((100 : Int) < (l[n].Val.length : Int)) = decide (100 < l[n].Val.length) := decide_eq_decide.2 (by omega)
      by_cases hk : 100 < l[n].Key.length
      · exact .inl ⟨true, rfl, Ev.succ (Ev.of (fun fu => by simp only [mI, d1, d2, iB l n hl, c1, decide_eq_true hk, ↓reduceIte, Option.bind_some]) (Ev.ret _))⟩
      · by_cases hv : 100 < l[n].Val.length
        · exact .inl ⟨true, rfl, Ev.succ (Ev.of (fun fu => by simp only [mI, d1, d2, iB l n hl, c1, c2, decide_eq_false hk, decide_eq_true hv, Bool.false_eq_true, ↓reduceIte, Option.bind_some]) (Ev.ret _))⟩
        · refine .inr ⟨fun _ => by omega, fun r hr => Ev.succ (Ev.of (fun fu => ?_) hr)⟩
          simp only [mI, d1, d2, ↓reduceIte, Option.bind_some, iB l n hl, c1, c2, decide_eq_false hk, decide_eq_false hv, Bool.false_eq_true, gD n (show n < 9223372036854775807 by omega)])
  unfold oT
  rcases r2 with ⟨rfl, h⟩ | ⟨n, v, -, rfl, rfl, -⟩
  · refine ⟨_, Ev.bind r1 (Ev.ret _), fun hb => ?_⟩
    have hl : l.length ≤ 30 := by have := of_decide_eq_false hb; omega
    refine ⟨hl, fun e he => ?_⟩
    obtain ⟨i, hi, rfl⟩ := List.mem_iff_getElem.1 he
    exact h i (by omega) hi
  · exact ⟨true, Ev.bind r1 (Ev.ret _), by simp⟩
theorem zha (l : List zA) : ∃ b, Ev (fun fu => aU fu l) b ∧ (b = false → l.length ≤ 6 ∧ ∀ r ∈ l, nQ r.Entries) := by
  obtain ⟨r, r1, r2⟩ := iT (β := Bool) (fun n r => Ev (fun fu => cJ l fu (n : Int)) r) (min l.length 10) (fun i => ∀ h : i < l.length, nQ l[i].Entries) (fun _ v => v = true)
    (by
      refine Ev.succ (Ev.of (fun fu => ?_) (Ev.ret _))
      by_cases h : l.length ≤ 10
      · rw [Nat.min_eq_left h]; simp [cJ]
      · rw [Nat.min_eq_right (by omega)]; simp [cJ])
    (fun n hn => by
      have hl : n < l.length := Nat.lt_of_lt_of_le hn (Nat.min_le_left _ _)
      have h40 : n < 10 := Nat.lt_of_lt_of_le hn (Nat.min_le_right _ _)
      have d1 : decide ((n : Int) < (l.length : Int)) = true := decide_eq_true (by omega)
      have d2 : decide ((n : Int) < 10) = true := decide_eq_true (by omega)
      obtain ⟨b, b1, b2⟩ := zif l[n].Entries
      cases b with
      | true =>
        refine .inl ⟨true, rfl, Ev.succ ?_⟩
        simp only [cJ, d1, d2, ↓reduceIte, Option.bind_some, iB l n hl]
        exact Ev.bind b1 (Ev.ret _)
      | false =>
        refine .inr ⟨fun _ => b2 rfl, fun r hr => Ev.succ ?_⟩
        simp only [cJ, d1, d2, ↓reduceIte, Option.bind_some, iB l n hl, gD n (show n < 9223372036854775807 by omega)]
        exact Ev.bind b1 hr)
  unfold aU
  rcases r2 with ⟨rfl, h⟩ | ⟨n, v, -, rfl, rfl, -⟩
  · refine ⟨_, Ev.bind r1 (Ev.ret _), fun hb => ?_⟩
    have hl : l.length ≤ 6 := by have := of_decide_eq_false hb; omega
    refine ⟨hl, fun e he => ?_⟩
    obtain ⟨i, hi, rfl⟩ := List.mem_iff_getElem.1 he
    exact h i (by omega) hi
  · exact ⟨true, Ev.bind r1 (Ev.ret _), by simp⟩
def wF (l : uA) : Prop := l.Levels.length ≤ 14 ∧ ∀ x ∈ l.Levels, x.Runs.length ≤ 6 ∧ ∀ r ∈ x.Runs, nQ r.Entries
theorem zkT (l : uA) : ∃ b, Ev (fun fu => sU fu l) b ∧ (b = false → wF l) := by
  obtain ⟨r, r1, r2⟩ := iT (β := Bool) (fun n r => Ev (fun fu => aJ l fu (n : Int)) r) (min l.Levels.length 20) (fun i => ∀ h : i < l.Levels.length, l.Levels[i].Runs.length ≤ 6 ∧ ∀ r ∈ l.Levels[i].Runs, nQ r.Entries) (fun _ v => v = true)
    (by
      refine Ev.succ (Ev.of (fun fu => ?_) (Ev.ret _))
      by_cases h : l.Levels.length ≤ 20
      · rw [Nat.min_eq_left h]; simp [aJ]
      · rw [Nat.min_eq_right (by omega)]; simp [aJ])
    (fun n hn => by
      have hl : n < l.Levels.length := Nat.lt_of_lt_of_le hn (Nat.min_le_left _ _)
      have h40 : n < 20 := Nat.lt_of_lt_of_le hn (Nat.min_le_right _ _)
      have d1 : decide ((n : Int) < (l.Levels.length : Int)) = true := decide_eq_true (by omega)
      have d2 : decide ((n : Int) < 20) = true := decide_eq_true (by omega)
      obtain ⟨b, b1, b2⟩ := zha l.Levels[n].Runs
      cases b with
      | true =>
        refine .inl ⟨true, rfl, Ev.succ ?_⟩
        simp only [aJ, d1, d2, ↓reduceIte, Option.bind_some, iB l.Levels n hl]
        exact Ev.bind b1 (Ev.ret _)
      | false =>
        refine .inr ⟨fun _ => b2 rfl, fun r hr => Ev.succ ?_⟩
        simp only [aJ, d1, d2, ↓reduceIte, Option.bind_some, iB l.Levels n hl, gD n (show n < 9223372036854775807 by omega)]
        exact Ev.bind b1 hr)
  unfold sU
  rcases r2 with ⟨rfl, h⟩ | ⟨n, v, -, rfl, rfl, -⟩
  · refine ⟨_, Ev.bind r1 (Ev.ret _), fun hb => ?_⟩
    have hl : l.Levels.length ≤ 14 := by have := of_decide_eq_false hb; omega
    refine ⟨hl, fun e he => ?_⟩
    obtain ⟨i, hi, rfl⟩ := List.mem_iff_getElem.1 he
    exact h i (by omega) hi
  · exact ⟨true, Ev.bind r1 (Ev.ret _), by simp⟩
theorem zg5 (b n : Nat) (hb : b ≤ 16) (hn : n ≤ 12) : Ev (fun fu => vT fu (b : Int) (n : Int)) ((b * 2 ^ n : Nat) : Int) := by
  have go : ∀ (m i c : Nat), i + m = n → c ≤ 16 * 2 ^ i → Ev (fun fu => bL (n : Int) fu (c : Int) (i : Int)) ((c * 2 ^ m : Nat) : Int) := by
    intro m
    induction m with
    | zero =>
      intro i c hi _
      obtain rfl : i = n := by omega
      exact Ev.succ (Ev.of (fun fu => by simp [bL]) (Ev.ret _))
    | succ m ih =>
      intro i c hi hc
      have d1 : decide ((i : Int) < (n : Int)) = true := decide_eq_true (by omega)
      have hp : 2 ^ i ≤ 2 ^ 12 := Nat.pow_le_pow_right (by decide) (by omega)
      have w1 : IntKind.i64.wrap (2 * (c : Int)) = ((2 * c : Nat) : Int) := by rw [wr (by omega) (by omega)]; omega
      have := ih (i + 1) (2 * c) (by omega) (by rw [Nat.pow_succ]; omega)
      rw [show 2 * c * 2 ^ m = c * 2 ^ (m + 1) by rw [Nat.pow_succ, Nat.mul_comm 2 c, Nat.mul_assoc, Nat.mul_comm 2]] at this
      refine Ev.succ (Ev.of (fun fu => ?_) this)
      simp only [bL, d1, ↓reduceIte, w1, gD i (show i < 9223372036854775807 by omega)]
  unfold vT
  exact Ev.bind (go n 0 b (by omega) (by simpa using hb)) (Ev.ret _)
def vX (r : zA) : Prop := qS r.Entries ∧ 1 ≤ r.Id ∧ r.Id ≤ 1000000
theorem ids_l1 (ids : List Int) (r : zA) (hl : ids.length ≤ 1000) : ∃ x, Ev (fun fu => iJ ids r fu 0) x ∧ ((x = .inl () ∧ r.Id ∉ ids) ∨ (x = .inr 8 ∧ r.Id ∈ ids)) := by
  obtain ⟨x, x1, x2⟩ := iT (β := Int) (fun n x => Ev (fun fu => iJ ids r fu (n : Int)) x) ids.length (fun i => ∀ h : i < ids.length, ids[i] ≠ r.Id) (fun i v => v = 8 ∧ ∃ h : i < ids.length, ids[i] = r.Id)
    (Ev.succ (Ev.of (fun fu => by simp [iJ]) (Ev.ret _)))
    (fun n hn => by
      have d1 : decide ((n : Int) < (ids.length : Int)) = true := decide_eq_true (by omega)
      by_cases e : ids[n] = r.Id
      · exact .inl ⟨8, ⟨rfl, hn, e⟩, Ev.succ (Ev.of (fun fu => by simp [iJ, hn, iB ids n hn, e]) (Ev.ret _))⟩
      · refine .inr ⟨fun _ => e, fun x hx => Ev.succ (Ev.of (fun fu => ?_) hx)⟩
        simp only [iJ, d1, ↓reduceIte, iB ids n hn, Option.bind_some, decide_eq_false e, Bool.false_eq_true, gD n (show n < 9223372036854775807 by omega)])
  refine ⟨x, x1, ?_⟩
  rcases x2 with ⟨rfl, h⟩ | ⟨n, v, -, ⟨rfl, hn, e⟩, rfl, -⟩
  · refine .inl ⟨rfl, fun hm => ?_⟩
    obtain ⟨i, hi, e⟩ := List.mem_iff_getElem.1 hm
    exact h i hi hi e
  · exact .inr ⟨rfl, e ▸ List.getElem_mem hn⟩
theorem zhr (r : zA) (hr : nQ r.Entries) (most : Int) : ∃ c, Ev (fun fu => zN fu r most) c ∧
    (∀ ids : List Int, ids.length ≤ 1000 → Ev (fun fu => gV fu r most ids) (if c = 0 then (if r.Id ∈ ids then 8 else 0) else c)) ∧ (c = 0 → vX r) := by
  obtain ⟨q, q1, q2, q3⟩ := zb7 r.Entries (fun e he => by have := hr.2 e he; omega)
  unfold zN gV fP iX
  by_cases h1 : r.Id < 1
  · have d1 : decide (r.Id < 1) = true := decide_eq_true h1
    refine ⟨7, Ev.of (fun fu => by simp [d1]) (Ev.ret _), fun ids _ => Ev.of (fun fu => by simp [d1]) (Ev.ret _), by simp⟩
  · by_cases h2 : 1000000 < r.Id
    · refine ⟨7, Ev.of (fun fu => by simp [h1, h2]) (Ev.ret _), fun ids _ => Ev.of (fun fu => by simp [h1, h2]) (Ev.ret _), by simp⟩
    · simp only [decide_eq_false h1, decide_eq_false h2, Bool.false_eq_true, ↓reduceIte, Option.bind_some, Option.bind_assoc]
      by_cases h3 : q.2 = 0
      · by_cases h4 : (r.Entries.length : Int) = 0
        · refine ⟨4, Ev.bind q1 (Ev.of (fun fu => by simp [h3, h4]) (Ev.ret _)), fun ids _ => Ev.bind q2 (Ev.of (fun fu => by simp [h3, h4]) (Ev.ret _)), by simp⟩
        · by_cases h5 : most < (r.Entries.length : Int)
          · refine ⟨3, Ev.bind q1 (Ev.of (fun fu => by simp only [h3, h4, h5, decide_true, decide_false, Bool.not_true, Bool.false_eq_true, ↓reduceIte]) (Ev.ret _)), fun ids _ => Ev.bind q2 (Ev.of (fun fu => by simp only [h3, h4, h5, decide_true, decide_false, Bool.not_true, Bool.false_eq_true, ↓reduceIte]; rfl) (Ev.ret _)), by simp⟩
          · refine ⟨0, Ev.bind q1 (Ev.of (fun fu => by simp only [h3, h4, h5, decide_true, decide_false, Bool.not_true, Bool.false_eq_true, ↓reduceIte]) (Ev.ret _)), fun ids hi => Ev.bind q2 ?_, fun _ => ⟨q3 h3, by omega, by omega⟩⟩
            simp only [h3, h4, h5, decide_true, decide_false, Bool.not_true, Bool.false_eq_true, ↓reduceIte]
            obtain ⟨x, x1, x2⟩ := ids_l1 ids r hi
            rcases x2 with ⟨rfl, hx⟩ | ⟨rfl, hx⟩
            · rw [if_neg hx]; exact Ev.bind x1 (Ev.ret _)
            · rw [if_pos hx]; exact Ev.bind x1 (Ev.ret _)
      · refine ⟨q.2, Ev.bind q1 (Ev.of (fun fu => by simp only [decide_eq_false h3, Bool.not_false, ↓reduceIte]) (Ev.ret _)), fun ids _ => Ev.bind q2 (Ev.of (fun fu => by simp only [decide_eq_false h3, Bool.not_false, ↓reduceIte]; rw [if_neg h3]) (Ev.ret _)), fun h => absurd h h3⟩
def Inv (mp : List (Int × Bool)) (ids : List Int) : Prop := ∀ x, mE mp x = if x ∈ ids then some true else none
theorem zly {α : Type} (mp : List (Int × α)) (n x : Int) (y : α) : mE (aF mp n y) x = if x = n then some y else mE mp x := by
  induction mp with
  | nil => simp only [aF, mE]
  | cons e mp ih =>
    obtain ⟨k, v⟩ := e
    simp only [aF]
    by_cases h : n = k
    · rw [if_pos h]; subst h
      simp only [mE]
      by_cases h2 : x = n <;> simp [h2]
    · rw [if_neg h]
      simp only [mE, ih]
      by_cases h2 : x = k
      · rw [if_pos h2, if_pos h2]
        rw [if_neg (by omega)]
      · rw [if_neg h2, if_neg h2]
theorem Inv.add {mp : List (Int × Bool)} {ids : List Int} (h : Inv mp ids) (n : Int) : Inv (aF mp n true) (ids ++ [n]) := by
  intro x
  rw [zly, h x]
  by_cases e : x = n
  · simp [e]
  · by_cases e2 : x ∈ ids <;> simp [e, e2]
theorem zmG (l : uA) (x : sA) (i B : Nat) (hi : i < 12) (hB : l.B = (B : Int)) (hB2 : B ≤ 16) (hs : ∀ r ∈ x.Runs, nQ r.Entries) (hlen : x.Runs.length ≤ 6) (m : Nat) : ∀ (k : Nat) (mp : List (Int × Bool)) (ids : List Int) (run : Int), k + m = x.Runs.length → Inv mp ids → ids.length + m ≤ 200 →
    (∃ mp' ids' run', Ev (fun fu => fF x (i : Int) l fu 0 (k : Int) mp run) (.inl (run', 0, mp')) ∧ Ev (fun fu => sH x l (i : Int) fu (k : Int) ids) (.inl ids') ∧ Inv mp' ids' ∧ ids'.length ≤ ids.length + m ∧ ∀ j, k ≤ j → ∀ h : j < x.Runs.length, vX x.Runs[j]) ∨
    (∃ (k' c : Int) (mp' : List (Int × Bool)), c ≠ 0 ∧ Ev (fun fu => fF x (i : Int) l fu 0 (k : Int) mp run) (.inr (k', c, mp')) ∧ Ev (fun fu => sH x l (i : Int) fu (k : Int) ids) (.inr ((i : Int), k', c))) := by
  induction m with
  | zero =>
    intro k mp ids run hk hinv hl
    obtain rfl : k = x.Runs.length := by omega
    exact .inl ⟨mp, ids, run, Ev.succ (Ev.of (fun fu => by simp [fF]) (Ev.ret _)), Ev.succ (Ev.of (fun fu => by simp [sH]) (Ev.ret _)), hinv, Nat.le_refl _, fun j h1 h2 => by omega⟩
  | succ m ih =>
    intro k mp ids run hk hinv hl
    have hkl : k < x.Runs.length := by omega
    have d1 : decide ((k : Int) < (x.Runs.length : Int)) = true := decide_eq_true (by omega)
    have hp : 2 ^ i ≤ 2 ^ 12 := Nat.pow_le_pow_right (by decide) (by omega)
    have hm : B * 2 ^ i ≤ 16 * 2 ^ 12 := Nat.mul_le_mul hB2 hp
    have hw : IntKind.i64.wrap (l.B * 2 ^ (min (i : Int).toNat (IntKind.bits .i64))) = ((B * 2 ^ i : Nat) : Int) := by
      have e : min (i : Int).toNat (IntKind.bits .i64) = i := by
        have : IntKind.bits .i64 = 64 := rfl
        rw [this]; omega
      have e2 : l.B * 2 ^ i = ((B * 2 ^ i : Nat) : Int) := by rw [hB]; simp
      rw [e, e2, wr (by omega) (by omega)]
    have h0 : (0 : Int) ≤ (i : Int) := by omega
    obtain ⟨c, c1, c2, c3⟩ := zhr x.Runs[k] (hs _ (List.getElem_mem hkl)) ((B * 2 ^ i : Nat) : Int)
    have c2 := c2 ids (by omega)
    have sz := zg5 B i hB2 (by omega)
    rw [← hB] at sz
    have g : 2 * ((ids.length + 1) * 8) ≤ 281474976710656 := by omega
    by_cases hc : c = 0
    · subst hc
      rw [if_pos rfl] at c2
      by_cases hin : x.Runs[k].Id ∈ ids
      · rw [if_pos hin] at c2
        have hg : mE mp x.Runs[k].Id = some true := by rw [hinv, if_pos hin]
        refine .inr ⟨(k : Int), 8, mp, by decide, Ev.succ ?_, Ev.succ ?_⟩
        · simp only [fF, d1, ↓reduceIte, iB x.Runs k hkl, Option.bind_some, if_pos h0, hw]
          refine Ev.bind c1 ?_
          simp only [decide_true, ↓reduceIte, hg, Option.getD_some]
          exact Ev.ret _
        · simp only [sH, d1, ↓reduceIte, iB x.Runs k hkl, Option.bind_some]
          refine Ev.bind sz (Ev.bind c2 ?_)
          exact Ev.ret _
      · rw [if_neg hin] at c2
        have hg : mE mp x.Runs[k].Id = none := by rw [hinv, if_neg hin]
        have rec' := ih (k + 1) (aF mp x.Runs[k].Id true) (ids ++ [x.Runs[k].Id]) (k : Int) (by omega) (hinv.add _) (by simp; omega)
        have s1 : ∀ r, Ev (fun fu => fF x (i : Int) l fu 0 ((k + 1 : Nat) : Int) (aF mp x.Runs[k].Id true) (k : Int)) r → Ev (fun fu => fF x (i : Int) l fu 0 (k : Int) mp run) r := fun r hr => by
          refine Ev.succ ?_
          simp only [fF, d1, ↓reduceIte, iB x.Runs k hkl, Option.bind_some, if_pos h0, hw]
          refine Ev.bind c1 ?_
          simp only [decide_true, ↓reduceIte, hg, Option.getD_none, Bool.false_eq_true, Bool.not_true, gD k (show k < 9223372036854775807 by omega)]
          exact hr
        have s2 : ∀ r, Ev (fun fu => sH x l (i : Int) fu ((k + 1 : Nat) : Int) (ids ++ [x.Runs[k].Id])) r → Ev (fun fu => sH x l (i : Int) fu (k : Int) ids) r := fun r hr => by
          refine Ev.succ ?_
          simp only [sH, d1, ↓reduceIte, iB x.Runs k hkl, Option.bind_some]
          refine Ev.bind sz (Ev.bind c2 ?_)
          simp only [decide_true, Bool.not_true, Bool.false_eq_true, ↓reduceIte, if_pos g, gD k (show k < 9223372036854775807 by omega)]
          exact hr
        rcases rec' with ⟨mp', ids', run', q1, q2, q3, q4, q5⟩ | ⟨k', c, mp', q0, q1, q2⟩
        · refine .inl ⟨mp', ids', run', s1 _ q1, s2 _ q2, q3, by simp at q4; omega, fun j h1 h2 => ?_⟩
          by_cases e : j = k
          · subst e; exact c3 rfl
          · exact q5 j (by omega) h2
        · exact .inr ⟨k', c, mp', q0, s1 _ q1, s2 _ q2⟩
    · rw [if_neg hc] at c2
      refine .inr ⟨(k : Int), c, mp, hc, Ev.succ ?_, Ev.succ ?_⟩
      · simp only [fF, d1, ↓reduceIte, iB x.Runs k hkl, Option.bind_some, if_pos h0, hw]
        refine Ev.bind c1 ?_
        simp only [decide_eq_false hc, Bool.false_eq_true, ↓reduceIte, Bool.not_false]
        exact Ev.ret _
      · simp only [sH, d1, ↓reduceIte, iB x.Runs k hkl, Option.bind_some]
        refine Ev.bind sz (Ev.bind c2 ?_)
        simp only [decide_eq_false hc, Bool.not_false, ↓reduceIte]
        exact Ev.ret _
theorem zlG (l : uA) (B : Nat) (hB : l.B = (B : Int)) (hB2 : B ≤ 16) (hs : wF l) (h12 : l.Levels.length ≤ 12) (m : Nat) : ∀ (i : Nat) (mp : List (Int × Bool)) (ids : List Int) (run level : Int), i + m = l.Levels.length → Inv mp ids → ids.length + 6 * m ≤ 150 →
    (∃ mp' ids' run' level', Ev (fun fu => pF l fu run 0 (i : Int) mp level) (level', run', 0, mp') ∧ Ev (fun fu => fH l fu (i : Int) ids) (.inl ids') ∧ ∀ j, i ≤ j → ∀ h : j < l.Levels.length, l.Levels[j].Runs.length ≤ 2 ∧ ∀ r ∈ l.Levels[j].Runs, vX r) ∨
    (∃ (i' k' c : Int) (mp' : List (Int × Bool)), c ≠ 0 ∧ Ev (fun fu => pF l fu run 0 (i : Int) mp level) (i', k', c, mp') ∧ Ev (fun fu => fH l fu (i : Int) ids) (.inr (i', k', c))) := by
  induction m with
  | zero =>
    intro i mp ids run level hi hinv hl
    obtain rfl : i = l.Levels.length := by omega
    exact .inl ⟨mp, ids, run, level, Ev.succ (Ev.of (fun fu => by simp [pF]) (Ev.ret _)), Ev.succ (Ev.of (fun fu => by simp [fH]) (Ev.ret _)), fun j h1 h2 => by omega⟩
  | succ m ih =>
    intro i mp ids run level hi hinv hl
    have hil : i < l.Levels.length := by omega
    have d1 : decide ((i : Int) < (l.Levels.length : Int)) = true := decide_eq_true (by omega)
    have hx := hs.2 _ (List.getElem_mem hil)
    by_cases h2 : 2 < l.Levels[i].Runs.length
    · have d2 : decide ((2 : Int) < (l.Levels[i].Runs.length : Int)) = true := decide_eq_true (by omega)
      refine .inr ⟨(i : Int), 0, 3, mp, by decide, Ev.succ ?_, Ev.succ ?_⟩
      · simp only [pF, d1, ↓reduceIte, iB l.Levels i hil, Option.bind_some, d2]
        exact Ev.ret _
      · simp only [fH, d1, ↓reduceIte, iB l.Levels i hil, Option.bind_some, d2]
        exact Ev.ret _
    · have d2 : decide ((2 : Int) < (l.Levels[i].Runs.length : Int)) = false := decide_eq_false (by omega)
      rcases zmG l l.Levels[i] i B (by omega) hB hB2 hx.2 hx.1 l.Levels[i].Runs.length 0 mp ids 0 (by omega) hinv (by omega) with ⟨mp', ids', run', q1, q2, q3, q4, q5⟩ | ⟨k', c, mp', q0, q1, q2⟩
      · have s1 : ∀ r, Ev (fun fu => pF l fu run' 0 ((i + 1 : Nat) : Int) mp' (i : Int)) r → Ev (fun fu => pF l fu run 0 (i : Int) mp level) r := fun r hr => by
          refine Ev.succ ?_
          simp only [pF, d1, ↓reduceIte, iB l.Levels i hil, Option.bind_some, d2, Bool.false_eq_true]
          refine Ev.bind q1 ?_
          simp only [gD i (show i < 9223372036854775807 by omega)]
          exact hr
        have s2 : ∀ r, Ev (fun fu => fH l fu ((i + 1 : Nat) : Int) ids') r → Ev (fun fu => fH l fu (i : Int) ids) r := fun r hr => by
          refine Ev.succ ?_
          simp only [fH, d1, ↓reduceIte, iB l.Levels i hil, Option.bind_some, d2, Bool.false_eq_true]
          refine Ev.bind q2 ?_
          simp only [gD i (show i < 9223372036854775807 by omega)]
          exact hr
        rcases ih (i + 1) mp' ids' run' (i : Int) (by omega) q3 (by omega) with ⟨mp2, ids2, run2, lev2, t1, t2, t3⟩ | ⟨i2, k2, c2, mp2, t0, t1, t2⟩
        · refine .inl ⟨mp2, ids2, run2, lev2, s1 _ t1, s2 _ t2, fun j h1 h3 => ?_⟩
          by_cases e : j = i
          · subst e
            refine ⟨by omega, fun r hr => ?_⟩
            obtain ⟨n, hn, rfl⟩ := List.mem_iff_getElem.1 hr
            exact q5 n (by omega) hn
          · exact t3 j (by omega) h3
        · exact .inr ⟨i2, k2, c2, mp2, t0, s1 _ t1, s2 _ t2⟩
      · refine .inr ⟨(i : Int), k', c, mp', q0, Ev.succ ?_, Ev.succ ?_⟩
        · simp only [pF, d1, ↓reduceIte, iB l.Levels i hil, Option.bind_some, d2, Bool.false_eq_true]
          refine Ev.bind q1 ?_
          exact Ev.ret _
        · simp only [fH, d1, ↓reduceIte, iB l.Levels i hil, Option.bind_some, d2, Bool.false_eq_true]
          refine Ev.bind q2 ?_
          exact Ev.ret _
structure nN (l : uA) : Prop where
  b : 1 ≤ l.B ∧ l.B ≤ 16
  few : l.Levels.length ≤ 12
  runs : ∀ x ∈ l.Levels, x.Runs.length ≤ 2 ∧ ∀ r ∈ x.Runs, vX r
theorem zde (l : uA) (hs : wF l) : ∃ r, Ev (fun fu => uH fu l) r ∧ Ev (fun fu => vH fu l) r ∧ ((r = (0, 0, 0) ∧ nN l) ∨ r.2.2 ≠ 0) := by
  unfold uH vH
  by_cases h1 : l.B < 1
  · exact ⟨(0, 0, 7), Ev.of (fun fu => by simp [h1]) (Ev.ret _), Ev.of (fun fu => by simp [h1]) (Ev.ret _), .inr (by decide)⟩
  · by_cases h2 : 16 < l.B
    · exact ⟨(0, 0, 7), Ev.of (fun fu => by simp [h1, h2]) (Ev.ret _), Ev.of (fun fu => by simp [h1, h2]) (Ev.ret _), .inr (by decide)⟩
    · simp only [decide_eq_false h1, decide_eq_false h2, Bool.false_eq_true, ↓reduceIte, Option.bind_some]
      by_cases h3 : 12 < l.Levels.length
      · have d : decide ((12 : Int) < (l.Levels.length : Int)) = true := decide_eq_true (by omega)
        simp only [d, ↓reduceIte]
        exact ⟨(0, 0, 3), Ev.ret _, Ev.ret _, .inr (by decide)⟩
      · have d : decide ((12 : Int) < (l.Levels.length : Int)) = false := decide_eq_false (by omega)
        simp only [d, Bool.false_eq_true, ↓reduceIte]
        obtain ⟨B, hB⟩ : ∃ B : Nat, l.B = (B : Int) := ⟨l.B.toNat, by omega⟩
        rcases zlG l B hB (by omega) hs (by omega) l.Levels.length 0 [] [] 0 0 (by omega) (fun x => by simp [mE]) (by simp; omega) with ⟨mp', ids', run', lev', q1, q2, q3⟩ | ⟨i', k', c, mp', q0, q1, q2⟩
        · obtain ⟨b, hb⟩ : ∃ b : Bool, (if decide ((0 : Int) < (l.Levels.length : Int)) = true then (ix l.Levels (IntKind.i64.wrap ((l.Levels.length : Int) - 1))).bind fun e218 => some (decide ((e218.Runs.length : Int) = 0)) else some false) = some b := by
            by_cases h0 : 0 < l.Levels.length
            · have d0 : decide ((0 : Int) < (l.Levels.length : Int)) = true := decide_eq_true (by omega)
              have w : IntKind.i64.wrap ((l.Levels.length : Int) - 1) = ((l.Levels.length - 1 : Nat) : Int) := by rw [wr (by omega) (by omega)]; omega
              simp only [d0, ↓reduceIte, w, iB l.Levels (l.Levels.length - 1) (by omega), Option.bind_some]
              exact ⟨_, rfl⟩
            · have d0 : decide ((0 : Int) < (l.Levels.length : Int)) = false := decide_eq_false (by omega)
              simp only [d0, Bool.false_eq_true, ↓reduceIte]
              exact ⟨_, rfl⟩
          cases b with
          | true =>
            refine ⟨(IntKind.i64.wrap ((l.Levels.length : Int) - 1), 0, 6), Ev.bind q1 ?_, Ev.bind q2 ?_, .inr (show (6 : Int) ≠ 0 by decide)⟩
            · simp only [decide_true, Bool.not_true, Bool.false_eq_true, ↓reduceIte, hb, Option.bind_some]; exact Ev.ret _
            · simp only [hb, Option.bind_some, ↓reduceIte]; exact Ev.ret _
          | false =>
            refine ⟨(0, 0, 0), Ev.bind q1 ?_, Ev.bind q2 ?_, .inl ⟨rfl, ⟨⟨by omega, by omega⟩, by omega, fun x hx => ?_⟩⟩⟩
            · simp only [decide_true, Bool.not_true, Bool.false_eq_true, ↓reduceIte, hb, Option.bind_some]; exact Ev.ret _
            · simp only [hb, Option.bind_some, Bool.false_eq_true, ↓reduceIte]; exact Ev.ret _
            · obtain ⟨n, hn, rfl⟩ := List.mem_iff_getElem.1 hx
              exact q3 n (by omega) hn
        · refine ⟨(i', k', c), Ev.bind q1 ?_, Ev.bind q2 ?_, .inr q0⟩
          · simp only [decide_eq_false q0, Bool.not_false, ↓reduceIte]; exact Ev.ret _
          · exact Ev.ret _
def bE (b : Int) (xs : List Int) : Int := xs.foldl (fun b x => if b < x then x else b) b
theorem jW (M : Int) : ∀ (xs : List Int) (b : Int), b ≤ M → (∀ x ∈ xs, x ≤ M) → bE b xs ≤ M
  | [], b, hb, _ => hb
  | x :: xs, b, hb, h => by
    show bE (if b < x then x else b) xs ≤ M
    refine jW M xs _ ?_ fun y hy => h y (by simp [hy])
    have := h x (by simp)
    split <;> omega
theorem pX : ∀ (xs : List Int) (b : Int), b ≤ bE b xs
  | [], b => Int.le_refl b
  | x :: xs, b => by
    have h1 : b ≤ (if b < x then x else b) := by split <;> omega
    exact Int.le_trans h1 (pX xs _)
theorem zgA (xs ys : List Int) (b : Int) : bE b (xs ++ ys) = bE (bE b xs) ys := by simp [bE]
theorem zlA {xs ys : List Int} (h : xs.Perm ys) (b : Int) : bE b xs = bE b ys := by
  induction h generalizing b with
  | nil => rfl
  | cons x _ ih => exact ih _
  | swap x y l =>
    show bE (if (if b < y then y else b) < x then x else (if b < y then y else b)) l = bE (if (if b < x then x else b) < y then y else (if b < x then x else b)) l
    congr 1
    split <;> split <;> (try split) <;> omega
  | trans _ _ ih1 ih2 => exact (ih1 b).trans (ih2 b)
def kE (xs : List sA) : List Int := (xs.map fun x => x.Runs.map zA.Id).flatten
theorem zkL (l : uA) (hs : wF l) : Ev (fun fu => zM fu l) (bE 0 (kE l.Levels)) := by
  have inner : ∀ (x : sA) (_ : x.Runs.length ≤ 6) (m k : Nat) (best : Int), k + m = x.Runs.length → Ev (fun fu => zG x fu best (k : Int)) (bE best ((x.Runs.drop k).map zA.Id)) := by
    intro x hx m
    induction m with
    | zero =>
      intro k best hk
      obtain rfl : k = x.Runs.length := by omega
      exact Ev.succ (Ev.of (fun fu => by simp [zG, bE]) (Ev.ret _))
    | succ m ih =>
      intro k best hk
      have hkl : k < x.Runs.length := by omega
      have d : decide ((k : Int) < (x.Runs.length : Int)) = true := decide_eq_true (by omega)
      have := ih (k + 1) (if best < x.Runs[k].Id then x.Runs[k].Id else best) (by omega)
      rw [List.drop_eq_getElem_cons hkl]
      refine Ev.succ ?_
      simp only [zG, d, ↓reduceIte, iB x.Runs k hkl, Option.bind_some, gD k (show k < 9223372036854775807 by omega)]
      exact this
  have outer : ∀ (m i : Nat) (best : Int), i + m = l.Levels.length → Ev (fun fu => mH l fu best (i : Int)) (bE best (kE (l.Levels.drop i))) := by
    intro m
    induction m with
    | zero =>
      intro i best hi
      obtain rfl : i = l.Levels.length := by omega
      exact Ev.succ (Ev.of (fun fu => by simp [mH, bE, kE]) (Ev.ret _))
    | succ m ih =>
      intro i best hi
      have hil : i < l.Levels.length := by omega
      have d : decide ((i : Int) < (l.Levels.length : Int)) = true := decide_eq_true (by omega)
      have hx := (hs.2 _ (List.getElem_mem hil)).1
      have := ih (i + 1) (bE best (l.Levels[i].Runs.map zA.Id)) (by omega)
      have h14 := hs.1
      rw [List.drop_eq_getElem_cons hil]
      rw [show kE (l.Levels[i] :: l.Levels.drop (i + 1)) = l.Levels[i].Runs.map zA.Id ++ kE (l.Levels.drop (i + 1)) from rfl, zgA]
      refine Ev.succ ?_
      simp only [mH, d, ↓reduceIte, iB l.Levels i hil, Option.bind_some, gD i (show i < 9223372036854775807 by omega)]
      refine Ev.bind (inner l.Levels[i] hx l.Levels[i].Runs.length 0 best (by omega)) ?_
      exact this
  unfold zM
  exact Ev.bind (outer l.Levels.length 0 0 (by omega)) (Ev.ret _)
theorem zao (l : uA) (hg : nN l) : ∀ x ∈ kE l.Levels, x ≤ 1000000 := by
  intro x hx
  unfold kE at hx
  obtain ⟨y, hy, hx⟩ := List.mem_flatten.1 hx
  obtain ⟨z, hz, rfl⟩ := List.mem_map.1 hy
  obtain ⟨r, hr, rfl⟩ := List.mem_map.1 hx
  exact ((hg.runs z hz).2 r hr).2.2
def fE : Nat → List sA → List Nat
  | _, [] => []
  | n, x :: xs => if x.Runs.length = 2 then n :: fE (n + 1) xs else fE (n + 1) xs
def sD (l : uA) : List Nat := fE 0 l.Levels
theorem lY : ∀ (xs : List sA) (n : Nat), (fE n xs).length ≤ xs.length
  | [], _ => by simp [fE]
  | x :: xs, n => by
    have := lY xs (n + 1)
    simp only [fE]
    split <;> simp <;> omega
theorem eZ : ∀ (xs : List sA) (n i : Nat), i ∈ fE n xs → n ≤ i ∧ ∃ h : i - n < xs.length, xs[i - n].Runs.length = 2
  | [], n, i, h => by simp [fE] at h
  | x :: xs, n, i, h => by
    simp only [fE] at h
    have lB : i ∈ fE (n + 1) xs → n ≤ i ∧ ∃ h : i - n < (x :: xs).length, (x :: xs)[i - n].Runs.length = 2 := fun h => by
      obtain ⟨h1, h2, h3⟩ := eZ xs (n + 1) i h
      refine ⟨by omega, by simp; omega, ?_⟩
      have e : i - n = (i - (n + 1)) + 1 := by omega
      simp only [e, List.getElem_cons_succ]; exact h3
    split at h
    · rename_i hx
      rcases List.mem_cons.1 h with rfl | h
      · exact ⟨Nat.le_refl _, by simp, by simpa using hx⟩
      · exact lB h
    · exact lB h
theorem zdr (l : uA) (k : Nat) (h : k < (sD l).length) : ∃ h2 : (sD l)[k] < l.Levels.length, l.Levels[(sD l)[k]].Runs.length = 2 := by
  obtain ⟨-, h2, h3⟩ := eZ l.Levels 0 _ (List.getElem_mem h)
  exact ⟨by simpa using h2, by simpa using h3⟩
theorem zaN : ∀ (xs : List sA) (n : Nat), (fE n xs).Pairwise (· < ·)
  | [], _ => List.Pairwise.nil
  | x :: xs, n => by
    simp only [fE]
    split
    · exact List.Pairwise.cons (fun i hi => by have := (eZ xs (n + 1) i hi).1; omega) (zaN xs (n + 1))
    · exact zaN xs (n + 1)
theorem ziY (l : uA) (i j : Nat) (hi : i < (sD l).length) (hj : j < (sD l).length) (h : (sD l)[i] = (sD l)[j]) : i = j := by
  have p := List.pairwise_iff_getElem.1 (zaN l.Levels 0)
  rcases Nat.lt_trichotomy i j with q | q | q
  · have := p i j hi hj q; exact absurd h (by show ¬ (fE 0 l.Levels)[i] = (fE 0 l.Levels)[j]; omega)
  · exact q
  · have := p j i hj hi q; exact absurd h (by show ¬ (fE 0 l.Levels)[i] = (fE 0 l.Levels)[j]; omega)
theorem ziH (l : uA) (hl : l.Levels.length ≤ 14) : Ev (fun fu => uN fu l.B l.Levels) (cD (sD l)) ∧ Ev (fun fu => nU fu l) (cD (sD l)) := by
  have go : ∀ (m n : Nat) (acc : List Nat), n + m = l.Levels.length → acc.length ≤ n → Ev (fun fu => gG l.Levels fu (n : Int) (cD acc)) (cD (acc ++ fE n (l.Levels.drop n))) ∧ Ev (fun fu => bJ l fu (n : Int) (cD acc)) (cD (acc ++ fE n (l.Levels.drop n))) := by
    intro m
    induction m with
    | zero =>
      intro n acc hn _
      obtain rfl : n = l.Levels.length := by omega
      exact ⟨Ev.succ (Ev.of (fun fu => by simp [gG, fE]) (Ev.ret _)), Ev.succ (Ev.of (fun fu => by simp [bJ, fE]) (Ev.ret _))⟩
    | succ m ih =>
      intro n acc hn ha
      have hnl : n < l.Levels.length := by omega
      have d : decide ((n : Int) < (l.Levels.length : Int)) = true := decide_eq_true (by omega)
      have g : 2 * (((cD acc).length + 1) * 8) ≤ 281474976710656 := by rw [kO]; omega
      rw [List.drop_eq_getElem_cons hnl]
      by_cases h2 : l.Levels[n].Runs.length = 2
      · have d2 : decide ((l.Levels[n].Runs.length : Int) = 2) = true := decide_eq_true (by omega)
        have e : cD acc ++ [(n : Int)] = cD (acc ++ [n]) := by simp [cD]
        obtain ⟨i1, i2⟩ := ih (n + 1) (acc ++ [n]) (by omega) (by simp; omega)
        rw [List.append_assoc, List.singleton_append] at i1 i2
        simp only [fE, if_pos h2]
        constructor
        · refine Ev.succ ?_
          simp only [gG, d, d2, ↓reduceIte, iB l.Levels n hnl, Option.bind_some, if_pos g, e, gD n (show n < 9223372036854775807 by omega)]
          exact i1
        · refine Ev.succ ?_
          simp only [bJ, d, d2, ↓reduceIte, iB l.Levels n hnl, Option.bind_some, if_pos g, e, gD n (show n < 9223372036854775807 by omega)]
          exact i2
      · have d2 : decide ((l.Levels[n].Runs.length : Int) = 2) = false := decide_eq_false (by omega)
        obtain ⟨i1, i2⟩ := ih (n + 1) acc (by omega) (by omega)
        simp only [fE, if_neg h2]
        constructor
        · refine Ev.succ ?_
          simp only [gG, d, d2, ↓reduceIte, iB l.Levels n hnl, Option.bind_some, Bool.false_eq_true, gD n (show n < 9223372036854775807 by omega)]
          exact i1
        · refine Ev.succ ?_
          simp only [bJ, d, d2, ↓reduceIte, iB l.Levels n hnl, Option.bind_some, Bool.false_eq_true, gD n (show n < 9223372036854775807 by omega)]
          exact i2
  obtain ⟨g1, g2⟩ := go l.Levels.length 0 [] (by omega) (by simp)
  unfold uN nU
  exact ⟨Ev.bind g1 (Ev.ret _), Ev.bind g2 (Ev.ret _)⟩
def yX (x : sA) : List (List aA) := match x.Runs with | [a, b] => [b.Entries, a.Entries] | _ => []
def eI (l : uA) (i : Nat) : List (List aA) := match l.Levels[i]? with | some x => yX x | none => []
theorem zcc (x : sA) (h : x.Runs.length = 2) : ∃ a b, x.Runs = [a, b] := by
  match hx : x.Runs, h with
  | [a, b], _ => exact ⟨a, b, rfl⟩
theorem zaY (l : uA) (i : Nat) (hi : i < l.Levels.length) : eI l i = yX l.Levels[i] := by
  unfold eI; rw [List.getElem?_eq_getElem hi]
theorem zak (l : uA) (hs : wF l) (hg : nN l) (i : Nat) (hi : i < l.Levels.length) (h2 : l.Levels[i].Runs.length = 2) : tF (eI l i) ∧ cV (eI l i) := by
  obtain ⟨a, b, e⟩ := zcc _ h2
  have hr := (hg.runs _ (List.getElem_mem hi)).2
  have hs2 := (hs.2 _ (List.getElem_mem hi)).2
  have ha := hr a (by rw [e]; simp)
  have hb := hr b (by rw [e]; simp)
  have sa := hs2 a (by rw [e]; simp)
  have sb := hs2 b (by rw [e]; simp)
  have er : eI l i = [b.Entries, a.Entries] := by rw [zaY l i hi]; unfold yX; rw [e]
  rw [er]
  have near : dN [b.Entries, a.Entries] := ⟨by simp, fun x hx => by
    rcases List.mem_cons.1 hx with rfl | hx
    · have := sb.1; omega
    · rcases List.mem_cons.1 hx with rfl | hx
      · have := sa.1; omega
      · simp at hx, fun x hx y hy => by
    rcases List.mem_cons.1 hx with rfl | hx
    · have := sb.2 y hy; omega
    · rcases List.mem_cons.1 hx with rfl | hx
      · have := sa.2 y hy; omega
      · simp at hx⟩
  refine ⟨⟨by simp, by simp, fun x hx => ?_⟩, ⟨near, fun _ => ?_⟩⟩
  · rcases List.mem_cons.1 hx with rfl | hx
    · exact hb.1
    · rcases List.mem_cons.1 hx with rfl | hx
      · exact ha.1
      · simp at hx
  · have := zcI [b.Entries, a.Entries] (qF [b.Entries, a.Entries])
    have h1 := sa.1
    have h3 := sb.1
    simp only [mV, List.map_cons, List.map_nil, List.sum_cons, List.sum_nil] at this
    show lB [b.Entries, a.Entries] (qF [b.Entries, a.Entries]) ≤ 120
    omega
def mK (l : uA) (i : Nat) (b : Bool) (n : Nat) : yA := ⟨(i : Int), lQ (eI l i) b n⟩
theorem zap (l : uA) (hs : wF l) (hg : nN l) (i : Nat) (b : Bool) (hi : i < l.Levels.length) (h2 : l.Levels[i].Runs.length = 2) : Ev (fun fu => zL fu l (i : Int) b) (mK l i b 0) ∧ Ev (fun fu => lS fu l (i : Int) b) (mK l i b 0) := by
  obtain ⟨x, y, e⟩ := zcc _ h2
  obtain ⟨g, s⟩ := zak l hs hg i hi h2
  obtain ⟨b1, b2⟩ := zjL (eI l i) b s g
  have er : eI l i = [y.Entries, x.Entries] := by rw [zaY l i hi]; unfold yX; rw [e]
  have b1' := b1; have b2' := b2
  rw [er] at b1' b2'
  have i1 : ix l.Levels[i].Runs 1 = some y := by rw [e]; rfl
  have i0 : ix l.Levels[i].Runs 0 = some x := by rw [e]; rfl
  constructor
  · unfold zL
    simp only [iB l.Levels i hi, Option.bind_some, i1, i0]
    refine Ev.bind b1' ?_
    show Ev _ (yA.mk (i : Int) (lQ (eI l i) b 0))
    rw [er]; exact Ev.ret _
  · unfold lS wM
    have d : decide ((l.Levels.length : Int) ≤ (i : Int)) = false := decide_eq_false (by omega)
    simp only [d, Bool.false_eq_true, ↓reduceIte, iB l.Levels i hi, Option.bind_some, i1, i0]
    refine Ev.bind b2' ?_
    show Ev _ (yA.mk (i : Int) (lQ (eI l i) b 0))
    rw [er]; exact Ev.ret _
def lG (l : uA) (i : Nat) : Bool := decide (i + 1 = l.Levels.length)
theorem za7 (fu : Nat) (l : uA) (hl : l.Levels.length ≤ 14) (i : Nat) : lK fu l (i : Int) = some (lG l i) := by
  unfold lK lG
  rw [wr (by omega) (by omega)]
  congr 1
  exact decide_eq_decide.2 (by omega)
def lJ : oB := ⟨⟨0, []⟩, [], 0⟩
def dL (l : uA) : List yA := (sD l).map fun i => mK l i (lG l i) 0
theorem of_ev (l : uA) (hs : wF l) (hg : nN l) (hc : Ev (fun fu => uH fu l) (0, 0, 0)) : Ev (fun fu => wJ fu l) (⟨l, dL l, bE 0 (kE l.Levels) + 1⟩, 0) := by
  have h14 := hs.1
  have go : ∀ (m n : Nat) (acc : List yA), n + m = l.Levels.length → acc.length ≤ n → Ev (fun fu => dG (l.B, l.Levels) l fu (n : Int) acc) (acc ++ (fE n (l.Levels.drop n)).map fun i => mK l i (lG l i) 0) := by
    intro m
    induction m with
    | zero =>
      intro n acc hn _
      obtain rfl : n = l.Levels.length := by omega
      exact Ev.succ (Ev.of (fun fu => by simp [dG, fE]) (Ev.ret _))
    | succ m ih =>
      intro n acc hn ha
      have hnl : n < l.Levels.length := by omega
      have d : decide ((n : Int) < (l.Levels.length : Int)) = true := decide_eq_true (by omega)
      have g : 2 * ((acc.length + 1) * 176) ≤ 281474976710656 := by omega
      rw [List.drop_eq_getElem_cons hnl]
      by_cases h2 : l.Levels[n].Runs.length = 2
      · have d2 : decide ((l.Levels[n].Runs.length : Int) = 2) = true := decide_eq_true (by omega)
        have i1 := ih (n + 1) (acc ++ [mK l n (lG l n) 0]) (by omega) (by simp; omega)
        rw [List.append_assoc, List.singleton_append] at i1
        simp only [fE, if_pos h2, List.map_cons]
        refine Ev.succ ?_
        simp only [dG, d, d2, ↓reduceIte, iB l.Levels n hnl, Option.bind_some, za7 _ l h14 n]
        refine Ev.bind (zap l hs hg n (lG l n) hnl h2).1 ?_
        simp only [if_pos g, gD n (show n < 9223372036854775807 by omega)]
        exact i1
      · have d2 : decide ((l.Levels[n].Runs.length : Int) = 2) = false := decide_eq_false (by omega)
        have i1 := ih (n + 1) acc (by omega) (by omega)
        simp only [fE, if_neg h2]
        refine Ev.succ ?_
        simp only [dG, d, d2, ↓reduceIte, iB l.Levels n hnl, Option.bind_some, Bool.false_eq_true, gD n (show n < 9223372036854775807 by omega)]
        exact i1
  have h1 := pX (kE l.Levels) 0
  have h2 := jW 1000000 (kE l.Levels) 0 (by decide) (zao l hg)
  have w : IntKind.i64.wrap (bE 0 (kE l.Levels) + 1) = bE 0 (kE l.Levels) + 1 := wr (by omega) (by omega)
  unfold wJ pO
  refine Ev.bind hc ?_
  simp only [decide_true, Bool.not_true, Bool.false_eq_true, ↓reduceIte, Option.bind_some]
  refine Ev.bind (zkL l hs) (Ev.bind (go l.Levels.length 0 [] (by omega) (by simp)) ?_)
  rw [w]
  exact Ev.ret _
theorem of_no (l : uA) (r : Int × Int × Int) (hc : Ev (fun fu => uH fu l) r) (h : r.2.2 ≠ 0) : Ev (fun fu => wJ fu l) (lJ, r.2.2) := by
  unfold wJ
  refine Ev.bind hc ?_
  simp only [decide_eq_false h, Bool.not_false, ↓reduceIte]
  exact Ev.ret _
theorem zgt (l : uA) (hs : wF l) (hc : Ev (fun fu => vH fu l) (0, 0, 0)) : Ev (fun fu => lU fu l) ((l.Levels.map fun x => x.Runs.reverse).flatten, 0) := by
  have inner : ∀ (x : sA) (_ : x.Runs.length ≤ 6) (k : Nat) (out : List zA), k ≤ x.Runs.length → out.length ≤ 1000 → Ev (fun fu => gI x fu ((k : Int) - 1) out) (out ++ (x.Runs.take k).reverse) := by
    intro x hx k
    induction k with
    | zero =>
      intro out _ _
      exact Ev.succ (Ev.of (fun fu => by simp [gI]) (Ev.ret _))
    | succ k ih =>
      intro out hk ho
      have hkl : k < x.Runs.length := by omega
      have e1 : ((k + 1 : Nat) : Int) - 1 = (k : Int) := by omega
      have d : decide ((0 : Int) ≤ (k : Int)) = true := decide_eq_true (by omega)
      have g : 2 * ((out.length + 1) * 32) ≤ 281474976710656 := by omega
      have w : IntKind.i64.wrap ((k : Int) - 1) = (k : Int) - 1 := wr (by omega) (by omega)
      have e2 : (x.Runs.take (k + 1)).reverse = x.Runs[k] :: (x.Runs.take k).reverse := by
        rw [← List.take_append_getElem hkl, List.reverse_append]; rfl
      rw [e1, e2]
      by_cases ho2 : out.length < 1000
      · have := ih (out ++ [x.Runs[k]]) (by omega) (by simp; omega)
        rw [List.append_assoc, List.singleton_append] at this
        refine Ev.succ ?_
        simp only [gI, d, ↓reduceIte, iB x.Runs k hkl, Option.bind_some, if_pos g, w]
        exact this
      ·
        have hgen : ∀ (k : Nat) (out : List zA), k ≤ x.Runs.length → out.length ≤ 2000 - k → k ≤ 6 → Ev (fun fu => gI x fu ((k : Int) - 1) out) (out ++ (x.Runs.take k).reverse) := by
          intro k
          induction k with
          | zero => intro out _ _ _; exact Ev.succ (Ev.of (fun fu => by simp [gI]) (Ev.ret _))
          | succ k ih2 =>
            intro out hk ho h6
            have hkl : k < x.Runs.length := by omega
            have e1 : ((k + 1 : Nat) : Int) - 1 = (k : Int) := by omega
            have d : decide ((0 : Int) ≤ (k : Int)) = true := decide_eq_true (by omega)
            have g : 2 * ((out.length + 1) * 32) ≤ 281474976710656 := by omega
            have w : IntKind.i64.wrap ((k : Int) - 1) = (k : Int) - 1 := wr (by omega) (by omega)
            have e2 : (x.Runs.take (k + 1)).reverse = x.Runs[k] :: (x.Runs.take k).reverse := by
              rw [← List.take_append_getElem hkl, List.reverse_append]; rfl
            rw [e1, e2]
            have := ih2 (out ++ [x.Runs[k]]) (by omega) (by simp; omega) (by omega)
            rw [List.append_assoc, List.singleton_append] at this
            refine Ev.succ ?_
            simp only [gI, d, ↓reduceIte, iB x.Runs k hkl, Option.bind_some, if_pos g, w]
            exact this
        have := hgen (k + 1) out (by omega) (by omega) (by omega)
        rw [e1, e2] at this
        exact this
  have outer : ∀ (m i : Nat) (out : List zA), i + m = l.Levels.length → out.length ≤ 6 * i → Ev (fun fu => eL l fu (i : Int) out) (out ++ ((l.Levels.drop i).map fun x => x.Runs.reverse).flatten) := by
    intro m
    induction m with
    | zero =>
      intro i out hi _
      obtain rfl : i = l.Levels.length := by omega
      exact Ev.succ (Ev.of (fun fu => by simp [eL]) (Ev.ret _))
    | succ m ih =>
      intro i out hi ho
      have hil : i < l.Levels.length := by omega
      have h14 := hs.1
      have d : decide ((i : Int) < (l.Levels.length : Int)) = true := decide_eq_true (by omega)
      have hx := (hs.2 _ (List.getElem_mem hil)).1
      have w : IntKind.i64.wrap ((l.Levels[i].Runs.length : Int) - 1) = (l.Levels[i].Runs.length : Int) - 1 := wr (by omega) (by omega)
      have i1 := inner l.Levels[i] hx l.Levels[i].Runs.length out (Nat.le_refl _) (by omega)
      rw [List.take_length] at i1
      have := ih (i + 1) (out ++ l.Levels[i].Runs.reverse) (by omega) (by simp; omega)
      rw [List.drop_eq_getElem_cons hil, List.map_cons, List.flatten_cons, ← List.append_assoc]
      refine Ev.succ ?_
      simp only [eL, d, ↓reduceIte, iB l.Levels i hil, Option.bind_some, w, gD i (show i < 9223372036854775807 by omega)]
      exact Ev.bind i1 this
  unfold lU
  refine Ev.bind hc ?_
  simp only [decide_true, Bool.not_true, Bool.false_eq_true, ↓reduceIte]
  exact Ev.bind (outer l.Levels.length 0 [] (by omega) (by simp)) (Ev.ret _)
theorem zcL : ∀ (xs : List sA), ((xs.map fun x => x.Runs.reverse).flatten.map zA.Id).Perm (kE xs)
  | [] => List.Perm.nil
  | x :: xs => by
    simp only [kE, List.map_cons, List.flatten_cons, List.map_append]
    exact List.Perm.append ((List.reverse_perm _).map _) (zcL xs)
theorem zdd : ∀ (xs : List sA), (∀ x ∈ xs, x.Runs.length ≤ 6) → ((xs.map fun x => x.Runs.reverse).flatten).length ≤ 6 * xs.length
  | [], _ => by simp
  | x :: xs, h => by
    have h1 := h x (by simp)
    have h2 := zdd xs fun y hy => h y (by simp [hy])
    simp only [List.map_cons, List.flatten_cons, List.length_append, List.length_reverse, List.length_cons]
    omega
theorem zhO (l : uA) (hs : wF l) (hc : Ev (fun fu => vH fu l) (0, 0, 0)) : Ev (fun fu => fU fu l) (bE 0 (kE l.Levels)) := by
  rw [← zlA (zcL l.Levels)]
  have hl := zdd l.Levels fun x hx => (hs.2 x hx).1
  have h14 := hs.1
  generalize hv : (l.Levels.map fun x => x.Runs.reverse).flatten = v at hl
  have go : ∀ (m i : Nat) (best : Int), i + m = v.length → Ev (fun fu => vK (v, 0) fu best (i : Int)) (bE best ((v.drop i).map zA.Id)) := by
    intro m
    induction m with
    | zero =>
      intro i best hi
      obtain rfl : i = v.length := by omega
      exact Ev.succ (Ev.of (fun fu => by simp [vK, bE]) (Ev.ret _))
    | succ m ih =>
      intro i best hi
      have hil : i < v.length := by omega
      have d : decide ((i : Int) < (v.length : Int)) = true := decide_eq_true (by omega)
      have := ih (i + 1) (if best < v[i].Id then v[i].Id else best) (by omega)
      rw [List.drop_eq_getElem_cons hil]
      refine Ev.succ ?_
      simp only [vK, d, ↓reduceIte, iB v i hil, Option.bind_some, gD i (show i < 9223372036854775807 by omega)]
      exact this
  have nw := zgt l hs hc
  rw [hv] at nw
  unfold fU
  exact Ev.bind nw (Ev.bind (go v.length 0 0 (by omega)) (Ev.ret _))
theorem zaW (l : uA) (hs : wF l) (hc : Ev (fun fu => vH fu l) (0, 0, 0)) (hg : nN l) (i : Nat) (hi : i < l.Levels.length) : Ev (fun fu => eR fu l (i : Int)) (lG l i) := by
  have h12 := hg.few
  have d1 : decide ((i : Int) < 0) = false := decide_eq_false (by omega)
  have d2 : decide ((12 : Int) ≤ (i : Int)) = false := decide_eq_false (by omega)
  have e : (!decide (((i + 1 : Nat) : Int) < (l.Levels.length : Int))) = lG l i := by
    unfold lG
    by_cases q : i + 1 = l.Levels.length
    · rw [decide_eq_true q, decide_eq_false (by omega)]; rfl
    · rw [decide_eq_false q, decide_eq_true (by omega)]; rfl
  unfold eR bX nV
  refine Ev.bind (a := (decide (((i + 1 : Nat) : Int) < (l.Levels.length : Int)), 0)) (Ev.bind (a := 0) (Ev.bind hc ?_) ?_) ?_
  · simp only [decide_true, ↓reduceIte, d1, d2, Bool.false_eq_true, Option.bind_some]; exact Ev.ret _
  · simp only [decide_true, Bool.not_true, Bool.false_eq_true, ↓reduceIte, gD i (show i < 9223372036854775807 by omega)]; exact Ev.ret _
  · rw [← e]; exact Ev.ret _
structure zdy (l : uA) (i : Nat) (j : yA) : Prop where
  low : j.Work.Shadow.Bottom = true → lG l i = true
  at' : ∃ n, n ≤ sG (eI l i) ∧ j = mK l i j.Work.Shadow.Bottom n
structure zlO (s : oB) : Prop where
  lev : nN s.Levels
  next : 1 ≤ s.NextId ∧ s.NextId ≤ 1000001 ∧ bE 0 (kE s.Levels.Levels) < s.NextId
  len : s.Jobs.length = (sD s.Levels).length
  job : ∀ k (h : k < s.Jobs.length) (h2 : k < (sD s.Levels).length), zdy s.Levels (sD s.Levels)[k] s.Jobs[k]
structure tJ (s : oB) (level : Int) (k i : Nat) (b : Bool) (n : Nat) : Prop where
  due : (sD s.Levels)[k]? = some i
  lev : level = (i : Int)
  le : n ≤ sG (eI s.Levels i)
  job : s.Jobs[k]? = some (mK s.Levels i b n)
  low : b = true → lG s.Levels i = true
structure dP (s : oB) : Prop where
  small : wF s.Levels
  few : s.Jobs.length ≤ 1000
  right : zlO s
  lc : Ev (fun fu => uH fu s.Levels) (0, 0, 0)
  rlc : Ev (fun fu => vH fu s.Levels) (0, 0, 0)
theorem tJ.hk {s : oB} {level : Int} {k i n : Nat} {b : Bool} (w : tJ s level k i b n) : k < s.Jobs.length := (List.getElem?_eq_some_iff.1 w.job).1
theorem tJ.h2 {s : oB} {level : Int} {k i n : Nat} {b : Bool} (w : tJ s level k i b n) : k < (sD s.Levels).length := (List.getElem?_eq_some_iff.1 w.due).1
theorem tJ.at' {s : oB} {level : Int} {k i n : Nat} {b : Bool} (w : tJ s level k i b n) : ∃ hi : i < s.Levels.Levels.length, s.Levels.Levels[i].Runs.length = 2 := by
  obtain ⟨h, e⟩ := List.getElem?_eq_some_iff.1 w.due
  have := zdr s.Levels k h
  rw [e] at this; exact this
theorem tJ.good {s : oB} {level : Int} {k i n : Nat} {b : Bool} (h : dP s) (w : tJ s level k i b n) : tF (eI s.Levels i) ∧ cV (eI s.Levels i) := by
  obtain ⟨q1, q2⟩ := w.at'
  exact zak s.Levels h.small h.right.lev _ q1 q2
theorem zkm {s : oB} (h : dP s) (k : Nat) (hk : k < s.Jobs.length) : ∃ (i : Nat) (b : Bool) (n : Nat), tJ s (i : Int) k i b n := by
  have h2 : k < (sD s.Levels).length := by have := h.right.len; omega
  obtain ⟨hl, n, hn, e⟩ := h.right.job k hk h2
  exact ⟨_, _, n, List.getElem?_eq_getElem h2, rfl, hn, by rw [List.getElem?_eq_getElem hk]; exact congrArg some e, hl⟩
theorem tJ.uniq {s : oB} {level : Int} {k i n k' i' n' : Nat} {b b' : Bool} (w : tJ s level k i b n) (w' : tJ s level k' i' b' n') : k = k' ∧ i = i' ∧ b = b' ∧ n = n' := by
  have e := w.lev.symm.trans w'.lev
  obtain rfl : i = i' := by omega
  obtain ⟨h, e1⟩ := List.getElem?_eq_some_iff.1 w.due
  obtain ⟨h', e1'⟩ := List.getElem?_eq_some_iff.1 w'.due
  obtain rfl : k = k' := ziY s.Levels k k' h h' (e1.trans e1'.symm)
  have e2 := Option.some.inj (w.job.symm.trans w'.job)
  have e3 : (n : Int) = (n' : Int) := congrArg (fun j => j.Work.Steps) e2
  have e4 : b = b' := congrArg (fun j => j.Work.Shadow.Bottom) e2
  exact ⟨rfl, rfl, e4, by omega⟩
theorem zgv : lL 40 = some true := by kernel_rfl
theorem zdn : Ev (fun fu => lL fu) true := Ev.mono (n := 40) (fun fu => zma fu) zgv
theorem uW {β : Type} {L : Nat → Int → Option (Sum Unit β)} (len : Nat) (stop : Ev (fun fu => L fu (len : Int)) (.inl ())) (step : ∀ n, n < len → ∀ r, Ev (fun fu => L fu ((n + 1 : Nat) : Int)) r → Ev (fun fu => L fu (n : Int)) r) : Ev (fun fu => L fu 0) (.inl ()) := by
  obtain ⟨r, r1, r2⟩ := iT (β := β) (fun n r => Ev (fun fu => L fu (n : Int)) r) len (fun _ => True) (fun _ _ => False) stop (fun n hn => .inr ⟨trivial, step n hn⟩)
  rcases r2 with ⟨rfl, -⟩ | ⟨_, _, _, h, _⟩
  · exact r1
  · exact h.elim
theorem zlk (l : List aA) (hl : l.length ≤ 1000000) : Ev (fun fu => zQ fu l l) true := by
  have : Ev (fun fu => wL l l fu 0) (.inl ()) := uW l.length
    (Ev.succ (Ev.of (fun fu => by simp [wL]) (Ev.ret _)))
    (fun n hn r hr => Ev.succ (by
      have d : decide ((n : Int) < (l.length : Int)) = true := decide_eq_true (by omega)
      simp only [wL, d, ↓reduceIte, Option.bind_some, iB l n hn, zcl, decide_true, Bool.not_true, Bool.false_eq_true, gD n (show n < 9223372036854775807 by omega)]
      exact hr))
  unfold zQ
  exact Ev.bind this (Ev.of (fun fu => by simp) (Ev.ret _))
theorem zjJ (l : List zA) (hl : l.length ≤ 1000) (hE : ∀ r ∈ l, r.Entries.length ≤ 1000000) : Ev (fun fu => uT fu l l) true := by
  have : Ev (fun fu => aL l l fu 0) (.inl ()) := uW l.length
    (Ev.succ (Ev.of (fun fu => by simp [aL]) (Ev.ret _)))
    (fun n hn r hr => Ev.succ (by
      have d : decide ((n : Int) < (l.length : Int)) = true := decide_eq_true (by omega)
      simp only [aL, d, ↓reduceIte, Option.bind_some, iB l n hn, pV, decide_true]
      refine Ev.bind (a := true) (Ev.bind (Ev.bind (zlk _ (hE _ (List.getElem_mem hn))) (Ev.ret _)) (Ev.ret _)) ?_
      simp only [Bool.not_true, Bool.false_eq_true, ↓reduceIte, gD n (show n < 9223372036854775807 by omega)]
      exact hr))
  unfold uT
  simp only [decide_true, Bool.not_true, Bool.false_eq_true, ↓reduceIte]
  exact Ev.bind this (Ev.ret _)
theorem zgN (l : uA) (hs : wF l) : Ev (fun fu => bV fu l l) true := by
  have h14 := hs.1
  have : Ev (fun fu => xL l l fu 0) (.inl ()) := uW l.Levels.length
    (Ev.succ (Ev.of (fun fu => by simp [xL]) (Ev.ret _)))
    (fun n hn r hr => Ev.succ (by
      have d : decide ((n : Int) < (l.Levels.length : Int)) = true := decide_eq_true (by omega)
      have hx := hs.2 _ (List.getElem_mem hn)
      simp only [xL, d, ↓reduceIte, Option.bind_some, iB l.Levels n hn]
      refine Ev.bind (zjJ _ (by have := hx.1; omega) (fun r hr => by have := (hx.2 r hr).1; omega)) ?_
      simp only [Bool.not_true, Bool.false_eq_true, ↓reduceIte, gD n (show n < 9223372036854775807 by omega)]
      exact hr))
  unfold bV
  simp only [decide_true, Bool.not_true, Bool.false_eq_true, ↓reduceIte, Option.bind_some]
  exact Ev.bind this (Ev.ret _)
theorem zc3 (j : yA) (hj : bO j.Work) : Ev (fun fu => tR fu j j) true := by
  unfold tR
  simp only [decide_true, ↓reduceIte]
  exact Ev.bind (Ev.bind (zj8 _ hj) (Ev.ret _)) (Ev.ret _)
theorem mY (s : oB) (hs : wF s.Levels) (hj : s.Jobs.length ≤ 1000) (hw : ∀ j ∈ s.Jobs, bO j.Work) : Ev (fun fu => fL fu s s) true := by
  have : Ev (fun fu => vL s s fu 0) (.inl ()) := uW s.Jobs.length
    (Ev.succ (Ev.of (fun fu => by simp [vL]) (Ev.ret _)))
    (fun n hn r hr => Ev.succ (by
      have d : decide ((n : Int) < (s.Jobs.length : Int)) = true := decide_eq_true (by omega)
      simp only [vL, d, ↓reduceIte, Option.bind_some, iB s.Jobs n hn]
      refine Ev.bind (zc3 _ (hw _ (List.getElem_mem hn))) ?_
      simp only [Bool.not_true, Bool.false_eq_true, ↓reduceIte, gD n (show n < 9223372036854775807 by omega)]
      exact hr))
  unfold fL
  refine Ev.bind (zgN _ hs) ?_
  simp only [decide_true, Bool.not_true, Bool.false_eq_true, ↓reduceIte, Option.bind_some]
  exact Ev.bind this (Ev.ret _)
theorem dP.works {s : oB} (h : dP s) : ∀ j ∈ s.Jobs, bO j.Work := by
  intro j hj
  obtain ⟨k, hk, rfl⟩ := List.mem_iff_getElem.1 hj
  obtain ⟨i, b, n, w⟩ := zkm h k hk
  obtain ⟨hg, hsn⟩ := w.good h
  rw [(List.getElem?_eq_some_iff.1 w.job).2]
  exact zbl _ b n hsn hg w.le
theorem dP.self {s : oB} (h : dP s) : Ev (fun fu => fL fu s s) true := mY s h.small h.few h.works
theorem zfi (l : uA) (hs : wF l) (hg : nN l) (c1 : Ev (fun fu => uH fu l) (0, 0, 0)) (c2 : Ev (fun fu => vH fu l) (0, 0, 0)) : dP ⟨l, dL l, bE 0 (kE l.Levels) + 1⟩ := by
  have h1 := pX (kE l.Levels) 0
  have h2 := jW 1000000 (kE l.Levels) 0 (by decide) (zao l hg)
  have hl := lY l.Levels 0
  have h14 := hs.1
  refine ⟨hs, ?_, ⟨hg, ⟨by show 1 ≤ _ + 1; omega, by show _ + 1 ≤ _; omega, by show bE 0 (kE l.Levels) < bE 0 (kE l.Levels) + 1; omega⟩, ?_, fun k h h2 => ?_⟩, c1, c2⟩
  · show (dL l).length ≤ 1000
    simp only [dL, List.length_map]
    show (fE 0 l.Levels).length ≤ 1000
    omega
  · show (dL l).length = _
    simp [dL]
  · have e : (dL l)[k]'h = mK l (sD l)[k] (lG l (sD l)[k]) 0 := by simp [dL]
    show zdy l (sD l)[k] ((dL l)[k]'h)
    rw [e]
    exact ⟨fun hb => hb, 0, Nat.zero_le _, rfl⟩
theorem zl0 : wF (⟨0, []⟩ : uA) := ⟨by simp, by simp⟩
theorem zaP : Ev (fun fu => fL fu lJ lJ) true := mY lJ zl0 (by simp [lJ]) (by simp [lJ])
theorem rof_ev (l : uA) (hs : wF l) (hg : nN l) (hc : Ev (fun fu => vH fu l) (0, 0, 0)) : Ev (fun fu => gQ fu l) (⟨l, dL l, bE 0 (kE l.Levels) + 1⟩, 0) := by
  have h14 := hs.1
  have hlen := lY l.Levels 0
  have hdl : (sD l).length ≤ 14 := by show (fE 0 l.Levels).length ≤ 14; omega
  have go : ∀ (m k : Nat) (acc : List yA), k + m = (sD l).length → acc.length ≤ k → Ev (fun fu => yL (cD (sD l)) l fu (k : Int) acc) (acc ++ ((sD l).drop k).map fun i => mK l i (lG l i) 0) := by
    intro m
    induction m with
    | zero =>
      intro k acc hk _
      obtain rfl : k = (sD l).length := by omega
      exact Ev.succ (Ev.of (fun fu => by simp [yL, kO]) (Ev.ret _))
    | succ m ih =>
      intro k acc hk ha
      have hkl : k < (sD l).length := by omega
      have d : decide ((k : Int) < ((cD (sD l)).length : Int)) = true := decide_eq_true (by rw [kO]; omega)
      have g : 2 * ((acc.length + 1) * 176) ≤ 281474976710656 := by omega
      obtain ⟨hi, h2⟩ := zdr l k hkl
      have i1 := ih (k + 1) (acc ++ [mK l (sD l)[k] (lG l (sD l)[k]) 0]) (by omega) (by simp; omega)
      rw [List.append_assoc, List.singleton_append] at i1
      rw [List.drop_eq_getElem_cons hkl, List.map_cons]
      refine Ev.succ ?_
      simp only [yL, d, ↓reduceIte, dM (sD l) k hkl, Option.bind_some]
      refine Ev.bind (zaW l hs hc hg (sD l)[k] hi) (Ev.bind (zap l hs hg (sD l)[k] (lG l (sD l)[k]) hi h2).2 ?_)
      simp only [if_pos g, gD k (show k < 9223372036854775807 by omega)]
      exact i1
  have h1 := pX (kE l.Levels) 0
  have h2 := jW 1000000 (kE l.Levels) 0 (by decide) (zao l hg)
  have w : IntKind.i64.wrap (bE 0 (kE l.Levels) + 1) = bE 0 (kE l.Levels) + 1 := wr (by omega) (by omega)
  unfold gQ
  refine Ev.bind hc ?_
  simp only [decide_true, Bool.not_true, Bool.false_eq_true, ↓reduceIte]
  refine Ev.bind (zhO l hs hc) (Ev.bind (ziH l hs.1).2 (Ev.bind (go (sD l).length 0 [] (by omega) (by simp)) ?_))
  rw [w]
  exact Ev.ret _
theorem zeV (l : uA) (hs : wF l) : ∃ t : oB × Int, Ev (fun fu => wJ fu l) t ∧ Ev (fun fu => gQ fu l) t ∧ Ev (fun fu => fL fu t.1 t.1) true := by
  obtain ⟨r, c1, c2, c3⟩ := zde l hs
  rcases c3 with ⟨rfl, hg⟩ | hr
  · exact ⟨_, of_ev l hs hg c1, rof_ev l hs hg c2, (zfi l hs hg c1 c2).self⟩
  · refine ⟨_, of_no l r c1 hr, ?_, zaP⟩
    unfold gQ
    refine Ev.bind c2 ?_
    simp only [decide_eq_false hr, Bool.not_false, ↓reduceIte]
    exact Ev.ret _
def pW : yA := ⟨0, dQ⟩
theorem zhD (l : uA) (hs : wF l) (level : Int) : ∃ t : yA × Int, Ev (fun fu => eU fu l level) t ∧ Ev (fun fu => sT fu l level) t ∧ bO t.1.Work := by
  obtain ⟨r, c1, c2, c3⟩ := zde l hs
  unfold eU sT
  rcases c3 with ⟨rfl, hg⟩ | hr
  · by_cases hl : level < 0 ∨ 12 ≤ level
    · have e : (if decide (level < 0) = true then some true else some (decide (12 ≤ level))) = some true := by
        rcases hl with h | h
        · simp [h]
        · by_cases q : level < 0 <;> simp [q, h]
      refine ⟨(pW, 7), Ev.bind c1 ?_, Ev.bind c2 ?_, mX⟩
      · simp only [decide_true, Bool.not_true, Bool.false_eq_true, ↓reduceIte, e, Option.bind_some]; exact Ev.ret _
      · simp only [decide_true, ↓reduceIte, e, Option.bind_some]; exact Ev.ret _
    · obtain ⟨i, rfl⟩ : ∃ i : Nat, level = (i : Int) := ⟨level.toNat, by omega⟩
      have e : (if decide ((i : Int) < 0) = true then some true else some (decide (12 ≤ (i : Int)))) = some false := by
        rw [decide_eq_false (show ¬ (i : Int) < 0 by omega), decide_eq_false (show ¬ (12 : Int) ≤ (i : Int) by omega)]; rfl
      by_cases hi : i < l.Levels.length
      · have d1 : decide ((l.Levels.length : Int) ≤ (i : Int)) = false := decide_eq_false (by omega)
        by_cases h2 : l.Levels[i].Runs.length < 2
        · have d2 : decide ((l.Levels[i].Runs.length : Int) < 2) = true := decide_eq_true (by omega)
          refine ⟨(pW, 4), Ev.bind c1 ?_, Ev.bind c2 ?_, mX⟩
          · simp only [decide_true, Bool.not_true, Bool.false_eq_true, ↓reduceIte, e, Option.bind_some, d1, iB l.Levels i hi, d2]; exact Ev.ret _
          · simp only [decide_true, Bool.false_eq_true, ↓reduceIte, e, Option.bind_some, wM, d1, iB l.Levels i hi, d2]; exact Ev.ret _
        · have d2 : decide ((l.Levels[i].Runs.length : Int) < 2) = false := decide_eq_false (by omega)
          have h2' : l.Levels[i].Runs.length = 2 := by have := (hg.runs _ (List.getElem_mem hi)).1; omega
          obtain ⟨b1, b2⟩ := zap l hs hg i (lG l i) hi h2'
          obtain ⟨hgr, hsn⟩ := zak l hs hg i hi h2'
          refine ⟨(mK l i (lG l i) 0, 0), Ev.bind c1 ?_, Ev.bind c2 ?_, zbl _ _ 0 hsn hgr (by omega)⟩
          · simp only [decide_true, Bool.not_true, Bool.false_eq_true, ↓reduceIte, e, Option.bind_some, d1, iB l.Levels i hi, d2, za7 _ l hs.1 i]
            exact Ev.bind b1 (Ev.ret _)
          · simp only [decide_true, Bool.not_true, Bool.false_eq_true, ↓reduceIte, e, Option.bind_some, wM, d1, iB l.Levels i hi, d2]
            exact Ev.bind (zaW l hs c2 hg i hi) (Ev.bind b2 (Ev.ret _))
      · have d1 : decide ((l.Levels.length : Int) ≤ (i : Int)) = true := decide_eq_true (by omega)
        refine ⟨(pW, 4), Ev.bind c1 ?_, Ev.bind c2 ?_, mX⟩
        · simp only [decide_true, Bool.not_true, Bool.false_eq_true, ↓reduceIte, e, Option.bind_some, d1]; exact Ev.ret _
        · have dz : decide ((([] : List zA).length : Int) < 2) = true := by decide
          simp only [decide_true, Bool.false_eq_true, ↓reduceIte, e, Option.bind_some, wM, d1, dz]; exact Ev.ret _
  · refine ⟨(pW, r.2.2), Ev.bind c1 ?_, Ev.bind c2 ?_, mX⟩
    · simp only [decide_eq_false hr, Bool.not_false, ↓reduceIte]; exact Ev.ret _
    · simp only [decide_eq_false hr, Bool.not_false, Bool.false_eq_true, ↓reduceIte, Option.bind_some]; exact Ev.ret _
theorem zdO (b : Int) : ∃ t : oB × Int, Ev (fun fu => eT fu b) t ∧ Ev (fun fu => tU fu b) t ∧ Ev (fun fu => fL fu t.1 t.1) true := by
  unfold eT tU qV iW
  by_cases h1 : b < 1
  · exact ⟨(lJ, 7), Ev.of (fun fu => by simp [h1, lJ]) (Ev.ret _), Ev.of (fun fu => by simp [h1, lJ]) (Ev.ret _), zaP⟩
  · by_cases h2 : 16 < b
    · exact ⟨(lJ, 7), Ev.of (fun fu => by simp [h1, h2, lJ]) (Ev.ret _), Ev.of (fun fu => by simp [h1, h2, lJ]) (Ev.ret _), zaP⟩
    · exact ⟨(⟨⟨b, []⟩, [], 1⟩, 0), Ev.of (fun fu => by simp [h1, h2]) (Ev.ret _), Ev.of (fun fu => by simp [h1, h2]) (Ev.ret _), mY _ ⟨by simp, by simp⟩ (by simp) (by simp)⟩
theorem zhX (l : uA) (b level : Int) : Ev (fun fu => uV fu l b level) true := by
  obtain ⟨f, f1, f2⟩ := zkT l
  unfold uV
  refine Ev.bind f1 ?_
  cases f with
  | true => exact Ev.bind zdn (Ev.ret _)
  | false =>
    have hs := f2 rfl
    obtain ⟨n, n1, n2, n3⟩ := zdO b
    obtain ⟨o, o1, o2, o3⟩ := zeV l hs
    obtain ⟨j, j1, j2, j3⟩ := zhD l hs level
    simp only [Bool.false_eq_true, ↓reduceIte]
    refine Ev.bind n1 (Ev.bind n2 (Ev.bind n3 ?_))
    simp only [decide_true, Bool.not_true, Bool.false_eq_true, ↓reduceIte, Option.bind_some]
    refine Ev.bind o1 (Ev.bind o2 (Ev.bind o3 ?_))
    simp only [decide_true, Bool.not_true, Bool.false_eq_true, ↓reduceIte, Option.bind_some]
    refine Ev.bind j1 (Ev.bind j2 (Ev.bind (zc3 j.1 j3) ?_))
    simp only [decide_true, ↓reduceIte, Option.bind_some]
    exact Ev.bind (Ev.bind zdn (Ev.ret _)) (Ev.ret _)
end Go.T
end
section
namespace Go.T
open Go Go.AM Go.Proofs
set_option maxRecDepth 100000
set_option maxHeartbeats 4000000
set_option linter.unusedVariables false
theorem zm7 {fu : Nat} {l1 : List aA} {r : Bool} (h0 : oT fu l1 = some r) : bB Tryz.prog 83 [.psl 4 (l1.map aA.enc)] (.bool r) [] := by
 refine gB Tryz.func83 rfl (by decide) rL ?_
 dsimp only [Tryz.f83]
 rw [oT] at h0
 refine (show pA _ _ _ _ ⟨aB 0 _, [], 0, []⟩ from ?_)
 refine xS 8 [0] ?_
 refine kA ?_
 refine xS 16 [0, 3] ?_
 obtain ⟨x17, hxx17, h0⟩ := cA h0
 refine pC (fun s' => ∃ o26 : Unit, x17 = .inl o26 ∧ s'.nx ≤ 80 ∧ LeN [] s' ⟨[(0, .psl 4 (List.map aA.enc l1))], [], 80, []⟩) ?_ ?_
 ·
  intro s' hs
  obtain ⟨o26, rfl, hn, hs⟩ := hs
  refine dA ?_
  refine pB [] hn hs ?_
  refine xS 112 [2] ?_
  refine jA ?_
  obtain rfl := Option.some.inj h0
  refine lA [] ?_
  exact rG
 ·
  refine mC (ι := { p : Nat × Int // mI l1 p.1 p.2 = some x17 }) (fun p => ⟨[(0, .psl 4 (List.map aA.enc l1)), (3, .int .i64 p.1.2)], [], 16, []⟩) (fun p => p.1.1) ⟨(fu, 0), hxx17⟩ ⟨rF, rE, rfl, rfl, trivial, trivial⟩ (fun _ => Nat.le_refl _) ?_
  rintro ⟨⟨fu, i18⟩, h1⟩
  cases fu with
  | zero =>
   replace h1 : mI l1 0 i18 = some x17 := h1
   rw [mI] at h1; cases h1
  | succ fu =>
   replace h1 : mI l1 (fu + 1) i18 = some x17 := h1
   rw [mI] at h1
   refine (show pA _ _ _ _ ⟨[(0, .psl 4 (List.map aA.enc l1)), (3, .int .i64 i18)], [], 16, []⟩ from ?_)
   refine kA ?_
   obtain ⟨b19, hb19, h1⟩ := cA h1
   refine nC (fr' := [(0, .psl 4 (List.map aA.enc l1)), (3, .int .i64 i18), (11, .bool b19)]) (hp' := []) [] 80 [0, 3, 11] (fun _ => none) rfl (fun Kt hK => by
     cases hg20 : (decide (i18 < (l1.length : Int))) with
     | false =>
      replace hb19 := wA hb19 hg20
      have hqb19 := Option.some.inj hb19
      subst hqb19
      simp (maxSteps := 1000000) only [↓reduceIte, reduceCtorEq, Nat.reduceEqDiff, Nat.reduceLT, Nat.reduceLeDiff, Nat.reduceAdd, Nat.reduceMul, Int.reduceToNat, push_cast, ↓hg20]
      try simp only [↓hg20] at hK
      all_goals exact rU
     | true =>
      replace hb19 := jB hb19 hg20
      have hqb19 := Option.some.inj hb19
      subst hqb19
      simp (maxSteps := 1000000) only [↓reduceIte, reduceCtorEq, Nat.reduceEqDiff, Nat.reduceLT, Nat.reduceLeDiff, Nat.reduceAdd, Nat.reduceMul, Int.reduceToNat, push_cast, ↓hg20]
      try simp only [↓hg20] at hK
      all_goals exact rU) ?_
   refine xI h1 rfl (fun h1 hb21 => ?_) (fun h1 hb21 => ?_)
   ·
    refine qA (dA (kA (aC ?_)))
    obtain ⟨e22, he22, h1⟩ := cA h1
    obtain ⟨he22a, he22b, he22c⟩ := cB he22
    obtain ⟨b23, hb23, h1⟩ := cA h1
    refine nC (fr' := [(0, .psl 4 (List.map aA.enc l1)), (3, .int .i64 i18), (29, .bool b23)]) (hp' := []) [] 208 [0, 3, 29] (fun _ => none) rfl (fun Kt hK => by
      cases hg24 : (decide (100 < (e22.Key.length : Int))) with
      | false =>
       replace hb23 := wA hb23 hg24
       have hqb23 := Option.some.inj hb23
       subst hqb23
       simp (maxSteps := 1000000) only [↓reduceIte, reduceCtorEq, Nat.reduceEqDiff, Nat.reduceLT, Nat.reduceLeDiff, Nat.reduceAdd, Nat.reduceMul, Int.reduceToNat, push_cast, he22a, he22b, he22c, ↓hg24]
       try simp only [↓hg24] at hK
       all_goals exact rU
      | true =>
       replace hb23 := jB hb23 hg24
       have hqb23 := Option.some.inj hb23
       subst hqb23
       simp (maxSteps := 1000000) only [↓reduceIte, reduceCtorEq, Nat.reduceEqDiff, Nat.reduceLT, Nat.reduceLeDiff, Nat.reduceAdd, Nat.reduceMul, Int.reduceToNat, push_cast, he22a, he22b, he22c, ↓hg24]
       try simp only [↓hg24] at hK
       all_goals exact rU) ?_
    refine xI h1 rfl (fun h1 hb25 => ?_) (fun h1 hb25 => ?_)
    ·
     refine nA 216 [2] (fun _ => none) rfl (fun _ _ => rS (rA he22a (rA he22b he22c))) ?_
     refine jA ?_
     obtain rfl := Option.some.inj h1
     refine eC (mA (mA (aD (mA ?_))))
     obtain rfl := Option.some.inj h0
     refine lA [] ?_
     simp (maxSteps := 1000000) only [↓reduceIte, reduceCtorEq, Nat.reduceEqDiff, Nat.reduceLT, Nat.reduceLeDiff, Nat.reduceAdd, Nat.reduceMul, Int.reduceToNat, push_cast, bC, he22a, he22b, he22c]
     all_goals exact rH
    ·
     refine qA (sB (dA ?_))
     refine uB 232 [0, 3] (fun _ => none) rfl (fun _ _ => rS (rA he22a (rA he22b he22c))) ?_
     refine dA ?_
     exact ⟨⟨(fu, (IntKind.i64.wrap (i18 + 1))), h1⟩, ⟨rF, rE, rfl, rfl, trivial, trivial⟩, Nat.lt_succ_self _⟩
   ·
    refine iC (dB (dB (jC ?_)))
    obtain rfl := Option.some.inj h1
    exact ⟨_, rfl, rL, ⟨rF, rE, rfl, rfl, trivial, trivial⟩⟩
theorem zjb {fu : Nat} {l1 : List zA} {r : Bool} (h0 : aU fu l1 = some r) : bB Tryz.prog 51 [.psl 2 (l1.map zA.enc)] (.bool r) [] := by
 refine gB Tryz.func51 rfl (by decide) rL ?_
 dsimp only [Tryz.f51]
 rw [aU] at h0
 refine (show pA _ _ _ _ ⟨aB 0 _, [], 0, []⟩ from ?_)
 refine xS 8 [0] ?_
 refine kA ?_
 refine xS 16 [0, 3] ?_
 obtain ⟨x15, hxx15, h0⟩ := cA h0
 refine pC (fun s' => ∃ o23 : Unit, x15 = .inl o23 ∧ s'.nx ≤ 80 ∧ LeN [] s' ⟨[(0, .psl 2 (List.map zA.enc l1))], [], 80, []⟩) ?_ ?_
 ·
  intro s' hs
  obtain ⟨o23, rfl, hn, hs⟩ := hs
  refine dA ?_
  refine pB [] hn hs ?_
  refine xS 112 [2] ?_
  refine jA ?_
  obtain rfl := Option.some.inj h0
  refine lA [] ?_
  exact rG
 ·
  refine mC (ι := { p : Nat × Int // cJ l1 p.1 p.2 = some x15 }) (fun p => ⟨[(0, .psl 2 (List.map zA.enc l1)), (3, .int .i64 p.1.2)], [], 16, []⟩) (fun p => p.1.1) ⟨(fu, 0), hxx15⟩ ⟨rF, rE, rfl, rfl, trivial, trivial⟩ (fun _ => Nat.le_refl _) ?_
  rintro ⟨⟨fu, i16⟩, h1⟩
  cases fu with
  | zero =>
   replace h1 : cJ l1 0 i16 = some x15 := h1
   rw [cJ] at h1; cases h1
  | succ fu =>
   replace h1 : cJ l1 (fu + 1) i16 = some x15 := h1
   rw [cJ] at h1
   refine (show pA _ _ _ _ ⟨[(0, .psl 2 (List.map zA.enc l1)), (3, .int .i64 i16)], [], 16, []⟩ from ?_)
   refine kA ?_
   obtain ⟨b17, hb17, h1⟩ := cA h1
   refine nC (fr' := [(0, .psl 2 (List.map zA.enc l1)), (3, .int .i64 i16), (11, .bool b17)]) (hp' := []) [] 80 [0, 3, 11] (fun _ => none) rfl (fun Kt hK => by
     cases hg18 : (decide (i16 < (l1.length : Int))) with
     | false =>
      replace hb17 := wA hb17 hg18
      have hqb17 := Option.some.inj hb17
      subst hqb17
      simp (maxSteps := 1000000) only [↓reduceIte, reduceCtorEq, Nat.reduceEqDiff, Nat.reduceLT, Nat.reduceLeDiff, Nat.reduceAdd, Nat.reduceMul, Int.reduceToNat, push_cast, ↓hg18]
      try simp only [↓hg18] at hK
      all_goals exact rU
     | true =>
      replace hb17 := jB hb17 hg18
      have hqb17 := Option.some.inj hb17
      subst hqb17
      simp (maxSteps := 1000000) only [↓reduceIte, reduceCtorEq, Nat.reduceEqDiff, Nat.reduceLT, Nat.reduceLeDiff, Nat.reduceAdd, Nat.reduceMul, Int.reduceToNat, push_cast, ↓hg18]
      try simp only [↓hg18] at hK
      all_goals exact rU) ?_
   refine xI h1 rfl (fun h1 hb19 => ?_) (fun h1 hb19 => ?_)
   ·
    refine qA (dA (kA (aC ?_)))
    obtain ⟨e20, he20, h1⟩ := cA h1
    obtain ⟨he20a, he20b, he20c⟩ := cB he20
    obtain ⟨vr21, hvr21, h1⟩ := cA h1
    refine nA 128 [0, 3, 19] (fun | 5 => some (.bool vr21, []) | _ => none) rfl (fun _ _ => rB (rA he20a (rA he20b he20c)) (zm7 hvr21)) ?_
    refine xI h1 rfl (fun h1 hb22 => ?_) (fun h1 hb22 => ?_)
    ·
     refine nA 136 [2] (fun _ => none) rfl (fun _ _ => rS (rA he20a (rA he20b he20c))) ?_
     refine jA ?_
     obtain rfl := Option.some.inj h1
     refine eC (mA (mA (aD (mA ?_))))
     obtain rfl := Option.some.inj h0
     refine lA [] ?_
     simp (maxSteps := 1000000) only [↓reduceIte, reduceCtorEq, Nat.reduceEqDiff, Nat.reduceLT, Nat.reduceLeDiff, Nat.reduceAdd, Nat.reduceMul, Int.reduceToNat, push_cast, bC, he20a, he20b, he20c]
     all_goals exact rH
    ·
     refine qA (sB (dA ?_))
     refine uB 152 [0, 3] (fun _ => none) rfl (fun _ _ => rS (rA he20a (rA he20b he20c))) ?_
     refine dA ?_
     exact ⟨⟨(fu, (IntKind.i64.wrap (i16 + 1))), h1⟩, ⟨rF, rE, rfl, rfl, trivial, trivial⟩, Nat.lt_succ_self _⟩
   ·
    refine iC (dB (dB (jC ?_)))
    obtain rfl := Option.some.inj h1
    exact ⟨_, rfl, rL, ⟨rF, rE, rfl, rfl, trivial, trivial⟩⟩
theorem zkM {fu : Nat} {l1 : uA} {r : Bool} (h0 : sU fu l1 = some r) : bB Tryz.prog 20 [.agg (uA.enc l1)] (.bool r) [] := by
 refine gB Tryz.func20 rfl (by decide) rL ?_
 dsimp only [Tryz.f20]
 rw [sU] at h0
 refine (show pA _ _ _ _ ⟨aB 0 _, [], 0, []⟩ from ?_)
 refine xS 16 [1] ?_
 refine kA ?_
 refine xS 24 [1, 3] ?_
 obtain ⟨x15, hxx15, h0⟩ := cA h0
 refine pC (fun s' => ∃ o23 : Unit, x15 = .inl o23 ∧ s'.nx ≤ 96 ∧ LeN [] s' ⟨[(1, .ref 0 0 0 0)], [(0, ⟨0, true, true, 2, [[.int .i64 l1.B, .psl 1 (List.map sA.enc l1.Levels)]]⟩)], 96, []⟩) ?_ ?_
 ·
  intro s' hs
  obtain ⟨o23, rfl, hn, hs⟩ := hs
  refine dA ?_
  refine pB [] hn hs ?_
  refine xS 136 [2] ?_
  refine jA ?_
  obtain rfl := Option.some.inj h0
  refine lA [] ?_
  exact rG
 ·
  refine mC (ι := { p : Nat × Int // aJ l1 p.1 p.2 = some x15 }) (fun p => ⟨[(1, .ref 0 0 0 0), (3, .int .i64 p.1.2)], [(0, ⟨0, true, true, 2, [[.int .i64 l1.B, .psl 1 (List.map sA.enc l1.Levels)]]⟩)], 24, []⟩) (fun p => p.1.1) ⟨(fu, 0), hxx15⟩ ⟨rF, rE, rfl, rfl, trivial, trivial⟩ (fun _ => Nat.le_refl _) ?_
  rintro ⟨⟨fu, i16⟩, h1⟩
  cases fu with
  | zero =>
   replace h1 : aJ l1 0 i16 = some x15 := h1
   rw [aJ] at h1; cases h1
  | succ fu =>
   replace h1 : aJ l1 (fu + 1) i16 = some x15 := h1
   rw [aJ] at h1
   refine (show pA _ _ _ _ ⟨[(1, .ref 0 0 0 0), (3, .int .i64 i16)], [(0, ⟨0, true, true, 2, [[.int .i64 l1.B, .psl 1 (List.map sA.enc l1.Levels)]]⟩)], 24, []⟩ from ?_)
   refine kA ?_
   obtain ⟨b17, hb17, h1⟩ := cA h1
   refine nC (fr' := [(1, .ref 0 0 0 0), (3, .int .i64 i16), (12, .bool b17)]) (hp' := [(0, ⟨0, true, true, 2, [[.int .i64 l1.B, .psl 1 (List.map sA.enc l1.Levels)]]⟩)]) [0] 96 [1, 3, 12] (fun _ => none) rfl (fun Kt hK => by
     cases hg18 : (decide (i16 < (l1.Levels.length : Int))) with
     | false =>
      replace hb17 := wA hb17 hg18
      have hqb17 := Option.some.inj hb17
      subst hqb17
      simp (maxSteps := 1000000) only [↓reduceIte, reduceCtorEq, Nat.reduceEqDiff, Nat.reduceLT, Nat.reduceLeDiff, Nat.reduceAdd, Nat.reduceMul, Int.reduceToNat, push_cast, ↓hg18]
      try simp only [↓hg18] at hK
      all_goals exact rU
     | true =>
      replace hb17 := jB hb17 hg18
      have hqb17 := Option.some.inj hb17
      subst hqb17
      simp (maxSteps := 1000000) only [↓reduceIte, reduceCtorEq, Nat.reduceEqDiff, Nat.reduceLT, Nat.reduceLeDiff, Nat.reduceAdd, Nat.reduceMul, Int.reduceToNat, push_cast, ↓hg18]
      try simp only [↓hg18] at hK
      all_goals exact rU) ?_
   refine xI h1 rfl (fun h1 hb19 => ?_) (fun h1 hb19 => ?_)
   ·
    refine qA (dA (kA (aC ?_)))
    obtain ⟨e20, he20, h1⟩ := cA h1
    obtain ⟨he20a, he20b, he20c⟩ := cB he20
    obtain ⟨vr21, hvr21, h1⟩ := cA h1
    refine nA 152 [1, 3, 21] (fun | 6 => some (.bool vr21, []) | _ => none) rfl (fun _ _ => rB (rA he20a (rA he20b he20c)) (zjb hvr21)) ?_
    refine xI h1 rfl (fun h1 hb22 => ?_) (fun h1 hb22 => ?_)
    ·
     refine nA 160 [2] (fun _ => none) rfl (fun _ _ => rS (rA he20a (rA he20b he20c))) ?_
     refine jA ?_
     obtain rfl := Option.some.inj h1
     refine eC (mA (mA (aD (mA ?_))))
     obtain rfl := Option.some.inj h0
     refine lA [] ?_
     simp (maxSteps := 1000000) only [↓reduceIte, reduceCtorEq, Nat.reduceEqDiff, Nat.reduceLT, Nat.reduceLeDiff, Nat.reduceAdd, Nat.reduceMul, Int.reduceToNat, push_cast, bC, he20a, he20b, he20c]
     all_goals exact rH
    ·
     refine qA (sB (dA ?_))
     refine uB 176 [1, 3] (fun _ => none) rfl (fun _ _ => rS (rA he20a (rA he20b he20c))) ?_
     refine dA ?_
     exact ⟨⟨(fu, (IntKind.i64.wrap (i16 + 1))), h1⟩, ⟨rF, rE, rfl, rfl, trivial, trivial⟩, Nat.lt_succ_self _⟩
   ·
    refine iC (dB (dB (jC ?_)))
    obtain rfl := Option.some.inj h1
    exact ⟨_, rfl, rL, ⟨rF, rE, rfl, rfl, trivial, trivial⟩⟩
theorem zaB {fu : Nat} {k1 : List UInt8} {r : Int} (h0 : wN fu k1 = some r) : bB Tryz.prog 146 [.str k1] (.int .i64 r) [] := by
 refine gB Tryz.func146 rfl (by decide) rL ?_
 dsimp only [Tryz.f146]
 rw [wN] at h0
 refine (show pA _ _ _ _ ⟨aB 0 _, [], 0, []⟩ from ?_)
 refine xS 8 [0] ?_
 refine kA ?_
 refine xS 32 [5] ?_
 refine xI h0 rfl (fun h0 hb2 => ?_) (fun h0 hb2 => ?_)
 ·
  refine xS 40 [2] ?_
  refine jA (mA ?_)
  obtain rfl := Option.some.inj h0
  refine lA [] ?_
  exact rG
 ·
  refine qA (dA ?_)
  refine xS 40 [2] ?_
  refine jA ?_
  obtain rfl := Option.some.inj h0
  refine lA [] ?_
  exact rG
theorem pY {fu : Nat} {vx1 : aA} {r : Int} (h0 : iL fu vx1 = some r) : bB Tryz.prog 135 [.agg (aA.enc vx1)] (.int .i64 r) [] := by
 refine gB Tryz.func135 rfl (by decide) rL ?_
 dsimp only [Tryz.f135]
 rw [iL] at h0
 refine (show pA _ _ _ _ ⟨aB 0 _, [], 0, []⟩ from ?_)
 refine xS 16 [1] ?_
 refine kA (aC ?_)
 obtain ⟨vr2, hvr2, h0⟩ := cA h0
 obtain ⟨b3, hb3, h0⟩ := cA h0
 refine nC (fr' := [(1, .ref 0 0 0 0), (3, .bool b3)]) (hp' := [(0, ⟨0, true, true, 4, [[.str vx1.Key, .str vx1.Val, .bool vx1.Dead, .int .i64 vx1.Seq]]⟩)]) [0] 104 [1, 3] (fun | 2 => some (.int .i64 vr2, []) | _ => none) rfl (fun Kt hK => by
   cases hg4 : (!(decide (vr2 = 0))) with
   | false =>
    replace hb3 := wA hb3 hg4
    have hqb3 := Option.some.inj hb3
    subst hqb3
    simp (maxSteps := 1000000) only [↓reduceIte, reduceCtorEq, Nat.reduceEqDiff, Nat.reduceLT, Nat.reduceLeDiff, Nat.reduceAdd, Nat.reduceMul, Int.reduceToNat, push_cast, ↓hg4]
    try simp only [↓hg4] at hK
    try have q0 := zaB hvr2
    all_goals exact rU
   | true =>
    replace hb3 := jB hb3 hg4
    have hqb3 := Option.some.inj hb3
    subst hqb3
    simp (maxSteps := 1000000) only [↓reduceIte, reduceCtorEq, Nat.reduceEqDiff, Nat.reduceLT, Nat.reduceLeDiff, Nat.reduceAdd, Nat.reduceMul, Int.reduceToNat, push_cast, ↓hg4]
    try simp only [↓hg4] at hK
    try have q0 := zaB hvr2
    all_goals exact rU) ?_
 refine xI h0 rfl (fun h0 hb5 => ?_) (fun h0 hb5 => ?_)
 ·
  refine xS 112 [2] ?_
  refine jA (eC (mA ?_))
  obtain rfl := Option.some.inj h0
  refine lA [] ?_
  exact rG
 ·
  obtain ⟨b6, hb6, h0⟩ := cA h0
  refine nC (fr' := [(1, .ref 0 0 0 0), (14, .bool b6)]) (hp' := [(0, ⟨0, true, true, 4, [[.str vx1.Key, .str vx1.Val, .bool vx1.Dead, .int .i64 vx1.Seq]]⟩)]) [0] 168 [1, 14] (fun _ => none) rfl (fun Kt hK => by
    cases hg7 : vx1.Dead with
    | false =>
     replace hb6 := wA hb6 hg7
     have hqb6 := Option.some.inj hb6
     subst hqb6
     simp (maxSteps := 1000000) only [↓reduceIte, reduceCtorEq, Nat.reduceEqDiff, Nat.reduceLT, Nat.reduceLeDiff, Nat.reduceAdd, Nat.reduceMul, Int.reduceToNat, push_cast, ↓hg7]
     try simp only [↓hg7] at hK
     all_goals exact rU
    | true =>
     replace hb6 := jB hb6 hg7
     have hqb6 := Option.some.inj hb6
     subst hqb6
     simp (maxSteps := 1000000) only [↓reduceIte, reduceCtorEq, Nat.reduceEqDiff, Nat.reduceLT, Nat.reduceLeDiff, Nat.reduceAdd, Nat.reduceMul, Int.reduceToNat, push_cast, ↓hg7]
     try simp only [↓hg7] at hK
     all_goals exact rU) ?_
  refine xI h0 rfl (fun h0 hb8 => ?_) (fun h0 hb8 => ?_)
  ·
   refine xS 176 [2] ?_
   refine jA (eC (mA ?_))
   obtain rfl := Option.some.inj h0
   refine lA [] ?_
   exact rG
  ·
   obtain ⟨b9, hb9, h0⟩ := cA h0
   refine nC (fr' := [(22, .bool b9)]) (hp' := [(0, ⟨0, true, true, 4, [[.str vx1.Key, .str vx1.Val, .bool vx1.Dead, .int .i64 vx1.Seq]]⟩)]) [0] 240 [22] (fun _ => none) rfl (fun Kt hK => by
     cases hg10 : (decide (vx1.Seq < 1)) with
     | false =>
      replace hb9 := wA hb9 hg10
      have hqb9 := Option.some.inj hb9
      subst hqb9
      simp (maxSteps := 1000000) only [↓reduceIte, reduceCtorEq, Nat.reduceEqDiff, Nat.reduceLT, Nat.reduceLeDiff, Nat.reduceAdd, Nat.reduceMul, Int.reduceToNat, push_cast, ↓hg10]
      try simp only [↓hg10] at hK
      all_goals exact rU
     | true =>
      replace hb9 := jB hb9 hg10
      have hqb9 := Option.some.inj hb9
      subst hqb9
      simp (maxSteps := 1000000) only [↓reduceIte, reduceCtorEq, Nat.reduceEqDiff, Nat.reduceLT, Nat.reduceLeDiff, Nat.reduceAdd, Nat.reduceMul, Int.reduceToNat, push_cast, ↓hg10]
      try simp only [↓hg10] at hK
      all_goals exact rU) ?_
   refine xI h0 rfl (fun h0 hb11 => ?_) (fun h0 hb11 => ?_)
   ·
    refine xS 248 [2] ?_
    refine jA (eC (mA ?_))
    obtain rfl := Option.some.inj h0
    refine lA [] ?_
    exact rG
   ·
    refine qA (sB (dA ?_))
    refine xS 248 [2] ?_
    refine jA ?_
    obtain rfl := Option.some.inj h0
    refine lA [] ?_
    exact rG
theorem zce {fu : Nat} {l1 : List aA} {r : Int × Int} (h0 : rI fu l1 = some r) : bB Tryz.prog 124 [.psl 4 (l1.map aA.enc)] (.tup [.int .i64 r.1, .int .i64 r.2]) [] := by
 refine gB Tryz.func124 rfl (by decide) rL ?_
 dsimp only [Tryz.f124]
 rw [rI] at h0
 refine (show pA _ _ _ _ ⟨aB 0 _, [], 0, []⟩ from ?_)
 refine xS 16 [0] ?_
 refine kA ?_
 refine xS 40 [0, 9] ?_
 refine xI h0 rfl (fun h0 hb2 => ?_) (fun h0 hb2 => ?_)
 ·
  refine xS 56 [2, 3] ?_
  refine jA (mA ?_)
  obtain rfl := Option.some.inj h0
  refine lA [] ?_
  exact rG
 ·
  refine qA (dA (kA ?_))
  refine xS 64 [0, 10, 11, 12] ?_
  obtain ⟨x16, hxx16, h0⟩ := cA h0
  refine pC (fun s' => ∃ o26 : Unit, x16 = .inl o26 ∧ s'.nx ≤ 72 ∧ LeN [] s' ⟨[], [], 72, []⟩) ?_ ?_
  ·
   intro s' hs
   obtain ⟨o26, rfl, hn, hs⟩ := hs
   refine dA ?_
   refine pB [] hn hs ?_
   refine xS 88 [2, 3] ?_
   refine jA ?_
   obtain rfl := Option.some.inj h0
   refine lA [] ?_
   exact rG
  ·
   refine mC (ι := { p : Nat × Int // dF l1 p.1 p.2 = some x16 }) (fun p => ⟨[(0, .psl 4 (List.map aA.enc l1)), (10, .psl 4 (List.map aA.enc l1)), (11, .int .i64 (l1.length : Int)), (12, .int .i64 p.1.2)], [], 64, []⟩) (fun p => p.1.1) ⟨(fu, 0), hxx16⟩ ⟨rF, rE, rfl, rfl, trivial, trivial⟩ (fun _ => Nat.le_refl _) ?_
   rintro ⟨⟨fu, v17⟩, h1⟩
   cases fu with
   | zero =>
   replace h1 : dF l1 0 v17 = some x16 := h1
   rw [dF] at h1; cases h1
   | succ fu =>
    replace h1 : dF l1 (fu + 1) v17 = some x16 := h1
    rw [dF] at h1
    refine (show pA _ _ _ _ ⟨[(0, .psl 4 (List.map aA.enc l1)), (10, .psl 4 (List.map aA.enc l1)), (11, .int .i64 (l1.length : Int)), (12, .int .i64 v17)], [], 64, []⟩ from ?_)
    refine xS 72 [0, 10, 11, 12, 13] ?_
    refine kA ?_
    refine xI h1 rfl (fun h1 hb18 => ?_) (fun h1 hb18 => ?_)
    ·
     refine qA (dA (kA (aC ?_)))
     obtain ⟨e19, he19, h1⟩ := cA h1
     obtain ⟨he19a, he19b, he19c⟩ := cB he19
     refine nA 120 [0, 4, 5, 10, 11, 12] (fun _ => none) rfl (fun _ _ => rS (rA he19a (rA he19b he19c))) ?_
     refine kA ?_
     obtain ⟨vr20, hvr20, h1⟩ := cA h1
     refine nA 144 [0, 4, 5, 6, 10, 11, 12] (fun | 1 => some (.int .i64 vr20, []) | _ => none) rfl (fun _ _ => rB (rA he19a (rA he19b he19c)) (pY hvr20)) ?_
     refine nA 160 [0, 4, 5, 6, 10, 11, 12, 20] (fun _ => none) rfl (fun _ _ => rS (rA he19a (rA he19b he19c))) ?_
     refine xI h1 rfl (fun h1 hb21 => ?_) (fun h1 hb21 => ?_)
     ·
      refine nA 192 [2, 3] (fun _ => none) rfl (fun _ _ => rS (rA he19a (rA he19b he19c))) ?_
      refine jA ?_
      obtain rfl := Option.some.inj h1
      refine mA (eC (mA (mA (aD (mA ?_)))))
      obtain rfl := Option.some.inj h0
      refine lA [] ?_
      simp (maxSteps := 1000000) only [↓reduceIte, reduceCtorEq, Nat.reduceEqDiff, Nat.reduceLT, Nat.reduceLeDiff, Nat.reduceAdd, Nat.reduceMul, Int.reduceToNat, push_cast, bC, he19a, he19b, he19c]
      all_goals exact rH
     ·
      refine qA (dA ?_)
      obtain ⟨b23, hb23, h1⟩ := cA h1
      refine yR (fr' := [(0, .psl 4 (List.map aA.enc l1)), (4, .int .i64 v17), (10, .psl 4 (List.map aA.enc l1)), (11, .int .i64 (l1.length : Int)), (12, .int .i64 v17), (35, .bool b23)]) (hp' := [(96, ⟨0, true, true, 4, [[.str e19.Key, .str e19.Val, .bool e19.Dead, .int .i64 e19.Seq]]⟩)]) [96] 264 [0, 4, 10, 11, 12, 35] (fun _ => none) rfl rfl rfl (fun Kt hK => by
        cases hg24 : (decide (0 < v17)) with
        | false =>
         replace hb23 := wA hb23 hg24
         have hqb23 := Option.some.inj hb23
         subst hqb23
         simp (maxSteps := 1000000) only [↓reduceIte, reduceCtorEq, Nat.reduceEqDiff, Nat.reduceLT, Nat.reduceLeDiff, Nat.reduceAdd, Nat.reduceMul, Int.reduceToNat, push_cast, he19a, he19b, he19c, ↓hg24]
         try simp only [↓hg24] at hK
         all_goals exact nH
        | true =>
         replace hb23 := jB hb23 hg24
         obtain ⟨e22, he22, hb23⟩ := cA hb23
         obtain ⟨he22a, he22b, he22c⟩ := cB he22
         have hqb23 := Option.some.inj hb23
         subst hqb23
         simp (maxSteps := 1000000) only [↓reduceIte, reduceCtorEq, Nat.reduceEqDiff, Nat.reduceLT, Nat.reduceLeDiff, Nat.reduceAdd, Nat.reduceMul, Int.reduceToNat, push_cast, he19a, he19b, he19c, ↓hg24, he22a, he22b, he22c, he22]
         try simp only [↓hg24] at hK
         all_goals exact nH) ?_
      refine xI h1 rfl (fun h1 hb25 => ?_) (fun h1 hb25 => ?_)
      ·
       refine nA 288 [2, 3] (fun _ => none) rfl (fun _ _ => rS (rA he19a (rA he19b he19c))) ?_
       refine jA ?_
       obtain rfl := Option.some.inj h1
       refine eC (mA (mA (aD (mA ?_))))
       obtain rfl := Option.some.inj h0
       refine lA [] ?_
       simp (maxSteps := 1000000) only [↓reduceIte, reduceCtorEq, Nat.reduceEqDiff, Nat.reduceLT, Nat.reduceLeDiff, Nat.reduceAdd, Nat.reduceMul, Int.reduceToNat, push_cast, bC, he19a, he19b, he19c]
       all_goals exact rH
      ·
       refine qA (sB (dA ?_))
       refine uB 280 [0, 10, 11, 12] (fun _ => none) rfl (fun _ _ => rS (rA he19a (rA he19b he19c))) ?_
       refine dA ?_
       exact ⟨⟨(fu, (IntKind.i64.wrap (v17 + 1))), h1⟩, ⟨rF, rE, rfl, rfl, trivial, trivial⟩, Nat.lt_succ_self _⟩
    ·
     refine iC (dB (dB (jC ?_)))
     obtain rfl := Option.some.inj h1
     exact ⟨_, rfl, rL, ⟨rF, rE, rfl, rfl, trivial, trivial⟩⟩
theorem zfk {fu : Nat} {vr1 : zA} {r : Int × Int} (h0 : fP fu vr1 = some r) : bB Tryz.prog 98 [.agg (zA.enc vr1)] (.tup [.int .i64 r.1, .int .i64 r.2]) [] := by
 refine gB Tryz.func98 rfl (by decide) rL ?_
 dsimp only [Tryz.f98]
 rw [fP] at h0
 refine (show pA _ _ _ _ ⟨aB 0 _, [], 0, []⟩ from ?_)
 refine xS 24 [1] ?_
 refine kA ?_
 obtain ⟨b2, hb2, h0⟩ := cA h0
 refine nC (fr' := [(1, .ref 0 0 0 0), (11, .bool b2)]) (hp' := [(0, ⟨0, true, true, 2, [[.int .i64 vr1.Id, .psl 4 (List.map aA.enc vr1.Entries)]]⟩)]) [0] 88 [1, 11] (fun _ => none) rfl (fun Kt hK => by
   cases hg3 : (decide (vr1.Id < 1)) with
   | false =>
    replace hb2 := wA hb2 hg3
    have hqb2 := Option.some.inj hb2
    subst hqb2
    simp (maxSteps := 1000000) only [↓reduceIte, reduceCtorEq, Nat.reduceEqDiff, Nat.reduceLT, Nat.reduceLeDiff, Nat.reduceAdd, Nat.reduceMul, Int.reduceToNat, push_cast, ↓hg3]
    try simp only [↓hg3] at hK
    all_goals exact rU
   | true =>
    replace hb2 := jB hb2 hg3
    have hqb2 := Option.some.inj hb2
    subst hqb2
    simp (maxSteps := 1000000) only [↓reduceIte, reduceCtorEq, Nat.reduceEqDiff, Nat.reduceLT, Nat.reduceLeDiff, Nat.reduceAdd, Nat.reduceMul, Int.reduceToNat, push_cast, ↓hg3]
    try simp only [↓hg3] at hK
    all_goals exact rU) ?_
 refine xI h0 rfl (fun h0 hb4 => ?_) (fun h0 hb4 => ?_)
 ·
  refine xS 104 [2, 3] ?_
  refine jA (mA ?_)
  obtain rfl := Option.some.inj h0
  refine lA [] ?_
  exact rG
 ·
  refine qA (dA ?_)
  obtain ⟨vr5, hvr5, h0⟩ := cA h0
  refine nA 144 [2, 3] (fun | 2 => some (.tup [.int .i64 vr5.1, .int .i64 vr5.2], []) | _ => none) rfl (fun _ _ => rC (zce hvr5)) ?_
  refine jA ?_
  obtain rfl := Option.some.inj h0
  refine lA [] ?_
  exact rG
theorem zjO {fu : Nat} {vr1 : zA} {most2 : Int} {r : Int} (h0 : zN fu vr1 most2 = some r) : bB Tryz.prog 65 [.agg (zA.enc vr1), .int .i64 most2] (.int .i64 r) [] := by
 refine gB Tryz.func65 rfl (by decide) rL ?_
 dsimp only [Tryz.f65]
 rw [zN] at h0
 refine (show pA _ _ _ _ ⟨aB 0 _, [], 0, []⟩ from ?_)
 refine xS 16 [1, 2] ?_
 refine kA ?_
 obtain ⟨vr3, hvr3, h0⟩ := cA h0
 refine nA 72 [1, 2, 6] (fun | 1 => some (.tup [.int .i64 vr3.1, .int .i64 vr3.2], []) | _ => none) rfl (fun _ _ => rC (zfk hvr3)) ?_
 refine xS 88 [1, 2, 6, 14] ?_
 refine xI h0 rfl (fun h0 hb4 => ?_) (fun h0 hb4 => ?_)
 ·
  refine xS 104 [4] ?_
  refine jA (mA ?_)
  obtain rfl := Option.some.inj h0
  refine lA [] ?_
  exact rG
 ·
  refine qA (dA (kA ?_))
  refine xS 120 [1, 7] ?_
  refine aC ?_
  refine xS 144 [1, 7, 19] ?_
  refine xI h0 rfl (fun h0 hb5 => ?_) (fun h0 hb5 => ?_)
  ·
   refine xS 152 [4] ?_
   refine jA (eC (mA ?_))
   obtain rfl := Option.some.inj h0
   refine lA [] ?_
   exact rG
  ·
   refine xS 176 [22] ?_
   refine xI h0 rfl (fun h0 hb6 => ?_) (fun h0 hb6 => ?_)
   ·
    refine xS 184 [4] ?_
    refine jA (eC (mA ?_))
    obtain rfl := Option.some.inj h0
    refine lA [] ?_
    exact rG
   ·
    refine qA (sB (dA ?_))
    refine xS 184 [4] ?_
    refine jA ?_
    obtain rfl := Option.some.inj h0
    refine lA [] ?_
    exact rG
theorem jY {fu : Nat} {l1 : uA} {r : Int × Int × Int} (h0 : uH fu l1 = some r) : bB Tryz.prog 35 [.agg (uA.enc l1)] (.tup [.int .i64 r.1, .int .i64 r.2.1, .int .i64 r.2.2]) [] := by
 refine zeB Tryz.func35 rfl (by decide) rL ?_
 dsimp only [Tryz.f35]
 rw [uH] at h0
 refine (show pM _ _ _ _ ⟨aB 0 _, [], 0, []⟩ from ?_)
 refine zay ?_
 refine xR 32 [1, 2, 3, 4] ?_
 refine dA (zjd (zay (aC ?_)))
 obtain ⟨b2, hb2, h0⟩ := cA h0
 refine nC (fr' := [(1, .ref 0 0 0 0), (2, .int .i64 0), (3, .int .i64 0), (4, .int .i64 0), (11, .bool b2)]) (hp' := [(0, ⟨0, true, true, 2, [[.int .i64 l1.B, .psl 1 (List.map sA.enc l1.Levels)]]⟩)]) [0] 104 [1, 2, 3, 4, 11] (fun _ => none) rfl (fun Kt hK => by
   cases hg3 : (decide (l1.B < 1)) with
   | false =>
    replace hb2 := wA hb2 hg3
    have hqb2 := Option.some.inj hb2
    subst hqb2
    simp (maxSteps := 1000000) only [↓reduceIte, reduceCtorEq, Nat.reduceEqDiff, Nat.reduceLT, Nat.reduceLeDiff, Nat.reduceAdd, Nat.reduceMul, Int.reduceToNat, push_cast, ↓hg3]
    try simp only [↓hg3] at hK
    all_goals exact rU
   | true =>
    replace hb2 := jB hb2 hg3
    have hqb2 := Option.some.inj hb2
    subst hqb2
    simp (maxSteps := 1000000) only [↓reduceIte, reduceCtorEq, Nat.reduceEqDiff, Nat.reduceLT, Nat.reduceLeDiff, Nat.reduceAdd, Nat.reduceMul, Int.reduceToNat, push_cast, ↓hg3]
    try simp only [↓hg3] at hK
    all_goals exact rU) ?_
 refine xI h0 rfl (fun h0 hb4 => ?_) (fun h0 hb4 => ?_)
 ·
  refine xS 128 [2, 3, 4] ?_
  refine jA (eC (mA ?_))
  obtain rfl := Option.some.inj h0
  refine lA [] ?_
  exact rG
 ·
  refine xS 144 [1, 2, 3, 4, 20] ?_
  refine xI h0 rfl (fun h0 hb5 => ?_) (fun h0 hb5 => ?_)
  ·
   refine xS 168 [2, 3, 4] ?_
   refine jA (eC (mA ?_))
   obtain rfl := Option.some.inj h0
   refine lA [] ?_
   exact rG
  ·
   refine qA (sB (dA (zay ?_)))
   refine dV 2 rfl ?_
   refine gC (l' := 0 :: (List.range' 1 1 ++ [])) rfl ?_
   refine zj0 rfl rfl rfl rfl ?_
   refine iI (s2 := ⟨[(1, .ref 0 0 0 0), (2, .int .i64 0), (3, .int .i64 0), (4, .int .i64 0), (20, .bool (decide (12 < (l1.Levels.length : Int)))), (25, .mp 144)], [(0, ⟨0, true, true, 2, [[.int .i64 l1.B, .psl 1 (List.map sA.enc l1.Levels)]]⟩)], 152, [(144, (oE (pD (fun n : Int => AV.int .i64 n) AV.bool ([] : List (Int × Bool)))))]⟩) [] rL ⟨rF, rE, rfl, rfl, (dC.consM rL rfl trivial), trivial⟩ ?_
   refine gC (l' := List.range' 1 1 ++ []) rfl ?_
   refine kC 1 1 160 [] (fun _ => none) rfl rfl rfl (fun _ _ => rT) ?_
   refine zC ?_
   refine dA ?_
   refine fwp_re (s2 := ⟨[(1, .ref 0 0 0 0), (2, .int .i64 0), (3, .int .i64 0), (4, .int .i64 0), (5, .mp 144)], [(0, ⟨0, true, true, 2, [[.int .i64 l1.B, .psl 1 (List.map sA.enc l1.Levels)]]⟩)], 160, [(144, (oE (pD (fun n : Int => AV.int .i64 n) AV.bool ([] : List (Int × Bool)))))]⟩) [] rL ⟨rF, rE, rfl, rfl, (dC.consM rL rfl trivial), trivial⟩ ?_
   refine zi6 (l := 144) rfl rfl rfl rfl rfl rfl rfl rfl rL rfl rfl rfl rfl rfl nW ?_
   refine pB (s2 := ⟨[(1, .ref 0 0 0 0), (2, .int .i64 0), (3, .int .i64 0), (4, .int .i64 0), (5, .mp 144)], [(0, ⟨0, true, true, 2, [[.int .i64 l1.B, .psl 1 (List.map sA.enc l1.Levels)]]⟩)], 160, [(144, (oE (pD (fun n : Int => AV.int .i64 n) AV.bool ([] : List (Int × Bool)))))]⟩) [] rL ⟨rF, rE, rfl, rfl, (dC.consM rL rfl trivial), trivial⟩ ?_
   refine kA ?_
   refine zdk ?_
   refine dA (kA ?_)
   refine xS 192 [1, 2, 3, 4, 5, 28, 29, 30] ?_
   obtain ⟨x162, hxx162, h0⟩ := cA h0
   refine pC (fun s' => s'.nx ≤ 552 ∧ LeN [] s' ⟨[(1, .ref 0 0 0 0), (2, .int .i64 x162.1), (3, .int .i64 x162.2.1), (4, .int .i64 x162.2.2.1)], [(0, ⟨0, true, true, 2, [[.int .i64 l1.B, .psl 1 (List.map sA.enc l1.Levels)]]⟩)], 552, [(144, (oE (pD (fun n : Int => AV.int .i64 n) AV.bool x162.2.2.2)))]⟩) ?_ ?_
   ·
    intro s' hs
    obtain ⟨hn, hs⟩ := hs
    refine dA ?_
    refine pB [] hn hs ?_
    refine kA ?_
    refine xS 568 [1, 2, 3, 4, 71] ?_
    refine xI h0 rfl (fun h0 hb217 => ?_) (fun h0 hb217 => ?_)
    ·
     refine xS 616 [2, 3, 4] ?_
     refine jA (mA (zav rfl rfl ?_))
     obtain rfl := Option.some.inj h0
     refine lA [] ?_
     exact rG
    ·
     refine qA (dA (kA ?_))
     refine xS 600 [1, 10] ?_
     obtain ⟨b219, hb219, h0⟩ := cA h0
     refine nC (fr' := [(10, .int .i64 (l1.Levels.length : Int)), (90, .bool b219)]) (hp' := [(0, ⟨0, true, true, 2, [[.int .i64 l1.B, .psl 1 (List.map sA.enc l1.Levels)]]⟩)]) [0, 144] 704 [10, 90] (fun _ => none) rfl (fun Kt hK => by
       cases hg220 : (decide (0 < (l1.Levels.length : Int))) with
       | false =>
        replace hb219 := wA hb219 hg220
        have hqb219 := Option.some.inj hb219
        subst hqb219
        simp (maxSteps := 1000000) only [↓reduceIte, reduceCtorEq, Nat.reduceEqDiff, Nat.reduceLT, Nat.reduceLeDiff, Nat.reduceAdd, Nat.reduceMul, Int.reduceToNat, push_cast, ↓hg220]
        try simp only [↓hg220] at hK
        all_goals exact rU
       | true =>
        replace hb219 := jB hb219 hg220
        obtain ⟨e218, he218, hb219⟩ := cA hb219
        obtain ⟨he218a, he218b, he218c⟩ := cB he218
        have hqb219 := Option.some.inj hb219
        subst hqb219
        simp (maxSteps := 1000000) only [↓reduceIte, reduceCtorEq, Nat.reduceEqDiff, Nat.reduceLT, Nat.reduceLeDiff, Nat.reduceAdd, Nat.reduceMul, Int.reduceToNat, push_cast, ↓hg220, he218a, he218b, he218c, he218]
        try simp only [↓hg220] at hK
        all_goals exact rU) ?_
     refine xI h0 rfl (fun h0 hb221 => ?_) (fun h0 hb221 => ?_)
     ·
      refine xS 744 [2, 3, 4] ?_
      refine jA (mA (zav rfl rfl ?_))
      obtain rfl := Option.some.inj h0
      refine lA [] ?_
      exact rG
     ·
      refine qA (dA ?_)
      refine xS 728 [2, 3, 4] ?_
      refine jA (zav rfl rfl ?_)
      obtain rfl := Option.some.inj h0
      refine lA [] ?_
      exact rG
   ·
    refine mC (ι := { p : Nat × Int × Int × Int × (List (Int × Bool)) × Int // pF l1 p.1 p.2.1 p.2.2.1 p.2.2.2.1 p.2.2.2.2.1 p.2.2.2.2.2 = some x162 }) (fun p => ⟨[(1, .ref 0 0 0 0), (2, .int .i64 p.1.2.2.2.2.2), (3, .int .i64 p.1.2.1), (4, .int .i64 p.1.2.2.1), (5, .mp 144), (28, .psl 1 (List.map sA.enc l1.Levels)), (29, .int .i64 (l1.Levels.length : Int)), (30, .int .i64 p.1.2.2.2.1)], [(0, ⟨0, true, true, 2, [[.int .i64 l1.B, .psl 1 (List.map sA.enc l1.Levels)]]⟩)], 192, [(144, (oE (pD (fun n : Int => AV.int .i64 n) AV.bool p.1.2.2.2.2.1)))]⟩) (fun p => p.1.1) ⟨(fu, 0, 0, 0, ([] : List (Int × Bool)), 0), hxx162⟩ ⟨rF, rE, rfl, rfl, (dC.consM rL rfl trivial), trivial⟩ (fun _ => Nat.le_refl _) ?_
    rintro ⟨⟨fu, run163, e164, v165, v166, level167⟩, h1⟩
    cases fu with
    | zero =>
   replace h1 : pF l1 0 run163 e164 v165 v166 level167 = some x162 := h1
   rw [pF] at h1; cases h1
    | succ fu =>
     replace h1 : pF l1 (fu + 1) run163 e164 v165 v166 level167 = some x162 := h1
     rw [pF] at h1
     refine (show pA _ _ _ _ ⟨[(1, .ref 0 0 0 0), (2, .int .i64 level167), (3, .int .i64 run163), (4, .int .i64 e164), (5, .mp 144), (28, .psl 1 (List.map sA.enc l1.Levels)), (29, .int .i64 (l1.Levels.length : Int)), (30, .int .i64 v165)], [(0, ⟨0, true, true, 2, [[.int .i64 l1.B, .psl 1 (List.map sA.enc l1.Levels)]]⟩)], 192, [(144, (oE (pD (fun n : Int => AV.int .i64 n) AV.bool v166)))]⟩ from ?_)
     refine xS 200 [1, 2, 3, 4, 5, 28, 29, 30, 31] ?_
     refine kA ?_
     refine xI h1 rfl (fun h1 hb168 => ?_) (fun h1 hb168 => ?_)
     ·
      refine qA (dA (kA (aC ?_)))
      obtain ⟨e169, he169, h1⟩ := cA h1
      obtain ⟨he169a, he169b, he169c⟩ := cB he169
      refine nA 248 [1, 4, 5, 6, 7, 28, 29, 30] (fun _ => none) rfl (fun _ _ => rS (rA he169a (rA he169b he169c))) ?_
      refine nA 272 [1, 2, 3, 4, 5, 6, 7, 28, 29, 30] (fun _ => none) rfl (fun _ _ => rS (rA he169a (rA he169b he169c))) ?_
      refine kA ?_
      refine nA 304 [1, 2, 3, 4, 5, 6, 7, 28, 29, 30, 39] (fun _ => none) rfl (fun _ _ => rS (rA he169a (rA he169b he169c))) ?_
      refine xI h1 rfl (fun h1 hb170 => ?_) (fun h1 hb170 => ?_)
      ·
       refine nA 312 [1, 2, 3, 4] (fun _ => none) rfl (fun _ _ => rS (rA he169a (rA he169b he169c))) ?_
       refine iC (dB (vO (by decide) (dB (dB (jC ?_)))))
       obtain rfl := Option.some.inj h1
       exact ⟨rL, ⟨rF, rE, rfl, rfl, (dC.consM rL rfl trivial), trivial⟩⟩
      ·
       refine qA (dA ?_)
       refine nA 336 [1, 2, 3, 4, 5, 6, 28, 29, 30, 41, 42, 43] (fun _ => none) rfl (fun _ _ => rS (rA he169a (rA he169b he169c))) ?_
       obtain ⟨x202, hxx202, h1⟩ := cA h1
       refine pC (fun s' => ∃ o215 : Int × Int × (List (Int × Bool)), x202 = .inl o215 ∧ s'.nx ≤ 344 ∧ LeN [] s' ⟨[(1, .ref 0 0 0 0), (2, .int .i64 v165), (3, .int .i64 o215.1), (4, .int .i64 o215.2.1), (5, .mp 144), (28, .psl 1 (List.map sA.enc l1.Levels)), (29, .int .i64 (l1.Levels.length : Int)), (30, .int .i64 v165)], [(0, ⟨0, true, true, 2, [[.int .i64 l1.B, .psl 1 (List.map sA.enc l1.Levels)]]⟩)], 344, [(144, (oE (pD (fun n : Int => AV.int .i64 n) AV.bool o215.2.2)))]⟩) ?_ ?_
       ·
        intro s' hs
        obtain ⟨o215, rfl, hn, hs⟩ := hs
        refine sB (dA ?_)
        refine pB [] hn hs ?_
        refine uB 360 [1, 2, 3, 4, 5, 28, 29, 30] (fun _ => none) rfl (fun _ _ => rS (rA he169a (rA he169b he169c))) ?_
        refine dA ?_
        exact ⟨⟨(fu, o215.1, o215.2.1, (IntKind.i64.wrap (v165 + 1)), o215.2.2, v165), h1⟩, ⟨rF, rE, rfl, rfl, (dC.consM rL rfl trivial), trivial⟩, Nat.lt_succ_self _⟩
       ·
        refine mC (ι := { p : Nat × Int × Int × (List (Int × Bool)) × Int // fF e169 v165 l1 p.1 p.2.1 p.2.2.1 p.2.2.2.1 p.2.2.2.2 = some x202 }) (fun p => ⟨[(1, .ref 0 0 0 0), (2, .int .i64 v165), (3, .int .i64 p.1.2.2.2.2), (4, .int .i64 p.1.2.1), (5, .mp 144), (6, .int .i64 v165), (28, .psl 1 (List.map sA.enc l1.Levels)), (29, .int .i64 (l1.Levels.length : Int)), (30, .int .i64 v165), (41, .psl 2 (List.map zA.enc e169.Runs)), (42, .int .i64 (e169.Runs.length : Int)), (43, .int .i64 p.1.2.2.1)], [(0, ⟨0, true, true, 2, [[.int .i64 l1.B, .psl 1 (List.map sA.enc l1.Levels)]]⟩)], 336, [(144, (oE (pD (fun n : Int => AV.int .i64 n) AV.bool p.1.2.2.2.1)))]⟩) (fun p => p.1.1) ⟨(fu, e164, 0, v166, 0), hxx202⟩ ⟨rF, rE, rfl, rfl, (dC.consM rL rfl trivial), trivial⟩ (fun _ => Nat.le_refl _) ?_
        rintro ⟨⟨fu, e203, v204, v205, run206⟩, h2⟩
        cases fu with
        | zero =>
   replace h2 : fF e169 v165 l1 0 e203 v204 v205 run206 = some x202 := h2
   rw [fF] at h2; cases h2
        | succ fu =>
         replace h2 : fF e169 v165 l1 (fu + 1) e203 v204 v205 run206 = some x202 := h2
         rw [fF] at h2
         refine (show pA _ _ _ _ ⟨[(1, .ref 0 0 0 0), (2, .int .i64 v165), (3, .int .i64 run206), (4, .int .i64 e203), (5, .mp 144), (6, .int .i64 v165), (28, .psl 1 (List.map sA.enc l1.Levels)), (29, .int .i64 (l1.Levels.length : Int)), (30, .int .i64 v165), (41, .psl 2 (List.map zA.enc e169.Runs)), (42, .int .i64 (e169.Runs.length : Int)), (43, .int .i64 v204)], [(0, ⟨0, true, true, 2, [[.int .i64 l1.B, .psl 1 (List.map sA.enc l1.Levels)]]⟩)], 336, [(144, (oE (pD (fun n : Int => AV.int .i64 n) AV.bool v205)))]⟩ from ?_)
         refine nA 344 [1, 2, 3, 4, 5, 6, 28, 29, 30, 41, 42, 43, 44] (fun _ => none) rfl (fun _ _ => rS (rA he169a (rA he169b he169c))) ?_
         refine kA ?_
         refine xI h2 rfl (fun h2 hb207 => ?_) (fun h2 hb207 => ?_)
         ·
          refine qA (dA (kA (aC ?_)))
          obtain ⟨e208, he208, h2⟩ := cA h2
          obtain ⟨he208a, he208b, he208c⟩ := cB he208
          refine nA 392 [1, 2, 5, 6, 8, 9, 28, 29, 30, 41, 42, 43] (fun _ => none) rfl (fun _ _ => rS (rA he169a (rA he169b (rA he169c (rA he208a (rA he208b he208c)))))) ?_
          refine nA 408 [1, 2, 3, 5, 6, 9, 28, 29, 30, 41, 42, 43] (fun _ => none) rfl (fun _ _ => rS (rA he169a (rA he169b (rA he169c (rA he208a (rA he208b he208c)))))) ?_
          refine kA ?_
          obtain ⟨hc209, h2⟩ := mD h2
          obtain ⟨vr210, hvr210, h2⟩ := cA h2
          refine oC 464 [1, 2, 3, 4, 5, 6, 9, 28, 29, 30, 41, 42, 43] (fun | 5 => some (.int .i64 vr210, []) | _ => none) rfl rfl rfl (fun _ _ => oL (rA he169a (rA he169b (rA he169c (rA he208a (rA he208b he208c))))) (zjO hvr210)) ?_
          refine uG 8 rfl ?_
          refine gC (l' := List.range' 0 3 ++ (List.range' 3 5 ++ [])) rfl ?_
          refine kC 0 3 488 (List.range' 3 5 ++ []) (fun _ => none) rfl rfl rfl (fun _ _ => rS (rA he169a (rA he169b (rA he169c (rA he208a (rA he208b he208c)))))) ?_
          refine iI (s2 := ⟨[(1, .ref 0 0 0 0), (2, .int .i64 v165), (3, .int .i64 v204), (4, .int .i64 vr210), (5, .mp 144), (6, .int .i64 v165), (9, .ref 368 0 0 0), (28, .psl 1 (List.map sA.enc l1.Levels)), (29, .int .i64 (l1.Levels.length : Int)), (30, .int .i64 v165), (41, .psl 2 (List.map zA.enc e169.Runs)), (42, .int .i64 (e169.Runs.length : Int)), (43, .int .i64 v204), (55, .int .i64 vr210), (56, .bool (decide (vr210 = 0))), (57, .bool (decide (vr210 = 0)))], [(0, ⟨0, true, true, 2, [[.int .i64 l1.B, .psl 1 (List.map sA.enc l1.Levels)]]⟩), (368, ⟨0, true, true, 2, [[.int .i64 e208.Id, .psl 4 (List.map aA.enc e208.Entries)]]⟩)], 488, [(144, (oE (pD (fun n : Int => AV.int .i64 n) AV.bool v205)))]⟩) [] rL ⟨rF, rE, rfl, rfl, (dC.consM rL rfl trivial), trivial⟩ ?_
          generalize hg211 : (decide (vr210 = 0)) = b211
          cases b211 with
          | true =>
           replace h2 := jB h2 hg211
           refine gC (l' := List.range' 3 3 ++ (6 :: (List.range' 7 1 ++ []))) rfl ?_
           refine kC 3 3 512 (6 :: (List.range' 7 1 ++ [])) (fun _ => none) rfl rfl rfl (fun _ _ => rS (rA he169a (rA he169b (rA he169c (rA he208a (rA he208b he208c)))))) ?_
           refine zd7 (l := 144) (ek := (fun n : Int => AV.int .i64 n)) (ev := AV.bool) (m := v205) (n := e208.Id) (z := false) rfl rfl rfl rfl nW zae zlT (fun _ => rfl) rfl rfl rfl ?_
           refine iI (s2 := ⟨[(1, .ref 0 0 0 0), (2, .int .i64 v165), (3, .int .i64 v204), (4, .int .i64 vr210), (5, .mp 144), (6, .int .i64 v165), (9, .ref 368 0 0 0), (28, .psl 1 (List.map sA.enc l1.Levels)), (29, .int .i64 (l1.Levels.length : Int)), (30, .int .i64 v165), (41, .psl 2 (List.map zA.enc e169.Runs)), (42, .int .i64 (e169.Runs.length : Int)), (43, .int .i64 v204), (55, .int .i64 vr210), (56, .bool true), (57, .bool true), (58, .mp 144), (59, .ref 368 0 0 0), (60, .int .i64 e208.Id), (61, .bool ((mE v205 e208.Id).getD false))], [(0, ⟨0, true, true, 2, [[.int .i64 l1.B, .psl 1 (List.map sA.enc l1.Levels)]]⟩), (368, ⟨0, true, true, 2, [[.int .i64 e208.Id, .psl 4 (List.map aA.enc e208.Entries)]]⟩)], 520, [(144, (oE (pD (fun n : Int => AV.int .i64 n) AV.bool v205)))]⟩) [] rL ⟨rF, rE, rfl, rfl, (dC.consM rL rfl trivial), trivial⟩ ?_
           refine gC (l' := List.range' 7 1 ++ []) rfl ?_
           refine kC 7 1 528 [] (fun _ => none) rfl rfl rfl (fun _ _ => rS (rA he169a (rA he169b (rA he169c (rA he208a (rA he208b he208c)))))) ?_
           refine zC ?_
           refine dA ?_
           refine pB (s2 := ⟨[(1, .ref 0 0 0 0), (2, .int .i64 v165), (3, .int .i64 v204), (4, .int .i64 vr210), (5, .mp 144), (6, .int .i64 v165), (9, .ref 368 0 0 0), (28, .psl 1 (List.map sA.enc l1.Levels)), (29, .int .i64 (l1.Levels.length : Int)), (30, .int .i64 v165), (41, .psl 2 (List.map zA.enc e169.Runs)), (42, .int .i64 (e169.Runs.length : Int)), (43, .int .i64 v204), (58, .mp 144), (59, .ref 368 0 0 0), (60, .int .i64 e208.Id), (61, .bool ((mE v205 e208.Id).getD false)), (62, .bool ((mE v205 e208.Id).getD false))], [(0, ⟨0, true, true, 2, [[.int .i64 l1.B, .psl 1 (List.map sA.enc l1.Levels)]]⟩), (368, ⟨0, true, true, 2, [[.int .i64 e208.Id, .psl 4 (List.map aA.enc e208.Entries)]]⟩)], 528, [(144, (oE (pD (fun n : Int => AV.int .i64 n) AV.bool v205)))]⟩) [] rL ⟨rF, rE, rfl, rfl, (dC.consM rL rfl trivial), trivial⟩ ?_
           refine xI h2 rfl (fun h2 hb212 => ?_) (fun h2 hb212 => ?_)
           ·
            refine uB 536 [1, 2, 3, 4, 5, 6, 9, 28, 29, 30, 41, 42, 43, 58, 59, 60, 61] (fun _ => none) rfl (fun _ _ => rS (rA he169a (rA he169b (rA he169c (rA he208a (rA he208b he208c)))))) ?_
            refine dA (kA ?_)
            refine nA 552 [1, 2, 3, 4, 5, 6, 9, 28, 29, 30, 41, 42, 43, 58, 59, 60, 61, 64] (fun _ => none) rfl (fun _ _ => rS (rA he169a (rA he169b (rA he169c (rA he208a (rA he208b he208c)))))) ?_
            refine zK rfl ?_
            refine iC ?_
            obtain rfl := Option.some.inj h2
            refine dB (vO (by decide) (dB (dB (zaC (by decide) (vO (by decide) (dB (dB (jC ?_))))))))
            obtain rfl := Option.some.inj h1
            exact ⟨rL, ⟨rF, rE, rfl, rfl, (dC.consM rL rfl trivial), trivial⟩⟩
           ·
            refine qA (dA (kA ?_))
            refine nA 544 [1, 2, 3, 4, 5, 6, 9, 28, 29, 30, 41, 42, 43, 58, 59, 60, 61, 64] (fun _ => none) rfl (fun _ _ => rS (rA he169a (rA he169b (rA he169c (rA he208a (rA he208b he208c)))))) ?_
            refine xI h2 rfl (fun h2 hb213 => ?_) (fun h2 hb213 => ?_)
            ·
             refine iC ?_
             obtain rfl := Option.some.inj h2
             refine dB (vO (by decide) (dB (dB (zaC (by decide) (vO (by decide) (dB (dB (jC ?_))))))))
             obtain rfl := Option.some.inj h1
             exact ⟨rL, ⟨rF, rE, rfl, rfl, (dC.consM rL rfl trivial), trivial⟩⟩
            ·
             refine qA (dA ?_)
             refine dV 4 rfl ?_
             refine gC (l' := List.range' 0 3 ++ (3 :: (List.range' 4 0 ++ []))) rfl ?_
             refine kC 0 3 568 (3 :: (List.range' 4 0 ++ [])) (fun _ => none) rfl rfl rfl (fun _ _ => rS (rA he169a (rA he169b (rA he169c (rA he208a (rA he208b he208c)))))) ?_
             refine zdm (l := 144) (ek := (fun n : Int => AV.int .i64 n)) (ev := AV.bool) (m := v205) (n := e208.Id) (y := true) rfl rfl rfl rfl nW zae (fun _ => rfl) rfl rfl rfl rfl ?_
             refine iI (s2 := ⟨[(1, .ref 0 0 0 0), (2, .int .i64 v165), (3, .int .i64 v204), (4, .int .i64 vr210), (5, .mp 144), (6, .int .i64 v165), (9, .ref 368 0 0 0), (28, .psl 1 (List.map sA.enc l1.Levels)), (29, .int .i64 (l1.Levels.length : Int)), (30, .int .i64 v165), (41, .psl 2 (List.map zA.enc e169.Runs)), (42, .int .i64 (e169.Runs.length : Int)), (43, .int .i64 v204), (58, .mp 144), (59, .ref 368 0 0 0), (60, .int .i64 e208.Id), (61, .bool ((mE v205 e208.Id).getD false)), (64, .bool (!(decide (vr210 = 0)))), (65, .mp 144), (66, .ref 368 0 0 0), (67, .int .i64 e208.Id)], [(0, ⟨0, true, true, 2, [[.int .i64 l1.B, .psl 1 (List.map sA.enc l1.Levels)]]⟩), (368, ⟨0, true, true, 2, [[.int .i64 e208.Id, .psl 4 (List.map aA.enc e208.Entries)]]⟩)], 576, [(144, (oE (pD (fun n : Int => AV.int .i64 n) AV.bool (aF v205 e208.Id true))))]⟩) [] rL ⟨rF, rE, rfl, rfl, (dC.consM rL rfl trivial), trivial⟩ ?_
             refine gC (l' := []) rfl ?_
             refine zC ?_
             refine sB (dA ?_)
             refine pB (s2 := ⟨[(1, .ref 0 0 0 0), (2, .int .i64 v165), (3, .int .i64 v204), (4, .int .i64 vr210), (5, .mp 144), (6, .int .i64 v165), (28, .psl 1 (List.map sA.enc l1.Levels)), (29, .int .i64 (l1.Levels.length : Int)), (30, .int .i64 v165), (41, .psl 2 (List.map zA.enc e169.Runs)), (42, .int .i64 (e169.Runs.length : Int)), (43, .int .i64 v204), (58, .mp 144), (59, .ref 368 0 0 0), (60, .int .i64 e208.Id), (61, .bool ((mE v205 e208.Id).getD false))], [(0, ⟨0, true, true, 2, [[.int .i64 l1.B, .psl 1 (List.map sA.enc l1.Levels)]]⟩), (368, ⟨0, true, true, 2, [[.int .i64 e208.Id, .psl 4 (List.map aA.enc e208.Entries)]]⟩)], 576, [(144, (oE (pD (fun n : Int => AV.int .i64 n) AV.bool (aF v205 e208.Id true))))]⟩) [] rL ⟨rF, rE, rfl, rfl, (dC.consM rL rfl trivial), trivial⟩ ?_
             refine uB 592 [1, 2, 3, 4, 5, 6, 28, 29, 30, 41, 42, 43, 58, 59, 60, 61] (fun _ => none) rfl (fun _ _ => rS (rA he169a (rA he169b (rA he169c (rA he208a (rA he208b he208c)))))) ?_
             refine dA ?_
             exact ⟨⟨(fu, vr210, (IntKind.i64.wrap (v204 + 1)), (aF v205 e208.Id true), v204), h2⟩, ⟨rF, rE, rfl, rfl, (dC.consM rL rfl trivial), trivial⟩, Nat.lt_succ_self _⟩
          | false =>
           replace h2 := wA h2 hg211
           refine gC (l' := List.range' 3 5 ++ []) rfl ?_
           refine kC 3 5 528 [] (fun _ => none) rfl rfl rfl (fun _ _ => rS (rA he169a (rA he169b (rA he169c (rA he208a (rA he208b he208c)))))) ?_
           refine zC ?_
           refine dA ?_
           refine pB (s2 := ⟨[(1, .ref 0 0 0 0), (2, .int .i64 v165), (3, .int .i64 v204), (4, .int .i64 vr210), (5, .mp 144), (6, .int .i64 v165), (9, .ref 368 0 0 0), (28, .psl 1 (List.map sA.enc l1.Levels)), (29, .int .i64 (l1.Levels.length : Int)), (30, .int .i64 v165), (41, .psl 2 (List.map zA.enc e169.Runs)), (42, .int .i64 (e169.Runs.length : Int)), (43, .int .i64 v204), (62, .bool false)], [(0, ⟨0, true, true, 2, [[.int .i64 l1.B, .psl 1 (List.map sA.enc l1.Levels)]]⟩), (368, ⟨0, true, true, 2, [[.int .i64 e208.Id, .psl 4 (List.map aA.enc e208.Entries)]]⟩)], 528, [(144, (oE (pD (fun n : Int => AV.int .i64 n) AV.bool v205)))]⟩) [] rL ⟨rF, rE, rfl, rfl, (dC.consM rL rfl trivial), trivial⟩ ?_
           refine eF rfl ?_
           refine qA (dA (kA ?_))
           refine nA 544 [1, 2, 3, 4, 5, 6, 9, 28, 29, 30, 41, 42, 43, 64] (fun _ => none) rfl (fun _ _ => rS (rA he169a (rA he169b (rA he169c (rA he208a (rA he208b he208c)))))) ?_
           refine xI h2 rfl (fun h2 hb214 => ?_) (fun h2 hb214 => ?_)
           ·
            refine iC ?_
            obtain rfl := Option.some.inj h2
            refine dB (vO (by decide) (dB (dB (zaC (by decide) (vO (by decide) (dB (dB (jC ?_))))))))
            obtain rfl := Option.some.inj h1
            exact ⟨rL, ⟨rF, rE, rfl, rfl, (dC.consM rL rfl trivial), trivial⟩⟩
           ·
            refine qA (dA ?_)
            refine dV 4 rfl ?_
            refine gC (l' := List.range' 0 3 ++ (3 :: (List.range' 4 0 ++ []))) rfl ?_
            refine kC 0 3 568 (3 :: (List.range' 4 0 ++ [])) (fun _ => none) rfl rfl rfl (fun _ _ => rS (rA he169a (rA he169b (rA he169c (rA he208a (rA he208b he208c)))))) ?_
            refine zdm (l := 144) (ek := (fun n : Int => AV.int .i64 n)) (ev := AV.bool) (m := v205) (n := e208.Id) (y := true) rfl rfl rfl rfl nW zae (fun _ => rfl) rfl rfl rfl rfl ?_
            refine iI (s2 := ⟨[(1, .ref 0 0 0 0), (2, .int .i64 v165), (3, .int .i64 v204), (4, .int .i64 vr210), (5, .mp 144), (6, .int .i64 v165), (9, .ref 368 0 0 0), (28, .psl 1 (List.map sA.enc l1.Levels)), (29, .int .i64 (l1.Levels.length : Int)), (30, .int .i64 v165), (41, .psl 2 (List.map zA.enc e169.Runs)), (42, .int .i64 (e169.Runs.length : Int)), (43, .int .i64 v204), (64, .bool (!(decide (vr210 = 0)))), (65, .mp 144), (66, .ref 368 0 0 0), (67, .int .i64 e208.Id)], [(0, ⟨0, true, true, 2, [[.int .i64 l1.B, .psl 1 (List.map sA.enc l1.Levels)]]⟩), (368, ⟨0, true, true, 2, [[.int .i64 e208.Id, .psl 4 (List.map aA.enc e208.Entries)]]⟩)], 576, [(144, (oE (pD (fun n : Int => AV.int .i64 n) AV.bool (aF v205 e208.Id true))))]⟩) [] rL ⟨rF, rE, rfl, rfl, (dC.consM rL rfl trivial), trivial⟩ ?_
            refine gC (l' := []) rfl ?_
            refine zC ?_
            refine sB (dA ?_)
            refine pB (s2 := ⟨[(1, .ref 0 0 0 0), (2, .int .i64 v165), (3, .int .i64 v204), (4, .int .i64 vr210), (5, .mp 144), (6, .int .i64 v165), (28, .psl 1 (List.map sA.enc l1.Levels)), (29, .int .i64 (l1.Levels.length : Int)), (30, .int .i64 v165), (41, .psl 2 (List.map zA.enc e169.Runs)), (42, .int .i64 (e169.Runs.length : Int)), (43, .int .i64 v204)], [(0, ⟨0, true, true, 2, [[.int .i64 l1.B, .psl 1 (List.map sA.enc l1.Levels)]]⟩)], 576, [(144, (oE (pD (fun n : Int => AV.int .i64 n) AV.bool (aF v205 e208.Id true))))]⟩) [] rL ⟨rF, rE, rfl, rfl, (dC.consM rL rfl trivial), trivial⟩ ?_
            refine uB 592 [1, 2, 3, 4, 5, 6, 28, 29, 30, 41, 42, 43] (fun _ => none) rfl (fun _ _ => rS (rA he169a (rA he169b (rA he169c (rA he208a (rA he208b he208c)))))) ?_
            refine dA ?_
            exact ⟨⟨(fu, vr210, (IntKind.i64.wrap (v204 + 1)), (aF v205 e208.Id true), v204), h2⟩, ⟨rF, rE, rfl, rfl, (dC.consM rL rfl trivial), trivial⟩, Nat.lt_succ_self _⟩
         ·
          refine iC (dB (dB (jC ?_)))
          obtain rfl := Option.some.inj h2
          exact ⟨_, rfl, rL, ⟨rF, rE, rfl, rfl, (dC.consM rL rfl trivial), trivial⟩⟩
     ·
      refine iC (dB (dB (jC ?_)))
      obtain rfl := Option.some.inj h1
      exact ⟨rL, ⟨rF, rE, rfl, rfl, (dC.consM rL rfl trivial), trivial⟩⟩
theorem zbV {fu : Nat} {l1 : uA} {r : Int} (h0 : zM fu l1 = some r) : bB Tryz.prog 36 [.agg (uA.enc l1)] (.int .i64 r) [] := by
 refine gB Tryz.func36 rfl (by decide) rL ?_
 dsimp only [Tryz.f36]
 rw [zM] at h0
 refine (show pA _ _ _ _ ⟨aB 0 _, [], 0, []⟩ from ?_)
 refine xS 16 [1, 2] ?_
 refine kA ?_
 refine xS 48 [2, 8, 9, 10] ?_
 obtain ⟨x30, hxx30, h0⟩ := cA h0
 refine pC (fun s' => s'.nx ≤ 56 ∧ LeN [] s' ⟨[(2, .int .i64 x30)], [], 56, []⟩) ?_ ?_
 ·
  intro s' hs
  obtain ⟨hn, hs⟩ := hs
  refine dA ?_
  refine pB [] hn hs ?_
  refine xS 72 [2] ?_
  refine jA ?_
  obtain rfl := Option.some.inj h0
  refine lA [] ?_
  exact rG
 ·
  refine mC (ι := { p : Nat × Int × Int // mH l1 p.1 p.2.1 p.2.2 = some x30 }) (fun p => ⟨[(2, .int .i64 p.1.2.1), (8, .psl 1 (List.map sA.enc l1.Levels)), (9, .int .i64 (l1.Levels.length : Int)), (10, .int .i64 p.1.2.2)], [], 48, []⟩) (fun p => p.1.1) ⟨(fu, 0, 0), hxx30⟩ ⟨rF, rE, rfl, rfl, trivial, trivial⟩ (fun _ => Nat.le_refl _) ?_
  rintro ⟨⟨fu, best31, v32⟩, h1⟩
  cases fu with
  | zero =>
   replace h1 : mH l1 0 best31 v32 = some x30 := h1
   rw [mH] at h1; cases h1
  | succ fu =>
   replace h1 : mH l1 (fu + 1) best31 v32 = some x30 := h1
   rw [mH] at h1
   refine (show pA _ _ _ _ ⟨[(2, .int .i64 best31), (8, .psl 1 (List.map sA.enc l1.Levels)), (9, .int .i64 (l1.Levels.length : Int)), (10, .int .i64 v32)], [], 48, []⟩ from ?_)
   refine xS 56 [2, 8, 9, 10, 11] ?_
   refine kA ?_
   refine xI h1 rfl (fun h1 hb33 => ?_) (fun h1 hb33 => ?_)
   ·
    refine qA (dA (kA (aC ?_)))
    obtain ⟨e34, he34, h1⟩ := cA h1
    obtain ⟨he34a, he34b, he34c⟩ := cB he34
    refine nA 88 [2, 4, 8, 9, 10] (fun _ => none) rfl (fun _ _ => rS (rA he34a (rA he34b he34c))) ?_
    refine nA 120 [2, 8, 9, 10, 15, 16, 17] (fun _ => none) rfl (fun _ _ => rS (rA he34a (rA he34b he34c))) ?_
    obtain ⟨x41, hxx41, h1⟩ := cA h1
    refine pC (fun s' => s'.nx ≤ 128 ∧ LeN [] s' ⟨[(2, .int .i64 x41), (8, .psl 1 (List.map sA.enc l1.Levels)), (9, .int .i64 (l1.Levels.length : Int)), (10, .int .i64 v32)], [], 128, []⟩) ?_ ?_
    ·
     intro s' hs
     obtain ⟨hn, hs⟩ := hs
     refine sB (dA ?_)
     refine pB [] hn hs ?_
     refine uB 144 [2, 8, 9, 10] (fun _ => none) rfl (fun _ _ => rS (rA he34a (rA he34b he34c))) ?_
     refine dA ?_
     exact ⟨⟨(fu, x41, (IntKind.i64.wrap (v32 + 1))), h1⟩, ⟨rF, rE, rfl, rfl, trivial, trivial⟩, Nat.lt_succ_self _⟩
    ·
     refine mC (ι := { p : Nat × Int × Int // zG e34 p.1 p.2.1 p.2.2 = some x41 }) (fun p => ⟨[(2, .int .i64 p.1.2.1), (8, .psl 1 (List.map sA.enc l1.Levels)), (9, .int .i64 (l1.Levels.length : Int)), (10, .int .i64 v32), (15, .psl 2 (List.map zA.enc e34.Runs)), (16, .int .i64 (e34.Runs.length : Int)), (17, .int .i64 p.1.2.2)], [], 120, []⟩) (fun p => p.1.1) ⟨(fu, best31, 0), hxx41⟩ ⟨rF, rE, rfl, rfl, trivial, trivial⟩ (fun _ => Nat.le_refl _) ?_
     rintro ⟨⟨fu, best42, v43⟩, h2⟩
     cases fu with
     | zero =>
   replace h2 : zG e34 0 best42 v43 = some x41 := h2
   rw [zG] at h2; cases h2
     | succ fu =>
      replace h2 : zG e34 (fu + 1) best42 v43 = some x41 := h2
      rw [zG] at h2
      refine (show pA _ _ _ _ ⟨[(2, .int .i64 best42), (8, .psl 1 (List.map sA.enc l1.Levels)), (9, .int .i64 (l1.Levels.length : Int)), (10, .int .i64 v32), (15, .psl 2 (List.map zA.enc e34.Runs)), (16, .int .i64 (e34.Runs.length : Int)), (17, .int .i64 v43)], [], 120, []⟩ from ?_)
      refine nA 128 [2, 8, 9, 10, 15, 16, 17, 18] (fun _ => none) rfl (fun _ _ => rS (rA he34a (rA he34b he34c))) ?_
      refine kA ?_
      refine xI h2 rfl (fun h2 hb44 => ?_) (fun h2 hb44 => ?_)
      ·
       refine qA (dA (kA (aC ?_)))
       obtain ⟨e45, he45, h2⟩ := cA h2
       obtain ⟨he45a, he45b, he45c⟩ := cB he45
       refine nA 160 [2, 6, 8, 9, 10, 15, 16, 17] (fun _ => none) rfl (fun _ _ => rS (rA he34a (rA he34b (rA he34c (rA he45a (rA he45b he45c)))))) ?_
       refine uB 200 [2, 8, 9, 10, 15, 16, 17] (fun _ => none) rfl (fun _ _ => rS (rA he34a (rA he34b (rA he34c (rA he45a (rA he45b he45c)))))) ?_
       refine sB (dA ?_)
       refine uB 216 [2, 8, 9, 10, 15, 16, 17] (fun _ => none) rfl (fun _ _ => rS (rA he34a (rA he34b (rA he34c (rA he45a (rA he45b he45c)))))) ?_
       refine dA ?_
       exact ⟨⟨(fu, (if best42 < e45.Id then e45.Id else best42), (IntKind.i64.wrap (v43 + 1))), h2⟩, ⟨rF, rE, rfl, rfl, trivial, trivial⟩, Nat.lt_succ_self _⟩
      ·
       refine iC (dB (dB (jC ?_)))
       obtain rfl := Option.some.inj h2
       exact ⟨rL, ⟨rF, rE, rfl, rfl, trivial, trivial⟩⟩
   ·
    refine iC (dB (dB (jC ?_)))
    obtain rfl := Option.some.inj h1
    exact ⟨rL, ⟨rF, rE, rfl, rfl, trivial, trivial⟩⟩
theorem zbx {fu : Nat} {l1 : uA} {r : Int × List sA} (h0 : pO fu l1 = some r) : bB Tryz.prog 38 [.agg (uA.enc l1)] (.fn 67 [] [.pp [.int .i64 r.1, .psl 1 (r.2.map sA.enc)]]) [] := by
 refine gB Tryz.func38 rfl (by decide) rL ?_
 dsimp only [Tryz.f38]
 rw [pO] at h0
 refine (show pA _ _ _ _ ⟨aB 0 _, [], 0, []⟩ from ?_)
 refine xS 16 [1] ?_
 refine xS 32 [2] ?_
 refine jA ?_
 obtain rfl := Option.some.inj h0
 refine lA [] ?_
 exact rG
theorem wV {fu : Nat} {l1 : uA} {level2 : Int} {r : Bool} (h0 : lK fu l1 level2 = some r) : bB Tryz.prog 39 [.agg (uA.enc l1), .int .i64 level2] (.bool r) [] := by
 refine gB Tryz.func39 rfl (by decide) rL ?_
 dsimp only [Tryz.f39]
 rw [lK] at h0
 refine (show pA _ _ _ _ ⟨aB 0 _, [], 0, []⟩ from ?_)
 refine xS 16 [1, 2] ?_
 refine xS 72 [4] ?_
 refine jA ?_
 obtain rfl := Option.some.inj h0
 refine lA [] ?_
 exact rG
theorem zaQ {fu : Nat} {runs1 : List (List aA)} {r : Int × Int} (h0 : wI fu runs1 = some r) : bB Tryz.prog 106 [.psl 1 (runs1.map (vA 4 aA.enc))] (.tup [.int .i64 r.1, .int .i64 r.2]) [] := by
 refine gB Tryz.func106 rfl (by decide) rL ?_
 dsimp only [Tryz.f106]
 rw [wI] at h0
 refine (show pA _ _ _ _ ⟨aB 0 _, [], 0, []⟩ from ?_)
 refine xS 16 [0] ?_
 refine kA (aC ?_)
 refine xS 48 [0, 8] ?_
 refine xI h0 rfl (fun h0 hb2 => ?_) (fun h0 hb2 => ?_)
 ·
  refine xS 64 [2, 3] ?_
  refine jA (eC (mA ?_))
  obtain rfl := Option.some.inj h0
  refine lA [] ?_
  exact rG
 ·
  refine xS 80 [0, 12] ?_
  refine xI h0 rfl (fun h0 hb3 => ?_) (fun h0 hb3 => ?_)
  ·
   refine xS 96 [2, 3] ?_
   refine jA (eC (mA ?_))
   obtain rfl := Option.some.inj h0
   refine lA [] ?_
   exact rG
  ·
   refine qA (sB (dA (kA ?_)))
   refine xS 104 [16, 17, 18] ?_
   obtain ⟨x13, hxx13, h0⟩ := cA h0
   refine pC (fun s' => ∃ o19 : Unit, x13 = .inl o19 ∧ s'.nx ≤ 112 ∧ LeN [] s' ⟨[], [], 112, []⟩) ?_ ?_
   ·
    intro s' hs
    obtain ⟨o19, rfl, hn, hs⟩ := hs
    refine dA ?_
    refine pB [] hn hs ?_
    refine xS 128 [2, 3] ?_
    refine jA ?_
    obtain rfl := Option.some.inj h0
    refine lA [] ?_
    exact rG
   ·
    refine mC (ι := { p : Nat × Int // bF runs1 p.1 p.2 = some x13 }) (fun p => ⟨[(16, .psl 1 (List.map (vA 4 aA.enc) runs1)), (17, .int .i64 (runs1.length : Int)), (18, .int .i64 p.1.2)], [], 104, []⟩) (fun p => p.1.1) ⟨(fu, 0), hxx13⟩ ⟨rF, rE, rfl, rfl, trivial, trivial⟩ (fun _ => Nat.le_refl _) ?_
    rintro ⟨⟨fu, v14⟩, h1⟩
    cases fu with
    | zero =>
   replace h1 : bF runs1 0 v14 = some x13 := h1
   rw [bF] at h1; cases h1
    | succ fu =>
     replace h1 : bF runs1 (fu + 1) v14 = some x13 := h1
     rw [bF] at h1
     refine (show pA _ _ _ _ ⟨[(16, .psl 1 (List.map (vA 4 aA.enc) runs1)), (17, .int .i64 (runs1.length : Int)), (18, .int .i64 v14)], [], 104, []⟩ from ?_)
     refine xS 112 [16, 17, 18, 19] ?_
     refine kA ?_
     refine xI h1 rfl (fun h1 hb15 => ?_) (fun h1 hb15 => ?_)
     ·
      refine qA (dA (kA (aC ?_)))
      obtain ⟨e16, he16, h1⟩ := cA h1
      obtain ⟨he16a, he16b, he16c⟩ := cB he16
      refine nA 152 [4, 5, 16, 17, 18] (fun _ => none) rfl (fun _ _ => rS (rA he16a (rA he16b he16c))) ?_
      obtain ⟨vr17, hvr17, h1⟩ := cA h1
      refine nA 208 [4, 7, 16, 17, 18] (fun | 1 => some (.tup [.int .i64 vr17.1, .int .i64 vr17.2], []) | _ => none) rfl (fun _ _ => rB (rA he16a (rA he16b he16c)) (zce hvr17)) ?_
      refine nA 224 [4, 7, 16, 17, 18, 29] (fun _ => none) rfl (fun _ _ => rS (rA he16a (rA he16b he16c))) ?_
      refine xI h1 rfl (fun h1 hb18 => ?_) (fun h1 hb18 => ?_)
      ·
       refine nA 256 [2, 3] (fun _ => none) rfl (fun _ _ => rS (rA he16a (rA he16b he16c))) ?_
       refine jA ?_
       obtain rfl := Option.some.inj h1
       refine eC (mA (mA (aD (mA ?_))))
       obtain rfl := Option.some.inj h0
       refine lA [] ?_
       simp (maxSteps := 1000000) only [↓reduceIte, reduceCtorEq, Nat.reduceEqDiff, Nat.reduceLT, Nat.reduceLeDiff, Nat.reduceAdd, Nat.reduceMul, Int.reduceToNat, push_cast, bC, he16a, he16b, he16c]
       all_goals exact rH
      ·
       refine qA (sB (dA ?_))
       refine uB 240 [16, 17, 18] (fun _ => none) rfl (fun _ _ => rS (rA he16a (rA he16b he16c))) ?_
       refine dA ?_
       exact ⟨⟨(fu, (IntKind.i64.wrap (v14 + 1))), h1⟩, ⟨rF, rE, rfl, rfl, trivial, trivial⟩, Nat.lt_succ_self _⟩
     ·
      refine iC (dB (dB (jC ?_)))
      obtain rfl := Option.some.inj h1
      exact ⟨_, rfl, rL, ⟨rF, rE, rfl, rfl, trivial, trivial⟩⟩
end Go.T
end
