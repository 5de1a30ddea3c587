/- However the steps of a job are cut, its output is what the merge of both runs leaves, of levels that are not long and at most 70 cuts; no other condition. -/
import Derived.Test.YtnlggkiekcpahaaBGp
import Derived.Test.YtnlggkiekcpahaaBGm
import Derived.Laws.BitsLemmas
import Derived.KernelRfl
set_option linter.unusedSimpArgs false
set_option linter.unusedVariables false
section
namespace Go.T
open Go Go.AM
def Ev {α : Type} (g : Nat → Option α) (r : α) : Prop := ∃ N, ∀ fu, N ≤ fu → g fu = some r
theorem Ev.ret {α : Type} (r : α) : Ev (fun _ => some r) r := ⟨0, fun _ _ => rfl⟩
theorem Ev.bind {α β : Type} {g : Nat → Option α} {a : α} {k : Nat → α → Option β} {r : β} (h : Ev g a) (h2 : Ev (fun fu => k fu a) r) : Ev (fun fu => (g fu).bind (k fu)) r := by
  obtain ⟨n, h⟩ := h
  obtain ⟨m, h2⟩ := h2
  exact ⟨n + m, fun fu hfu => by show (g fu).bind (k fu) = _; rw [h fu (by omega)]; exact h2 fu (by omega)⟩
theorem Ev.succ {α : Type} {g : Nat → Option α} {r : α} (h : Ev (fun fu => g (fu + 1)) r) : Ev g r := by
  obtain ⟨n, h⟩ := h
  exact ⟨n + 1, fun fu hfu => by obtain ⟨m, rfl⟩ : ∃ m, fu = m + 1 := ⟨fu - 1, by omega⟩; exact h m (by omega)⟩
theorem Ev.of {α : Type} {g g' : Nat → Option α} {r : α} (e : ∀ fu, g fu = g' fu) (h : Ev g' r) : Ev g r := by
  obtain ⟨n, h⟩ := h
  exact ⟨n, fun fu hfu => (e fu).trans (h fu hfu)⟩
theorem Ev.mono {α : Type} {g : Nat → Option α} {r : α} {n : Nat} (m : ∀ fu, bA (g fu) (g (fu + 1))) (h : g n = some r) : Ev g r := by
  refine ⟨n, fun fu hfu => ?_⟩
  induction fu with
  | zero => rw [show n = 0 by omega] at h; exact h
  | succ fu ih =>
    by_cases e : n = fu + 1
    · rw [← e]; exact h
    · exact m fu r (ih (by omega))
theorem Ev.uniq {α : Type} {g : Nat → Option α} {r s : α} (h : Ev g r) (k : Ev g s) : r = s := by
  obtain ⟨n, h⟩ := h
  obtain ⟨m, k⟩ := k
  have := (h (n + m) (by omega)).symm.trans (k (n + m) (by omega))
  exact Option.some.inj this
theorem Ev.one {α : Type} {g : Nat → Option α} {r : α} (h : Ev g r) : ∃ fu, g fu = some r := by
  obtain ⟨n, h⟩ := h; exact ⟨n, h n (Nat.le_refl n)⟩
theorem wr {n : Int} (h1 : -9223372036854775808 ≤ n) (h2 : n ≤ 9223372036854775807) : IntKind.i64.wrap n = n := by
  rw [IntKind.wrap_i64]; omega
theorem oS {α : Type} (l : List α) (n : Nat) : ix l (n : Int) = l[n]? := by simp [ix]
theorem xA {α : Type} (l : List α) (n : Nat) (h : n < l.length) : ix l (n : Int) = some l[n] := by simp [ix, h]
abbrev bl := Op.bytesLess
theorem pG (a : List UInt8) : bl a a = false := by
  induction a with
  | nil => rfl
  | cons x a ih => simpa [bl, Op.bytesLess] using ih
theorem wQ : ∀ (a b : List UInt8), bl a b = true ∨ a = b ∨ bl b a = true
  | [], [] => .inr (.inl rfl)
  | [], _ :: _ => .inl rfl
  | _ :: _, [] => .inr (.inr rfl)
  | x :: a, y :: b => by
    have tri : x < y ∨ x = y ∨ y < x := by
      rcases Nat.lt_trichotomy x.toNat y.toNat with h | h | h
      · exact .inl (UInt8.lt_iff_toNat_lt.2 h)
      · exact .inr (.inl (UInt8.toNat_inj.1 h))
      · exact .inr (.inr (UInt8.lt_iff_toNat_lt.2 h))
    rcases tri with h | h | h
    · left; simp [bl, Op.bytesLess, h]
    · subst h
      rcases wQ a b with k | k | k
      · left; simp [bl, Op.bytesLess]; exact k
      · right; left; rw [k]
      · right; right; simp [bl, Op.bytesLess]; exact k
    · right; right; simp [bl, Op.bytesLess, h]
theorem xM : ∀ {a b c : List UInt8}, bl a b = true → bl b c = true → bl a c = true
  | a, [], c, h, _ => by cases a <;> simp [bl, Op.bytesLess] at h
  | a, b, [], _, k => by cases b <;> simp [bl, Op.bytesLess] at k
  | [], y :: b, z :: c, _, _ => rfl
  | x :: a, y :: b, z :: c, h, k => by
    simp only [bl, Op.bytesLess, Bool.or_eq_true, decide_eq_true_eq, Bool.and_eq_true, beq_iff_eq] at h k ⊢
    rcases h with h | ⟨rfl, h⟩
    · rcases k with k | ⟨rfl, k⟩
      · exact .inl (UInt8.lt_trans h k)
      · exact .inl h
    · rcases k with k | ⟨rfl, k⟩
      · exact .inl k
      · exact .inr ⟨rfl, xM h k⟩
theorem eK {a b : List UInt8} (h : bl a b = true) : bl b a = false := by
  cases k : bl b a with
  | false => rfl
  | true => have := xM h k; rw [pG] at this; cases this
def chk (e : aA) : Int := if 32 < e.Key.length ∨ 64 < e.Val.length then 3 else if e.Dead = true ∧ e.Val ≠ [] then 6 else if e.Seq < 1 ∨ 1000000000 < e.Seq then 7 else 0
theorem yP (fu : Nat) (e : aA) : iM fu e = some (chk e) := by
  obtain ⟨k, v, d, s⟩ := e
  have c1 : decide ((32 : Int) < (k.length : Int)) = decide (32 < k.length) := decide_eq_decide.2 (by omega)
  have c2 : decide ((64 : Int) < (v.length : Int)) = decide (64 < v.length) := decide_eq_decide.2 (by omega)
  simp only [iM, zL, chk, c1, c2]
  by_cases h1 : 32 < k.length <;> by_cases h2 : 64 < v.length <;> cases d <;> by_cases h4 : v = [] <;> by_cases h5 : s < 1 <;> by_cases h6 : 1000000000 < s <;> simp [h1, h2, h4, h5, h6]
theorem kV (fu : Nat) (e : aA) : aT fu e = some (chk e) := by
  obtain ⟨k, v, d, s⟩ := e
  have c1 : decide ((32 : Int) < (k.length : Int)) = decide (32 < k.length) := decide_eq_decide.2 (by omega)
  have c2 : decide ((64 : Int) < (v.length : Int)) = decide (64 < v.length) := decide_eq_decide.2 (by omega)
  simp only [aT, chk, c1, c2]
  by_cases h1 : 32 < k.length <;> by_cases h2 : 64 < v.length <;> cases d <;> by_cases h4 : v = [] <;> by_cases h5 : s < 1 <;> by_cases h6 : 1000000000 < s <;> simp [h1, h2, h4, h5, h6]
def cp : List UInt8 → List UInt8 → Nat
  | x :: a, y :: b => if x = y then cp a b + 1 else 0
  | _, _ => 0
theorem zmX (a b : List UInt8) (ha : a.length ≤ 1000000000000) (m : Nat) : ∀ n : Nat, n + m = a.length → Ev (fun fu => qJ a b fu (n : Int)) ((n + cp (a.drop n) (b.drop n) : Nat) : Int) := by
  induction m with
  | zero =>
    intro n hn
    refine Ev.succ (Ev.of (g' := fun _ => some ((n : Int))) (fun fu => ?_) ?_)
    · simp [qJ, show ¬ (n : Int) < (a.length : Int) by omega]
    · rw [show a.drop n = [] from List.drop_eq_nil_of_le (by omega)]
      exact Ev.ret _
  | succ m ih =>
    intro n hn
    have hna : n < a.length := by omega
    rw [List.drop_eq_getElem_cons hna]
    refine Ev.succ ?_
    by_cases hb : n < b.length
    · rw [List.drop_eq_getElem_cons hb]
      by_cases he : a[n] = b[n]
      · refine Ev.of (g' := fun fu => qJ a b fu ((n + 1 : Nat) : Int)) (fun fu => ?_) ?_
        · simp [qJ, hna, hb, oS, he]
          rw [wr (by omega) (by omega)]
        · have := ih (n + 1) (by omega)
          rw [show ((n + cp (a[n] :: a.drop (n + 1)) (b[n] :: b.drop (n + 1)) : Nat) : Int) = ((n + 1 + cp (a.drop (n + 1)) (b.drop (n + 1)) : Nat) : Int) by
            rw [he]; simp [cp]; omega]
          exact this
      · refine Ev.of (g' := fun _ => some ((n : Int))) (fun fu => ?_) ?_
        · have : ¬ (a[n].toNat : Int) = (b[n].toNat : Int) := fun h => he (UInt8.toNat_inj.1 (by omega))
          simp [qJ, hna, hb, oS, this]
        · simp only [cp, if_neg he, Nat.add_zero]
          exact Ev.ret _
    · refine Ev.of (g' := fun _ => some ((n : Int))) (fun fu => ?_) ?_
      · simp [qJ, hna, hb]
      · rw [show b.drop n = [] from List.drop_eq_nil_of_le (by omega)]
        exact Ev.ret _
theorem zeg : ∀ a b, cp a b ≤ a.length ∧ cp a b ≤ b.length
  | [], b => by simp [cp]
  | _ :: _, [] => by simp [cp]
  | x :: a, y :: b => by
    have := zeg a b
    simp only [cp]
    split <;> simp <;> omega
theorem zcI : ∀ a b, (cp a b = a.length → cp a b = b.length → a = b) ∧
    (cp a b = a.length → cp a b ≠ b.length → bl a b = true) ∧
    (cp a b ≠ a.length → cp a b = b.length → bl b a = true) ∧
    (∀ (h1 : cp a b < a.length) (h2 : cp a b < b.length), a[cp a b] ≠ b[cp a b] ∧ bl a b = decide (a[cp a b] < b[cp a b]))
  | [], [] => by simp [cp]
  | [], _ :: _ => by simp [cp, bl, Op.bytesLess]
  | _ :: _, [] => by simp [cp, bl, Op.bytesLess]
  | x :: a, y :: b => by
    obtain ⟨h1, h2, h3, h4⟩ := zcI a b
    by_cases e : x = y
    · subst e
      simp only [cp, ↓reduceIte, List.length_cons, Nat.add_right_cancel_iff, ne_eq, List.getElem_cons_succ, bl, Op.bytesLess, Nat.add_lt_add_iff_right]
      simp only [UInt8.lt_irrefl, decide_false, beq_self_eq_true, Bool.true_and, Bool.false_or]
      exact ⟨fun p q => by rw [h1 p q], h2, h3, h4⟩
    · simp only [cp, if_neg e, List.length_cons]
      refine ⟨by omega, by omega, by omega, fun _ _ => ?_⟩
      simp [bl, Op.bytesLess, e]
theorem zlE (a b : List UInt8) (ha : a.length ≤ 1000000000000) : ∃ r, Ev (fun fu => cM fu a b) r ∧ ((0 ≤ r) ↔ bl a b = false) := by
  have hc : Ev (fun fu => sV fu a b) (cp a b : Int) := by
    unfold sV
    refine Ev.bind (a := (cp a b : Int)) ?_ (Ev.ret _)
    have := zmX a b ha a.length 0 (by omega)
    simpa using this
  obtain ⟨k1, k2⟩ := zeg a b
  obtain ⟨h1, h2, h3, h4⟩ := zcI a b
  unfold cM
  have d1 : decide ((cp a b : Int) = (a.length : Int)) = decide (cp a b = a.length) := decide_eq_decide.2 (by omega)
  have d2 : decide ((cp a b : Int) = (b.length : Int)) = decide (cp a b = b.length) := decide_eq_decide.2 (by omega)
  have d3 : decide ((cp a b : Int) < (b.length : Int)) = decide (cp a b < b.length) := decide_eq_decide.2 (by omega)
  by_cases p : cp a b = a.length
  · by_cases q : cp a b = b.length
    · refine ⟨0, Ev.bind hc (Ev.of (fun fu => ?_) (Ev.ret _)), ?_⟩
      · simp only [d1, d2, d3, decide_eq_true p, decide_eq_true q]; rfl
      · rw [h1 p q]; simp [pG]
    · refine ⟨-1, Ev.bind hc (Ev.of (fun fu => ?_) (Ev.ret _)), ?_⟩
      · simp only [d1, d2, d3, decide_eq_true p, decide_eq_false q]; rfl
      · rw [h2 p q]; simp
  · by_cases q : cp a b = b.length
    · refine ⟨1, Ev.bind hc (Ev.of (fun fu => ?_) (Ev.ret _)), ?_⟩
      · simp only [d1, d2, d3, decide_eq_false p, decide_eq_true q, decide_eq_false (show ¬ cp a b < b.length by omega)]; rfl
      · rw [eK (h3 p q)]; simp
    · obtain ⟨j1, j2⟩ := h4 (by omega) (by omega)
      refine ⟨if a[cp a b] < b[cp a b] then -1 else 1, Ev.bind hc (Ev.of (fun fu => ?_) (Ev.ret _)), ?_⟩
      · have d4 : decide ((a[cp a b].toNat : Int) < (b[cp a b].toNat : Int)) = decide (a[cp a b] < b[cp a b]) := decide_eq_decide.2 (by rw [UInt8.lt_iff_toNat_lt]; omega)
        simp only [d1, d2, d3, decide_eq_false p, decide_eq_false q, decide_eq_true (show cp a b < b.length by omega), xA a (cp a b) (by omega), xA b (cp a b) (by omega), d4]
        by_cases z : a[cp a b] < b[cp a b]
        · have z' := UInt8.lt_iff_toNat_lt.1 z
          simp [z, z']
        · have z' : b[cp a b].toNat ≤ a[cp a b].toNat := by rw [UInt8.lt_iff_toNat_lt] at z; omega
          simp [z, z']
      · rw [j2]; split <;> simp [*]
def zen (l : List aA) (i : Nat) : Prop := ∀ h : i < l.length, chk l[i] = 0 ∧ (∀ h0 : 0 < i, bl l[i - 1].Key l[i].Key = true)
theorem zg2 (l : List aA) (hl : l.length ≤ 1000000000000) (hk : ∀ e ∈ l, e.Key.length ≤ 1000000000000) (m : Nat) : ∀ n : Nat, n + m = l.length →
    ∃ r, Ev (fun fu => pF l fu (n : Int)) r ∧ Ev (fun fu => qI l fu (n : Int)) r ∧
      ((r = .inl () ∧ ∀ i, n ≤ i → zen l i) ∨ ∃ i : Nat, ∃ c, r = .inr ((i : Int), c) ∧ c ≠ 0) := by
  induction m with
  | zero =>
    intro n hn
    refine ⟨.inl (), Ev.succ (Ev.of (fun fu => ?_) (Ev.ret _)), Ev.succ (Ev.of (fun fu => ?_) (Ev.ret _)), .inl ⟨rfl, fun i hi h => by omega⟩⟩
    · simp [pF, show ¬ (n : Int) < (l.length : Int) by omega]
    · simp [qI, show ¬ (n : Int) < (l.length : Int) by omega]
  | succ m ih =>
    intro n hn
    have hnl : n < l.length := by omega
    have w1 : IntKind.i64.wrap ((n : Int) + 1) = ((n + 1 : Nat) : Int) := by rw [wr (by omega) (by omega)]; rfl
    obtain ⟨r, r1, r2, r3⟩ := ih (n + 1) (by omega)
    by_cases hc : chk l[n] = 0
    · by_cases h0 : 0 < n
      · have w2 : IntKind.i64.wrap ((n : Int) - 1) = ((n - 1 : Nat) : Int) := by rw [wr (by omega) (by omega)]; omega
        have hn1 : n - 1 < l.length := by omega
        obtain ⟨o, o1, o2⟩ := zlE l[n - 1].Key l[n].Key (hk _ (List.getElem_mem hn1))
        cases hb : bl l[n - 1].Key l[n].Key with
        | true =>
          have ho : ¬ 0 ≤ o := by rw [o2, hb]; simp
          have hnb : (Op.bytesLess l[n].Key l[n - 1].Key || l[n].Key == l[n - 1].Key) = false := by
            rw [show Op.bytesLess l[n].Key l[n - 1].Key = false from eK hb]
            have : l[n].Key ≠ l[n - 1].Key := fun e => by rw [e, pG] at hb; cases hb
            simp [this]
          refine ⟨r, Ev.succ (Ev.of (fun fu => ?_) r1), Ev.succ ?_, ?_⟩
          · simp only [pF, yP, hc, w1, w2, xA l n hnl, xA l (n - 1) hn1]
            have hnb' := hnb
            simp only [Bool.or_eq_false_iff, Bool.or_eq_true, beq_iff_eq, beq_eq_false_iff_ne, ne_eq] at hnb'
            simp [hnl, h0, hnb', hc]
          · refine Ev.of (g' := fun fu => (cM fu l[n - 1].Key l[n].Key).bind fun vr35 => if 0 ≤ vr35 then some (.inr ((n : Int), 6)) else qI l fu ((n + 1 : Nat) : Int)) (fun fu => ?_) (Ev.bind o1 ?_)
            · simp only [qI, kV, hc, w1, w2, xA l n hnl, xA l (n - 1) hn1]
              cases hq : cM fu l[n - 1].Key l[n].Key <;> simp [hnl, h0, hc, hq]
            · simp only [if_neg ho]; exact r2
          · rcases r3 with ⟨e, h⟩ | h
            · refine .inl ⟨e, fun i hi hl => ?_⟩
              by_cases q : i = n
              · subst q; exact ⟨hc, fun _ => hb⟩
              · exact h i (by omega) hl
            · exact .inr h
        | false =>
          have ho : 0 ≤ o := by rw [o2, hb]
          have hnb : (Op.bytesLess l[n].Key l[n - 1].Key || l[n].Key == l[n - 1].Key) = true := by
            rcases wQ l[n - 1].Key l[n].Key with h | h | h
            · rw [hb] at h; cases h
            · simp [h]
            · simp only [bl] at h; simp [h]
          refine ⟨.inr (n, 6), Ev.succ (Ev.of (fun fu => ?_) (Ev.ret _)), Ev.succ ?_, .inr ⟨n, 6, rfl, by decide⟩⟩
          · simp only [pF, yP, hc, w1, w2, xA l n hnl, xA l (n - 1) hn1]
            have hnb' := hnb
            simp only [Bool.or_eq_false_iff, Bool.or_eq_true, beq_iff_eq, beq_eq_false_iff_ne, ne_eq] at hnb'
            simp [hnl, h0, hnb', hc]
          · refine Ev.of (g' := fun fu => (cM fu l[n - 1].Key l[n].Key).bind fun vr35 => if 0 ≤ vr35 then some (.inr ((n : Int), 6)) else qI l fu ((n + 1 : Nat) : Int)) (fun fu => ?_) (Ev.bind o1 ?_)
            · simp only [qI, kV, hc, w1, w2, xA l n hnl, xA l (n - 1) hn1]
              cases hq : cM fu l[n - 1].Key l[n].Key <;> simp [hnl, h0, hc, hq]
            · simp only [if_pos ho]; exact Ev.ret _
      · obtain rfl : n = 0 := by omega
        refine ⟨r, Ev.succ (Ev.of (fun fu => ?_) r1), Ev.succ (Ev.of (fun fu => ?_) r2), ?_⟩
        · simp only [pF, yP, hc, w1, xA l 0 hnl]
          simp [hnl, hc]
        · simp only [qI, kV, hc, w1, xA l 0 hnl]
          simp [hnl, hc]
        · rcases r3 with ⟨e, h⟩ | h
          · refine .inl ⟨e, fun i hi hl => ?_⟩
            by_cases q : i = 0
            · subst q; exact ⟨hc, fun h => by omega⟩
            · exact h i (by omega) hl
          · exact .inr h
    · refine ⟨.inr (n, chk l[n]), Ev.succ (Ev.of (fun fu => ?_) (Ev.ret _)), Ev.succ (Ev.of (fun fu => ?_) (Ev.ret _)), .inr ⟨n, _, rfl, hc⟩⟩
      · simp only [pF, yP, xA l n hnl]
        simp [hnl, hc]
      · simp only [qI, kV, xA l n hnl]
        simp [hnl, hc]
def hO (l : List aA) : Prop := l.length ≤ 5000 ∧ ∀ i, zen l i
theorem zcw (l : List aA) (hk : ∀ e ∈ l, e.Key.length ≤ 1000000000000) :
    ∃ r, Ev (fun fu => pJ fu l) r ∧ Ev (fun fu => vR fu l) r ∧ (r.2 = 0 → hO l) := by
  unfold pJ vR
  by_cases h : 5000 < l.length
  · refine ⟨(-1, 3), Ev.of (fun fu => ?_) (Ev.ret _), Ev.of (fun fu => ?_) (Ev.ret _), by simp⟩ <;>
      rw [if_pos (by simp; omega)]
  · obtain ⟨r, r1, r2, r3⟩ := zg2 l (by omega) hk l.length 0 (by omega)
    have hd : ¬ decide ((5000 : Int) < (l.length : Int)) = true := by simp; omega
    simp only [if_neg hd]
    rcases r3 with ⟨rfl, h3⟩ | ⟨i, c, rfl, hc⟩
    · exact ⟨(0, 0), Ev.bind r1 (Ev.ret _), Ev.bind r2 (Ev.ret _), fun _ => ⟨by omega, fun i => h3 i (by omega)⟩⟩
    · exact ⟨(i, c), Ev.bind r1 (Ev.ret _), Ev.bind r2 (Ev.ret _), fun h => absurd h hc⟩
def vE (runs : List (List aA)) : Prop := ∀ l ∈ runs, ∀ e ∈ l, e.Key.length ≤ 1000000000000
theorem ziN (runs : List (List aA)) (hf : vE runs) (hl : runs.length ≤ 1000) (m : Nat) : ∀ n : Nat, n + m = runs.length →
    ∃ r, Ev (fun fu => wF runs fu (n : Int)) r ∧ Ev (fun fu => iK runs fu (n : Int)) r ∧
      ((r = .inl () ∧ ∀ i, n ≤ i → ∀ h : i < runs.length, hO runs[i]) ∨ ∃ i : Nat, ∃ c, r = .inr ((i : Int), c) ∧ c ≠ 0) := by
  induction m with
  | zero =>
    intro n hn
    refine ⟨.inl (), Ev.succ (Ev.of (fun fu => ?_) (Ev.ret _)), Ev.succ (Ev.of (fun fu => ?_) (Ev.ret _)), .inl ⟨rfl, fun i hi h => by omega⟩⟩
    · simp [wF, show ¬ (n : Int) < (runs.length : Int) by omega]
    · simp [iK, show ¬ (n : Int) < (runs.length : Int) by omega]
  | succ m ih =>
    intro n hn
    have hnl : n < runs.length := by omega
    have w1 : IntKind.i64.wrap ((n : Int) + 1) = ((n + 1 : Nat) : Int) := by rw [wr (by omega) (by omega)]; rfl
    obtain ⟨r, r1, r2, r3⟩ := ih (n + 1) (by omega)
    obtain ⟨⟨p, c⟩, c1, c2, c3⟩ := zcw runs[n] (hf _ (List.getElem_mem hnl))
    have f1 : ∀ fu, wF runs (fu + 1) (n : Int) = (pJ fu runs[n]).bind fun vr => if vr.2 = 0 then wF runs fu ((n + 1 : Nat) : Int) else some (.inr ((n : Int), vr.2)) := by
      intro fu
      simp only [wF, w1, xA runs n hnl]
      simp [hnl]
    have f2 : ∀ fu, iK runs (fu + 1) (n : Int) = (vR fu runs[n]).bind fun vr => if vr.2 = 0 then iK runs fu ((n + 1 : Nat) : Int) else some (.inr ((n : Int), vr.2)) := by
      intro fu
      simp only [iK, w1, xA runs n hnl]
      simp [hnl]
    by_cases hc : c = 0
    · subst hc
      refine ⟨r, Ev.succ (Ev.of f1 (Ev.bind c1 r1)), Ev.succ (Ev.of f2 (Ev.bind c2 r2)), ?_⟩
      rcases r3 with ⟨e, h⟩ | h
      · refine .inl ⟨e, fun i hi hl => ?_⟩
        by_cases q : i = n
        · subst q; exact c3 rfl
        · exact h i (by omega) hl
      · exact .inr h
    · refine ⟨.inr (n, c), Ev.succ (Ev.of f1 (Ev.bind c1 ?_)), Ev.succ (Ev.of f2 (Ev.bind c2 ?_)), .inr ⟨n, c, rfl, hc⟩⟩
      · simp only [if_neg hc]; exact Ev.ret _
      · simp only [if_neg hc]; exact Ev.ret _
def xC (runs : List (List aA)) : Prop := 0 < runs.length ∧ runs.length ≤ 32 ∧ ∀ l ∈ runs, hO l
theorem gW (runs : List (List aA)) (hf : vE runs) (hl : runs.length ≤ 1000) :
    ∃ r, Ev (fun fu => rJ fu runs) r ∧ Ev (fun fu => fP fu runs) r ∧ ((r = (0, 0) ∧ xC runs) ∨ r.2 ≠ 0) := by
  unfold rJ fP
  by_cases h : runs.length = 0
  · refine ⟨(-1, 6), Ev.of (fun fu => ?_) (Ev.ret _), Ev.of (fun fu => ?_) (Ev.ret _), .inr (by simp)⟩ <;> simp [h]
  · by_cases h2 : 32 < runs.length
    · refine ⟨(-1, 3), Ev.of (fun fu => ?_) (Ev.ret _), Ev.of (fun fu => ?_) (Ev.ret _), .inr (by simp)⟩ <;>
        rw [if_neg (by simp; intro e; simp [e] at h), if_pos (by simp; omega)]
    · obtain ⟨r, r1, r2, r3⟩ := ziN runs hf hl runs.length 0 (by omega)
      have e1 : ¬ decide ((runs.length : Int) = 0) = true := by simp; intro e; simp [e] at h
      have e2 : ¬ decide ((32 : Int) < (runs.length : Int)) = true := by simp; omega
      simp only [if_neg e1, if_neg e2]
      rcases r3 with ⟨rfl, h3⟩ | ⟨i, c, rfl, hc⟩
      · refine ⟨(0, 0), Ev.bind r1 (Ev.ret _), Ev.bind r2 (Ev.ret _), .inl ⟨rfl, by omega, by omega, fun l hl => ?_⟩⟩
        obtain ⟨i, hi, rfl⟩ := List.mem_iff_getElem.1 hl
        exact h3 i (by omega) hi
      · exact ⟨(i, c), Ev.bind r1 (Ev.ret _), Ev.bind r2 (Ev.ret _), .inr hc⟩
def lt (keys : List cA) (p q : Nat) : Bool :=
  match keys[p]?, keys[q]? with
  | some a, some b => if a.Done ≠ b.Done then b.Done else if a.Key ≠ b.Key then bl a.Key b.Key else decide (p < q)
  | _, _ => false
def eJ (keys : List cA) : Prop := ∀ k ∈ keys, k.Done = true → k.Key = []
theorem zcD (fu : Nat) (keys : List cA) (p q : Nat) (hp : p < keys.length) (hq : q < keys.length) : cN fu p q keys = some (lt keys p q) := by
  simp only [cN, xA keys p hp, xA keys q hq, lt, List.getElem?_eq_getElem hp, List.getElem?_eq_getElem hq]
  by_cases h1 : keys[p].Done = keys[q].Done <;> by_cases h2 : keys[p].Key = keys[q].Key <;> simp [h1, h2, bl]
theorem zhc (fu : Nat) (keys : List cA) (hpl : eJ keys) (p q : Nat) (hp : p < keys.length) (hq : q < keys.length) : tZ fu keys p q = some (lt keys p q) := by
  simp only [tZ, xA keys p hp, xA keys q hq, lt, List.getElem?_eq_getElem hp, List.getElem?_eq_getElem hq]
  have k1 := hpl _ (List.getElem_mem hp)
  have k2 := hpl _ (List.getElem_mem hq)
  cases d1 : keys[p].Done <;> cases d2 : keys[q].Done
  · by_cases h2 : keys[p].Key = keys[q].Key <;> simp [d1, d2, h2, bl]
  · simp [d1, d2]
  · simp [d1, d2]
  · have : keys[p].Key = keys[q].Key := by rw [k1 d1, k2 d2]
    simp [d1, d2, this]
theorem eW (keys : List cA) (p q : Nat) (hp : p < keys.length) (hq : q < keys.length) (h : p ≠ q) : lt keys q p = !lt keys p q := by
  simp only [lt, List.getElem?_eq_getElem hp, List.getElem?_eq_getElem hq]
  by_cases d : keys[p].Done = keys[q].Done
  · by_cases k : keys[p].Key = keys[q].Key
    · simp [d, k]
      by_cases z : p < q
      · simp [z]; omega
      · simp [z]; omega
    · have k' : ¬ keys[q].Key = keys[p].Key := fun e => k e.symm
      simp only [ne_eq, d, k, k', not_true_eq_false, not_false_eq_true, ↓reduceIte]
      rcases wQ keys[p].Key keys[q].Key with h | h | h
      · rw [h, eK h]; rfl
      · exact absurd h k
      · rw [h, eK h]; rfl
  · have d' : ¬ keys[q].Done = keys[p].Done := fun e => d e.symm
    simp only [ne_eq, d, d', not_false_eq_true, ↓reduceIte]
    cases h1 : keys[p].Done <;> cases h2 : keys[q].Done <;> simp_all
def pl (keys : List cA) : Nat → Nat → Nat × Nat
  | 0, node => (node - keys.length, 0)
  | k + 1, node => if keys.length ≤ node then (node - keys.length, 0) else
    let a := (pl keys k (2 * node)).1
    let b := (pl keys k (2 * node + 1)).1
    if lt keys a b then (a, b) else (b, a)
theorem zmk (keys : List cA) : ∀ k k' node, 1 ≤ node → keys.length - node ≤ k → keys.length - node ≤ k' → pl keys k node = pl keys k' node := by
  intro k
  induction k with
  | zero =>
    intro k' node h1 h2 h3
    cases k' with
    | zero => rfl
    | succ k' => simp only [pl]; rw [if_pos (by omega)]
  | succ k ih =>
    intro k' node h1 h2 h3
    cases k' with
    | zero => simp only [pl]; rw [if_pos (by omega)]
    | succ k' =>
      simp only [pl]
      by_cases h : keys.length ≤ node
      · rw [if_pos h, if_pos h]
      · rw [if_neg h, if_neg h, ih k' (2 * node) (by omega) (by omega) (by omega), ih k' (2 * node + 1) (by omega) (by omega) (by omega)]
def nd (keys : List cA) (node : Nat) : Nat × Nat := pl keys keys.length node
theorem lJ (keys : List cA) (node : Nat) (h : keys.length ≤ node) : nd keys node = (node - keys.length, 0) := by
  unfold nd
  cases hk : keys.length with
  | zero => simp [pl, hk]
  | succ n => simp only [pl]; rw [if_pos h, hk]
theorem wN (keys : List cA) (node : Nat) (h1 : 1 ≤ node) (h : node < keys.length) :
    nd keys node = if lt keys (nd keys (2 * node)).1 (nd keys (2 * node + 1)).1 then ((nd keys (2 * node)).1, (nd keys (2 * node + 1)).1) else ((nd keys (2 * node + 1)).1, (nd keys (2 * node)).1) := by
  have e1 : nd keys node = pl keys (keys.length + 1) node := zmk keys _ _ node h1 (by omega) (by omega)
  rw [e1]
  simp only [pl]
  rw [if_neg (by omega)]
  rfl
theorem nd_lt (keys : List cA) (m : Nat) : ∀ node, 1 ≤ node → node < 2 * keys.length → keys.length - node ≤ m → (nd keys node).1 < keys.length ∧ (nd keys node).2 < keys.length := by
  induction m with
  | zero =>
    intro node h1 h2 h3
    rw [lJ keys node (by omega)]
    simp only
    omega
  | succ m ih =>
    intro node h1 h2 h3
    by_cases h : keys.length ≤ node
    · rw [lJ keys node h]; simp only; omega
    · rw [wN keys node h1 (by omega)]
      have a := ih (2 * node) (by omega) (by omega) (by omega)
      have b := ih (2 * node + 1) (by omega) (by omega) (by omega)
      split
      · exact ⟨a.1, b.1⟩
      · exact ⟨b.1, a.1⟩
theorem vL (keys : List cA) (node : Nat) (h1 : 1 ≤ node) (h2 : node < 2 * keys.length) : (nd keys node).1 < keys.length ∧ (nd keys node).2 < keys.length :=
  nd_lt keys _ node h1 h2 (Nat.le_refl _)
theorem zdx (keys : List cA) (hpl : eJ keys) (hl : keys.length ≤ 1000000) (m : Nat) : ∀ node : Nat, 1 ≤ node → node < 2 * keys.length → keys.length - node ≤ m →
    Ev (fun fu => gP fu keys (node : Int)) (((nd keys node).1 : Int), ((nd keys node).2 : Int)) := by
  induction m with
  | zero =>
    intro node h1 h2 h3
    rw [lJ keys node (by omega)]
    refine Ev.succ (Ev.of (fun fu => ?_) (Ev.ret _))
    simp only [gP]
    rw [if_pos (by simp; omega), wr (by omega) (by omega)]
    congr 2
    omega
  | succ m ih =>
    intro node h1 h2 h3
    by_cases h : keys.length ≤ node
    · rw [lJ keys node h]
      refine Ev.succ (Ev.of (fun fu => ?_) (Ev.ret _))
      simp only [gP]
      rw [if_pos (by simp; omega), wr (by omega) (by omega)]
      congr 2
      omega
    · have a := ih (2 * node) (by omega) (by omega) (by omega)
      have b := ih (2 * node + 1) (by omega) (by omega) (by omega)
      have ka := vL keys (2 * node) (by omega) (by omega)
      have kb := vL keys (2 * node + 1) (by omega) (by omega)
      refine Ev.succ ?_
      simp only [gP]
      have w1 : IntKind.i64.wrap (2 * (node : Int)) = ((2 * node : Nat) : Int) := by rw [wr (by omega) (by omega)]; omega
      have w2 : IntKind.i64.wrap (((2 * node : Nat) : Int) + 1) = ((2 * node + 1 : Nat) : Int) := by rw [wr (by omega) (by omega)]; omega
      simp only [w1, w2]
      rw [show (decide ((keys.length : Int) ≤ (node : Int))) = false by simp; omega]
      simp only [Bool.false_eq_true, ↓reduceIte]
      refine Ev.bind a (Ev.bind b (Ev.of (fun fu => ?_) (Ev.ret _)))
      simp only [zhc fu keys hpl _ _ ka.1 kb.1, Option.bind_some]
      rw [wN keys node h1 (by omega)]
      split <;> rfl
def pf (keys : List cA) (i : Nat) : List Int := (List.range (2 * keys.length)).map fun j => if i < j then ((nd keys j).1 : Int) else 0
def lf (keys : List cA) (i : Nat) : List Int := (List.range keys.length).map fun j => if i < j then ((nd keys j).2 : Int) else 0
theorem jR (keys : List cA) (i : Nat) : (pf keys i).length = 2 * keys.length := by simp [pf]
theorem wH (keys : List cA) (i : Nat) : (lf keys i).length = keys.length := by simp [lf]
theorem vT (keys : List cA) (i j : Nat) (h : j < (pf keys i).length) : (pf keys i)[j] = if i < j then ((nd keys j).1 : Int) else 0 := by simp [pf]
theorem mO (keys : List cA) (i j : Nat) (h : j < (lf keys i).length) : (lf keys i)[j] = if i < j then ((nd keys j).2 : Int) else 0 := by simp [lf]
theorem za3 (keys : List cA) (i : Nat) : (pf keys (i + 1)).set (i + 1) ((nd keys (i + 1)).1 : Int) = pf keys i := by
  refine List.ext_getElem (by simp [jR]) fun j h1 h2 => ?_
  rw [List.getElem_set, vT]
  split
  · rename_i e; subst e; rw [vT, if_pos (by omega)]
  · rename_i e; rw [vT]
    by_cases h : i < j
    · rw [if_pos h, if_pos (by omega)]
    · rw [if_neg h, if_neg (by omega)]
theorem zeq (keys : List cA) (i : Nat) : (lf keys (i + 1)).set (i + 1) ((nd keys (i + 1)).2 : Int) = lf keys i := by
  refine List.ext_getElem (by simp [wH]) fun j h1 h2 => ?_
  rw [List.getElem_set, mO]
  split
  · rename_i e; subst e; rw [mO, if_pos (by omega)]
  · rename_i e; rw [mO]
    by_cases h : i < j
    · rw [if_pos h, if_pos (by omega)]
    · rw [if_neg h, if_neg (by omega)]
theorem zil (keys : List cA) (i : Nat) (hn : keys.length ≤ i + 1) : lf keys (i + 1) = lf keys i := by
  refine List.ext_getElem (by simp [wH]) fun j h1 h2 => ?_
  rw [wH] at h1
  rw [mO, mO, if_neg (by omega), if_neg (by omega)]
theorem zeN (keys : List cA) (hl : keys.length ≤ 1000000) : ∀ i : Nat, i < 2 * keys.length → Ev (fun fu => lH keys keys fu (i : Int) (pf keys i) (lf keys i)) (pf keys 0, lf keys 0) := by
  intro i
  induction i with
  | zero =>
    intro _
    refine Ev.succ (Ev.of (fun fu => ?_) (Ev.ret _))
    simp [lH]
  | succ i ih =>
    intro hi
    have hi' := ih (by omega)
    refine Ev.succ (Ev.of (fun fu => ?_) hi')
    have w1 : IntKind.i64.wrap (((i + 1 : Nat) : Int) - 1) = (i : Int) := by rw [wr (by omega) (by omega)]; omega
    have t1 : (((i + 1 : Nat) : Int)).toNat = i + 1 := rfl
    have p0 : decide ((0 : Int) < ((i + 1 : Nat) : Int)) = true := decide_eq_true (by omega)
    simp only [lH, p0, ↓reduceIte, w1, t1]
    rw [xA (pf keys (i + 1)) (i + 1) (by rw [jR]; omega)]
    simp only [Option.bind_some]
    by_cases h : keys.length ≤ i + 1
    · have d : decide ((keys.length : Int) ≤ ((i + 1 : Nat) : Int)) = true := by simp; omega
      simp only [d, ↓reduceIte]
      have e : IntKind.i64.wrap (((i + 1 : Nat) : Int) - (keys.length : Int)) = ((nd keys (i + 1)).1 : Int) := by
        rw [wr (by omega) (by omega), lJ keys (i + 1) h]; simp only; omega
      rw [e, za3, zil keys i h]
    · have d : decide ((keys.length : Int) ≤ ((i + 1 : Nat) : Int)) = false := by simp; omega
      have w2 : IntKind.i64.wrap (2 * ((i + 1 : Nat) : Int)) = ((2 * (i + 1) : Nat) : Int) := by rw [wr (by omega) (by omega)]; omega
      have w3 : IntKind.i64.wrap (((2 * (i + 1) : Nat) : Int) + 1) = ((2 * (i + 1) + 1 : Nat) : Int) := by rw [wr (by omega) (by omega)]; omega
      simp only [d, Bool.false_eq_true, ↓reduceIte, w2, w3]
      rw [xA (pf keys (i + 1)) (2 * (i + 1)) (by rw [jR]; omega), xA (pf keys (i + 1)) (2 * (i + 1) + 1) (by rw [jR]; omega), xA (lf keys (i + 1)) (i + 1) (by rw [wH]; omega)]
      simp only [Option.bind_some, vT, show i + 1 < 2 * (i + 1) by omega, show i + 1 < 2 * (i + 1) + 1 by omega, ↓reduceIte]
      rw [zcD fu keys _ _ (vL keys (2 * (i + 1)) (by omega) (by omega)).1 (vL keys (2 * (i + 1) + 1) (by omega) (by omega)).1]
      simp only [Option.bind_some]
      have hn := wN keys (i + 1) (by omega) (by omega)
      cases hlt : lt keys (nd keys (2 * (i + 1))).1 (nd keys (2 * (i + 1) + 1)).1 with
      | true =>
        rw [hlt] at hn
        simp only [↓reduceIte] at hn
        simp only [Bool.not_true, Bool.false_eq_true, ↓reduceIte]
        rw [← za3 keys i, ← zeq keys i, hn]
      | false =>
        rw [hlt] at hn
        simp only [Bool.false_eq_true, ↓reduceIte] at hn
        simp only [Bool.not_false, ↓reduceIte]
        rw [← za3 keys i, ← zeq keys i, hn]
def yC (keys : List cA) : cB := ⟨keys, lf keys 0, ((nd keys 1).1 : Int)⟩
theorem zcF (keys : List cA) (h0 : 0 < keys.length) (hl : keys.length ≤ 1000000) : Ev (fun fu => vN fu keys) (yC keys) := by
  have w1 : IntKind.i64.wrap (2 * (keys.length : Int)) = ((2 * keys.length : Nat) : Int) := by rw [wr (by omega) (by omega)]; omega
  have w2 : IntKind.i64.wrap (((2 * keys.length : Nat) : Int) - 1) = ((2 * keys.length - 1 : Nat) : Int) := by rw [wr (by omega) (by omega)]; omega
  have hne : keys.isEmpty = false := by cases keys; simp at h0; rfl
  simp only [vN, bM, uQ, Option.bind_some, w1, w2, hne, Bool.false_eq_true, ↓reduceIte]
  have g1 : (0 : Int) ≤ ((2 * keys.length : Nat) : Int) ∧ ((2 * keys.length : Nat) : Int) ≤ ((2 * keys.length : Nat) : Int) ∧ ((2 * keys.length : Nat) : Int) ≤ 9223372036854775807 ∧ 8 * ((2 * keys.length : Nat) : Int) ≤ 281474976710656 := by omega
  have g2 : 2 * ((0 + keys.length) * 24) ≤ 281474976710656 := by omega
  have g3 : (0 : Int) ≤ (keys.length : Int) ∧ (keys.length : Int) ≤ (keys.length : Int) ∧ (keys.length : Int) ≤ 9223372036854775807 ∧ 8 * (keys.length : Int) ≤ 281474976710656 := by omega
  simp only [if_pos g1, if_pos g2, if_pos g3, Option.bind_some]
  have q1 : (List.replicate ((2 * keys.length : Nat) : Int).toNat 0 : List Int) = pf keys (2 * keys.length - 1) := by
    refine List.ext_getElem (by rw [jR, List.length_replicate]; omega) fun j h1 h2 => ?_
    rw [jR] at h2
    rw [vT, if_neg (by omega)]; simp
  have q2 : (List.replicate keys.length 0 : List Int) = lf keys (2 * keys.length - 1) := by
    refine List.ext_getElem (by simp [wH]) fun j h1 h2 => ?_
    rw [wH] at h2
    rw [mO, if_neg (by omega)]; simp
  rw [q1, q2]
  refine Ev.bind (zeN keys hl _ (by omega)) (Ev.of (fun fu => ?_) (Ev.ret _))
  simp only
  rw [show (1 : Int) = ((1 : Nat) : Int) from rfl, xA (pf keys 0) 1 (by rw [jR]; omega)]
  simp only [Option.bind_some, vT, Nat.lt_one_iff, ↓reduceIte, yC]
theorem znr (keys : List cA) (hpl : eJ keys) (hl : keys.length ≤ 1000000) (m : Nat) : ∀ n : Nat, n + m = keys.length → Ev (fun fu => nI keys fu (n : Int)) (.inl ()) := by
  induction m with
  | zero =>
    intro n hn
    refine Ev.succ (Ev.of (fun fu => ?_) (Ev.ret _))
    simp [nI, show ¬ (n : Int) < (keys.length : Int) by omega]
  | succ m ih =>
    intro n hn
    have hnl : n < keys.length := by omega
    have w1 : IntKind.i64.wrap ((n : Int) + 1) = ((n + 1 : Nat) : Int) := by rw [wr (by omega) (by omega)]; rfl
    refine Ev.succ (Ev.of (fun fu => ?_) (ih (n + 1) (by omega)))
    simp only [nI, xQ, w1, xA keys n hnl]
    have k1 := hpl _ (List.getElem_mem hnl)
    have d : decide ((n : Int) < (keys.length : Int)) = true := decide_eq_true (by omega)
    cases h : keys[n].Done with
    | false => simp [h, hnl, -Int.natCast_add]
    | true => simp [h, hnl, k1 h, -Int.natCast_add]
theorem za2 (keys : List cA) (hpl : eJ keys) (h0 : 0 < keys.length) (hl : keys.length ≤ 32) : Ev (fun fu => iL fu keys) 0 := by
  have d1 : decide ((keys.length : Int) = 0) = false := decide_eq_false (by omega)
  have d2 : decide ((32 : Int) < (keys.length : Int)) = false := decide_eq_false (by omega)
  simp only [iL, iR, gR, d1, d2, Bool.false_eq_true, ↓reduceIte]
  refine Ev.bind (a := false) (Ev.bind (a := (-1 : Int)) (Ev.bind (znr keys hpl (by omega) keys.length 0 (by omega)) (Ev.ret _)) (Ev.of (fun fu => ?_) (Ev.ret _))) (Ev.of (fun fu => ?_) (Ev.ret _))
  · rfl
  · rfl
theorem zf9 (keys : List cA) (hpl : eJ keys) (h0 : 0 < keys.length) (hl : keys.length ≤ 32) : Ev (fun fu => lP fu keys) (yC keys, 0) := by
  unfold lP
  refine Ev.bind (za2 keys hpl h0 hl) ?_
  simp only [decide_true, Bool.not_true, Bool.false_eq_true, ↓reduceIte]
  exact Ev.bind (zcF keys h0 (by omega)) (Ev.ret _)
theorem zgf (keys : List cA) (hpl : eJ keys) (hl : keys.length ≤ 1000000) (m : Nat) : ∀ n : Nat, n + m = keys.length → Ev (fun fu => yU keys fu (n : Int)) (.inl ()) := by
  induction m with
  | zero =>
    intro n hn
    refine Ev.succ (Ev.of (fun fu => ?_) (Ev.ret _))
    simp [yU, show ¬ (n : Int) < (keys.length : Int) by omega]
  | succ m ih =>
    intro n hn
    have hnl : n < keys.length := by omega
    have w1 : IntKind.i64.wrap ((n : Int) + 1) = ((n + 1 : Nat) : Int) := by rw [wr (by omega) (by omega)]; rfl
    refine Ev.succ (Ev.of (fun fu => ?_) (ih (n + 1) (by omega)))
    simp only [yU, w1, xA keys n hnl]
    have k1 := hpl _ (List.getElem_mem hnl)
    have d : decide ((n : Int) < (keys.length : Int)) = true := decide_eq_true (by omega)
    cases h : keys[n].Done with
    | false => simp [h, hnl, -Int.natCast_add]
    | true => simp [h, hnl, k1 h, -Int.natCast_add]
def uf (keys : List cA) (i : Nat) : List Int := (List.range keys.length).map fun j => if 0 < j ∧ j < i then ((nd keys j).2 : Int) else 0
theorem kT (keys : List cA) (i : Nat) : (uf keys i).length = keys.length := by simp [uf]
theorem aW (keys : List cA) (i j : Nat) (h : j < (uf keys i).length) : (uf keys i)[j] = if 0 < j ∧ j < i then ((nd keys j).2 : Int) else 0 := by simp [uf]
theorem uf_set (keys : List cA) (i : Nat) (hi : 0 < i) : (uf keys i).set i ((nd keys i).2 : Int) = uf keys (i + 1) := by
  refine List.ext_getElem (by simp [kT]) fun j h1 h2 => ?_
  rw [List.getElem_set, aW]
  split
  · rename_i e; subst e; rw [aW, if_pos (by omega)]
  · rename_i e; rw [aW]
    by_cases h : 0 < j ∧ j < i
    · rw [if_pos h, if_pos (by omega)]
    · rw [if_neg h, if_neg (by omega)]
theorem zim (keys : List cA) (hpl : eJ keys) (hl : keys.length ≤ 1000000) (m : Nat) : ∀ n : Nat, 0 < n → n + m = keys.length → Ev (fun fu => tU keys fu (n : Int) (uf keys n)) (uf keys keys.length) := by
  induction m with
  | zero =>
    intro n h0 hn
    obtain rfl : n = keys.length := by omega
    refine Ev.succ (Ev.of (fun fu => ?_) (Ev.ret _))
    simp [tU]
  | succ m ih =>
    intro n h0 hn
    have hnl : n < keys.length := by omega
    have w1 : IntKind.i64.wrap ((n : Int) + 1) = ((n + 1 : Nat) : Int) := by rw [wr (by omega) (by omega)]; rfl
    have d : decide ((n : Int) < (keys.length : Int)) = true := decide_eq_true (by omega)
    refine Ev.succ ?_
    simp only [tU, w1, d, ↓reduceIte]
    refine Ev.bind (zdx keys hpl hl keys.length n h0 (by omega) (by omega)) (Ev.of (fun fu => ?_) (ih (n + 1) (by omega) (by omega)))
    rw [xA (uf keys n) n (by rw [kT]; omega)]
    simp only [Option.bind_some, Int.toNat_natCast]
    rw [uf_set keys n h0]
theorem zeS (keys : List cA) (hpl : eJ keys) (h0 : 0 < keys.length) (hl : keys.length ≤ 1000000) : Ev (fun fu => zbc fu keys) (yC keys) := by
  have g2 : 2 * ((0 + keys.length) * 24) ≤ 281474976710656 := by omega
  have g3 : (0 : Int) ≤ (keys.length : Int) ∧ (keys.length : Int) ≤ (keys.length : Int) ∧ (keys.length : Int) ≤ 9223372036854775807 ∧ 8 * (keys.length : Int) ≤ 281474976710656 := by omega
  simp only [zbc, if_pos g2, if_pos g3]
  have q2 : (List.replicate keys.length 0 : List Int) = uf keys 1 := by
    refine List.ext_getElem (by simp [kT]) fun j h1 h2 => ?_
    rw [kT] at h2
    rw [aW, if_neg (by omega)]; simp
  have q3 : uf keys keys.length = lf keys 0 := by
    refine List.ext_getElem (by simp [kT, wH]) fun j h1 h2 => ?_
    rw [kT] at h1
    rw [aW, mO]
    by_cases h : 0 < j
    · rw [if_pos ⟨h, h1⟩, if_pos h]
    · rw [if_neg (by omega), if_neg h]
  rw [q2]
  have a := zim keys hpl hl (keys.length - 1) 1 (by omega) (by omega)
  have b := zdx keys hpl hl keys.length 1 (by omega) (by omega) (by omega)
  refine Ev.bind a (Ev.bind b (Ev.of (fun fu => ?_) (Ev.ret _)))
  rw [q3]; rfl
theorem ziW (keys : List cA) (hpl : eJ keys) (h0 : 0 < keys.length) (hl : keys.length ≤ 32) : Ev (fun fu => zay fu keys) (yC keys, 0) := by
  unfold zay
  have hr : Ev (fun fu => zaP fu keys) 0 := by
    have d1 : decide ((keys.length : Int) = 0) = false := decide_eq_false (by omega)
    have d2 : decide ((32 : Int) < (keys.length : Int)) = false := decide_eq_false (by omega)
    simp only [zaP, d1, d2, Bool.false_eq_true, ↓reduceIte]
    exact Ev.bind (zgf keys hpl (by omega) keys.length 0 (by omega)) (Ev.ret _)
  refine Ev.bind hr ?_
  simp only [decide_true, Bool.not_true, Bool.false_eq_true, ↓reduceIte]
  exact Ev.bind (zeS keys hpl h0 (by omega)) (Ev.ret _)
def lF (l : List aA) (a : Nat) : cA := match l[a]? with | some e => ⟨e.Key, false⟩ | none => ⟨[], true⟩
def sB (runs : List (List aA)) (at' : List Nat) : List cA := (List.range runs.length).map fun i => lF (runs[i]?.getD []) (at'[i]?.getD 0)
theorem vD (runs : List (List aA)) (a : List Nat) : (sB runs a).length = runs.length := by simp [sB]
theorem tR (runs : List (List aA)) (a : List Nat) (i : Nat) (h : i < (sB runs a).length) (h1 : i < runs.length) (h2 : i < a.length) : (sB runs a)[i] = lF runs[i] a[i] := by simp [sB, h1, h2]
theorem zdB (l : List aA) (a : Nat) : (lF l a).Done = true → (lF l a).Key = [] := by
  unfold lF; split <;> simp
theorem sT (runs : List (List aA)) (a : List Nat) : eJ (sB runs a) := by
  intro k hk
  simp only [sB, List.mem_map] at hk
  obtain ⟨i, -, rfl⟩ := hk
  exact zdB _ _
def At (runs : List (List aA)) (a : List Nat) : Prop := a.length = runs.length ∧ ∀ i (h : i < runs.length) (h2 : i < a.length), a[i] ≤ runs[i].length
def pB (a : List Nat) : List Int := a.map fun (n : Nat) => (n : Int)
theorem gG (a : List Nat) : (pB a).length = a.length := by simp [pB]
theorem gF (a : List Nat) (i : Nat) (h : i < a.length) : ix (pB a) (i : Int) = some ((a[i] : Nat) : Int) := by
  rw [xA (pB a) i (by rw [gG]; exact h)]; simp [pB]
theorem za7 (fu : Nat) (l : List aA) (a : Nat) (h : a ≤ l.length) : bK fu l (a : Int) = some (lF l a) := by
  unfold bK lF
  by_cases e : a = l.length
  · subst e; simp
  · have hl : a < l.length := by omega
    have d : decide ((a : Int) = (l.length : Int)) = false := decide_eq_false (by omega)
    rw [d, xA l a hl]; simp [hl]
def kf (runs : List (List aA)) (a : List Nat) (n : Nat) : List cA := (List.range runs.length).map fun i => if i < n then lF (runs[i]?.getD []) (a[i]?.getD 0) else ⟨[], false⟩
theorem dW (runs : List (List aA)) (a : List Nat) (n : Nat) : (kf runs a n).length = runs.length := by simp [kf]
theorem kf_set (runs : List (List aA)) (a : List Nat) (n : Nat) (h1 : n < runs.length) (h2 : n < a.length) : (kf runs a n).set n (lF runs[n] a[n]) = kf runs a (n + 1) := by
  refine List.ext_getElem (by simp [dW]) fun j k1 k2 => ?_
  rw [List.getElem_set]
  simp only [kf, List.getElem_map, List.getElem_range]
  split
  · rename_i e; subst e; simp [h1, h2]
  · rename_i e
    by_cases h : j < n
    · rw [if_pos h, if_pos (by omega)]
    · rw [if_neg h, if_neg (by omega)]
theorem zeZ (runs : List (List aA)) (a : List Nat) (ha : At runs a) (hl : runs.length ≤ 1000000) (m : Nat) : ∀ n : Nat, n + m = runs.length →
    Ev (fun fu => aI runs (pB a) fu (n : Int) (kf runs a n)) (sB runs a) := by
  induction m with
  | zero =>
    intro n hn
    have : kf runs a n = sB runs a := by
      refine List.ext_getElem (by simp [dW, vD]) fun j h1 h2 => ?_
      rw [dW] at h1
      simp only [kf, sB, List.getElem_map, List.getElem_range]
      rw [if_pos (by omega)]
    rw [this]
    refine Ev.succ (Ev.of (fun fu => ?_) (Ev.ret _))
    simp [aI, show ¬ (n : Int) < (runs.length : Int) by omega]
  | succ m ih =>
    intro n hn
    have hnl : n < runs.length := by omega
    have hna : n < a.length := by rw [ha.1]; exact hnl
    have w1 : IntKind.i64.wrap ((n : Int) + 1) = ((n + 1 : Nat) : Int) := by rw [wr (by omega) (by omega)]; rfl
    have d : decide ((n : Int) < (runs.length : Int)) = true := decide_eq_true (by omega)
    refine Ev.succ (Ev.of (fun fu => ?_) (ih (n + 1) (by omega)))
    simp only [aI, w1, d, ↓reduceIte, xA runs n hnl, gF a n hna, Option.bind_some, za7 fu runs[n] a[n] (ha.2 n hnl hna)]
    rw [xA (kf runs a n) n (by rw [dW]; exact hnl)]
    simp only [Option.bind_some, Int.toNat_natCast]
    rw [kf_set runs a n hnl hna]
theorem zcX (runs : List (List aA)) (a : List Nat) (ha : At runs a) (h0 : 0 < runs.length) (hl : runs.length ≤ 32) : Ev (fun fu => bO fu runs (pB a)) (yC (sB runs a)) := by
  have g3 : (0 : Int) ≤ (runs.length : Int) ∧ (runs.length : Int) ≤ (runs.length : Int) ∧ (runs.length : Int) ≤ 9223372036854775807 ∧ 24 * (runs.length : Int) ≤ 281474976710656 := by omega
  simp only [bO, if_pos g3]
  have q : (List.replicate runs.length (cA.mk [] false) : List cA) = kf runs a 0 := by
    refine List.ext_getElem (by simp [dW]) fun j h1 h2 => ?_
    simp [kf]
  rw [q]
  refine Ev.bind (zeZ runs a ha (by omega) runs.length 0 (by omega)) ?_
  refine Ev.bind (zf9 (sB runs a) (sT runs a) (by rw [vD]; exact h0) (by rw [vD]; exact hl)) (Ev.ret _)
theorem zkX (runs : List (List aA)) (a : List Nat) (n : Nat) (h1 : n < runs.length) (h2 : n < a.length) : (sB runs a).take (n + 1) = (sB runs a).take n ++ [lF runs[n] a[n]] := by
  rw [List.take_succ_eq_append_getElem (by rw [vD]; exact h1), tR runs a n _ h1 h2]
theorem zhn (runs : List (List aA)) (a : List Nat) (ha : At runs a) (hl : runs.length ≤ 1000000) (m : Nat) : ∀ n : Nat, n + m = runs.length →
    Ev (fun fu => gS runs (pB a) fu (n : Int) ((sB runs a).take n)) (sB runs a) := by
  induction m with
  | zero =>
    intro n hn
    rw [List.take_of_length_le (by rw [vD]; omega)]
    refine Ev.succ (Ev.of (fun fu => ?_) (Ev.ret _))
    simp [gS, show ¬ (n : Int) < (runs.length : Int) by omega]
  | succ m ih =>
    intro n hn
    have hnl : n < runs.length := by omega
    have hna : n < a.length := by rw [ha.1]; exact hnl
    have w1 : IntKind.i64.wrap ((n : Int) + 1) = ((n + 1 : Nat) : Int) := by rw [wr (by omega) (by omega)]; rfl
    have d : decide ((n : Int) < (runs.length : Int)) = true := decide_eq_true (by omega)
    have hg : 2 * ((((sB runs a).take n).length + 1) * 24) ≤ 281474976710656 := by rw [List.length_take, vD]; omega
    have hle := ha.2 n hnl hna
    refine Ev.succ (Ev.of (fun fu => ?_) (ih (n + 1) (by omega)))
    simp only [gS, w1, d, ↓reduceIte, xA runs n hnl, gF a n hna, Option.bind_some, if_pos hg]
    rw [zkX runs a n hnl hna]
    by_cases e : a[n] = runs[n].length
    · have d2 : decide (((a[n] : Nat) : Int) = (runs[n].length : Int)) = true := decide_eq_true (by omega)
      simp only [d2, Bool.not_true, Bool.false_eq_true, ↓reduceIte]
      simp [lF, e]
    · have d2 : decide (((a[n] : Nat) : Int) = (runs[n].length : Int)) = false := decide_eq_false (by omega)
      have hlt : a[n] < runs[n].length := by omega
      simp only [d2, Bool.not_false, ↓reduceIte, xA runs[n] a[n] hlt, Option.bind_some]
      simp [lF, hlt]
theorem gV (runs : List (List aA)) (a : List Nat) (ha : At runs a) (h0 : 0 < runs.length) (hl : runs.length ≤ 32) : Ev (fun fu => lV fu runs (pB a)) ⟨runs, pB a, yC (sB runs a)⟩ := by
  have g1 : 2 * ((0 + runs.length) * 24) ≤ 281474976710656 := by omega
  have g2 : 2 * ((0 + (pB a).length) * 8) ≤ 281474976710656 := by rw [gG, ha.1]; omega
  simp only [lV, if_pos g1, if_pos g2]
  refine Ev.bind (a := sB runs a) ?_ ?_
  · have := zhn runs a ha (by omega) runs.length 0 (by omega)
    simpa using this
  · exact Ev.bind (ziW (sB runs a) (sT runs a) (by rw [vD]; exact h0) (by rw [vD]; exact hl)) (Ev.ret _)
def jC (runs : List (List aA)) (a : List Nat) : gB := ⟨runs, pB a, yC (sB runs a)⟩
def bE (runs : List (List aA)) : List Nat := List.replicate runs.length 0
theorem wM (runs : List (List aA)) : At runs (bE runs) := ⟨by simp [bE], fun i h h2 => by simp [bE]⟩
theorem aU (runs : List (List aA)) : (List.replicate runs.length 0 : List Int) = pB (bE runs) := by simp [pB, bE]
def vU : gB := ⟨[], [], ⟨[], [], 0⟩⟩
theorem yY (runs : List (List aA)) (hf : vE runs) (hl : runs.length ≤ 1000) :
    ∃ r, Ev (fun fu => rI fu runs) r ∧ Ev (fun fu => xO fu runs) r ∧ ((xC runs ∧ r = (jC runs (bE runs), 0, 0)) ∨ (r.1 = vU ∧ r.2.2 ≠ 0)) := by
  obtain ⟨⟨p, c⟩, r1, r2, r3⟩ := gW runs hf hl
  rcases r3 with ⟨e, hg⟩ | hc
  · cases e
    obtain ⟨h0, h32, hr⟩ := hg
    have g3 : (0 : Int) ≤ (runs.length : Int) ∧ (runs.length : Int) ≤ (runs.length : Int) ∧ (runs.length : Int) ≤ 9223372036854775807 ∧ 8 * (runs.length : Int) ≤ 281474976710656 := by omega
    have g2 : 2 * ((0 + runs.length) * 24) ≤ 281474976710656 := by omega
    have hne : runs.isEmpty = false := by cases runs; simp at h0; rfl
    refine ⟨(jC runs (bE runs), 0, 0), ?_, ?_, .inl ⟨⟨h0, h32, hr⟩, rfl⟩⟩
    · unfold rI
      refine Ev.bind r1 ?_
      simp only [decide_true, Bool.not_true, Bool.false_eq_true, ↓reduceIte, if_pos g3, tL, hne, if_pos g2, Option.bind_some]
      rw [aU]
      exact Ev.bind (zcX runs _ (wM runs) h0 h32) (Ev.ret _)
    · unfold xO
      refine Ev.bind r2 ?_
      simp only [decide_true, Bool.not_true, Bool.false_eq_true, ↓reduceIte, if_pos g3]
      rw [aU]
      exact Ev.bind (gV runs _ (wM runs) h0 h32) (Ev.ret _)
  · refine ⟨(vU, p, c), ?_, ?_, .inr ⟨rfl, hc⟩⟩
    · unfold rI
      refine Ev.bind r1 (Ev.of (fun fu => ?_) (Ev.ret _))
      simp only [decide_eq_false hc, Bool.not_false, ↓reduceIte]; rfl
    · unfold xO
      refine Ev.bind r2 (Ev.of (fun fu => ?_) (Ev.ret _))
      simp only [decide_eq_false hc, Bool.not_false, ↓reduceIte]; rfl
def below (n w node : Nat) : Nat → Prop
  | 0 => node = w + n
  | k + 1 => node = w + n ∨ below n w (2 * node) k ∨ below n w (2 * node + 1) k
theorem zof (keys : List cA) (w : Nat) (k : cA) (p q : Nat) (hp : p ≠ w) (hq : q ≠ w) : lt (keys.set w k) p q = lt keys p q := by
  simp only [lt, List.getElem?_set_ne (Ne.symm hp), List.getElem?_set_ne (Ne.symm hq)]
def up (n w d : Nat) : Nat := (w + n) / 2 ^ d
def bD (x c : Nat) : Prop := ∃ d, x / 2 ^ d = c
theorem bD.refl (x : Nat) : bD x x := ⟨0, by simp⟩
theorem bD.up {x c : Nat} (h : bD x c) : bD x (c / 2) := by
  obtain ⟨d, rfl⟩ := h
  exact ⟨d + 1, by rw [Nat.pow_succ, ← Nat.div_div_eq_div_mul]⟩
theorem bD.le {x c : Nat} (h : bD x c) : c ≤ x := by
  obtain ⟨d, rfl⟩ := h
  exact Nat.div_le_self _ _
theorem bD.chain {x a b : Nat} (ha : bD x a) (hb : bD x b) : bD a b ∨ bD b a := by
  obtain ⟨d, rfl⟩ := ha
  obtain ⟨e, rfl⟩ := hb
  rcases Nat.le_total d e with h | h
  · exact .inl ⟨e - d, by rw [Nat.div_div_eq_div_mul, ← Nat.pow_add, Nat.add_sub_cancel' h]⟩
  · exact .inr ⟨d - e, by rw [Nat.div_div_eq_div_mul, ← Nat.pow_add, Nat.add_sub_cancel' h]⟩
theorem bD.half {x c : Nat} (h : bD x c) : c = x ∨ c ≤ x / 2 := by
  obtain ⟨d, rfl⟩ := h
  cases d with
  | zero => simp
  | succ d =>
    right
    rw [Nat.pow_succ, Nat.mul_comm, ← Nat.div_div_eq_div_mul]
    exact Nat.div_le_self _ _
theorem bD.one {x p : Nat} (hp : 1 ≤ p) (ha : bD x (2 * p)) (hb : bD x (2 * p + 1)) : False := by
  rcases ha.chain hb with h | h
  · have := h.le; omega
  · rcases h.half with h | h <;> omega
theorem bD.gap {x c j : Nat} (hc : bD x c) (hj : bD x j) (h1 : c / 2 < j) (h2 : j < c) : False := by
  rcases hc.chain hj with h | h
  · rcases h.half with h | h <;> omega
  · have := h.le; omega
theorem zbr (keys : List cA) (m : Nat) : ∀ node, 1 ≤ node → node < 2 * keys.length → keys.length - node ≤ m → bD ((nd keys node).1 + keys.length) node := by
  induction m with
  | zero =>
    intro node h1 h2 h3
    rw [lJ keys node (by omega)]
    simp only
    rw [Nat.sub_add_cancel (by omega)]
    exact .refl _
  | succ m ih =>
    intro node h1 h2 h3
    by_cases h : keys.length ≤ node
    · rw [lJ keys node h]
      simp only
      rw [Nat.sub_add_cancel h]
      exact .refl _
    · have a := ih (2 * node) (by omega) (by omega) (by omega)
      have b := ih (2 * node + 1) (by omega) (by omega) (by omega)
      rw [wN keys node h1 (by omega)]
      split
      · have := bD.up a; rwa [show 2 * node / 2 = node by omega] at this
      · have := bD.up b; rwa [show (2 * node + 1) / 2 = node by omega] at this
theorem zmx (keys : List cA) (w : Nat) (k : cA) (m : Nat) : ∀ node, 1 ≤ node → node < 2 * keys.length → keys.length - node ≤ m → ¬ bD (w + keys.length) node → nd (keys.set w k) node = nd keys node := by
  induction m with
  | zero =>
    intro node h1 h2 h3 _
    rw [lJ keys node (by omega), lJ (keys.set w k) node (by simp; omega)]; simp
  | succ m ih =>
    intro node h1 h2 h3 hn
    by_cases h : keys.length ≤ node
    · rw [lJ keys node h, lJ (keys.set w k) node (by simp; omega)]; simp
    · have na : ¬ bD (w + keys.length) (2 * node) := fun q => hn (by have := bD.up q; rwa [show 2 * node / 2 = node by omega] at this)
      have nb : ¬ bD (w + keys.length) (2 * node + 1) := fun q => hn (by have := bD.up q; rwa [show (2 * node + 1) / 2 = node by omega] at this)
      have a := ih (2 * node) (by omega) (by omega) (by omega) na
      have b := ih (2 * node + 1) (by omega) (by omega) (by omega) nb
      rw [wN keys node h1 (by omega), wN (keys.set w k) node h1 (by simp; omega), a, b]
      have wa : (nd keys (2 * node)).1 ≠ w := fun e => na (by have := zbr keys _ (2 * node) (by omega) (by omega) (Nat.le_refl _); rwa [e] at this)
      have wb : (nd keys (2 * node + 1)).1 ≠ w := fun e => nb (by have := zbr keys _ (2 * node + 1) (by omega) (by omega) (Nat.le_refl _); rwa [e] at this)
      rw [zof keys w k _ _ wa wb]
theorem eZ (keys : List cA) (w : Nat) (k : cA) (node : Nat) (h1 : 1 ≤ node) (h2 : node < 2 * keys.length) (h : ¬ bD (w + keys.length) node) : nd (keys.set w k) node = nd keys node :=
  zmx keys w k _ node h1 h2 (Nat.le_refl _) h
theorem qS (keys : List cA) (node : Nat) (h1 : 1 ≤ node) (h2 : node < 2 * keys.length) : bD ((nd keys node).1 + keys.length) node := zbr keys _ node h1 h2 (Nat.le_refl _)
theorem game (keys : List cA) (w : Nat) (k : cA) (c : Nat) (hc : bD (w + keys.length) c) (h2 : 2 ≤ c) (hc2 : c < 2 * keys.length) (hp : (nd keys (c / 2)).1 = w) :
    (nd keys c).1 = w ∧ nd (keys.set w k) (c / 2) = if lt (keys.set w k) (nd keys (c / 2)).2 (nd (keys.set w k) c).1 then ((nd keys (c / 2)).2, (nd (keys.set w k) c).1) else ((nd (keys.set w k) c).1, (nd keys (c / 2)).2) := by
  have hlen : (keys.set w k).length = keys.length := by simp
  have hp1 : 1 ≤ c / 2 := by omega
  have hpn : c / 2 < keys.length := by omega
  have o := wN keys (c / 2) hp1 hpn
  have o' := wN (keys.set w k) (c / 2) hp1 (by omega)
  rcases Nat.mod_two_eq_zero_or_one c with hm | hm
  · have e1 : 2 * (c / 2) = c := by omega
    rw [e1] at o o'
    have hs : ¬ bD (w + keys.length) (c + 1) := fun q => by
      refine bD.one (x := w + keys.length) hp1 (by rwa [e1]) (by rwa [e1])
    have so := eZ keys w k (c + 1) (by omega) (by omega) hs
    have hr : (nd keys (c + 1)).1 ≠ w := fun e => hs (by have := qS keys (c + 1) (by omega) (by omega); rwa [e] at this)
    have hlt : lt keys (nd keys c).1 (nd keys (c + 1)).1 = true := by
      cases h : lt keys (nd keys c).1 (nd keys (c + 1)).1 with
      | true => rfl
      | false => rw [h] at o; rw [o] at hp; exact absurd hp hr
    rw [hlt] at o
    simp only [↓reduceIte] at o
    rw [o] at hp ⊢
    refine ⟨hp, ?_⟩
    rw [o', so]
    have k1 := (vL (keys.set w k) c (by omega) (by omega)).1
    have k2 := (vL keys (c + 1) (by omega) (by omega)).1
    have hne : (nd (keys.set w k) c).1 ≠ (nd keys (c + 1)).1 := fun e => by
      have q1 := qS (keys.set w k) c (by omega) (by omega)
      have q2 := qS keys (c + 1) (by omega) (by omega)
      rw [hlen, e] at q1
      exact bD.one hp1 (by rwa [e1]) (by rwa [e1])
    rw [eW (keys.set w k) _ _ k1 (by omega) hne]
    cases lt (keys.set w k) (nd (keys.set w k) c).1 (nd keys (c + 1)).1 <;> rfl
  · have e1 : 2 * (c / 2) = c - 1 := by omega
    have e2 : c - 1 + 1 = c := by omega
    rw [e1, e2] at o o'
    have hs : ¬ bD (w + keys.length) (c - 1) := fun q => by
      refine bD.one (x := w + keys.length) hp1 (by rwa [e1]) (by rwa [e1, e2])
    have so := eZ keys w k (c - 1) (by omega) (by omega) hs
    have hr : (nd keys (c - 1)).1 ≠ w := fun e => hs (by have := qS keys (c - 1) (by omega) (by omega); rwa [e] at this)
    have hlt : lt keys (nd keys (c - 1)).1 (nd keys c).1 = false := by
      cases h : lt keys (nd keys (c - 1)).1 (nd keys c).1 with
      | false => rfl
      | true => rw [h] at o; rw [o] at hp; exact absurd hp hr
    rw [hlt] at o
    simp only [Bool.false_eq_true, ↓reduceIte] at o
    rw [o] at hp ⊢
    exact ⟨hp, by rw [o', so]⟩
theorem wtop (keys : List cA) (w : Nat) (hw : (nd keys 1).1 = w) : ∀ c, 1 ≤ c → c < 2 * keys.length → bD (w + keys.length) c → (nd keys c).1 = w := by
  intro c
  induction c using Nat.strongRecOn with
  | _ c ih =>
    intro h1 h2 hc
    by_cases e : c = 1
    · subst e; exact hw
    · exact (game keys w ⟨[], false⟩ c hc (by omega) h2 (ih (c / 2) (by omega) (by omega) (by omega) hc.up)).1
def rf (keys keys' : List cA) (c : Nat) : List Int := (List.range keys.length).map fun j => if 0 < j then (if j < c then ((nd keys j).2 : Int) else ((nd keys' j).2 : Int)) else 0
theorem qR (keys keys' : List cA) (c : Nat) : (rf keys keys' c).length = keys.length := by simp [rf]
theorem gT (keys keys' : List cA) (c j : Nat) (h : j < (rf keys keys' c).length) : (rf keys keys' c)[j] = if 0 < j then (if j < c then ((nd keys j).2 : Int) else ((nd keys' j).2 : Int)) else 0 := by simp [rf]
theorem rf_set (keys : List cA) (w : Nat) (k : cA) (c : Nat) (hc : bD (w + keys.length) c) (h2 : 2 ≤ c) (hc2 : c < 2 * keys.length) :
    (rf keys (keys.set w k) c).set (c / 2) ((nd (keys.set w k) (c / 2)).2 : Int) = rf keys (keys.set w k) (c / 2) := by
  refine List.ext_getElem (by simp [qR]) fun j h1 h2' => ?_
  rw [qR] at h2'
  rw [List.getElem_set, gT, gT]
  split
  · rename_i e; subst e; rw [if_pos (by omega), if_neg (by omega)]
  · rename_i e
    by_cases h0 : 0 < j
    · rw [if_pos h0, if_pos h0]
      by_cases q : j < c / 2
      · rw [if_pos q, if_pos (by omega)]
      · rw [if_neg q]
        by_cases q2 : j < c
        · rw [if_pos q2, eZ keys w k j h0 (by omega) fun ha => bD.gap hc ha (by omega) q2]
        · rw [if_neg q2]
    · rw [if_neg h0, if_neg h0]
theorem ziG (keys : List cA) (w : Nat) (k : cA) (hl : keys.length ≤ 1000000) (hw : (nd keys 1).1 = w) : ∀ (c : Nat) (g : Int), 1 ≤ c → c < 2 * keys.length → bD (w + keys.length) c →
    ∃ g', Ev (fun fu => xH (keys.set w k) fu g (c : Int) ((nd (keys.set w k) c).1 : Int) (rf keys (keys.set w k) c)) (g', ((nd (keys.set w k) 1).1 : Int), rf keys (keys.set w k) 1) := by
  intro c
  induction c using Nat.strongRecOn with
  | _ c ih =>
    intro g h1 h2 hc
    have w1 : IntKind.i64.wrap ((c : Int).tdiv 2) = ((c / 2 : Nat) : Int) := by
      have : (c : Int).tdiv 2 = ((c / 2 : Nat) : Int) := rfl
      rw [this, wr (by omega) (by omega)]
    by_cases e : c = 1
    · subst e
      refine ⟨g, Ev.succ (Ev.of (fun fu => ?_) (Ev.ret _))⟩
      simp only [xH, w1]
      rfl
    · have hp1 : 1 ≤ c / 2 := by omega
      obtain ⟨g', hg⟩ := ih (c / 2) (by omega) (IntKind.i64.wrap (g + 1)) hp1 (by omega) hc.up
      obtain ⟨-, gm⟩ := game keys w k c hc (by omega) h2 (wtop keys w hw (c / 2) hp1 (by omega) hc.up)
      have d : decide (((c / 2 : Nat) : Int) = 0) = false := decide_eq_false (by omega)
      have k1 := (vL (keys.set w k) c (by omega) (by simp; omega)).1
      have k2 := (vL keys (c / 2) (by omega) (by omega)).2
      refine ⟨g', Ev.succ (Ev.of (fun fu => ?_) hg)⟩
      simp only [xH, w1, d, Bool.false_eq_true, ↓reduceIte]
      rw [xA (rf keys (keys.set w k) c) (c / 2) (by rw [qR]; omega), gT, if_pos (by omega), if_pos (by omega)]
      simp only [Option.bind_some]
      rw [zcD fu (keys.set w k) _ _ (by simp; omega) k1]
      simp only [Option.bind_some, Int.toNat_natCast]
      have rs := rf_set keys w k c hc (by omega) h2
      rw [gm] at rs ⊢
      cases hlt : lt (keys.set w k) (nd keys (c / 2)).2 (nd (keys.set w k) c).1 with
      | true =>
        rw [hlt] at rs
        simp only [↓reduceIte] at rs ⊢
        rw [rs]
      | false =>
        rw [hlt] at rs
        simp only [Bool.false_eq_true, ↓reduceIte] at rs ⊢
        rw [← rs]
        congr 1
        refine (List.ext_getElem (by simp) fun j h1 h2 => ?_).symm
        rw [List.getElem_set]
        split
        · rename_i e; subst e; rw [gT, if_pos (by omega), if_pos (by omega)]
        · rfl
theorem zin (keys : List cA) (hl : keys.length ≤ 1000000) (m : Nat) : ∀ n : Nat, n + m = keys.length → Ev (fun fu => gI (yC keys) (yC keys) fu (n : Int)) (.inl ()) := by
  induction m with
  | zero =>
    intro n hn
    refine Ev.succ (Ev.of (fun fu => ?_) (Ev.ret _))
    have d : decide ((n : Int) < ((yC keys).Lose.length : Int)) = false := decide_eq_false (by simp only [yC, wH]; omega)
    simp only [gI, d, Bool.false_eq_true, ↓reduceIte]
  | succ m ih =>
    intro n hn
    have w1 : IntKind.i64.wrap ((n : Int) + 1) = ((n + 1 : Nat) : Int) := by rw [wr (by omega) (by omega)]; rfl
    refine Ev.succ (Ev.of (fun fu => ?_) (ih (n + 1) (by omega)))
    have d : decide ((n : Int) < ((yC keys).Lose.length : Int)) = true := decide_eq_true (by simp only [yC, wH]; omega)
    simp only [gI, d, ↓reduceIte, w1, xA (yC keys).Lose n (by simp only [yC, wH]; omega), Option.bind_some, decide_true, Bool.not_true, Bool.false_eq_true]
theorem znW (keys : List cA) (hpl : eJ keys) (h0 : 0 < keys.length) (hl : keys.length ≤ 32) : Ev (fun fu => kQ fu (yC keys)) (0, 0) := by
  unfold kQ
  refine Ev.bind (za2 keys hpl h0 hl) ?_
  have d : decide (((yC keys).Lose.length : Int) = ((yC keys).Keys.length : Int)) = true := decide_eq_true (by simp [yC, wH])
  simp only [decide_true, Bool.not_true, Bool.false_eq_true, ↓reduceIte, d]
  refine Ev.bind (zcF keys h0 (by omega)) (Ev.bind (zin keys (by omega) keys.length 0 (by omega)) (Ev.of (fun fu => ?_) (Ev.ret _)))
  simp
def cD (keys : List cA) : Nat := (nd keys 1).1
theorem uF (keys : List cA) (h0 : 0 < keys.length) : cD keys < keys.length := (vL keys 1 (by omega) (by omega)).1
theorem zet (keys : List cA) (hpl : eJ keys) (h0 : 0 < keys.length) (hl : keys.length ≤ 32) :
    Ev (fun fu => dO fu (yC keys)) (if (keys[cD keys]'(uF keys h0)).Done then 12 else 0) := by
  unfold dO
  refine Ev.bind (znW keys hpl h0 hl) (Ev.of (fun fu => ?_) (Ev.ret _))
  have : ix (yC keys).Keys (yC keys).Win = some (keys[cD keys]'(uF keys h0)) := xA keys (cD keys) (uF keys h0)
  simp only [decide_true, Bool.not_true, Bool.false_eq_true, ↓reduceIte, this, Option.bind_some]
  split <;> rfl
theorem za6 (keys : List cA) (hpl : eJ keys) (h0 : 0 < keys.length) (hl : keys.length ≤ 32) :
    Ev (fun fu => tN fu (yC keys)) (if (keys[cD keys]'(uF keys h0)).Done then (0, [], 12) else ((cD keys : Int), (keys[cD keys]'(uF keys h0)).Key, 0)) := by
  unfold tN
  refine Ev.bind (zet keys hpl h0 hl) (Ev.of (fun fu => ?_) (Ev.ret _))
  have : ix (yC keys).Keys (yC keys).Win = some (keys[cD keys]'(uF keys h0)) := xA keys (cD keys) (uF keys h0)
  cases h : (keys[cD keys]'(uF keys h0)).Done with
  | true => rfl
  | false => simp only [decide_true, Bool.not_true, Bool.false_eq_true, ↓reduceIte, this, Option.bind_some]; rfl
theorem zne (keys : List cA) (hpl : eJ keys) (h0 : 0 < keys.length) (hl : keys.length ≤ 32) (hd : (keys[cD keys]'(uF keys h0)).Done = false) (k : cA) (hk : k.Done = true → k.Key = [])
    (hb : k.Done = false → bl k.Key (keys[cD keys]'(uF keys h0)).Key = false) : ∃ g, Ev (fun fu => eM fu (yC keys) k) (yC (keys.set (cD keys) k), g, 0) := by
  have ho := zet keys hpl h0 hl
  simp only [hd, Bool.false_eq_true, ↓reduceIte] at ho
  have hc := za2 [k] (fun x hx => by simp at hx; subst hx; exact hk) (by simp) (by simp)
  have hwn := uF keys h0
  obtain ⟨g, hg⟩ := ziG keys (cD keys) k (by omega) rfl (cD keys + keys.length) 0 (by omega) (by omega) (bD.refl _)
  have q1 : (nd (keys.set (cD keys) k) (cD keys + keys.length)).1 = cD keys := by rw [lJ _ _ (by simp)]; simp
  have q2 : rf keys (keys.set (cD keys) k) (cD keys + keys.length) = lf keys 0 := by
    refine List.ext_getElem (by simp [qR, wH]) fun j h1 h2 => ?_
    rw [qR] at h1
    rw [gT, mO]
    by_cases q : 0 < j
    · rw [if_pos q, if_pos (by omega), if_pos q]
    · rw [if_neg q, if_neg q]
  have q3 : rf keys (keys.set (cD keys) k) 1 = lf (keys.set (cD keys) k) 0 := by
    refine List.ext_getElem (by simp [qR, wH]) fun j h1 h2 => ?_
    rw [qR] at h1
    rw [gT, mO]
    by_cases q : 0 < j
    · rw [if_pos q, if_neg (by omega), if_pos q]
    · rw [if_neg q, if_neg q]
  rw [q1, q2, q3] at hg
  refine ⟨g, ?_⟩
  unfold eM
  refine Ev.bind ho ?_
  simp only [decide_true, Bool.not_true, Bool.false_eq_true, ↓reduceIte]
  refine Ev.bind hc ?_
  have ixw : ix (yC keys).Keys (yC keys).Win = some (keys[cD keys]'hwn) := xA keys (cD keys) hwn
  have hb8 : (if (!k.Done) = true then some (Op.bytesLess k.Key (keys[cD keys]'hwn).Key) else some false) = some false := by
    cases h : k.Done with
    | true => rfl
    | false => simp only [Bool.not_false, ↓reduceIte]; exact congrArg some (hb h)
  simp only [decide_true, Bool.not_true, Bool.false_eq_true, ↓reduceIte, ixw, Option.bind_some, hb8]
  have hne : (yC keys).Keys.isEmpty = false := by show keys.isEmpty = false; cases keys; simp at h0; rfl
  have hne2 : (yC keys).Lose.isEmpty = false := by
    show (lf keys 0).isEmpty = false
    have := wH keys 0
    cases h : lf keys 0
    · rw [h] at this; simp at this; omega
    · rfl
  have g1 : 2 * ((0 + (yC keys).Keys.length) * 24) ≤ 281474976710656 := by show 2 * ((0 + keys.length) * 24) ≤ _; omega
  have g2 : 2 * ((0 + (yC keys).Lose.length) * 8) ≤ 281474976710656 := by show 2 * ((0 + (lf keys 0).length) * 8) ≤ _; rw [wH]; omega
  simp only [nQ, lN, hne, hne2, Bool.false_eq_true, ↓reduceIte, if_pos g1, if_pos g2, Option.bind_some, ixw, bM]
  have ws : IntKind.i64.wrap ((((yC keys).Keys.set (yC keys).Win.toNat k).length : Int) + (yC keys).Win) = ((cD keys + keys.length : Nat) : Int) := by
    show IntKind.i64.wrap (((keys.set (cD keys) k).length : Int) + (cD keys : Int)) = _
    rw [List.length_set, wr (by omega) (by omega)]; omega
  rw [ws]
  exact Ev.bind hg (Ev.ret _)
theorem lt_trans (keys : List cA) (p q r : Nat) (hp : p < keys.length) (hq : q < keys.length) (hr : r < keys.length) (h : lt keys p q = true) (k : lt keys q r = true) : lt keys p r = true := by
  simp only [lt, List.getElem?_eq_getElem hp, List.getElem?_eq_getElem hq, List.getElem?_eq_getElem hr] at *
  generalize keys[p] = a at *
  generalize keys[q] = b at *
  generalize keys[r] = c at *
  obtain ⟨ak, ad⟩ := a
  obtain ⟨bk, bd⟩ := b
  obtain ⟨ck, cd⟩ := c
  simp only at *
  cases ad <;> cases bd <;> cases cd <;> simp at h k ⊢
  all_goals
    by_cases e1 : ak = bk
    · subst e1
      by_cases e2 : ak = ck
      · subst e2; simp at h k ⊢; omega
      · simp [e2] at k ⊢; exact k
    · simp [e1] at h
      by_cases e2 : bk = ck
      · subst e2; simp [e1]; exact h
      · simp [e2] at k
        have := xM h k
        have ne : ak ≠ ck := fun e => by subst e; rw [pG] at this; cases this
        simp [ne]; exact this
theorem bD.child {x c : Nat} (h : bD x c) (hne : c ≠ x) : ∃ b, bD x b ∧ b / 2 = c := by
  obtain ⟨d, rfl⟩ := h
  cases d with
  | zero => simp at hne
  | succ d => exact ⟨x / 2 ^ d, ⟨d, rfl⟩, by rw [Nat.pow_succ, ← Nat.div_div_eq_div_mul]⟩
theorem zkI (keys : List cA) (m : Nat) : ∀ node, 1 ≤ node → node < 2 * keys.length → keys.length - node ≤ m → ∀ x, x < keys.length → bD (x + keys.length) node → x ≠ (nd keys node).1 → lt keys (nd keys node).1 x = true := by
  have leaf : ∀ node, keys.length ≤ node → node < 2 * keys.length → ∀ x, x < keys.length → bD (x + keys.length) node → x ≠ (nd keys node).1 → lt keys (nd keys node).1 x = true := by
    intro node h1 h2 x hx ha hne
    rw [lJ keys node h1] at hne
    simp only at hne
    rcases ha.half with h | h <;> omega
  induction m with
  | zero => intro node h1 h2 h3; exact leaf node (by omega) h2
  | succ m ih =>
    intro node h1 h2 h3 x hx ha hne
    by_cases h : keys.length ≤ node
    · exact leaf node h h2 x hx ha hne
    · have a := ih (2 * node) (by omega) (by omega) (by omega)
      have b := ih (2 * node + 1) (by omega) (by omega) (by omega)
      have ka := (vL keys (2 * node) (by omega) (by omega)).1
      have kb := (vL keys (2 * node + 1) (by omega) (by omega)).1
      obtain ⟨c, c1, c2⟩ := ha.child (by omega)
      have hn := wN keys node h1 (by omega)
      have dis : (nd keys (2 * node)).1 ≠ (nd keys (2 * node + 1)).1 := fun e => by
        have q1 := qS keys (2 * node) (by omega) (by omega)
        have q2 := qS keys (2 * node + 1) (by omega) (by omega)
        rw [e] at q1
        exact bD.one h1 q1 q2
      have uB := eW keys _ _ ka kb dis
      have side : c = 2 * node ∨ c = 2 * node + 1 := by omega
      cases hlt : lt keys (nd keys (2 * node)).1 (nd keys (2 * node + 1)).1 with
      | true =>
        rw [hlt] at hn uB
        simp only [↓reduceIte] at hn
        rw [hn] at hne ⊢
        rcases side with rfl | rfl
        · exact a x hx c1 hne
        · by_cases e : x = (nd keys (2 * node + 1)).1
          · subst e; exact hlt
          · exact lt_trans keys _ _ _ ka kb hx hlt (b x hx c1 e)
      | false =>
        rw [hlt] at hn uB
        simp only [Bool.false_eq_true, ↓reduceIte] at hn
        simp only [Bool.not_false] at uB
        rw [hn] at hne ⊢
        rcases side with rfl | rfl
        · by_cases e : x = (nd keys (2 * node)).1
          · subst e; exact uB
          · exact lt_trans keys _ _ _ kb ka hx uB (a x hx c1 e)
        · exact b x hx c1 hne
theorem fX (l : List aA) (a : Nat) : (lF l a).Done = decide (l.length ≤ a) := by
  unfold lF
  by_cases h : a < l.length
  · simp [h]
  · simp [h]; omega
theorem pP (l : List aA) (a : Nat) (h : a < l.length) : lF l a = ⟨l[a].Key, false⟩ := by simp [lF, h]
def sN (keys : List cA) (n : Nat) (b : Int) : Prop :=
  (b = -1 ∧ ∀ j (h : j < keys.length), j < n → keys[j].Done = true) ∨
  ∃ w : Nat, ∃ hw : w < keys.length, b = (w : Int) ∧ w < n ∧ keys[w].Done = false ∧ ∀ j, j < n → j < keys.length → j ≠ w → lt keys w j = true
theorem zbf (keys : List cA) (p q : Nat) (hp : p < keys.length) (hq : q < keys.length) (h1 : keys[p].Done = false) (h2 : keys[q].Done = true) : lt keys p q = true := by
  simp only [lt, List.getElem?_eq_getElem hp, List.getElem?_eq_getElem hq, h1, h2]; rfl
theorem zhT (keys : List cA) (n : Nat) (b : Int) (hn : n < keys.length) (h : sN keys n b) (hd : keys[n].Done = true) : sN keys (n + 1) b := by
  rcases h with ⟨e, h⟩ | ⟨w, hw, e, h1, h2, h3⟩
  · refine .inl ⟨e, fun j hj hn' => ?_⟩
    by_cases q : j = n
    · subst q; exact hd
    · exact h j hj (by omega)
  · refine .inr ⟨w, hw, e, by omega, h2, fun j hj hl hne => ?_⟩
    by_cases q : j = n
    · subst q; exact zbf keys w j hw hl h2 hd
    · exact h3 j (by omega) hl hne
theorem zhX (keys : List cA) (n : Nat) (hn : n < keys.length) (h : sN keys n (-1)) (hd : keys[n].Done = false) : sN keys (n + 1) (n : Int) := by
  rcases h with ⟨e, h⟩ | ⟨w, hw, e, _⟩
  · refine .inr ⟨n, hn, rfl, by omega, hd, fun j hj hl hne => ?_⟩
    exact zbf keys n j hn hl hd (h j hl (by omega))
  · omega
theorem zbB (keys : List cA) (p q : Nat) (hp : p < keys.length) (hq : q < keys.length) (h1 : keys[p].Done = false) (h2 : keys[q].Done = false) :
    lt keys p q = if keys[p].Key = keys[q].Key then decide (p < q) else bl keys[p].Key keys[q].Key := by
  simp only [lt, List.getElem?_eq_getElem hp, List.getElem?_eq_getElem hq, h1, h2]
  by_cases e : keys[p].Key = keys[q].Key <;> simp [e]
theorem zlb (keys : List cA) (n w : Nat) (hn : n < keys.length) (hw : w < keys.length) (h : sN keys n (w : Int)) (hd : keys[n].Done = false) :
    sN keys (n + 1) (if bl keys[n].Key keys[w].Key = true then (n : Int) else (w : Int)) := by
  rcases h with ⟨e, _⟩ | ⟨w', hw', e, h1, h2, h3⟩
  · omega
  · obtain rfl : w' = w := by omega
    have k := zbB keys n w' hn hw hd h2
    have k' := zbB keys w' n hw hn h2 hd
    by_cases b : bl keys[n].Key keys[w'].Key = true
    · rw [if_pos b]
      have ne : ¬ keys[n].Key = keys[w'].Key := fun e => by rw [e, pG] at b; cases b
      rw [if_neg ne, b] at k
      refine .inr ⟨n, hn, rfl, by omega, hd, fun j hj hl hne => ?_⟩
      by_cases q : j = w'
      · subst q; exact k
      · exact lt_trans keys n w' j hn hw hl k (h3 j (by omega) hl q)
    · rw [if_neg b]
      refine .inr ⟨w', hw, rfl, by omega, h2, fun j hj hl hne => ?_⟩
      by_cases q : j = n
      · subst q
        rw [k']
        by_cases e2 : keys[w'].Key = keys[j].Key
        · rw [if_pos e2]; exact decide_eq_true (by omega)
        · rw [if_neg e2]
          rcases wQ keys[w'].Key keys[j].Key with h | h | h
          · exact h
          · exact absurd h e2
          · exact absurd h b
      · exact h3 j (by omega) hl hne
theorem ze9 (runs : List (List aA)) (a : List Nat) (ha : At runs a) (hl : runs.length ≤ 1000000) (m : Nat) : ∀ (n : Nat) (b : Int), n + m = runs.length → sN (sB runs a) n b →
    ∃ r, Ev (fun fu => wJ runs (pB a) fu b (n : Int)) r ∧ sN (sB runs a) runs.length r := by
  induction m with
  | zero =>
    intro n b hn hb
    obtain rfl : n = runs.length := by omega
    refine ⟨b, Ev.succ (Ev.of (fun fu => ?_) (Ev.ret _)), hb⟩
    simp [wJ]
  | succ m ih =>
    intro n b hn hb
    have hnl : n < runs.length := by omega
    have hna : n < a.length := by rw [ha.1]; exact hnl
    have hk : n < (sB runs a).length := by rw [vD]; exact hnl
    have w1 : IntKind.i64.wrap ((n : Int) + 1) = ((n + 1 : Nat) : Int) := by rw [wr (by omega) (by omega)]; rfl
    have d : decide ((n : Int) < (runs.length : Int)) = true := decide_eq_true (by omega)
    have kg := tR runs a n hk hnl hna
    by_cases q : a[n] < runs[n].length
    · have d2 : decide (((a[n] : Nat) : Int) < (runs[n].length : Int)) = true := decide_eq_true (by omega)
      have hd : ((sB runs a)[n]).Done = false := by rw [kg, pP _ _ q]
      by_cases hneg : b = -1
      · subst hneg
        obtain ⟨r, r1, r2⟩ := ih (n + 1) n (by omega) (zhX _ n hk hb hd)
        refine ⟨r, Ev.succ (Ev.of (fun fu => ?_) r1), r2⟩
        simp only [wJ, w1, d, ↓reduceIte, gF a n hna, xA runs n hnl, Option.bind_some, d2]
        rfl
      · obtain ⟨w, hw, rfl, h1, h2, h3⟩ : ∃ w : Nat, ∃ hw : w < (sB runs a).length, b = (w : Int) ∧ w < n ∧ (sB runs a)[w].Done = false ∧ True := by
          rcases hb with ⟨e, _⟩ | ⟨w, hw, e, h1, h2, _⟩
          · exact absurd e hneg
          · exact ⟨w, hw, e, h1, h2, trivial⟩
        have hwl : w < runs.length := by rw [vD] at hw; exact hw
        have hwa : w < a.length := by rw [ha.1]; exact hwl
        have kw := tR runs a w hw hwl hwa
        have qw : a[w] < runs[w].length := by
          rw [kw, fX] at h2
          have := of_decide_eq_false h2
          omega
        have nx := zlb _ n w hk hw hb hd
        have e1 : (sB runs a)[n].Key = runs[n][a[n]].Key := by rw [kg, pP _ _ q]
        have e2 : (sB runs a)[w].Key = runs[w][a[w]].Key := by rw [kw, pP _ _ qw]
        rw [e1, e2] at nx
        have dn : decide ((w : Int) < 0) = false := decide_eq_false (by omega)
        obtain ⟨r, r1, r2⟩ := ih (n + 1) _ (by omega) nx
        refine ⟨r, Ev.succ (Ev.of (fun fu => ?_) r1), r2⟩
        simp only [wJ, w1, d, ↓reduceIte, gF a n hna, xA runs n hnl, gF a w hwa, xA runs w hwl, xA runs[n] a[n] q, xA runs[w] a[w] qw, Option.bind_some, d2, dn, Bool.false_eq_true, bl]
        split <;> rfl
    · have d2 : decide (((a[n] : Nat) : Int) < (runs[n].length : Int)) = false := decide_eq_false (by omega)
      have hd : ((sB runs a)[n]).Done = true := by rw [kg, fX]; exact decide_eq_true (by omega)
      obtain ⟨r, r1, r2⟩ := ih (n + 1) b (by omega) (zhT _ n b hk hb hd)
      refine ⟨r, Ev.succ (Ev.of (fun fu => ?_) r1), r2⟩
      simp only [wJ, w1, d, ↓reduceIte, gF a n hna, xA runs n hnl, Option.bind_some, d2]
      rfl
theorem ziu (x : Nat) (h : 1 ≤ x) : bD x 1 := by
  induction x using Nat.strongRecOn with
  | _ x ih =>
    by_cases e : x = 1
    · subst e; exact .refl 1
    · obtain ⟨d, hd⟩ := ih (x / 2) (by omega) (by omega)
      exact ⟨d + 1, by rw [Nat.pow_succ, Nat.mul_comm, ← Nat.div_div_eq_div_mul]; exact hd⟩
theorem sZ (keys : List cA) (x : Nat) (hx : x < keys.length) (h : x ≠ cD keys) : lt keys (cD keys) x = true :=
  zkI keys _ 1 (Nat.le_refl 1) (by omega) (Nat.le_refl _) x hx (ziu _ (by omega)) h
theorem zlC (keys : List cA) (h0 : 0 < keys.length) (b : Int) (h : sN keys keys.length b) : b = if (keys[cD keys]'(uF keys h0)).Done then -1 else (cD keys : Int) := by
  have hw := uF keys h0
  rcases h with ⟨e, h⟩ | ⟨w, hw', e, h1, h2, h3⟩
  · rw [h _ hw hw]; exact e
  · by_cases q : w = cD keys
    · subst q; rw [h2]; exact e
    · have a := sZ keys w hw' q
      have b' := h3 _ hw hw (Ne.symm q)
      have t := eW keys w (cD keys) hw' hw q
      rw [a, b'] at t; cases t
def wn (runs : List (List aA)) (a : List Nat) : Nat := cD (sB runs a)
def eE (a : List Nat) (w : Nat) : List Nat := a.set w (a[w]?.getD 0 + 1)
theorem gQ (a : List Nat) (w : Nat) (h : w < a.length) : eE a w = a.set w (a[w] + 1) := by simp [eE, h]
theorem rP (a : List Nat) (w : Nat) : (eE a w).length = a.length := by simp [eE]
theorem wn_lt (runs : List (List aA)) (a : List Nat) (h0 : 0 < runs.length) : wn runs a < runs.length := by
  have := uF (sB runs a) (by rw [vD]; exact h0)
  rwa [vD] at this
inductive Turn (runs : List (List aA)) (a : List Nat) (h0 : 0 < runs.length) : Prop
  | fin (h : ((sB runs a)[cD (sB runs a)]'(uF _ (by rw [vD]; exact h0))).Done = true) (all : ∀ i (h1 : i < runs.length) (h2 : i < a.length), a[i] = runs[i].length)
  | go (hw : wn runs a < runs.length) (hwa : wn runs a < a.length) (hq : a[wn runs a] < runs[wn runs a].length)
      (h : ((sB runs a)[cD (sB runs a)]'(uF _ (by rw [vD]; exact h0))) = ⟨runs[wn runs a][a[wn runs a]].Key, false⟩)
theorem gL (runs : List (List aA)) (a : List Nat) (ha : At runs a) (h0 : 0 < runs.length) : Turn runs a h0 := by
  have hw := wn_lt runs a h0
  have hwa : wn runs a < a.length := by rw [ha.1]; exact hw
  have hk := uF (sB runs a) (by rw [vD]; exact h0)
  have kg : (sB runs a)[cD (sB runs a)] = lF runs[wn runs a] a[wn runs a] := tR runs a (wn runs a) hk hw hwa
  by_cases q : a[wn runs a] < runs[wn runs a].length
  · exact .go hw hwa q (by rw [kg, pP _ _ q])
  · have hd : (sB runs a)[cD (sB runs a)].Done = true := by rw [kg, fX]; exact decide_eq_true (by omega)
    refine .fin hd fun i h1 h2 => ?_
    have hle := ha.2 i h1 h2
    by_cases e : i = wn runs a
    · subst e; omega
    · have hik : i < (sB runs a).length := by rw [vD]; exact h1
      have l := sZ (sB runs a) i hik e
      by_cases hlt : a[i] < runs[i].length
      · have d2 : ((sB runs a)[i]).Done = false := by rw [tR runs a i hik h1 h2, pP _ _ hlt]
        have := zbf (sB runs a) i (cD (sB runs a)) hik hk d2 hd
        have t := eW (sB runs a) i (cD (sB runs a)) hik hk e
        rw [l, this] at t; cases t
      · omega
theorem zmJ (runs : List (List aA)) (a : List Nat) (w : Nat) (h1 : w < runs.length) (h2 : w < a.length) : sB runs (eE a w) = (sB runs a).set w (lF runs[w] (a[w] + 1)) := by
  refine List.ext_getElem (by simp [vD]) fun j k1 k2 => ?_
  rw [vD] at k1
  rw [List.getElem_set]
  simp only [sB, List.getElem_map, List.getElem_range, eE]
  split
  · rename_i e; subst e; simp [h1, h2]
  · rename_i e; simp [e]
theorem uW (runs : List (List aA)) (a : List Nat) (w : Nat) (ha : At runs a) (h1 : w < runs.length) (h2 : w < a.length) (h : a[w] < runs[w].length) : At runs (eE a w) := by
  refine ⟨by rw [rP]; exact ha.1, fun i k1 k2 => ?_⟩
  simp only [gQ a w h2, List.getElem_set]
  split
  · rename_i e; subst e; omega
  · exact ha.2 i k1 (by rw [rP] at k2; exact k2)
theorem zdJ (runs : List (List aA)) (a : List Nat) (h0 : 0 < runs.length) (hl : runs.length ≤ 32)
    (h : ((sB runs a)[cD (sB runs a)]'(uF _ (by rw [vD]; exact h0))).Done = true) (t : cB) (ht : t = yC (sB runs a)) (x : List Int) :
    Ev (fun fu => aL fu runs x t.Keys t.Lose t.Win) (⟨[], [], false, 0⟩, 0, 12) := by
  subst ht
  unfold aL
  have := za6 (sB runs a) (sT runs a) (by rw [vD]; exact h0) (by rw [vD]; exact hl)
  rw [if_pos h] at this
  exact Ev.bind this (Ev.ret _)
theorem zcT (runs : List (List aA)) (a : List Nat) (h0 : 0 < runs.length) (hl : runs.length ≤ 32) (hw : wn runs a < runs.length) (hwa : wn runs a < a.length) (hq : a[wn runs a] < runs[wn runs a].length)
    (h : ((sB runs a)[cD (sB runs a)]'(uF _ (by rw [vD]; exact h0))) = ⟨runs[wn runs a][a[wn runs a]].Key, false⟩) (t : cB) (ht : t = yC (sB runs a)) :
    Ev (fun fu => aL fu runs (pB a) t.Keys t.Lose t.Win) (runs[wn runs a][a[wn runs a]], (wn runs a : Int), 0) := by
  subst ht
  unfold aL
  have := za6 (sB runs a) (sT runs a) (by rw [vD]; exact h0) (by rw [vD]; exact hl)
  rw [if_neg (by rw [h]; simp)] at this
  refine Ev.bind this (Ev.of (fun fu => ?_) (Ev.ret _))
  have e1 : ix runs ((cD (sB runs a) : Nat) : Int) = some runs[wn runs a] := xA runs _ hw
  have e2 : ix (pB a) ((cD (sB runs a) : Nat) : Int) = some ((a[wn runs a] : Nat) : Int) := gF a _ hwa
  simp only [decide_true, Bool.not_true, Bool.false_eq_true, ↓reduceIte, e1, e2, Option.bind_some, xA _ _ hq]
  rfl
theorem zdW (runs : List (List aA)) (a : List Nat) (hg : xC runs) (ha : At runs a) (hw : wn runs a < runs.length) (hwa : wn runs a < a.length) (hq : a[wn runs a] < runs[wn runs a].length)
    (h : ((sB runs a)[cD (sB runs a)]'(uF _ (by rw [vD]; exact hg.1))) = ⟨runs[wn runs a][a[wn runs a]].Key, false⟩) (t : cB) (ht : t = yC (sB runs a)) :
    ∃ g, Ev (fun fu => eM fu t (lF runs[wn runs a] (a[wn runs a] + 1))) (yC (sB runs (eE a (wn runs a))), g, 0) := by
  subst ht
  have hk := uF (sB runs a) (by rw [vD]; exact hg.1)
  obtain ⟨g, e⟩ := zne (sB runs a) (sT runs a) (by rw [vD]; exact hg.1) (by rw [vD]; exact hg.2.1) (by rw [h]) (lF runs[wn runs a] (a[wn runs a] + 1)) (zdB _ _) (by
    intro hd
    rw [h, fX] at *
    have hlt : a[wn runs a] + 1 < runs[wn runs a].length := by have := of_decide_eq_false hd; omega
    rw [pP _ _ hlt]
    have := ((hg.2.2 _ (List.getElem_mem hw)).2 (a[wn runs a] + 1) hlt).2 (by omega)
    exact eK this)
  refine ⟨g, ?_⟩
  have q : (sB runs a).set (cD (sB runs a)) (lF runs[wn runs a] (a[wn runs a] + 1)) = sB runs (eE a (wn runs a)) := (zmJ runs a (wn runs a) hw hwa).symm
  rw [q] at e
  exact e
def zA (runs : List (List aA)) (a : List Nat) : Nat := (List.zipWith (fun l n => l.length - n) runs a).sum
theorem eR : ∀ (runs : List (List aA)) (a : List Nat) (w : Nat) (h1 : w < runs.length) (h2 : w < a.length), a[w] < runs[w].length → zA runs (eE a w) + 1 = zA runs a
  | l :: runs, n :: a, 0, _, _, h => by
    simp only [List.getElem_cons_zero] at h
    simp [zA, eE]; omega
  | l :: runs, n :: a, w + 1, h1, h2, h => by
    have := eR runs a w (by simpa using h1) (by simpa using h2) (by simpa using h)
    simp [zA, eE] at this ⊢; omega
theorem uS : ∀ (runs : List (List aA)) (a : List Nat), (∀ i (h1 : i < runs.length) (h2 : i < a.length), a[i] = runs[i].length) → zA runs a = 0
  | [], a, _ => by simp [zA]
  | _ :: _, [], _ => by simp [zA]
  | l :: runs, n :: a, h => by
    have h0 := h 0 (by simp) (by simp)
    have := uS runs a fun i h1 h2 => by have := h (i + 1) (by simp; omega) (by simp; omega); simpa using this
    simp [zA] at this h0 ⊢
    exact ⟨by omega, this⟩
theorem zeC : ∀ (runs : List (List aA)) (a : List Nat) (c : Nat), (∀ l ∈ runs, l.length ≤ c) → zA runs a ≤ runs.length * c
  | [], a, c, _ => by simp [zA]
  | _ :: _, [], c, _ => by simp [zA]
  | l :: runs, n :: a, c, h => by
    have h0 := h l (by simp)
    have := zeC runs a c fun l hl => h l (by simp [hl])
    simp [zA, Nat.add_mul] at this ⊢
    omega
def cG (runs : List (List aA)) : Nat → List Nat → List (aA × Nat)
  | 0, _ => []
  | n + 1, a => ((runs[wn runs a]?.getD [])[a[wn runs a]?.getD 0]?.getD ⟨[], [], false, 0⟩, wn runs a) :: cG runs n (eE a (wn runs a))
def kN (l : List (aA × Nat)) : List aA := l.map (·.1)
def hP (l : List (aA × Nat)) : List Int := l.map fun x => (x.2 : Int)
theorem mW (a : List Nat) (w : Nat) (n : Nat) : (pB a).set w ((n : Nat) : Int) = pB (a.set w n) := by simp [pB, List.map_set]
def yH (runs : List (List aA)) : Nat → List Nat → List Nat
  | 0, a => a
  | n + 1, a => yH runs n (eE a (wn runs a))
theorem zbL (runs : List (List aA)) (hg : xC runs) (s : gB × Int × Int) (hs : s.1.Runs = runs) (m : Nat) : ∀ (a : List Nat) (t : cB) (l : List aA) (from' : List Int),
    At runs a → t = yC (sB runs a) → zA runs a = m → l.length + m ≤ 200000 → from'.length = l.length →
    Ev (fun fu => jI s fu (pB a) t.Keys t.Lose t.Win l from') (pB (yH runs m a), (yC (sB runs (yH runs m a))).Keys, (yC (sB runs (yH runs m a))).Lose, (yC (sB runs (yH runs m a))).Win, l ++ kN (cG runs m a), from' ++ hP (cG runs m a)) := by
  have h0 := hg.1
  have h32 := hg.2.1
  induction m with
  | zero =>
    intro a t l from' ha ht hr hm hfl
    rcases gL runs a ha h0 with ⟨hd, hall⟩ | ⟨hw, hwa, hq, hk⟩
    · refine Ev.succ ?_
      simp only [jI, hs]
      refine Ev.bind (zdJ runs a h0 h32 hd t ht (pB a)) ?_
      simp only [show (decide ((12 : Int) = 0)) = false from rfl, Bool.not_false, ↓reduceIte, yH, cG, kN, hP, List.map_nil, List.append_nil]
      rw [ht]
      exact Ev.ret _
    · have := eR runs a _ hw hwa hq
      omega
  | succ m ih =>
    intro a t l from' ha ht hr hm hfl
    rcases gL runs a ha h0 with ⟨hd, hall⟩ | ⟨hw, hwa, hq, hk⟩
    · rw [uS runs a hall] at hr; omega
    · refine Ev.succ ?_
      simp only [jI, hs]
      refine Ev.bind (zcT runs a h0 h32 hw hwa hq hk t ht) ?_
      have hle : runs[wn runs a].length ≤ 5000 := (hg.2.2 _ (List.getElem_mem hw)).1
      have w1 : IntKind.i64.wrap (((a[wn runs a] : Nat) : Int) + 1) = ((a[wn runs a] + 1 : Nat) : Int) := by rw [wr (by omega) (by omega)]; rfl
      have g1 : 2 * ((l.length + 1) * 48) ≤ 281474976710656 := by omega
      have g2 : 2 * ((from'.length + 1) * 8) ≤ 281474976710656 := by omega
      have hs' : (pB a).set (wn runs a) ((a[wn runs a] + 1 : Nat) : Int) = pB (eE a (wn runs a)) := by rw [mW, gQ a _ hwa]
      have hix : ix (pB (eE a (wn runs a))) ((wn runs a : Nat) : Int) = some ((a[wn runs a] + 1 : Nat) : Int) := by
        rw [gF _ _ (by rw [rP]; exact hwa)]; simp [gQ a _ hwa]
      simp only [show (decide ((0 : Int) = 0)) = true from rfl, Bool.not_true, Bool.false_eq_true, ↓reduceIte, if_pos g1, if_pos g2, gF a _ hwa, xA runs _ hw, Option.bind_some, Int.toNat_natCast, w1, hs', hix]
      have hnx : ∀ fu, bK fu runs[wn runs a] ((a[wn runs a] + 1 : Nat) : Int) = some (lF runs[wn runs a] (a[wn runs a] + 1)) := fun fu => za7 fu _ _ (by omega)
      simp only [hnx, Option.bind_some]
      obtain ⟨g, hrd⟩ := zdW runs a hg ha hw hwa hq hk t ht
      have hrs := eR runs a _ hw hwa hq
      have hrec := ih (eE a (wn runs a)) (yC (sB runs (eE a (wn runs a)))) (l ++ [runs[wn runs a][a[wn runs a]]]) (from' ++ [(wn runs a : Int)]) (uW runs a _ ha hw hwa hq) rfl (by omega) (by simp; omega) (by simp [hfl])
      have ht2 : (⟨t.Keys, t.Lose, t.Win⟩ : cB) = t := rfl
      simp only [ht2]
      refine Ev.bind hrd ?_
      have ho : cG runs (m + 1) a = (runs[wn runs a][a[wn runs a]], wn runs a) :: cG runs m (eE a (wn runs a)) := by
        simp only [cG, List.getElem?_eq_getElem hw, List.getElem?_eq_getElem hwa, Option.getD_some, List.getElem?_eq_getElem hq]
      have he : yH runs (m + 1) a = yH runs m (eE a (wn runs a)) := rfl
      rw [ho, he]
      simpa [kN, hP] using hrec
def pick {ρ : Type} (c : Nat → Option ρ) : Nat → Nat → Sum Unit ρ
  | 0, _ => .inl ()
  | m + 1, n => match c n with | some r => .inr r | none => pick c m (n + 1)
theorem Ev.loop {ρ : Type} {L : Nat → Int → Option (Sum Unit ρ)} {len : Nat} (c : Nat → Option ρ) (stop : Ev (fun fu => L fu (len : Int)) (.inl ()))
    (step : ∀ n, n < len → (∀ r, c n = some r → Ev (fun fu => L fu (n : Int)) (.inr r)) ∧ (c n = none → ∀ r, Ev (fun fu => L fu ((n + 1 : Nat) : Int)) r → Ev (fun fu => L fu (n : Int)) r)) (m : Nat) :
    ∀ n, n + m = len → Ev (fun fu => L fu (n : Int)) (pick c m n) := by
  induction m with
  | zero => intro n hn; obtain rfl : n = len := by omega
            exact stop
  | succ m ih =>
    intro n hn
    obtain ⟨s1, s2⟩ := step n (by omega)
    simp only [pick]
    cases h : c n with
    | some r => exact s1 r h
    | none => exact s2 h _ (ih (n + 1) (by omega))
theorem wX {ρ : Type} {c : Nat → Option ρ} {m n : Nat} {u : Unit} (h : pick c m n = .inl u) : ∀ i, n ≤ i → i < n + m → c i = none := by
  induction m generalizing n with
  | zero => intro i h1 h2; omega
  | succ m ih =>
    intro i h1 h2
    simp only [pick] at h
    cases hc : c n with
    | some r => rw [hc] at h; cases h
    | none =>
      rw [hc] at h
      by_cases e : i = n
      · subst e; exact hc
      · exact ih h i (by omega) (by omega)
theorem zme {ρ : Type} {c : Nat → Option ρ} {m n : Nat} (h : ∀ i, n ≤ i → i < n + m → c i = none) : pick c m n = .inl () := by
  induction m generalizing n with
  | zero => rfl
  | succ m ih => simp only [pick, h n (by omega) (by omega)]; exact ih fun i h1 h2 => h i (by omega) (by omega)
theorem sX {ρ : Type} {c : Nat → Option ρ} {m n : Nat} {r : ρ} (h : pick c m n = .inr r) : ∃ i, n ≤ i ∧ i < n + m ∧ c i = some r := by
  induction m generalizing n with
  | zero => cases h
  | succ m ih =>
    simp only [pick] at h
    cases hc : c n with
    | some r' => rw [hc] at h; cases h; exact ⟨n, by omega, by omega, hc⟩
    | none =>
      rw [hc] at h
      obtain ⟨i, h1, h2, h3⟩ := ih h
      exact ⟨i, by omega, by omega, h3⟩
theorem qC (n : Nat) (h : n < 9223372036854775807) : IntKind.i64.wrap ((n : Int) + 1) = ((n + 1 : Nat) : Int) := by rw [wr (by omega) (by omega)]; rfl
theorem oW (x y : aA) : aA.eqb x y = decide (x = y) := by
  obtain ⟨a, b, c, d⟩ := x
  obtain ⟨a', b', c', d'⟩ := y
  by_cases h1 : a = a' <;> by_cases h2 : b = b' <;> by_cases h3 : c = c' <;> by_cases h4 : d = d' <;> simp [aA.eqb, h1, h2, h3, h4]
theorem zcW (x y : cA) : cA.eqb x y = decide (x = y) := by
  obtain ⟨a, b⟩ := x
  obtain ⟨a', b'⟩ := y
  by_cases h1 : a = a' <;> by_cases h2 : b = b' <;> simp [cA.eqb, h1, h2]
theorem Ev.eqs {α ρ : Type} [DecidableEq α] (bad : ρ) (l k : List α) (h : l.length = k.length) {L : Nat → Int → Option (Sum Unit ρ)}
    (stop : ∀ fu, L (fu + 1) (l.length : Int) = some (.inl ())) (step : ∀ fu n (h1 : n < l.length) (h2 : n < k.length), L (fu + 1) (n : Int) = if l[n] = k[n] then L fu ((n + 1 : Nat) : Int) else some (.inr bad)) :
    ∃ r, Ev (fun fu => L fu 0) r ∧ ((r = .inl () ∧ l = k) ∨ (r = .inr bad ∧ l ≠ k)) := by
  have lp := Ev.loop (L := L) (len := l.length) (fun i => if l[i]? = k[i]? then none else some bad)
    (Ev.succ (Ev.of stop (Ev.ret _))) (fun n hn => by
      have hk : n < k.length := by omega
      simp only [List.getElem?_eq_getElem hn, List.getElem?_eq_getElem hk, Option.some.injEq]
      refine ⟨fun r hr => Ev.succ (Ev.of (fun fu => step fu n hn hk) ?_), fun hr r q => Ev.succ (Ev.of (fun fu => step fu n hn hk) ?_)⟩
      · by_cases e : l[n] = k[n]
        · rw [if_pos e] at hr; cases hr
        · rw [if_neg e] at hr; cases hr; simp only [if_neg e]; exact Ev.ret _
      · by_cases e : l[n] = k[n]
        · simp only [if_pos e]; exact q
        · rw [if_neg e] at hr; cases hr) l.length 0 (by omega)
  cases hp : pick (fun i => if l[i]? = k[i]? then none else some bad) l.length 0 with
  | inl u =>
    rw [hp] at lp
    refine ⟨_, lp, .inl ⟨rfl, List.ext_getElem h fun i h1 h2 => ?_⟩⟩
    have := wX hp i (by omega) (by omega)
    simp only [List.getElem?_eq_getElem h1, List.getElem?_eq_getElem h2, Option.some.injEq] at this
    by_cases e : l[i] = k[i]
    · exact e
    · rw [if_neg e] at this; cases this
  | inr r =>
    rw [hp] at lp
    obtain ⟨i, h1, h2, h3⟩ := sX hp
    by_cases e : l[i]? = k[i]?
    · simp [e] at h3
    · simp [e] at h3
      subst h3
      exact ⟨_, lp, .inr ⟨rfl, fun e' => by subst e'; simp at e⟩⟩
theorem yZ (l k : List aA) (hl : l.length < 1000000000000000000) : ∃ b, Ev (fun fu => kS fu l k) b ∧ (b = true ↔ l = k) := by
  unfold kS
  by_cases h : l.length = k.length
  · have hd : (!decide ((l.length : Int) = (k.length : Int))) = false := by simp; omega
    simp only [hd, Bool.false_eq_true, ↓reduceIte]
    obtain ⟨r, r1, r2⟩ := Ev.eqs false l k h (L := pV l k) (fun fu => by simp [pV]) (fun fu n h1 h2 => by
      have d : decide ((n : Int) < (l.length : Int)) = true := decide_eq_true (by omega)
      simp only [pV, d, ↓reduceIte, xA l n h1, xA k n h2, Option.bind_some, oW, qC n (by omega)]
      by_cases e : l[n] = k[n] <;> simp [e])
    rcases r2 with ⟨rfl, e⟩ | ⟨rfl, e⟩
    · exact ⟨true, Ev.bind r1 (Ev.ret _), by simp [e]⟩
    · exact ⟨false, Ev.bind r1 (Ev.ret _), by simp [e]⟩
  · have hd : (!decide ((l.length : Int) = (k.length : Int))) = true := by simp; omega
    simp only [hd, ↓reduceIte]
    exact ⟨false, Ev.ret _, by simp; intro e; exact h (by rw [e])⟩
theorem zbF (l k : List Int) (hl : l.length < 1000000000000000000) : ∃ b, Ev (fun fu => qY fu l k) b ∧ (b = true ↔ l = k) := by
  unfold qY
  by_cases h : l.length = k.length
  · have hd : (!decide ((l.length : Int) = (k.length : Int))) = false := by simp; omega
    simp only [hd, Bool.false_eq_true, ↓reduceIte]
    obtain ⟨r, r1, r2⟩ := Ev.eqs false l k h (L := bV l k) (fun fu => by simp [bV]) (fun fu n h1 h2 => by
      have d : decide ((n : Int) < (l.length : Int)) = true := decide_eq_true (by omega)
      simp only [bV, d, ↓reduceIte, xA l n h1, xA k n h2, Option.bind_some, qC n (by omega)]
      by_cases e : l[n] = k[n] <;> simp [e])
    rcases r2 with ⟨rfl, e⟩ | ⟨rfl, e⟩
    · exact ⟨true, Ev.bind r1 (Ev.ret _), by simp [e]⟩
    · exact ⟨false, Ev.bind r1 (Ev.ret _), by simp [e]⟩
  · have hd : (!decide ((l.length : Int) = (k.length : Int))) = true := by simp; omega
    simp only [hd, ↓reduceIte]
    exact ⟨false, Ev.ret _, by simp; intro e; exact h (by rw [e])⟩
theorem zhb (a b : cB) (hl : a.Keys.length < 1000000000000000000) (h : a.Keys.length = b.Keys.length) : ∃ r, Ev (fun fu => eT a b fu 0) r ∧ ((r = .inl () ∧ a.Keys = b.Keys) ∨ (r = .inr false ∧ a.Keys ≠ b.Keys)) :=
  Ev.eqs false a.Keys b.Keys h (L := eT a b) (fun fu => by simp [eT]) (fun fu n h1 h2 => by
    have d : decide ((n : Int) < (a.Keys.length : Int)) = true := decide_eq_true (by omega)
    simp only [eT, d, ↓reduceIte, xA a.Keys n h1, xA b.Keys n h2, Option.bind_some, zcW, qC n (by omega)]
    by_cases e : a.Keys[n] = b.Keys[n] <;> simp [e])
theorem zcR (a b : cB) (hl : a.Keys.length < 1000000000000000000) (hl2 : a.Lose.length < 1000000000000000000) : ∃ r, Ev (fun fu => jY fu a b) r ∧ (r = true ↔ a = b) := by
  obtain ⟨i, i1, i2⟩ := zbF a.Lose b.Lose hl2
  obtain ⟨ak, al, aw⟩ := a
  obtain ⟨bk, bl, bw⟩ := b
  simp only at *
  unfold jY
  by_cases h : ak.length = bk.length
  · have hd : (!decide ((ak.length : Int) = (bk.length : Int))) = false := by simp; omega
    by_cases hw : aw = bw
    · simp only [hd, hw, decide_true, Bool.not_true, Bool.false_eq_true, ↓reduceIte, Option.bind_some]
      cases i with
      | false =>
        refine ⟨false, Ev.bind (Ev.bind i1 (Ev.ret _)) (Ev.ret _), ?_⟩
        simp at i2
        simp; intro _ e; exact absurd e i2
      | true =>
        obtain ⟨r, r1, r2⟩ := zhb ⟨ak, al, aw⟩ ⟨bk, bl, bw⟩ hl h
        subst hw
        rcases r2 with ⟨rfl, e⟩ | ⟨rfl, e⟩
        · refine ⟨true, Ev.bind (a := false) (Ev.bind i1 (Ev.ret _)) (Ev.bind r1 (Ev.ret _)), ?_⟩
          simp at i2 e
          simp [i2, e]
        · refine ⟨false, Ev.bind (a := false) (Ev.bind i1 (Ev.ret _)) (Ev.bind r1 (Ev.ret _)), ?_⟩
          simp at e
          simp; intro e'; exact absurd e' e
    · refine ⟨false, Ev.of (fun fu => ?_) (Ev.ret _), by simp; intro _ _ e; exact absurd e hw⟩
      simp [hd, hw]
  · refine ⟨false, Ev.of (fun fu => ?_) (Ev.ret _), by simp; intro e; exact absurd (by rw [e]) h⟩
    have hd : (!decide ((ak.length : Int) = (bk.length : Int))) = true := by simp; omega
    simp [hd]
theorem zi1 (a b : gB) (hA : a.At.length < 1000000000000000000) (hR : a.Runs.length < 1000000000000000000) (hl : a.Tree.Keys.length < 1000000000000000000) (hl2 : a.Tree.Lose.length < 1000000000000000000)
    (hE : ∀ l ∈ a.Runs, l.length < 1000000000000000000) : ∃ r, Ev (fun fu => zat fu a b) r ∧ (r = true ↔ a = b) := by
  obtain ⟨i, i1, i2⟩ := zbF a.At b.At hA
  obtain ⟨j, j1, j2⟩ := zcR a.Tree b.Tree hl hl2
  obtain ⟨ar, aa, at'⟩ := a
  obtain ⟨br, ba, bt⟩ := b
  simp only at *
  unfold zat
  by_cases h : ar.length = br.length
  · have hd : (!decide ((ar.length : Int) = (br.length : Int))) = false := by simp; omega
    simp only [hd, Bool.false_eq_true, ↓reduceIte]
    cases i with
    | false =>
      refine ⟨false, Ev.bind (a := true) (Ev.bind i1 (Ev.ret _)) (Ev.bind (a := true) (Ev.ret _) (Ev.ret _)), ?_⟩
      simp at i2
      simp; intro _ e; exact absurd e i2
    | true =>
      cases j with
      | false =>
        refine ⟨false, Ev.bind (a := false) (Ev.bind i1 (Ev.ret _)) (Ev.bind (a := true) (Ev.bind j1 (Ev.ret _)) (Ev.ret _)), ?_⟩
        simp at j2
        simp; intro _ _ e; exact absurd e j2
      | true =>
        obtain ⟨r, r1, r2⟩ : ∃ r, Ev (fun fu => cQ ⟨ar, aa, at'⟩ ⟨br, ba, bt⟩ fu 0) r ∧ ((r = .inl () ∧ ar = br) ∨ (r = .inr false ∧ ar ≠ br)) := by
          have lp := Ev.loop (L := cQ ⟨ar, aa, at'⟩ ⟨br, ba, bt⟩) (len := ar.length) (fun i => if ar[i]? = br[i]? then none else some false)
            (Ev.succ (Ev.of (fun fu => by simp [cQ]) (Ev.ret _))) (fun n hn => by
              have hk : n < br.length := by omega
              have d : decide ((n : Int) < (ar.length : Int)) = true := decide_eq_true (by omega)
              obtain ⟨q, q1, q2⟩ := yZ ar[n] br[n] (hE _ (List.getElem_mem hn))
              have f : ∀ fu, cQ ⟨ar, aa, at'⟩ ⟨br, ba, bt⟩ (fu + 1) (n : Int) = (kS fu ar[n] br[n]).bind fun r => if r = true then cQ ⟨ar, aa, at'⟩ ⟨br, ba, bt⟩ fu ((n + 1 : Nat) : Int) else some (.inr false) := fun fu => by
                simp only [cQ, d, ↓reduceIte, xA ar n hn, xA br n hk, Option.bind_some, qC n (by omega)]
                congr 1; funext r; cases r <;> rfl
              simp only [List.getElem?_eq_getElem hn, List.getElem?_eq_getElem hk, Option.some.injEq]
              refine ⟨fun r hr => Ev.succ (Ev.of f (Ev.bind q1 ?_)), fun hr r q => Ev.succ (Ev.of f (Ev.bind q1 ?_))⟩
              · by_cases e : ar[n] = br[n]
                · rw [if_pos e] at hr; cases hr
                · rw [if_neg e] at hr; cases hr
                  simp only [if_neg (show ¬ q = true from fun z => e (q2.1 z))]; exact Ev.ret _
              · by_cases e : ar[n] = br[n]
                · simp only [if_pos (q2.2 e)]; exact q
                · rw [if_neg e] at hr; cases hr) ar.length 0 (by omega)
          cases hp : pick (fun i => if ar[i]? = br[i]? then none else some false) ar.length 0 with
          | inl u =>
            rw [hp] at lp
            refine ⟨_, lp, .inl ⟨rfl, List.ext_getElem h fun i h1 h2 => ?_⟩⟩
            have := wX hp i (by omega) (by omega)
            simp only [List.getElem?_eq_getElem h1, List.getElem?_eq_getElem h2, Option.some.injEq] at this
            by_cases e : ar[i] = br[i]
            · exact e
            · rw [if_neg e] at this; cases this
          | inr r =>
            rw [hp] at lp
            obtain ⟨i, h1, h2, h3⟩ := sX hp
            by_cases e : ar[i]? = br[i]?
            · simp [e] at h3
            · simp [e] at h3
              subst h3
              exact ⟨_, lp, .inr ⟨rfl, fun e' => by subst e'; simp at e⟩⟩
        simp at i2 j2
        rcases r2 with ⟨rfl, e⟩ | ⟨rfl, e⟩
        · exact ⟨true, Ev.bind (a := false) (Ev.bind i1 (Ev.ret _)) (Ev.bind (a := false) (Ev.bind j1 (Ev.ret _)) (Ev.bind r1 (Ev.ret _))), by simp [e, i2, j2]⟩
        · exact ⟨false, Ev.bind (a := false) (Ev.bind i1 (Ev.ret _)) (Ev.bind (a := false) (Ev.bind j1 (Ev.ret _)) (Ev.bind r1 (Ev.ret _))), by simp [e]⟩
  · refine ⟨false, Ev.of (fun fu => ?_) (Ev.ret _), by simp; intro e; exact absurd (by rw [e]) h⟩
    have hd : (!decide ((ar.length : Int) = (br.length : Int))) = true := by simp; omega
    simp [hd]
theorem zdf : @nR = @rI := by kernel_rfl
theorem hY (runs : List (List aA)) (a : List Nat) (ha : At runs a) (h0 : 0 < runs.length) (hl : runs.length ≤ 32) :
    Ev (fun fu => sR fu runs (pB a)) (if ((sB runs a)[cD (sB runs a)]'(uF _ (by rw [vD]; exact h0))).Done then -1 else (wn runs a : Int)) := by
  unfold sR
  obtain ⟨r, r1, r2⟩ := ze9 runs a ha (by omega) runs.length 0 (-1) (by omega) (.inl ⟨rfl, fun j h1 h2 => by omega⟩)
  have := zlC (sB runs a) (by rw [vD]; exact h0) r (by rw [vD]; exact r2)
  rw [this] at r1
  exact Ev.bind r1 (Ev.ret _)
theorem zjT (runs : List (List aA)) (hg : xC runs) (m : Nat) : ∀ (a : List Nat) (l : List aA) (from' : List Int),
    At runs a → zA runs a = m → l.length + m ≤ 200000 → from'.length = l.length →
    Ev (fun fu => sM runs fu (pB a) l from') (l ++ kN (cG runs m a), from' ++ hP (cG runs m a), 0) := by
  have h0 := hg.1
  have h32 := hg.2.1
  induction m with
  | zero =>
    intro a l from' ha hr hm hfl
    have hf := hY runs a ha h0 h32
    rcases gL runs a ha h0 with ⟨hd, hall⟩ | ⟨hw, hwa, hq, hk⟩
    · refine Ev.succ ?_
      rw [if_pos hd] at hf
      simp only [sM]
      refine Ev.bind hf ?_
      simp only [show (decide ((-1 : Int) < 0)) = true from rfl, ↓reduceIte, cG, kN, hP, List.map_nil, List.append_nil]
      exact Ev.ret _
    · have := eR runs a _ hw hwa hq
      omega
  | succ m ih =>
    intro a l from' ha hr hm hfl
    have hf := hY runs a ha h0 h32
    rcases gL runs a ha h0 with ⟨hd, hall⟩ | ⟨hw, hwa, hq, hk⟩
    · rw [uS runs a hall] at hr; omega
    · refine Ev.succ ?_
      rw [if_neg (by rw [hk]; simp)] at hf
      simp only [sM]
      refine Ev.bind hf ?_
      have hle : runs[wn runs a].length ≤ 5000 := (hg.2.2 _ (List.getElem_mem hw)).1
      have hs' : (pB a).set (wn runs a) ((a[wn runs a] + 1 : Nat) : Int) = pB (eE a (wn runs a)) := by rw [mW, gQ a _ hwa]
      have g1 : 2 * ((l.length + 1) * 48) ≤ 281474976710656 := by omega
      have g2 : 2 * ((from'.length + 1) * 8) ≤ 281474976710656 := by omega
      have hd : (decide (((wn runs a : Nat) : Int) < 0)) = false := decide_eq_false (by omega)
      simp only [hd, Bool.false_eq_true, ↓reduceIte, if_pos g1, if_pos g2, gF a _ hwa, xA runs _ hw, xA _ _ hq, Option.bind_some, Int.toNat_natCast, qC _ (show a[wn runs a] < 9223372036854775807 by omega), hs']
      have hrs := eR runs a _ hw hwa hq
      have hrec := ih (eE a (wn runs a)) (l ++ [runs[wn runs a][a[wn runs a]]]) (from' ++ [(wn runs a : Int)]) (uW runs a _ ha hw hwa hq) (by omega) (by simp; omega) (by simp [hfl])
      have ho : cG runs (m + 1) a = (runs[wn runs a][a[wn runs a]], wn runs a) :: cG runs m (eE a (wn runs a)) := by
        simp only [cG, List.getElem?_eq_getElem hw, List.getElem?_eq_getElem hwa, Option.getD_some, List.getElem?_eq_getElem hq]
      rw [ho]
      simpa [kN, hP] using hrec
theorem zcZ (runs : List (List aA)) (hg : xC runs) (a : List Nat) : zA runs a ≤ 160000 := by
  have := zeC runs a 5000 fun l hl => (hg.2.2 l hl).1
  have := Nat.mul_le_mul_right 5000 hg.2.1
  omega
theorem all_ev (runs : List (List aA)) (hf : vE runs) (hl : runs.length ≤ 1000) :
    ∃ r, Ev (fun fu => qL fu runs) r ∧ Ev (fun fu => bP fu runs) r ∧
      ((xC runs ∧ r = (kN (cG runs (zA runs (bE runs)) (bE runs)), hP (cG runs (zA runs (bE runs)) (bE runs)), 0)) ∨ (r.1 = [] ∧ r.2.1 = [] ∧ r.2.2 ≠ 0)) := by
  obtain ⟨b, b1, b2, b3⟩ := yY runs hf hl
  obtain ⟨c, c1, c2, c3⟩ := gW runs hf hl
  unfold qL bP
  rw [zdf]
  rcases b3 with ⟨hg, rfl⟩ | ⟨hb, hb2⟩
  · have hg3 : (0 : Int) ≤ (runs.length : Int) ∧ (runs.length : Int) ≤ (runs.length : Int) ∧ (runs.length : Int) ≤ 9223372036854775807 ∧ 8 * (runs.length : Int) ≤ 281474976710656 := by have := hg.2.1; omega
    have hr := zcZ runs hg (bE runs)
    refine ⟨_, ?_, ?_, .inl ⟨hg, rfl⟩⟩
    · refine Ev.bind b1 ?_
      simp only [decide_true, Bool.not_true, Bool.false_eq_true, ↓reduceIte]
      exact Ev.bind (zbL runs hg (jC runs (bE runs), 0, 0) rfl _ (bE runs) _ [] [] (wM runs) rfl rfl (by simp; omega) rfl) (Ev.of (fun fu => by simp) (Ev.ret _))
    · have hc : c = (0, 0) := by
        rcases c3 with ⟨e, _⟩ | e
        · exact e
        · exfalso
          have : Ev (fun fu => rI fu runs) (vU, c.1, c.2) := by
            unfold rI
            refine Ev.bind c1 (Ev.of (fun fu => ?_) (Ev.ret _))
            simp only [decide_eq_false e, Bool.not_false, ↓reduceIte]; rfl
          have := Ev.uniq this b1
          simp only [Prod.mk.injEq] at this
          exact e this.2.2
      subst hc
      refine Ev.bind c2 ?_
      simp only [decide_true, Bool.not_true, Bool.false_eq_true, ↓reduceIte, if_pos hg3]
      rw [aU]
      exact Ev.bind (zjT runs hg _ (bE runs) [] [] (wM runs) rfl (by simp; omega) rfl) (Ev.of (fun fu => by simp) (Ev.ret _))
  · have hc : c.2 ≠ 0 := by
      intro e
      rcases c3 with ⟨e', hg⟩ | e'
      · obtain ⟨b', b1', -, b3'⟩ := yY runs hf hl
        have g3 : (0 : Int) ≤ (runs.length : Int) ∧ (runs.length : Int) ≤ (runs.length : Int) ∧ (runs.length : Int) ≤ 9223372036854775807 ∧ 8 * (runs.length : Int) ≤ 281474976710656 := by have := hg.2.1; omega
        have : Ev (fun fu => xO fu runs) (jC runs (bE runs), 0, 0) := by
          unfold xO
          subst e'
          refine Ev.bind c2 ?_
          simp only [decide_true, Bool.not_true, Bool.false_eq_true, ↓reduceIte, if_pos g3]
          rw [aU]
          exact Ev.bind (gV runs _ (wM runs) hg.1 hg.2.1) (Ev.ret _)
        have := Ev.uniq this b2
        rw [← this] at hb2
        simp at hb2
      · exact e' e
    refine ⟨([], [], b.2.2), ?_, ?_, .inr ⟨rfl, rfl, hb2⟩⟩
    · refine Ev.bind b1 ?_
      simp only [decide_eq_false hb2, Bool.not_false, ↓reduceIte]
      exact Ev.ret _
    · refine Ev.bind c2 ?_
      have : c.2 = b.2.2 := by
        have : Ev (fun fu => rI fu runs) (vU, c.1, c.2) := by
          unfold rI
          refine Ev.bind c1 (Ev.of (fun fu => ?_) (Ev.ret _))
          simp only [decide_eq_false hc, Bool.not_false, ↓reduceIte]; rfl
        have := Ev.uniq this b1
        rw [← this]
      rw [this]
      simp only [decide_eq_false hb2, Bool.not_false, ↓reduceIte]
      exact Ev.ret _
def xL (runs : List (List aA)) : Prop := runs.length ≤ 34 ∧ (∀ l ∈ runs, l.length ≤ 6000) ∧ ∀ l ∈ runs, ∀ e ∈ l, e.Key.length ≤ 200
theorem xL.fits {runs : List (List aA)} (h : xL runs) : vE runs := fun l hl e he => Nat.le_trans (h.2.2 l hl e he) (by decide)
theorem qZ (runs : List (List aA)) (a : List Nat) (ha : At runs a) : (jC runs a).At.length = runs.length ∧ (jC runs a).Runs.length = runs.length ∧ (jC runs a).Tree.Keys.length = runs.length ∧ (jC runs a).Tree.Lose.length = runs.length := by
  simp [jC, yC, gG, vD, wH, ha.1]
theorem ziO (runs : List (List aA)) (n : Nat) : ∀ a, (cG runs n a).length = n := by
  induction n with
  | zero => intro a; rfl
  | succ n ih => intro a; simp [cG, ih]
structure zdL (s : gB) : Prop where
  near : xL s.Runs
  at' : s.At.length ≤ 1000
  keys : s.Tree.Keys.length ≤ 1000
  lose : s.Tree.Lose.length ≤ 1000
theorem zdN (l k : List cA) (hl : l.length ≤ 1000) : ∃ b, Ev (fun fu => pL fu l k) b ∧ (b = true ↔ l = k) := by
  unfold pL
  by_cases h : l.length = k.length
  · have hd : (!decide ((l.length : Int) = (k.length : Int))) = false := by simp; omega
    simp only [hd, Bool.false_eq_true, ↓reduceIte]
    obtain ⟨r, r1, r2⟩ := Ev.eqs false l k h (L := pI l k) (fun fu => by simp [pI]) (fun fu n h1 h2 => by
      have d : decide ((n : Int) < (l.length : Int)) = true := decide_eq_true (by omega)
      simp only [pI, d, ↓reduceIte, xA l n h1, xA k n h2, Option.bind_some, zcW, qC n (by omega)]
      by_cases e : l[n] = k[n] <;> simp [e])
    rcases r2 with ⟨rfl, e⟩ | ⟨rfl, e⟩
    · exact ⟨true, Ev.bind r1 (Ev.ret _), by simp [e]⟩
    · exact ⟨false, Ev.bind r1 (Ev.ret _), by simp [e]⟩
  · have hd : (!decide ((l.length : Int) = (k.length : Int))) = true := by simp; omega
    simp only [hd, ↓reduceIte]
    exact ⟨false, Ev.ret _, by simp; intro e; exact h (by rw [e])⟩
theorem zaq (l k : List Int) (hl : l.length ≤ 1000) : ∃ b, Ev (fun fu => vJ fu l k) b ∧ (b = true ↔ l = k) := by
  unfold vJ
  by_cases h : l.length = k.length
  · have hd : (!decide ((l.length : Int) = (k.length : Int))) = false := by simp; omega
    simp only [hd, Bool.false_eq_true, ↓reduceIte]
    obtain ⟨r, r1, r2⟩ := Ev.eqs false l k h (L := oI l k) (fun fu => by simp [oI]) (fun fu n h1 h2 => by
      have d : decide ((n : Int) < (l.length : Int)) = true := decide_eq_true (by omega)
      simp only [oI, d, ↓reduceIte, xA l n h1, xA k n h2, Option.bind_some, qC n (by omega)]
      by_cases e : l[n] = k[n] <;> simp [e])
    rcases r2 with ⟨rfl, e⟩ | ⟨rfl, e⟩
    · exact ⟨true, Ev.bind r1 (Ev.ret _), by simp [e]⟩
    · exact ⟨false, Ev.bind r1 (Ev.ret _), by simp [e]⟩
  · have hd : (!decide ((l.length : Int) = (k.length : Int))) = true := by simp; omega
    simp only [hd, ↓reduceIte]
    exact ⟨false, Ev.ret _, by simp; intro e; exact h (by rw [e])⟩
theorem zmz (a b : cB) (hk : a.Keys.length ≤ 1000) (hl : a.Lose.length ≤ 1000) : Ev (fun fu => pQ fu a b) (decide (a = b)) := by
  obtain ⟨i, i1, i2⟩ := zdN a.Keys b.Keys hk
  obtain ⟨j, j1, j2⟩ := zaq a.Lose b.Lose hl
  obtain ⟨ak, al, aw⟩ := a
  obtain ⟨bk, bl, bw⟩ := b
  simp only at *
  unfold pQ
  by_cases hw : aw = bw
  · subst hw
    simp only [decide_true, ↓reduceIte]
    refine Ev.bind (Ev.bind i1 (Ev.ret _)) ?_
    cases i with
    | false =>
      simp at i2
      exact Ev.of (fun fu => by simp [i2]) (Ev.ret _)
    | true =>
      simp at i2
      refine Ev.bind (a := j) (Ev.bind j1 (Ev.ret _)) (Ev.of (fun fu => ?_) (Ev.ret _))
      cases j <;> simp at j2 <;> simp [i2, j2]
  · exact Ev.of (fun fu => by simp [hw]) (Ev.ret _)
def eL (s : gB) (i : Nat) : Option (Int × Int) :=
  match s.At[i]?, s.Runs[i]? with
  | some n, some l => if n < 0 ∨ (l.length : Int) < n then some ((i : Int), 6) else none
  | _, _ => none
theorem zj8 (s : gB) (h : s.At.length = s.Runs.length) (hs : s.At.length ≤ 1000) : Ev (fun fu => tG s fu 0) (pick (eL s) s.At.length 0) := by
  refine Ev.loop (L := tG s) (len := s.At.length) (eL s) (Ev.succ (Ev.of (fun fu => by simp [tG]) (Ev.ret _))) (fun n hn => ?_) s.At.length 0 (by omega)
  have hr : n < s.Runs.length := by omega
  have d : decide ((n : Int) < (s.At.length : Int)) = true := decide_eq_true (by omega)
  have f : ∀ fu, tG s (fu + 1) (n : Int) = if s.At[n] < 0 ∨ (s.Runs[n].length : Int) < s.At[n] then some (.inr ((n : Int), 6)) else tG s fu ((n + 1 : Nat) : Int) := fun fu => by
    simp only [tG, d, ↓reduceIte, xA s.At n hn, xA s.Runs n hr, Option.bind_some, qC n (by omega)]
    by_cases e1 : s.At[n] < 0 <;> by_cases e2 : (s.Runs[n].length : Int) < s.At[n] <;> simp [e1, e2]
  simp only [eL, List.getElem?_eq_getElem hn, List.getElem?_eq_getElem hr]
  refine ⟨fun r q => Ev.succ (Ev.of f ?_), fun q r k => Ev.succ (Ev.of f ?_)⟩
  · split at q
    · rename_i e; cases q; simp only [if_pos e]; exact Ev.ret _
    · cases q
  · split at q
    · cases q
    · rename_i e; simp only [if_neg e]; exact k
theorem zjM (s : gB) (h : s.At.length = s.Runs.length) (hs : s.At.length ≤ 1000) : Ev (fun fu => tP s fu 0) (pick (eL s) s.At.length 0) := by
  refine Ev.loop (L := tP s) (len := s.At.length) (eL s) (Ev.succ (Ev.of (fun fu => by simp [tP]) (Ev.ret _))) (fun n hn => ?_) s.At.length 0 (by omega)
  have hr : n < s.Runs.length := by omega
  have d : decide ((n : Int) < (s.At.length : Int)) = true := decide_eq_true (by omega)
  have f : ∀ fu, tP s (fu + 1) (n : Int) = if s.At[n] < 0 ∨ (s.Runs[n].length : Int) < s.At[n] then some (.inr ((n : Int), 6)) else tP s fu ((n + 1 : Nat) : Int) := fun fu => by
    simp only [tP, d, ↓reduceIte, xA s.At n hn, xA s.Runs n hr, Option.bind_some, qC n (by omega)]
    by_cases e1 : s.At[n] < 0 <;> by_cases e2 : (s.Runs[n].length : Int) < s.At[n] <;> simp [e1, e2]
  simp only [eL, List.getElem?_eq_getElem hn, List.getElem?_eq_getElem hr]
  refine ⟨fun r q => Ev.succ (Ev.of f ?_), fun q r k => Ev.succ (Ev.of f ?_)⟩
  · split at q
    · rename_i e; cases q; simp only [if_pos e]; exact Ev.ret _
    · cases q
  · split at q
    · cases q
    · rename_i e; simp only [if_neg e]; exact k
theorem places (s : gB) (h : s.At.length = s.Runs.length) (hp : pick (eL s) s.At.length 0 = .inl ()) : ∃ a, s.At = pB a ∧ At s.Runs a := by
  have hb : ∀ i (h1 : i < s.At.length) (h2 : i < s.Runs.length), 0 ≤ s.At[i] ∧ s.At[i] ≤ (s.Runs[i].length : Int) := by
    intro i h1 h2
    have := wX hp i (by omega) (by omega)
    simp only [eL, List.getElem?_eq_getElem h1, List.getElem?_eq_getElem h2] at this
    split at this
    · cases this
    · omega
  refine ⟨s.At.map Int.toNat, ?_, by simp [h], fun i h1 h2 => ?_⟩
  · refine List.ext_getElem (by simp [pB]) fun i h1 h2 => ?_
    have := (hb i h1 (by omega)).1
    simp [pB]; omega
  · have := hb i (by omega) h1
    simp; omega
def dH (runs : List (List aA)) (a : List Nat) (w : Nat) (i : Nat) : Option (Int × Int) :=
  match runs[i]?, a[i]?, runs[w]?, a[w]? with
  | some l, some (n + 1), some r, some m =>
    match l[n]?, r[m]? with
    | some x, some y => if bl y.Key x.Key = true ∨ (x.Key = y.Key ∧ w < i) then some ((w : Int), 6) else none
    | _, _ => none
  | _, _, _, _ => none
theorem cmpKey (fu : Nat) (x y : List UInt8) : qK fu x y = some (if bl x y = true then -1 else if x = y then 0 else 1) := by
  simp only [qK, lQ, beq_self_eq_true, Bool.not_true, Option.bind_some, Bool.false_eq_true, ↓reduceIte, bl]
  by_cases h : Op.bytesLess x y = true
  · simp [h]
  · by_cases e : x = y
    · subst e; have := pG x; simp only [bl] at this; simp [this]
    · simp [h, e]
theorem cmpInt (fu : Nat) (x y : Int) : dN fu x y = some (if x < y then -1 else if y < x then 1 else 0) := by
  simp only [dN, xP, decide_true, Bool.not_true, Option.bind_some, Bool.false_eq_true, ↓reduceIte, decide_eq_true_eq]
  split
  · rfl
  · split <;> rfl
theorem zj4 (x y : Int) : Ev (fun fu => vM fu [x, y]) (if x ≠ 0 then x else y) := by
  unfold vM
  by_cases hx : x = 0
  · subst hx
    by_cases hy : y = 0
    · subst hy
      refine Ev.bind (a := .inl ()) (Ev.succ (Ev.succ (Ev.succ (Ev.of (fun fu => ?_) (Ev.ret _))))) (Ev.of (fun fu => by simp) (Ev.ret _))
      simp [lI, ix, wr]
    · refine Ev.bind (a := .inr y) (Ev.succ (Ev.succ (Ev.of (fun fu => ?_) (Ev.ret _)))) (Ev.of (fun fu => by simp) (Ev.ret _))
      simp [lI, ix, wr, hy]
  · refine Ev.bind (a := .inr x) (Ev.succ (Ev.of (fun fu => ?_) (Ev.ret _))) (Ev.of (fun fu => by simp [hx]) (Ev.ret _))
    simp [lI, ix, hx]
theorem zlt (s : gB) (a : List Nat) (hA : s.At = pB a) (ha : At s.Runs a) (hs : a.length ≤ 1000) (hlen : ∀ l ∈ s.Runs, l.length ≤ 6000) (w : Nat) (hw : w < s.Runs.length) (hwa : w < a.length) (hq : a[w] < s.Runs[w].length) :
    Ev (fun fu => zF s ((w : Int), s.Runs[w][a[w]].Key, 0) fu 0) (pick (dH s.Runs a w) a.length 0) := by
  have hl : s.At.length = a.length := by rw [hA, gG]
  refine Ev.loop (L := zF s ((w : Int), s.Runs[w][a[w]].Key, 0)) (len := a.length) (dH s.Runs a w) (Ev.succ (Ev.of (fun fu => by simp [zF, hl]) (Ev.ret _))) (fun n hn => ?_) a.length 0 (by omega)
  have hr : n < s.Runs.length := by rw [← ha.1]; exact hn
  have d : decide ((n : Int) < (s.At.length : Int)) = true := decide_eq_true (by omega)
  have ixA : ix s.At (n : Int) = some ((a[n] : Nat) : Int) := by rw [hA]; exact gF a n hn
  have hle := ha.2 n hr hn
  have h6 := hlen _ (List.getElem_mem hr)
  simp only [dH, List.getElem?_eq_getElem hr, List.getElem?_eq_getElem hn, List.getElem?_eq_getElem hw, List.getElem?_eq_getElem hwa]
  cases hk : a[n] with
  | zero =>
    have f : ∀ fu, zF s ((w : Int), s.Runs[w][a[w]].Key, 0) (fu + 1) (n : Int) = zF s ((w : Int), s.Runs[w][a[w]].Key, 0) fu ((n + 1 : Nat) : Int) := fun fu => by
      simp only [zF, d, ↓reduceIte, ixA, hk, Option.bind_some, qC n (by omega)]
      simp
    simp only
    exact ⟨fun r q => by (simp at q), fun _ r k => Ev.succ (Ev.of f k)⟩
  | succ m =>
    have hm : m < s.Runs[n].length := by omega
    have w1 : IntKind.i64.wrap (((m + 1 : Nat) : Int) - 1) = (m : Int) := by rw [wr (by omega) (by omega)]; omega
    have d0 : decide ((0 : Int) < ((m + 1 : Nat) : Int)) = true := decide_eq_true (by omega)
    simp only [List.getElem?_eq_getElem hm, List.getElem?_eq_getElem hq]
    generalize hx : s.Runs[n][m] = x
    generalize hy : s.Runs[w][a[w]] = y
    have f : ∀ fu, zF s ((w : Int), y.Key, 0) (fu + 1) (n : Int) = ((vM fu [if bl x.Key y.Key = true then -1 else if x.Key = y.Key then 0 else 1, if (n : Int) < (w : Int) then -1 else if (w : Int) < (n : Int) then 1 else 0]).bind fun vr61 => some (decide (0 < vr61))).bind fun b62 => if b62 = true then some (.inr ((w : Int), 6)) else zF s ((w : Int), y.Key, 0) fu ((n + 1 : Nat) : Int) := fun fu => by
      simp only [zF, d, ↓reduceIte, ixA, hk, Option.bind_some, qC n (by omega), d0, xA s.Runs n hr, w1, xA s.Runs[n] m hm, hx, cmpKey, cmpInt]
    have o := zj4 (if bl x.Key y.Key = true then -1 else if x.Key = y.Key then 0 else 1) (if (n : Int) < (w : Int) then -1 else if (w : Int) < (n : Int) then 1 else 0)
    have hiff : decide (0 < (if (if bl x.Key y.Key = true then (-1 : Int) else if x.Key = y.Key then 0 else 1) ≠ 0 then (if bl x.Key y.Key = true then (-1 : Int) else if x.Key = y.Key then 0 else 1) else (if (n : Int) < (w : Int) then -1 else if (w : Int) < (n : Int) then 1 else 0))) = decide (bl y.Key x.Key = true ∨ (x.Key = y.Key ∧ w < n)) := by
      refine decide_eq_decide.2 ?_
      rcases wQ x.Key y.Key with h | h | h
      · have hne : x.Key ≠ y.Key := fun e => by rw [e, pG] at h; cases h
        simp [h, eK h, hne]
      · simp only [h, pG, Bool.false_eq_true, ↓reduceIte, ne_eq, not_true_eq_false, true_and, false_or]
        by_cases q : (n : Int) < (w : Int)
        · rw [if_pos q]; omega
        · rw [if_neg q]
          by_cases q2 : (w : Int) < (n : Int)
          · rw [if_pos q2]; omega
          · rw [if_neg q2]; omega
      · have hne : x.Key ≠ y.Key := fun e => by rw [e, pG] at h; cases h
        simp [h, eK h, hne]
    refine ⟨fun r q => Ev.succ (Ev.of f ?_), fun q r k => Ev.succ (Ev.of f ?_)⟩
    · split at q
      · rename_i e; cases q
        refine Ev.bind (a := true) (Ev.bind o (Ev.of (fun fu => by rw [hiff, decide_eq_true e]) (Ev.ret _))) (Ev.ret _)
      · cases q
    · split at q
      · cases q
      · rename_i e
        refine Ev.bind (a := false) (Ev.bind o (Ev.of (fun fu => by rw [hiff, decide_eq_false e]) (Ev.ret _))) ?_
        simp only [Bool.false_eq_true, ↓reduceIte]; exact k
theorem zk3 (s : gB) (a : List Nat) (hA : s.At = pB a) (ha : At s.Runs a) (hs : a.length ≤ 1000) (hlen : ∀ l ∈ s.Runs, l.length ≤ 6000) (w : Nat) (hw : w < s.Runs.length) (hwa : w < a.length) (hq : a[w] < s.Runs[w].length) :
    Ev (fun fu => gJ s (w : Int) fu 0) (pick (dH s.Runs a w) a.length 0) := by
  have hl : s.Runs.length = a.length := by rw [ha.1]
  have dw : decide ((0 : Int) ≤ (w : Int)) = true := decide_eq_true (by omega)
  refine Ev.loop (L := gJ s (w : Int)) (len := a.length) (dH s.Runs a w) (Ev.succ (Ev.of (fun fu => by simp [gJ, hl]) (Ev.ret _))) (fun n hn => ?_) a.length 0 (by omega)
  have hr : n < s.Runs.length := by rw [← ha.1]; exact hn
  have d : decide ((n : Int) < (s.Runs.length : Int)) = true := decide_eq_true (by omega)
  have ixA : ix s.At (n : Int) = some ((a[n] : Nat) : Int) := by rw [hA]; exact gF a n hn
  have ixW : ix s.At (w : Int) = some ((a[w] : Nat) : Int) := by rw [hA]; exact gF a w hwa
  have hle := ha.2 n hr hn
  have h6 := hlen _ (List.getElem_mem hr)
  simp only [dH, List.getElem?_eq_getElem hr, List.getElem?_eq_getElem hn, List.getElem?_eq_getElem hw, List.getElem?_eq_getElem hwa]
  cases hk : a[n] with
  | zero =>
    have f : ∀ fu, gJ s (w : Int) (fu + 1) (n : Int) = gJ s (w : Int) fu ((n + 1 : Nat) : Int) := fun fu => by
      simp only [gJ, d, dw, ↓reduceIte, ixA, hk, Option.bind_some, qC n (by omega)]
      simp
    simp only
    exact ⟨fun r q => by (simp at q), fun _ r k => Ev.succ (Ev.of f k)⟩
  | succ m =>
    have hm : m < s.Runs[n].length := by omega
    have w1 : IntKind.i64.wrap (((m + 1 : Nat) : Int) - 1) = (m : Int) := by rw [wr (by omega) (by omega)]; omega
    have d0 : decide (((m + 1 : Nat) : Int) = 0) = false := decide_eq_false (by omega)
    simp only [List.getElem?_eq_getElem hm, List.getElem?_eq_getElem hq]
    generalize hx : s.Runs[n][m] = x
    generalize hy : s.Runs[w][a[w]] = y
    have f : ∀ fu, gJ s (w : Int) (fu + 1) (n : Int) = if bl y.Key x.Key = true ∨ (x.Key = y.Key ∧ w < n) then some (.inr ((w : Int), 6)) else gJ s (w : Int) fu ((n + 1 : Nat) : Int) := fun fu => by
      have c1 : decide ((w : Int) < (n : Int)) = decide (w < n) := decide_eq_decide.2 (by omega)
      simp only [gJ, d, dw, ↓reduceIte, ixA, ixW, hk, Option.bind_some, qC n (by omega), d0, Bool.false_eq_true, xA s.Runs n hr, xA s.Runs w hw, w1, xA s.Runs[n] m hm, xA s.Runs[w] a[w] hq, hx, hy, c1]
      rcases wQ x.Key y.Key with h | h | h
      · have hne : x.Key ≠ y.Key := fun e => by rw [e, pG] at h; cases h
        have h' : Op.bytesLess x.Key y.Key = true := h
        simp [h', eK h, hne]
      · by_cases q : w < n <;> simp [h, pG, q]
      · have hne : x.Key ≠ y.Key := fun e => by rw [e, pG] at h; cases h
        have h' : Op.bytesLess x.Key y.Key = false := eK h
        simp [h, h', hne]
    refine ⟨fun r q => Ev.succ (Ev.of f ?_), fun q r k => Ev.succ (Ev.of f ?_)⟩
    · split at q
      · rename_i e; cases q; simp only [if_pos e]; exact Ev.ret _
      · cases q
    · split at q
      · cases q
      · rename_i e; simp only [if_neg e]; exact k
theorem zoi (l : List aA) (hg : hO l) (m : Nat) : ∀ n : Nat, n + m = l.length → Ev (fun fu => pF l fu (n : Int)) (.inl ()) := by
  have hl := hg.1
  induction m with
  | zero => intro n hn; exact Ev.succ (Ev.of (fun fu => by simp [pF, show ¬ (n : Int) < (l.length : Int) by omega]) (Ev.ret _))
  | succ m ih =>
    intro n hn
    have hnl : n < l.length := by omega
    obtain ⟨hc, hb⟩ := hg.2 n hnl
    refine Ev.succ (Ev.of (fun fu => ?_) (ih (n + 1) (by omega)))
    by_cases h0 : 0 < n
    · have w2 : IntKind.i64.wrap ((n : Int) - 1) = ((n - 1 : Nat) : Int) := by rw [wr (by omega) (by omega)]; omega
      have hb' := hb h0
      have hnb1 : Op.bytesLess l[n].Key l[n - 1].Key = false := eK hb'
      have hnb2 : ¬ l[n].Key = l[n - 1].Key := fun e => by rw [e, pG] at hb'; cases hb'
      simp only [pF, yP, hc, w2, xA l n hnl, xA l (n - 1) (by omega), qC n (by omega)]
      simp [hnl, h0, hnb1, hnb2, hc, -Int.natCast_add]
    · simp only [pF, yP, hc, xA l n hnl, qC n (by omega)]
      simp [hnl, h0, hc, -Int.natCast_add]
theorem zhB (l : List aA) (hg : hO l) : Ev (fun fu => pJ fu l) (0, 0) := by
  have hl := hg.1
  unfold pJ
  have hd : ¬ decide ((5000 : Int) < (l.length : Int)) = true := by simp; omega
  simp only [if_neg hd]
  exact Ev.bind (zoi l hg l.length 0 (by omega)) (Ev.ret _)
theorem zhq (runs : List (List aA)) (hg : xC runs) (m : Nat) : ∀ n : Nat, n + m = runs.length → Ev (fun fu => wF runs fu (n : Int)) (.inl ()) := by
  have hl := hg.2.1
  induction m with
  | zero => intro n hn; exact Ev.succ (Ev.of (fun fu => by simp [wF, show ¬ (n : Int) < (runs.length : Int) by omega]) (Ev.ret _))
  | succ m ih =>
    intro n hn
    have hnl : n < runs.length := by omega
    have f : ∀ fu, wF runs (fu + 1) (n : Int) = (pJ fu runs[n]).bind fun vr => if vr.2 = 0 then wF runs fu ((n + 1 : Nat) : Int) else some (.inr ((n : Int), vr.2)) := by
      intro fu
      simp only [wF, xA runs n hnl, qC n (by omega)]
      simp [hnl]
    exact Ev.succ (Ev.of f (Ev.bind (zhB _ (hg.2.2 _ (List.getElem_mem hnl))) (ih (n + 1) (by omega))))
theorem zkM (runs : List (List aA)) (hg : xC runs) {c : Int × Int} (h : Ev (fun fu => rJ fu runs) c) : c = (0, 0) := by
  refine Ev.uniq h ?_
  have h0 := hg.1
  have hl := hg.2.1
  unfold rJ
  have e1 : ¬ decide ((runs.length : Int) = 0) = true := by simp; intro e; simp [e] at h0
  have e2 : ¬ decide ((32 : Int) < (runs.length : Int)) = true := by simp; omega
  simp only [if_neg e1, if_neg e2]
  exact Ev.bind (zhq runs hg runs.length 0 (by omega)) (Ev.ret _)
def Ok (s : gB) (a : List Nat) : Prop := xC s.Runs ∧ At s.Runs a ∧ s = jC s.Runs a ∧ ((∃ i, ∃ h : i < s.Runs.length, ∃ h2 : i < a.length, a[i] ≠ s.Runs[i].length) → pick (dH s.Runs a (wn s.Runs a)) a.length 0 = .inl ())
theorem zbx (s : gB) (hs : zdL s) : ∃ r, Ev (fun fu => cH fu s) r ∧ Ev (fun fu => pM fu s) r ∧ ((r = (0, 0) ∧ ∃ a, Ok s a) ∨ r.2 ≠ 0) ∧ (∀ a, Ok s a → r = (0, 0)) := by
  obtain ⟨c, c1, c2, c3⟩ := gW s.Runs hs.near.fits (by have := hs.near.1; omega)
  unfold cH pM
  rcases c3 with ⟨rfl, hg⟩ | hc
  · have h0 := hg.1
    have h32 := hg.2.1
    by_cases hl : s.At.length = s.Runs.length
    · have hd : decide ((s.At.length : Int) = (s.Runs.length : Int)) = true := decide_eq_true (by omega)
      have l1 := zj8 s hl hs.at'
      have l2 := zjM s hl hs.at'
      cases hp : pick (eL s) s.At.length 0 with
      | inr r =>
        obtain ⟨i, h1, h2, h3⟩ := sX hp
        rw [hp] at l1 l2
        refine ⟨r, Ev.bind c1 ?_, Ev.bind c2 ?_, .inr ?_, fun a hok => ?_⟩
        · simp only [decide_true, Bool.not_true, Bool.false_eq_true, ↓reduceIte, hd]; exact Ev.bind l1 (Ev.ret _)
        · simp only [decide_true, Bool.not_true, Bool.false_eq_true, ↓reduceIte, hd]; exact Ev.bind l2 (Ev.ret _)
        · simp only [eL] at h3
          split at h3
          · split at h3
            · cases h3; simp
            · cases h3
          · cases h3
        · exfalso
          have e : s.At = pB a := by rw [hok.2.2.1]; rfl
          have h2' : i < s.Runs.length := by omega
          have h2a : i < a.length := by rw [hok.2.1.1]; exact h2'
          have hle := hok.2.1.2 i h2' h2a
          simp only [eL, e] at h3
          rw [show (pB a)[i]? = some ((a[i] : Nat) : Int) by simp [pB, h2a], List.getElem?_eq_getElem h2'] at h3
          simp only at h3
          rw [if_neg (by omega)] at h3
          cases h3
      | inl u =>
        rw [hp] at l1 l2
        obtain ⟨a, hA, ha⟩ := places s hl hp
        have hal : a.length = s.Runs.length := ha.1
        have tr := zcX s.Runs a ha h0 h32
        have st := gV s.Runs a ha h0 h32
        have al := zmz s.Tree (yC (sB s.Runs a)) hs.keys hs.lose
        obtain ⟨q, q1, q2⟩ := zcR s.Tree (yC (sB s.Runs a)) (by have := hs.keys; omega) (by have := hs.lose; omega)
        by_cases ht : s.Tree = yC (sB s.Runs a)
        · rw [decide_eq_true ht] at al
          obtain rfl : q = true := q2.2 ht
          have hst : s = jC s.Runs a := by
            obtain ⟨r, t, u⟩ := s
            simp only at hA ht ⊢
            simp only [jC, hA, ht]
          have hf := hY s.Runs a ha h0 h32
          have hwin := za6 (sB s.Runs a) (sT s.Runs a) (by rw [vD]; exact h0) (by rw [vD]; exact h32)
          rcases gL s.Runs a ha h0 with ⟨hfin, hall⟩ | ⟨hw, hwa, hq, hk⟩
          · rw [if_pos hfin] at hf hwin
            have rl2 : Ev (fun fu => gJ s (-1) fu 0) (.inl ()) := Ev.succ (Ev.of (fun fu => by simp [gJ]) (Ev.ret _))
            refine ⟨(0, 0), Ev.bind c1 ?_, Ev.bind c2 ?_, .inl ⟨rfl, a, hg, ha, hst, ?_⟩, fun _ _ => rfl⟩
            · simp only [decide_true, Bool.not_true, Bool.false_eq_true, ↓reduceIte, hd]
              rw [hA]
              refine Ev.bind l1 (Ev.bind tr (Ev.bind al ?_))
              simp only [Bool.not_true, Bool.false_eq_true, ↓reduceIte]
              rw [ht]
              exact Ev.bind hwin (Ev.of (fun fu => by simp) (Ev.ret _))
            · simp only [decide_true, Bool.not_true, Bool.false_eq_true, ↓reduceIte, hd]
              rw [hA]
              refine Ev.bind l2 (Ev.bind st (Ev.bind q1 ?_))
              simp only [Bool.not_true, Bool.false_eq_true, ↓reduceIte]
              exact Ev.bind hf (Ev.bind rl2 (Ev.ret _))
            · rintro ⟨i, h1, h2, h3⟩; exact absurd (hall i h1 h2) h3
          · rw [if_neg (by rw [hk]; simp)] at hf hwin
            rw [hk] at hwin
            have k1 := zlt s a hA ha (by rw [hal]; omega) hs.near.2.1 (wn s.Runs a) hw hwa hq
            have k2 := zk3 s a hA ha (by rw [hal]; omega) hs.near.2.1 (wn s.Runs a) hw hwa hq
            have e1 : Ev (fun fu => cH fu s) (match pick (dH s.Runs a (wn s.Runs a)) a.length 0 with | .inl _ => (0, 0) | .inr y => y) := by
              unfold cH
              refine Ev.bind c1 ?_
              simp only [decide_true, Bool.not_true, Bool.false_eq_true, ↓reduceIte, hd]
              rw [hA]
              refine Ev.bind l1 (Ev.bind tr (Ev.bind al ?_))
              simp only [Bool.not_true, Bool.false_eq_true, ↓reduceIte]
              rw [ht]
              refine Ev.bind hwin ?_
              simp only [decide_true, Bool.not_true, Bool.false_eq_true, ↓reduceIte]
              refine Ev.bind k1 ?_
              cases pick (dH s.Runs a (wn s.Runs a)) a.length 0 <;> exact Ev.ret _
            have e2 : Ev (fun fu => pM fu s) (match pick (dH s.Runs a (wn s.Runs a)) a.length 0 with | .inl _ => (0, 0) | .inr y => y) := by
              unfold pM
              refine Ev.bind c2 ?_
              simp only [decide_true, Bool.not_true, Bool.false_eq_true, ↓reduceIte, hd]
              rw [hA]
              refine Ev.bind l2 (Ev.bind st (Ev.bind q1 ?_))
              simp only [Bool.not_true, Bool.false_eq_true, ↓reduceIte]
              refine Ev.bind hf (Ev.bind k2 ?_)
              cases pick (dH s.Runs a (wn s.Runs a)) a.length 0 <;> exact Ev.ret _
            refine ⟨_, e1, e2, ?_, fun a' hok => ?_⟩
            · cases hpk : pick (dH s.Runs a (wn s.Runs a)) a.length 0 with
              | inl u => exact .inl ⟨rfl, a, hg, ha, hst, fun _ => hpk⟩
              | inr y =>
                right
                obtain ⟨i, h1, h2, h3⟩ := sX hpk
                simp only [dH] at h3
                split at h3
                · split at h3
                  · split at h3
                    · cases h3; simp
                    · cases h3
                  · cases h3
                · cases h3
            · have : pB a' = pB a := by
                have e : s.At = pB a' := by rw [hok.2.2.1]; rfl
                rw [← e, hA]
              have : a' = a := by
                refine List.map_inj_right (fun x y h => ?_) |>.1 this
                exact Int.ofNat.inj h
              subst this
              rw [hok.2.2.2 ⟨_, hw, hwa, by omega⟩]
        · rw [decide_eq_false ht] at al
          obtain rfl : q = false := by cases q; rfl; exact absurd (q2.1 rfl) ht
          refine ⟨(-1, 6), Ev.bind c1 ?_, Ev.bind c2 ?_, .inr (by simp), fun a' hok => ?_⟩
          · simp only [decide_true, Bool.not_true, Bool.false_eq_true, ↓reduceIte, hd]
            rw [hA]
            refine Ev.bind l1 (Ev.bind tr (Ev.bind al (Ev.ret _)))
          · simp only [decide_true, Bool.not_true, Bool.false_eq_true, ↓reduceIte, hd]
            rw [hA]
            refine Ev.bind l2 (Ev.bind st (Ev.bind q1 (Ev.ret _)))
          · exfalso
            have : pB a' = pB a := by
              have e : s.At = pB a' := by rw [hok.2.2.1]; rfl
              rw [← e, hA]
            have : a' = a := by
              refine List.map_inj_right (fun x y h => ?_) |>.1 this
              exact Int.ofNat.inj h
            subst this
            exact ht (by rw [hok.2.2.1]; rfl)
    · have hd : decide ((s.At.length : Int) = (s.Runs.length : Int)) = false := decide_eq_false (by omega)
      refine ⟨(-1, 6), Ev.bind c1 ?_, Ev.bind c2 ?_, .inr (by simp), fun a hok => ?_⟩
      · simp only [decide_true, Bool.not_true, Bool.false_eq_true, ↓reduceIte, hd, Bool.not_false]; exact Ev.ret _
      · simp only [decide_true, Bool.not_true, Bool.false_eq_true, ↓reduceIte, hd, Bool.not_false]; exact Ev.ret _
      · exfalso; apply hl; rw [hok.2.2.1]; simp [jC, gG, hok.2.1.1]
  · refine ⟨c, Ev.bind c1 ?_, Ev.bind c2 ?_, .inr hc, fun a hok => ?_⟩
    · simp only [decide_eq_false hc, Bool.not_false, ↓reduceIte]; exact Ev.ret _
    · simp only [decide_eq_false hc, Bool.not_false, ↓reduceIte]; exact Ev.ret _
    · exfalso
      exact hc (by rw [zkM s.Runs hok.1 c1])
theorem Ok.good {s : gB} {a : List Nat} (h : Ok s a) : xC s.Runs := h.1
theorem Ok.eq {s : gB} {a : List Nat} (h : Ok s a) : s = jC s.Runs a := h.2.2.1
def zcU : aA := ⟨[], [], false, 0⟩
theorem zmY (fu : Nat) (runs : List (List aA)) (h : xC runs) : tL fu runs = some runs := by
  have h0 := h.1
  have h32 := h.2.1
  have hne : runs.isEmpty = false := by cases runs; simp at h0; rfl
  have g2 : 2 * ((0 + runs.length) * 24) ≤ 281474976710656 := by omega
  simp only [tL, hne, Bool.false_eq_true, ↓reduceIte, if_pos g2]
theorem zfq (fu : Nat) (l : List Int) (h : l.length ≤ 100000) : lN fu l = some l := by
  unfold lN
  cases l with
  | nil => rfl
  | cons x l =>
    have g2 : 2 * ((0 + (x :: l).length) * 8) ≤ 281474976710656 := by omega
    simp only [List.isEmpty_cons, Bool.false_eq_true, ↓reduceIte, if_pos g2]
theorem zcP {runs : List (List aA)} {a : List Nat} (h : At runs a) : (pB a).length = runs.length := by rw [gG, h.1]
def tS (runs : List (List aA)) (a : List Nat) : aA × Int × gB × Int :=
  if zA runs a = 0 then (zcU, 0, vU, 12) else
    ((runs[wn runs a]?.getD [])[a[wn runs a]?.getD 0]?.getD zcU, (wn runs a : Int), jC runs (eE a (wn runs a)), 0)
theorem zdk (runs : List (List aA)) (a : List Nat) (hall : ∀ i (h1 : i < runs.length) (h2 : i < a.length), a[i] = runs[i].length) : zA runs a = 0 := uS runs a hall
theorem zos (runs : List (List aA)) (a : List Nat) (hw : wn runs a < runs.length) (hwa : wn runs a < a.length) (hq : a[wn runs a] < runs[wn runs a].length) : zA runs a ≠ 0 := by
  have := eR runs a _ hw hwa hq; omega
theorem zas (runs : List (List aA)) (a : List Nat) (hw : wn runs a < runs.length) (hwa : wn runs a < a.length) (hq : a[wn runs a] < runs[wn runs a].length) :
    tS runs a = (runs[wn runs a][a[wn runs a]], (wn runs a : Int), jC runs (eE a (wn runs a)), 0) := by
  unfold tS
  rw [if_neg (zos runs a hw hwa hq)]
  simp only [List.getElem?_eq_getElem hw, List.getElem?_eq_getElem hwa, Option.getD_some, List.getElem?_eq_getElem hq]
theorem zmQ (runs : List (List aA)) (a : List Nat) (hg : xC runs) (ha : At runs a) (hc : Ev (fun fu => cH fu (jC runs a)) (0, 0)) : Ev (fun fu => sO fu (jC runs a)) (tS runs a) := by
  have h0 := hg.1
  have h32 := hg.2.1
  have hil : (pB a).length ≤ 100000 := by rw [zcP ha]; omega
  unfold sO
  refine Ev.bind hc ?_
  simp only [decide_true, Bool.not_true, Bool.false_eq_true, ↓reduceIte, jC, zmY _ _ hg, zfq _ _ hil, Option.bind_some]
  rcases gL runs a ha h0 with ⟨hd, hall⟩ | ⟨hw, hwa, hq, hk⟩
  · refine Ev.bind (zdJ runs a h0 h32 hd _ rfl (pB a)) (Ev.of (fun fu => ?_) (Ev.ret _))
    simp only [tS, zdk runs a hall, ↓reduceIte]; rfl
  · refine Ev.bind (zcT runs a h0 h32 hw hwa hq hk _ rfl) ?_
    have hle : runs[wn runs a].length ≤ 5000 := (hg.2.2 _ (List.getElem_mem hw)).1
    have hs' : (pB a).set (wn runs a) ((a[wn runs a] + 1 : Nat) : Int) = pB (eE a (wn runs a)) := by rw [mW, gQ a _ hwa]
    have hix : ix (pB (eE a (wn runs a))) ((wn runs a : Nat) : Int) = some ((a[wn runs a] + 1 : Nat) : Int) := by
      rw [gF _ _ (by rw [rP]; exact hwa)]; simp [gQ a _ hwa]
    have hnx : ∀ fu, bK fu runs[wn runs a] ((a[wn runs a] + 1 : Nat) : Int) = some (lF runs[wn runs a] (a[wn runs a] + 1)) := fun fu => za7 fu _ _ (by omega)
    simp only [decide_true, Bool.not_true, Bool.false_eq_true, ↓reduceIte, gF a _ hwa, xA runs _ hw, Option.bind_some, Int.toNat_natCast, qC _ (show a[wn runs a] < 9223372036854775807 by omega), hs', hix, hnx]
    obtain ⟨g, hrd⟩ := zdW runs a hg ha hw hwa hq hk _ rfl
    rw [zas runs a hw hwa hq]
    exact Ev.bind hrd (Ev.ret _)
theorem zj0 (runs : List (List aA)) (a : List Nat) (hg : xC runs) (ha : At runs a) (hc : Ev (fun fu => pM fu (jC runs a)) (0, 0)) : Ev (fun fu => hX fu (jC runs a)) (tS runs a) := by
  have h0 := hg.1
  have h32 := hg.2.1
  have g2 : 2 * ((0 + (pB a).length) * 8) ≤ 281474976710656 := by rw [zcP ha]; omega
  unfold hX
  refine Ev.bind hc ?_
  have hf := hY runs a ha h0 h32
  simp only [decide_true, Bool.not_true, Bool.false_eq_true, ↓reduceIte, jC, if_pos g2]
  refine Ev.bind hf ?_
  rcases gL runs a ha h0 with ⟨hd, hall⟩ | ⟨hw, hwa, hq, hk⟩
  · rw [if_pos hd]
    refine Ev.of (fun fu => ?_) (Ev.ret _)
    simp only [tS, zdk runs a hall, ↓reduceIte]; rfl
  · rw [if_neg (by rw [hk]; simp)]
    have hle : runs[wn runs a].length ≤ 5000 := (hg.2.2 _ (List.getElem_mem hw)).1
    have hs' : (pB a).set (wn runs a) ((a[wn runs a] + 1 : Nat) : Int) = pB (eE a (wn runs a)) := by rw [mW, gQ a _ hwa]
    have hdw : decide (((wn runs a : Nat) : Int) < 0) = false := decide_eq_false (by omega)
    simp only [if_pos g2, hdw, Bool.false_eq_true, ↓reduceIte, gF a _ hwa, xA runs _ hw, xA _ _ hq, Option.bind_some, Int.toNat_natCast, qC _ (show a[wn runs a] < 9223372036854775807 by omega), hs']
    rw [zas runs a hw hwa hq]
    exact Ev.bind (gV runs _ (uW runs a _ ha hw hwa hq) h0 h32) (Ev.ret _)
theorem zct (runs : List (List aA)) (a : List Nat) (ha : At runs a) (n : Nat) (h : n < runs.length) (h2 : n < a.length) : zA (runs.drop n) (a.drop n) = (runs[n].length - a[n]) + zA (runs.drop (n + 1)) (a.drop (n + 1)) := by
  unfold zA
  rw [List.drop_eq_getElem_cons h, List.drop_eq_getElem_cons h2, List.zipWith_cons_cons, List.sum_cons]
theorem zfj (runs : List (List aA)) (hg : xC runs) (a : List Nat) (ha : At runs a) (m : Nat) : ∀ (n c : Nat), n + m = runs.length → c ≤ 1000000 * n →
    Ev (fun fu => hI (jC runs a) fu (c : Int) (n : Int)) ((c + zA (runs.drop n) (a.drop n) : Nat) : Int) := by
  have h32 := hg.2.1
  induction m with
  | zero =>
    intro n c hn hc
    obtain rfl : n = runs.length := by omega
    refine Ev.succ (Ev.of (fun fu => ?_) (Ev.ret _))
    simp [hI, jC, zA]
  | succ m ih =>
    intro n c hn hc
    have hr : n < runs.length := by omega
    have h2 : n < a.length := by rw [ha.1]; exact hr
    have hle := ha.2 n hr h2
    have h5 := (hg.2.2 _ (List.getElem_mem hr)).1
    have w1 : IntKind.i64.wrap ((runs[n].length : Int) - ((a[n] : Nat) : Int)) = ((runs[n].length - a[n] : Nat) : Int) := by rw [wr (by omega) (by omega)]; omega
    have w2 : IntKind.i64.wrap ((c : Int) + ((runs[n].length - a[n] : Nat) : Int)) = ((c + (runs[n].length - a[n]) : Nat) : Int) := by rw [wr (by omega) (by omega)]; omega
    have d : decide ((n : Int) < (runs.length : Int)) = true := decide_eq_true (by omega)
    have := ih (n + 1) (c + (runs[n].length - a[n])) (by omega) (by omega)
    rw [zct runs a ha n hr h2, ← Nat.add_assoc]
    refine Ev.succ (Ev.of (fun fu => ?_) this)
    have e1 : (jC runs a).Runs = runs := rfl
    have e2 : (jC runs a).At = pB a := rfl
    simp only [hI, e1, e2, d, ↓reduceIte, xA runs n hr, gF a n h2, Option.bind_some, w1, w2, qC n (by omega)]
theorem zkc (runs : List (List aA)) (hg : xC runs) (a : List Nat) (ha : At runs a) (m : Nat) : ∀ (n c : Nat), n + m = runs.length → c ≤ 1000000 * n →
    Ev (fun fu => cV (jC runs a) fu (c : Int) (n : Int)) ((c + zA (runs.drop n) (a.drop n) : Nat) : Int) := by
  have h32 := hg.2.1
  induction m with
  | zero =>
    intro n c hn hc
    obtain rfl : n = runs.length := by omega
    refine Ev.succ (Ev.of (fun fu => ?_) (Ev.ret _))
    simp [cV, jC, zA]
  | succ m ih =>
    intro n c hn hc
    have hr : n < runs.length := by omega
    have h2 : n < a.length := by rw [ha.1]; exact hr
    have hle := ha.2 n hr h2
    have h5 := (hg.2.2 _ (List.getElem_mem hr)).1
    have w1 : IntKind.i64.wrap ((c : Int) + (runs[n].length : Int)) = ((c + runs[n].length : Nat) : Int) := by rw [wr (by omega) (by omega)]; omega
    have w2 : IntKind.i64.wrap (((c + runs[n].length : Nat) : Int) - ((a[n] : Nat) : Int)) = ((c + (runs[n].length - a[n]) : Nat) : Int) := by rw [wr (by omega) (by omega)]; omega
    have d : decide ((n : Int) < (runs.length : Int)) = true := decide_eq_true (by omega)
    have := ih (n + 1) (c + (runs[n].length - a[n])) (by omega) (by omega)
    rw [zct runs a ha n hr h2, ← Nat.add_assoc]
    refine Ev.succ (Ev.of (fun fu => ?_) this)
    have e1 : (jC runs a).Runs = runs := rfl
    have e2 : (jC runs a).At = pB a := rfl
    simp only [cV, e1, e2, d, ↓reduceIte, xA runs n hr, gF a n h2, Option.bind_some, w1, w2, qC n (by omega)]
theorem zmo (runs : List (List aA)) (a : List Nat) (hg : xC runs) (ha : At runs a) (hc : Ev (fun fu => cH fu (jC runs a)) (0, 0)) : Ev (fun fu => kP fu (jC runs a)) ((zA runs a : Int), 0) := by
  unfold kP
  refine Ev.bind hc ?_
  simp only [decide_true, Bool.not_true, Bool.false_eq_true, ↓reduceIte]
  have := zfj runs hg a ha runs.length 0 0 (by omega) (by omega)
  simp only [Nat.zero_add, List.drop_zero] at this
  exact Ev.bind this (Ev.ret _)
theorem zh5 (runs : List (List aA)) (a : List Nat) (hg : xC runs) (ha : At runs a) (hc : Ev (fun fu => pM fu (jC runs a)) (0, 0)) : Ev (fun fu => zai fu (jC runs a)) ((zA runs a : Int), 0) := by
  unfold zai
  refine Ev.bind hc ?_
  simp only [decide_true, Bool.not_true, Bool.false_eq_true, ↓reduceIte]
  have := zkc runs hg a ha runs.length 0 0 (by omega) (by omega)
  simp only [Nat.zero_add, List.drop_zero] at this
  exact Ev.bind this (Ev.ret _)
theorem zb2 (runs : List (List aA)) (a : List Nat) (ha : At runs a) (h0 : 0 < runs.length) (hw : wn runs a < runs.length) (hwa : wn runs a < a.length) (hq : a[wn runs a] < runs[wn runs a].length)
    (i : Nat) (h1 : i < runs.length) (h2 : i < a.length) (h3 : a[i] < runs[i].length) : i = wn runs a ∨ (bl runs[wn runs a][a[wn runs a]].Key runs[i][a[i]].Key = true ∨ (runs[wn runs a][a[wn runs a]].Key = runs[i][a[i]].Key ∧ wn runs a < i)) := by
  by_cases e : i = wn runs a
  · exact .inl e
  · right
    have hk1 : wn runs a < (sB runs a).length := by rw [vD]; exact hw
    have hk2 : i < (sB runs a).length := by rw [vD]; exact h1
    have l := sZ (sB runs a) i hk2 e
    have g1 : (sB runs a)[wn runs a] = ⟨runs[wn runs a][a[wn runs a]].Key, false⟩ := by rw [tR runs a _ hk1 hw hwa, pP _ _ hq]
    have g2 : (sB runs a)[i] = ⟨runs[i][a[i]].Key, false⟩ := by rw [tR runs a _ hk2 h1 h2, pP _ _ h3]
    have lk := zbB (sB runs a) (wn runs a) i hk1 hk2 (by rw [g1]) (by rw [g2])
    rw [show lt (sB runs a) (wn runs a) i = true from l, g1, g2] at lk
    simp only at lk
    split at lk
    · rename_i e2; exact .inr ⟨e2, of_decide_eq_true lk.symm⟩
    · exact .inl lk.symm
def lx (k : List UInt8) (i : Nat) (l : List UInt8) (j : Nat) : Prop := bl k l = true ∨ (k = l ∧ i < j)
theorem lx_bl {k l m : List UInt8} {i j : Nat} (h : lx k i l j) (h2 : bl l m = true) : bl k m = true := by
  rcases h with h | ⟨rfl, _⟩
  · exact xM h h2
  · exact h2
def zdm (runs : List (List aA)) (a : List Nat) : Prop :=
  ∀ i (h1 : i < runs.length) (h2 : i < a.length) m (hm : m < runs[i].length), a[i] = m + 1 → ∀ j (h3 : j < runs.length) (h4 : j < a.length) (h5 : a[j] < runs[j].length), lx runs[i][m].Key i runs[j][a[j]].Key j
structure fN (runs : List (List aA)) (a : List Nat) : Prop where
  at' : At runs a
  passed : zdm runs a
theorem zdg (runs : List (List aA)) : fN runs (bE runs) := ⟨wM runs, fun i h1 h2 m hm e => by simp [bE] at e⟩
theorem zbw (a : List Nat) (w i : Nat) (h : i < (eE a w).length) (hw : w < a.length) (hi : i < a.length) : (eE a w)[i] = if w = i then a[w] + 1 else a[i] := by
  simp only [gQ a w hw, List.getElem_set]
theorem zhW (runs : List (List aA)) (a : List Nat) (hg : xC runs) (h : fN runs a) (hw : wn runs a < runs.length) (hwa : wn runs a < a.length) (hq : a[wn runs a] < runs[wn runs a].length) : fN runs (eE a (wn runs a)) := by
  refine ⟨uW runs a _ h.at' hw hwa hq, ?_⟩
  have asc : ∀ n (hn : n + 1 < runs[wn runs a].length), bl (runs[wn runs a][n]'(by omega)).Key runs[wn runs a][n + 1].Key = true := fun n hn =>
    ((hg.2.2 _ (List.getElem_mem hw)).2 (n + 1) hn).2 (by omega)
  intro i h1 h2 m hm e j h3 h4 h5
  have h2' : i < a.length := by rw [rP] at h2; exact h2
  have h4' : j < a.length := by rw [rP] at h4; exact h4
  have gi := zbw a (wn runs a) i h2 hwa h2'
  have gj := zbw a (wn runs a) j h4 hwa h4'
  simp only [gj] at h5 ⊢
  rw [gi] at e
  by_cases ei : wn runs a = i
  · subst ei
    simp only [↓reduceIte] at e
    obtain rfl : m = a[wn runs a] := by omega
    by_cases ej : wn runs a = j
    · subst ej
      simp only [↓reduceIte] at h5 ⊢
      exact .inl (asc _ h5)
    · simp only [if_neg ej] at h5 ⊢
      rcases zb2 runs a h.at' hg.1 hw hwa hq j h3 h4' h5 with e | e
      · exact absurd e.symm ej
      · exact e
  · simp only [if_neg ei] at e
    by_cases ej : wn runs a = j
    · subst ej
      simp only [↓reduceIte] at h5 ⊢
      exact .inl (lx_bl (h.passed i h1 h2' m hm e _ hw hwa hq) (asc _ h5))
    · simp only [if_neg ej] at h5 ⊢
      exact h.passed i h1 h2' m hm e j h3 h4' h5
theorem zgb (runs : List (List aA)) (a : List Nat) (hg : xC runs) (h : fN runs a) : (∃ i, ∃ h : i < runs.length, ∃ h2 : i < a.length, a[i] ≠ runs[i].length) → pick (dH runs a (wn runs a)) a.length 0 = .inl () := by
  rintro ⟨i, h1, h2, h3⟩
  rcases gL runs a h.at' hg.1 with ⟨hd, hall⟩ | ⟨hw, hwa, hq, hk⟩
  · exact absurd (hall i h1 h2) h3
  · refine zme fun j k1 k2 => ?_
    have hj : j < a.length := by omega
    have hjr : j < runs.length := by rw [← h.at'.1]; exact hj
    simp only [dH, List.getElem?_eq_getElem hjr, List.getElem?_eq_getElem hj, List.getElem?_eq_getElem hw, List.getElem?_eq_getElem hwa]
    cases e : a[j] with
    | zero => rfl
    | succ m =>
      have hle := h.at'.2 j hjr hj
      have hm : m < runs[j].length := by omega
      simp only [List.getElem?_eq_getElem hm, List.getElem?_eq_getElem hq]
      refine if_neg ?_
      rcases h.passed j hjr hj m hm e _ hw hwa hq with p | ⟨p, q⟩
      · rw [eK p]
        simp
        intro e; rw [e, pG] at p; cases p
      · rw [p, pG]; simp; omega
theorem zbj (runs : List (List aA)) (a : List Nat) (hg : xC runs) (h : fN runs a) : Ok (jC runs a) a := ⟨hg, h.at', rfl, zgb runs a hg h⟩
theorem zao (runs : List (List aA)) (a : List Nat) (hn : xL runs) (hg : xC runs) (h : fN runs a) : Ev (fun fu => cH fu (jC runs a)) (0, 0) := by
  have hl := qZ runs a h.at'
  have := hn.1
  obtain ⟨r, r1, -, -, r4⟩ := zbx (jC runs a) ⟨hn, by rw [hl.1]; omega, by rw [hl.2.2.1]; omega, by rw [hl.2.2.2]; omega⟩
  rw [r4 a (zbj runs a hg h)] at r1
  exact r1
def hC (runs : List (List aA)) (i : Nat) : List Nat := yH runs i (bE runs)
theorem ziH (runs : List (List aA)) (i : Nat) : ∀ a, yH runs (i + 1) a = eE (yH runs i a) (wn runs (yH runs i a)) := by
  induction i with
  | zero => intro a; rfl
  | succ i ih => intro a; exact ih (eE a (wn runs a))
theorem cU (runs : List (List aA)) (i : Nat) : hC runs (i + 1) = eE (hC runs i) (wn runs (hC runs i)) := ziH runs i _
def uB (runs : List (List aA)) : Nat := zA runs (bE runs)
structure Plc (runs : List (List aA)) (i : Nat) : Prop where
  rch : fN runs (hC runs i)
  left : zA runs (hC runs i) = uB runs - i
theorem aN (runs : List (List aA)) (hg : xC runs) (i : Nat) (h : i ≤ uB runs) : Plc runs i := by
  induction i with
  | zero => exact ⟨zdg runs, rfl⟩
  | succ i ih =>
    have p := ih (by omega)
    rcases gL runs (hC runs i) p.rch.at' hg.1 with ⟨hd, hall⟩ | ⟨hw, hwa, hq, hk⟩
    · have := uS runs _ hall
      rw [p.left] at this; omega
    · have := eR runs _ _ hw hwa hq
      rw [← cU, p.left] at this
      exact ⟨by rw [cU]; exact zhW runs _ hg p.rch hw hwa hq, by omega⟩
structure Cur (runs : List (List aA)) (i : Nat) : Prop where
  hw : wn runs (hC runs i) < runs.length
  hwa : wn runs (hC runs i) < (hC runs i).length
  hq : (hC runs i)[wn runs (hC runs i)] < runs[wn runs (hC runs i)].length
theorem cY (runs : List (List aA)) (hg : xC runs) (i : Nat) (h : i < uB runs) : Cur runs i := by
  have p := aN runs hg i (by omega)
  rcases gL runs (hC runs i) p.rch.at' hg.1 with ⟨hd, hall⟩ | ⟨hw, hwa, hq, hk⟩
  · have := uS runs _ hall
    rw [p.left] at this; omega
  · exact ⟨hw, hwa, hq⟩
theorem zjR (runs : List (List aA)) (m : Nat) : ∀ (a : List Nat) (i : Nat), i < m → (cG runs m a)[i]? = some ((runs[wn runs (yH runs i a)]?.getD [])[(yH runs i a)[wn runs (yH runs i a)]?.getD 0]?.getD ⟨[], [], false, 0⟩, wn runs (yH runs i a)) := by
  induction m with
  | zero => intro a i h; omega
  | succ m ih =>
    intro a i h
    cases i with
    | zero => rfl
    | succ i => simp only [cG, List.getElem?_cons_succ]; exact ih _ i (by omega)
def yB (runs : List (List aA)) : List aA := kN (cG runs (uB runs) (bE runs))
def allF (runs : List (List aA)) : List Int := hP (cG runs (uB runs) (bE runs))
theorem wP (runs : List (List aA)) : (yB runs).length = uB runs := by simp [yB, kN, ziO]
theorem zfy (runs : List (List aA)) (i : Nat) (h : i < uB runs) (c : Cur runs i) : ix (yB runs) (i : Int) = some ((runs[wn runs (hC runs i)]'(c.hw))[(hC runs i)[wn runs (hC runs i)]'(c.hwa)]'(c.hq)) := by
  rw [oS]
  simp only [yB, kN, List.getElem?_map, zjR runs _ _ i h, Option.map_some]
  have h1 := c.hw
  have h2 := c.hwa
  have h3 := c.hq
  simp only [hC] at h1 h2 h3 ⊢
  simp only [List.getElem?_eq_getElem h1, List.getElem?_eq_getElem h2, Option.getD_some, List.getElem?_eq_getElem h3]
def zR (runs : List (List aA)) : Nat := (runs.map List.length).sum
theorem zex : ∀ (runs : List (List aA)) (a : List Nat), zA runs a ≤ zR runs
  | [], _ => by simp [zA, zR]
  | _ :: _, [] => by simp [zA]
  | l :: runs, n :: a => by
    have := zex runs a
    simp only [zA, zR, List.zipWith_cons_cons, List.sum_cons, List.map_cons] at this ⊢
    omega
structure jJ (runs : List (List aA)) : Prop where
  near : xL runs
  few : xC runs → uB runs ≤ 120
def dM (b s : Bool) (k : List UInt8) (e : aA) : Bool := !(s && e.Key == k) && !(b && e.Dead)
def mH (b : Bool) : Bool → List UInt8 → List aA → List aA
  | _, _, [] => []
  | s, k, e :: l => if dM b s k e then e :: mH b true e.Key l else mH b true e.Key l
def lE : Bool → List UInt8 → List aA → Bool × List UInt8
  | s, k, [] => (s, k)
  | _, _, e :: l => lE true e.Key l
def wG (b : Bool) (l : List aA) : List aA := mH b false [] l
def sF (b : Bool) (l : List aA) : fB := ⟨(lE false [] l).1, (lE false [] l).2, b⟩
def zG : Bool → List UInt8 → List aA → Prop
  | _, _, [] => True
  | s, k, e :: l => chk e = 0 ∧ (s = true → bl e.Key k = false) ∧ zG true e.Key l
def yO (s : Bool) (k : List UInt8) : Prop := k.length ≤ 32 ∧ (s = false → k = [])
theorem zhi {e : aA} (h : chk e = 0) : e.Key.length ≤ 32 := by
  simp only [chk] at h
  split at h
  · cases h
  · omega
theorem wU {e : aA} (h : chk e = 0) : yO true e.Key := ⟨zhi h, by simp⟩
theorem zav (b : Bool) : ∀ (l : List aA) s k, (mH b s k l).length ≤ l.length
  | [], _, _ => Nat.le_refl _
  | e :: l, s, k => by
    have := zav b l true e.Key
    simp only [mH]
    split <;> simp only [List.length_cons] <;> omega
theorem zee (b : Bool) : ∀ (l r : List aA) s k, mH b s k (l ++ r) = mH b s k l ++ mH b (lE s k l).1 (lE s k l).2 r
  | [], r, s, k => rfl
  | e :: l, r, s, k => by
    have := zee b l r true e.Key
    simp only [mH, lE, List.cons_append, this]
    split <;> rfl
theorem zek : ∀ (l r : List aA) s k, lE s k (l ++ r) = lE (lE s k l).1 (lE s k l).2 r
  | [], _, _, _ => rfl
  | e :: l, r, s, k => by simp only [lE, List.cons_append, zek l r]
theorem zdS : ∀ (l r : List aA) s k, zG s k (l ++ r) ↔ zG s k l ∧ zG (lE s k l).1 (lE s k l).2 r
  | [], r, s, k => by simp [zG, lE]
  | e :: l, r, s, k => by simp only [zG, lE, List.cons_append, zdS l r, and_assoc]
theorem zb7 : ∀ (l : List aA) s k, yO s k → zG s k l → yO (lE s k l).1 (lE s k l).2
  | [], _, _, h, _ => h
  | e :: l, s, k, _, f => zb7 l true e.Key (wU f.1) f.2.2
theorem zad : ∀ (l : List aA) s k (h : 0 < l.length), lE s k l = (true, l[l.length - 1].Key)
  | [e], _, _, _ => rfl
  | e :: f :: l, s, k, h => by
    have := zad (f :: l) true e.Key (by simp)
    rw [lE, this]
    simp
theorem zkL (fu : Nat) (k : List UInt8) : zL fu k = some (if 32 < k.length then 3 else 0) := by
  have c1 : decide ((32 : Int) < (k.length : Int)) = decide (32 < k.length) := decide_eq_decide.2 (by omega)
  simp only [zL, c1]
  by_cases h : 32 < k.length <;> simp [h]
theorem zbW (fu : Nat) (s : Bool) (k : List UInt8) (b : Bool) (h : yO s k) : oO fu ⟨s, k, b⟩ = some 0 := by
  simp only [oO, zkL, if_neg (show ¬ 32 < k.length by have := h.1; omega), Option.bind_some]
  cases s with
  | false => rw [h.2 rfl]; simp
  | true => simp
theorem zml (fu : Nat) (s : Bool) (k : List UInt8) (b : Bool) (h : yO s k) : jV fu ⟨s, k, b⟩ = some 0 := by
  have d : decide ((32 : Int) < (k.length : Int)) = false := decide_eq_false (by have := h.1; omega)
  simp only [jV, d, Bool.false_eq_true, ↓reduceIte]
  cases s with
  | false => rw [h.2 rfl]; simp
  | true => simp
theorem zfg (fu : Nat) (s : Bool) (k : List UInt8) (b : Bool) (e : aA) (h : yO s k) (h1 : chk e = 0) (h2 : s = true → bl e.Key k = false) : nM fu ⟨s, k, b⟩ e = some (dM b s k e, ⟨true, e.Key, b⟩, 0) := by
  have h2' : s = true → Op.bytesLess e.Key k = false := h2
  simp only [nM, zbW fu s k b h, yP, h1, Option.bind_some, dM]
  cases s with
  | false => cases b <;> cases hd : e.Dead <;> simp
  | true =>
    simp only [h2' rfl]
    cases hk : (e.Key == k) <;> cases b <;> cases hd : e.Dead <;> simp
theorem zoh (fu : Nat) (s : Bool) (k : List UInt8) (b : Bool) (e : aA) (h : yO s k) (h1 : chk e = 0) (h2 : s = true → bl e.Key k = false) : iU fu ⟨s, k, b⟩ e = some (dM b s k e, ⟨true, e.Key, b⟩, 0) := by
  have h2' : s = true → Op.bytesLess e.Key k = false := h2
  simp only [iU, zml fu s k b h, kV, h1, Option.bind_some, dM]
  cases s with
  | false => cases b <;> cases hd : e.Dead <;> simp
  | true =>
    simp only [h2' rfl]
    cases hk : (e.Key == k) <;> cases b <;> cases hd : e.Dead <;> simp
theorem zjP (l : List aA) (v : fB) (hl : l.length ≤ 1000000) (m : Nat) : ∀ (n : Nat) (s : Bool) (k : List UInt8) (out : List aA), n + m = l.length → yO s k → zG s k (l.drop n) → out.length ≤ n →
    Ev (fun fu => fH l v fu (n : Int) s k out) (.inl ((lE s k (l.drop n)).1, (lE s k (l.drop n)).2, out ++ mH v.Bottom s k (l.drop n))) := by
  induction m with
  | zero =>
    intro n s k out hn hs hf ho
    obtain rfl : n = l.length := by omega
    exact Ev.succ (Ev.of (fun fu => by simp [fH, List.drop_length, lE, mH]) (Ev.ret _))
  | succ m ih =>
    intro n s k out hn hs hf ho
    have hnl : n < l.length := by omega
    have d : decide ((n : Int) < (l.length : Int)) = true := decide_eq_true (by omega)
    rw [List.drop_eq_getElem_cons hnl] at hf ⊢
    have h2 : s = true → Op.bytesLess l[n].Key k = false := hf.2.1
    have g : 2 * ((out.length + 1) * 48) ≤ 281474976710656 := by omega
    have hcl : (⟨l[n].Key, l[n].Val, l[n].Dead, l[n].Seq⟩ : aA) = l[n] := rfl
    have ih1 := ih (n + 1) true l[n].Key (out ++ [l[n]]) (by omega) (wU hf.1) hf.2.2 (by simp; omega)
    have ih2 := ih (n + 1) true l[n].Key out (by omega) (wU hf.1) hf.2.2 (by omega)
    simp only [lE, mH]
    refine Ev.succ ?_
    simp only [fH, d, ↓reduceIte, xA l n hnl, Option.bind_some, zbW _ s k v.Bottom hs, yP, hf.1, decide_true, Bool.not_true, Bool.false_eq_true, qC n (by omega), dR, hcl, if_pos g, dM]
    rw [List.append_assoc] at ih1
    cases s with
    | false =>
      simp only [Bool.false_eq_true, ↓reduceIte, Option.bind_some, Bool.false_and, Bool.not_false, Bool.true_and]
      cases hb : v.Bottom with
      | false => rw [hb] at ih1; exact ih1
      | true =>
        rw [hb] at ih1 ih2
        cases hd : l[n].Dead with
        | false => exact ih1
        | true => exact ih2
    | true =>
      simp only [↓reduceIte, h2 rfl, Option.bind_some, Bool.false_eq_true, Bool.true_and]
      cases hk : (l[n].Key == k) with
      | true => exact ih2
      | false =>
        simp only [Bool.false_eq_true, ↓reduceIte, Bool.not_false, Bool.true_and]
        cases hb : v.Bottom with
        | false => rw [hb] at ih1; exact ih1
        | true =>
          rw [hb] at ih1 ih2
          cases hd : l[n].Dead with
          | false => exact ih1
          | true => exact ih2
theorem zih (l : List aA) (b : Bool) (hl : l.length ≤ 20000) (hf : zG false [] l) : Ev (fun fu => bQ fu l b) (wG b l, 0, 0) := by
  unfold bQ
  have d : decide ((20000 : Int) < (l.length : Int)) = false := decide_eq_false (by omega)
  simp only [d, Bool.false_eq_true, ↓reduceIte, sK, Option.bind_some]
  have := zjP l ⟨false, [], b⟩ (by omega) l.length 0 false [] [] (by omega) ⟨by simp, fun _ => rfl⟩ (by simpa using hf) (by simp)
  exact Ev.bind this (by simp only [List.drop_zero, List.nil_append]; exact Ev.ret _)
theorem znO (l : List aA) (b : Bool) (hl : l.length ≤ 1000000) (m : Nat) : ∀ (n : Nat) (s : Bool) (k : List UInt8) (out : List aA), n + m = l.length → yO s k → zG s k (l.drop n) → out.length ≤ n →
    Ev (fun fu => vK l fu (n : Int) s k b out) (.inl ((lE s k (l.drop n)).1, (lE s k (l.drop n)).2, b, out ++ mH b s k (l.drop n))) := by
  induction m with
  | zero =>
    intro n s k out hn hs hf ho
    obtain rfl : n = l.length := by omega
    exact Ev.succ (Ev.of (fun fu => by simp [vK, List.drop_length, lE, mH]) (Ev.ret _))
  | succ m ih =>
    intro n s k out hn hs hf ho
    have hnl : n < l.length := by omega
    have d : decide ((n : Int) < (l.length : Int)) = true := decide_eq_true (by omega)
    rw [List.drop_eq_getElem_cons hnl] at hf ⊢
    have g : 2 * ((out.length + 1) * 48) ≤ 281474976710656 := by omega
    have ih1 := ih (n + 1) true l[n].Key (out ++ [l[n]]) (by omega) (wU hf.1) hf.2.2 (by simp; omega)
    have ih2 := ih (n + 1) true l[n].Key out (by omega) (wU hf.1) hf.2.2 (by omega)
    simp only [lE, mH]
    refine Ev.succ ?_
    simp only [vK, d, ↓reduceIte, xA l n hnl, Option.bind_some, zoh _ s k b l[n] hs hf.1 hf.2.1, decide_true, Bool.not_true, Bool.false_eq_true, qC n (by omega), if_pos g]
    rw [List.append_assoc] at ih1
    cases dM b s k l[n] with
    | true => exact ih1
    | false => exact ih2
theorem zdu (l : List aA) (b : Bool) (hl : l.length ≤ 20000) (hf : zG false [] l) : Ev (fun fu => mT fu l b) (wG b l, 0, 0) := by
  unfold mT
  have d : decide ((20000 : Int) < (l.length : Int)) = false := decide_eq_false (by omega)
  simp only [d, Bool.false_eq_true, ↓reduceIte, zP, Option.bind_some]
  have := znO l b (by omega) l.length 0 false [] [] (by omega) ⟨by simp, fun _ => rfl⟩ (by simpa using hf) (by simp)
  exact Ev.bind this (by simp only [List.drop_zero, List.nil_append]; exact Ev.ret _)
theorem zcY (l : List aA) (b : Bool) (hl : l.length ≤ 20000) (hf : zG false [] l) : Ev (fun fu => qW fu l b) (wG b l, sF b l) := by
  unfold qW
  refine Ev.bind (zdu l b hl hf) ?_
  simp only [zP, Option.bind_some]
  by_cases h : 0 < l.length
  · have d : decide ((0 : Int) < (l.length : Int)) = true := decide_eq_true (by omega)
    have w : IntKind.i64.wrap ((l.length : Int) - 1) = ((l.length - 1 : Nat) : Int) := by rw [wr (by omega) (by omega)]; omega
    simp only [d, ↓reduceIte, w, xA l (l.length - 1) (by omega), Option.bind_some, sF, zad l false [] h]
    exact Ev.ret _
  · have d : decide ((0 : Int) < (l.length : Int)) = false := decide_eq_false (by omega)
    obtain rfl : l = [] := List.length_eq_zero_iff.1 (by omega)
    simp only [d, Bool.false_eq_true, ↓reduceIte, sF, lE]
    exact Ev.ret _
theorem zcm : ∀ (l : List aA) (s : Bool) (k : List UInt8), (∀ i (h : i < l.length), chk l[i] = 0) → (∀ i (h : i + 1 < l.length), bl l[i + 1].Key l[i].Key = false) → (∀ h : 0 < l.length, s = true → bl l[0].Key k = false) → zG s k l
  | [], _, _, _, _, _ => trivial
  | e :: l, s, k, h1, h2, h3 => ⟨h1 0 (by simp), h3 (by simp), zcm l true e.Key (fun i h => h1 (i + 1) (by simp; omega)) (fun i h => h2 (i + 1) (by simp; omega)) (fun h _ => h2 0 (by simp; omega))⟩
theorem zdA : ∀ (l : List aA) (n : Nat) s k, zG s k l → zG s k (l.take n)
  | [], n, _, _, _ => by simp [zG]
  | e :: l, 0, _, _, _ => trivial
  | e :: l, n + 1, s, k, h => ⟨h.1, h.2.1, zdA l n true e.Key h.2.2⟩
theorem sY (runs : List (List aA)) (i : Nat) (h : i < uB runs) (c : Cur runs i) (h2 : i < (yB runs).length) : (yB runs)[i] = (runs[wn runs (hC runs i)]'(c.hw))[(hC runs i)[wn runs (hC runs i)]'(c.hwa)]'(c.hq) := by
  have := zfy runs i h c
  rw [xA _ _ h2] at this
  exact Option.some.inj this
theorem zda (runs : List (List aA)) (hg : xC runs) : zG false [] (yB runs) := by
  refine zcm _ _ _ (fun i h => ?_) (fun i h => ?_) (by simp)
  · rw [wP] at h
    have c := cY runs hg i h
    rw [sY runs i h c]
    exact ((hg.2.2 _ (List.getElem_mem c.hw)).2 _ c.hq).1
  · rw [wP] at h
    have c := cY runs hg (i + 1) h
    have c' := cY runs hg i (by omega)
    have p := aN runs hg (i + 1) (by omega)
    have hw := c.hw
    have hwa := c.hwa
    have hq := c.hq
    have hw' := c'.hw
    have hwa' := c'.hwa
    have hq' := c'.hq
    rw [sY runs i (by omega) c', sY runs (i + 1) h c]
    have hl2 : wn runs (hC runs i) < (hC runs (i + 1)).length := by rw [cU, rP]; exact hwa'
    have e1 : (hC runs (i + 1))[wn runs (hC runs i)] = (hC runs i)[wn runs (hC runs i)] + 1 := by
      have := zbw (hC runs i) (wn runs (hC runs i)) (wn runs (hC runs i)) (by rw [rP]; exact hwa') hwa' hwa'
      simp only [cU, this, ↓reduceIte]
    rcases p.rch.passed (wn runs (hC runs i)) hw' hl2 _ hq' e1 _ hw hwa hq with l | ⟨l, l2⟩
    · exact eK l
    · rw [l]; exact pG _
theorem zal : ∀ (runs : List (List aA)) (a : List Nat), a.length = runs.length → (∀ i (h : i < runs.length) (h2 : i < a.length), a[i] ≤ runs[i].length) → zA runs a + a.sum = zR runs
  | [], [], _, _ => rfl
  | l :: runs, n :: a, hl, h => by
    have := zal runs a (by simpa using hl) (fun i h1 h2 => h (i + 1) (by simp; omega) (by simp; omega))
    have h0 := h 0 (by simp) (by simp)
    simp only [List.getElem_cons_zero] at h0
    simp only [zA, zR, List.zipWith_cons_cons, List.sum_cons, List.map_cons] at this ⊢
    omega
theorem znm (runs : List (List aA)) : (bE runs).sum = 0 := by
  simp [bE]
theorem zlS (runs : List (List aA)) : uB runs = zR runs := by
  have := zal runs (bE runs) (wM runs).1 (wM runs).2
  rw [znm] at this
  simpa [uB] using this
theorem zeu (runs : List (List aA)) (a : List Nat) (h : At runs a) : zA runs a + a.sum = uB runs := by
  rw [zlS]; exact zal runs a h.1 h.2
theorem hZ (runs : List (List aA)) (hg : xC runs) (i : Nat) (h : i ≤ uB runs) : (hC runs i).sum = i := by
  have p := aN runs hg i h
  have := zeu runs _ p.rch.at'
  have := p.left
  omega
theorem zd1 : ∀ (a b : List Nat), a.length = b.length → (∀ i (h1 : i < a.length) (h2 : i < b.length), a[i] ≤ b[i]) → a.sum ≤ b.sum ∧ (a.sum = b.sum → a = b)
  | [], [], _, _ => ⟨Nat.le_refl _, fun _ => rfl⟩
  | x :: a, y :: b, hl, h => by
    obtain ⟨p, q⟩ := zd1 a b (by simpa using hl) (fun i h1 h2 => h (i + 1) (by simp; omega) (by simp; omega))
    have h0 := h 0 (by simp) (by simp)
    simp only [List.getElem_cons_zero] at h0
    simp only [List.sum_cons]
    refine ⟨by omega, fun e => ?_⟩
    obtain rfl : x = y := by omega
    rw [q (by omega)]
theorem more (a b : List Nat) (hl : a.length = b.length) (hs : a.sum = b.sum) (hne : a ≠ b) : ∃ i, ∃ h1 : i < a.length, ∃ h2 : i < b.length, a[i] < b[i] := by
  refine Classical.byContradiction fun hn => hne ?_
  have := zd1 b a hl.symm fun i h1 h2 => Nat.le_of_not_lt fun h => hn ⟨i, h2, h1, h⟩
  exact (this.2 hs.symm).symm
def le (k l : List UInt8) : Prop := bl k l = true ∨ k = l
theorem zaT (l : List aA) (hg : hO l) (i : Nat) : ∀ (d : Nat) (h : i + d < l.length), le (l[i]'(by omega)).Key l[i + d].Key ∧ (0 < d → bl (l[i]'(by omega)).Key l[i + d].Key = true)
  | 0, _ => ⟨.inr rfl, by omega⟩
  | d + 1, h => by
    have p := (zaT l hg i d (by omega)).1
    have q : bl (l[i + d]'(by omega)).Key l[i + (d + 1)].Key = true := (hg.2 (i + (d + 1)) h).2 (by omega)
    rcases p with p | p
    · exact ⟨.inl (xM p q), fun _ => xM p q⟩
    · rw [p]; exact ⟨.inl q, fun _ => q⟩
theorem zeE (l : List aA) (hg : hO l) (i j : Nat) (h : i ≤ j) (hj : j < l.length) : le (l[i]'(by omega)).Key l[j].Key := by
  obtain ⟨d, rfl⟩ : ∃ d, j = i + d := ⟨j - i, by omega⟩
  exact (zaT l hg i d hj).1
theorem run_lt (l : List aA) (hg : hO l) (i j : Nat) (h : i < j) (hj : j < l.length) : bl (l[i]'(by omega)).Key l[j].Key = true := by
  obtain ⟨d, rfl⟩ : ∃ d, j = i + d := ⟨j - i, by omega⟩
  exact (zaT l hg i d hj).2 (by omega)
theorem xZ {a b c : List UInt8} (h : bl a b = true) (k : le b c) : bl a c = true := by
  rcases k with k | rfl
  · exact xM h k
  · exact h
theorem le_bl {a b c : List UInt8} (h : le a b) (k : bl b c = true) : bl a c = true := by
  rcases h with h | rfl
  · exact xM h k
  · exact k
theorem ziV (runs : List (List aA)) (hg : xC runs) (a b : List Nat) (ha : fN runs a) (hb : fN runs b) (hs : a.sum = b.sum) : a = b := by
  refine Classical.byContradiction fun hne => ?_
  have hl : a.length = b.length := by rw [ha.at'.1, hb.at'.1]
  obtain ⟨i, i1, i2, i3⟩ := more a b hl hs hne
  obtain ⟨j, j1, j2, j3⟩ := more b a hl.symm hs.symm (Ne.symm hne)
  have ir : i < runs.length := by rw [← ha.at'.1]; exact i1
  have jr : j < runs.length := by rw [← ha.at'.1]; exact j2
  have hbi := hb.at'.2 i ir i2
  have haj := ha.at'.2 j jr j2
  have gi := hg.2.2 _ (List.getElem_mem ir)
  have gj := hg.2.2 _ (List.getElem_mem jr)
  have p1 := ha.passed j jr j2 (a[j] - 1) (by omega) (by omega) i ir i1 (by omega)
  have p2 := hb.passed i ir i2 (b[i] - 1) (by omega) (by omega) j jr j1 (by omega)
  have q1 := zeE runs[i] gi a[i] (b[i] - 1) (by omega) (by omega)
  have q2 := zeE runs[j] gj b[j] (a[j] - 1) (by omega) (by omega)
  rcases p1 with p1 | ⟨p1, o1⟩
  · have r1 := xZ p1 q1
    have r2 : bl runs[j][a[j] - 1].Key runs[j][b[j]].Key = true := by
      rcases p2 with p2 | ⟨p2, _⟩
      · exact xM r1 p2
      · rw [← p2]; exact r1
    have := xZ r2 q2
    rw [pG] at this; cases this
  · rcases p2 with p2 | ⟨p2, o2⟩
    · have r1 := le_bl q1 p2
      rw [← p1] at r1
      have := xZ r1 q2
      rw [pG] at this; cases this
    · omega
theorem zj6 (runs : List (List aA)) (hg : xC runs) (a : List Nat) (ha : At runs a) (h : (∃ i, ∃ h : i < runs.length, ∃ h2 : i < a.length, a[i] ≠ runs[i].length) → pick (dH runs a (wn runs a)) a.length 0 = .inl ()) : zdm runs a := by
  intro i h1 h2 m hm e j h3 h4 h5
  have hp := h ⟨j, h3, h4, by omega⟩
  rcases gL runs a ha hg.1 with ⟨hd, hall⟩ | ⟨hw, hwa, hq, hk⟩
  · have := hall j h3 h4; omega
  · have hb := wX hp i (by omega) (by omega)
    simp only [dH, List.getElem?_eq_getElem h1, List.getElem?_eq_getElem h2, e, List.getElem?_eq_getElem hw, List.getElem?_eq_getElem hwa, List.getElem?_eq_getElem hm, List.getElem?_eq_getElem hq] at hb
    have hb' : ¬ (bl runs[wn runs a][a[wn runs a]].Key runs[i][m].Key = true ∨ (runs[i][m].Key = runs[wn runs a][a[wn runs a]].Key ∧ wn runs a < i)) := by
      intro q; rw [if_pos q] at hb; cases hb
    have w1 : lx runs[i][m].Key i runs[wn runs a][a[wn runs a]].Key (wn runs a) := by
      rcases wQ runs[i][m].Key runs[wn runs a][a[wn runs a]].Key with t | t | t
      · exact .inl t
      · refine .inr ⟨t, ?_⟩
        have : ¬ wn runs a < i := fun q => hb' (.inr ⟨t, q⟩)
        rcases Nat.lt_or_ge i (wn runs a) with q | q
        · exact q
        · obtain rfl : i = wn runs a := by omega
          have := run_lt _ (hg.2.2 _ (List.getElem_mem h1)) m a[wn runs a] (by omega) hq
          rw [t, pG] at this; cases this
      · exact absurd (.inl t) hb'
    rcases zb2 runs a ha hg.1 hw hwa hq j h3 h4 h5 with rfl | w2
    · exact w1
    · rcases w2 with w2 | ⟨w2, w3⟩
      · rcases w1 with w1 | ⟨w1, _⟩
        · exact .inl (xM w1 w2)
        · rw [w1]; exact .inl w2
      · rcases w1 with w1 | ⟨w1, w4⟩
        · rw [← w2]; exact .inl w1
        · exact .inr ⟨w1.trans w2, by omega⟩
theorem ok_plc (s : gB) (a : List Nat) (h : Ok s a) : a = hC s.Runs a.sum ∧ a.sum ≤ uB s.Runs := by
  obtain ⟨hg, ha, he, hr⟩ := h
  have hs := zeu s.Runs a ha
  have hle : a.sum ≤ uB s.Runs := by omega
  exact ⟨ziV s.Runs hg a _ ⟨ha, zj6 s.Runs hg a ha hr⟩ (aN s.Runs hg _ hle).rch (hZ s.Runs hg _ hle).symm, hle⟩
theorem oX (x y : fB) : fB.eqb x y = decide (x = y) := by
  obtain ⟨a, b, c⟩ := x
  obtain ⟨a', b', c'⟩ := y
  by_cases h1 : a = a' <;> by_cases h2 : b = b' <;> by_cases h3 : c = c' <;> simp [fB.eqb, h1, h2, h3]
theorem zmK (l k : List aA) (hl : l.length < 1000000000000000000) : ∃ b, Ev (fun fu => zO fu l k) b ∧ (b = true ↔ l = k) := by
  unfold zO
  by_cases h : l.length = k.length
  · have hd : (!decide ((l.length : Int) = (k.length : Int))) = false := by simp; omega
    simp only [hd, Bool.false_eq_true, ↓reduceIte]
    obtain ⟨r, r1, r2⟩ := Ev.eqs false l k h (L := bI l k) (fun fu => by simp [bI]) (fun fu n h1 h2 => by
      have d : decide ((n : Int) < (l.length : Int)) = true := decide_eq_true (by omega)
      simp only [bI, d, ↓reduceIte, xA l n h1, xA k n h2, Option.bind_some, oW, qC n (by omega)]
      by_cases e : l[n] = k[n] <;> simp [e])
    rcases r2 with ⟨rfl, e⟩ | ⟨rfl, e⟩
    · exact ⟨true, Ev.bind r1 (Ev.ret _), by simp [e]⟩
    · exact ⟨false, Ev.bind r1 (Ev.ret _), by simp [e]⟩
  · have hd : (!decide ((l.length : Int) = (k.length : Int))) = true := by simp; omega
    simp only [hd, ↓reduceIte]
    exact ⟨false, Ev.ret _, by simp; intro e; exact h (by rw [e])⟩
theorem zY {L : Nat → Int → Int → Option Int} (a : List Nat) (hl : a.length ≤ 1000000) (hb : a.sum ≤ 1000000) (stop : ∀ fu c, L (fu + 1) c (a.length : Int) = some c)
    (step : ∀ fu c n (h : n < a.length), L (fu + 1) c (n : Int) = L fu (IntKind.i64.wrap (c + (a[n] : Int))) ((n + 1 : Nat) : Int)) : Ev (fun fu => L fu 0 0) (a.sum : Int) := by
  have go : ∀ m (n c : Nat), n + m = a.length → c + (a.drop n).sum = a.sum → Ev (fun fu => L fu (c : Int) (n : Int)) (a.sum : Int) := by
    intro m
    induction m with
    | zero =>
      intro n c hn hc
      obtain rfl : n = a.length := by omega
      simp only [List.drop_length, List.sum_nil, Nat.add_zero] at hc
      subst hc
      exact Ev.succ (Ev.of (fun fu => stop fu _) (Ev.ret _))
    | succ m ih =>
      intro n c hn hc
      have hnl : n < a.length := by omega
      rw [List.drop_eq_getElem_cons hnl, List.sum_cons] at hc
      have w : IntKind.i64.wrap ((c : Int) + (a[n] : Int)) = ((c + a[n] : Nat) : Int) := by rw [wr (by omega) (by omega)]; omega
      exact Ev.succ (Ev.of (fun fu => (step fu c n hnl).trans (by rw [w])) (ih (n + 1) (c + a[n]) (by omega) (by omega)))
  exact go a.length 0 0 (by omega) (by simp)
def uC (runs : List (List aA)) (b : Bool) (n : Nat) : vB := ⟨jC runs (hC runs n), sF b ((yB runs).take n), wG b ((yB runs).take n), (n : Int)⟩
structure rY (s : vB) : Prop where
  merge : zdL s.Merge
  seen : jJ s.Merge.Runs
  out : s.Out.length ≤ 1000
theorem zaD (runs : List (List aA)) (b : Bool) (n : Nat) (hs : jJ runs) (hg : xC runs) (hn : n ≤ uB runs) : rY (uC runs b n) := by
  have p := aN runs hg n hn
  have hl := qZ runs _ p.rch.at'
  have h1 := hs.near.1
  refine ⟨⟨hs.near, ?_, ?_, ?_⟩, hs, ?_⟩
  · show (jC runs (hC runs n)).At.length ≤ 1000
    rw [hl.1]; omega
  · show (jC runs (hC runs n)).Tree.Keys.length ≤ 1000
    rw [hl.2.2.1]; omega
  · show (jC runs (hC runs n)).Tree.Lose.length ≤ 1000
    rw [hl.2.2.2]; omega
  · show (wG b ((yB runs).take n)).length ≤ 1000
    have := zav b ((yB runs).take n) false []
    have h2 := hs.few hg
    have h3 : ((yB runs).take n).length ≤ n := by simp; omega
    show (mH b false [] ((yB runs).take n)).length ≤ 1000
    omega
theorem zbv (runs : List (List aA)) (hg : xC runs) (n : Nat) : zG false [] ((yB runs).take n) := zdA _ _ _ _ (zda runs hg)
theorem shd_eq (b : Bool) (l : List aA) (h : 0 < l.length) : sF b l = ⟨true, l[l.length - 1].Key, b⟩ := by simp only [sF, zad l false [] h]
theorem fin6 (x : Bool) (p : Prop) [Decidable p] : (if (!x) = true then some true else some (!decide p)).bind (fun b => if b = true then some (6 : Int) else some 0) = some (if x = true ∧ p then 0 else 6) := by
  cases x <;> by_cases h : p <;> simp [h]
theorem zir (runs : List (List aA)) (hn : xL runs) (hg : xC runs) : Ev (fun fu => rJ fu runs) (0, 0) ∧ Ev (fun fu => fP fu runs) (0, 0) := by
  obtain ⟨c, c1, c2, c3⟩ := gW runs hn.fits (by have := hn.1; omega)
  rcases c3 with ⟨rfl, _⟩ | hc
  · exact ⟨c1, c2⟩
  · exfalso
    have h := zao runs _ hn hg (zdg runs)
    have : Ev (fun fu => cH fu (jC runs (bE runs))) c := by
      unfold cH
      refine Ev.bind c1 (Ev.of (fun fu => ?_) (Ev.ret _))
      simp only [decide_eq_false hc, Bool.not_false, ↓reduceIte]
    have := Ev.uniq this h
    rw [this] at hc
    exact hc rfl
theorem zdq (runs : List (List aA)) (hn : xL runs) (hg : xC runs) : Ev (fun fu => rI fu runs) (jC runs (bE runs), 0, 0) ∧ Ev (fun fu => xO fu runs) (jC runs (bE runs), 0, 0) := by
  obtain ⟨b, b1, b2, b3⟩ := yY runs hn.fits (by have := hn.1; omega)
  rcases b3 with ⟨_, rfl⟩ | ⟨_, hb⟩
  · exact ⟨b1, b2⟩
  · exfalso
    have g3 : (0 : Int) ≤ (runs.length : Int) ∧ (runs.length : Int) ≤ (runs.length : Int) ∧ (runs.length : Int) ≤ 9223372036854775807 ∧ 8 * (runs.length : Int) ≤ 281474976710656 := by have := hg.2.1; omega
    have : Ev (fun fu => xO fu runs) (jC runs (bE runs), 0, 0) := by
      unfold xO
      refine Ev.bind (zir runs hn hg).2 ?_
      simp only [decide_true, Bool.not_true, Bool.false_eq_true, ↓reduceIte, if_pos g3]
      rw [aU]
      exact Ev.bind (gV runs _ (wM runs) hg.1 hg.2.1) (Ev.ret _)
    have := Ev.uniq this b2
    rw [← this] at hb
    exact hb rfl
theorem zbd (runs : List (List aA)) (hn : xL runs) (hg : xC runs) : Ev (fun fu => qL fu runs) (yB runs, allF runs, 0) ∧ Ev (fun fu => bP fu runs) (yB runs, allF runs, 0) := by
  obtain ⟨w, w1, w2, w3⟩ := all_ev runs hn.fits (by have := hn.1; omega)
  rcases w3 with ⟨_, rfl⟩ | ⟨_, _, hw⟩
  · exact ⟨w1, w2⟩
  · exfalso
    have hr := zcZ runs hg (bE runs)
    have : Ev (fun fu => qL fu runs) (yB runs, allF runs, 0) := by
      unfold qL
      rw [zdf]
      refine Ev.bind (zdq runs hn hg).1 ?_
      simp only [decide_true, Bool.not_true, Bool.false_eq_true, ↓reduceIte]
      exact Ev.bind (zbL runs hg (jC runs (bE runs), 0, 0) rfl _ (bE runs) _ [] [] (wM runs) rfl rfl (by simp; omega) rfl) (Ev.of (fun fu => by simp [yB, allF, uB]) (Ev.ret _))
    have := Ev.uniq this w1
    rw [← this] at hw
    exact hw rfl
theorem zj2 (s : vB) (hs : rY s) : ∃ r, Ev (fun fu => zN fu s) r ∧ Ev (fun fu => gX fu s) r ∧
    ((r = 0 ∧ xC s.Merge.Runs ∧ ∃ n, n ≤ uB s.Merge.Runs ∧ s = uC s.Merge.Runs s.Shadow.Bottom n) ∨ r ≠ 0) ∧
    (xC s.Merge.Runs → ∀ n, n ≤ uB s.Merge.Runs → s = uC s.Merge.Runs s.Shadow.Bottom n → r = 0) := by
  obtain ⟨c, c1, c2, c3, c4⟩ := zbx s.Merge hs.merge
  unfold zN gX
  have toOk : xC s.Merge.Runs → ∀ n, n ≤ uB s.Merge.Runs → s = uC s.Merge.Runs s.Shadow.Bottom n → Ok s.Merge (hC s.Merge.Runs n) := by
    intro hg n hn e
    have := zbj s.Merge.Runs _ hg (aN s.Merge.Runs hg n hn).rch
    have e2 : s.Merge = jC s.Merge.Runs (hC s.Merge.Runs n) := congrArg vB.Merge e
    rw [← e2] at this
    exact this
  rcases c3 with ⟨rfl, a, ho⟩ | hc
  · obtain ⟨hp, hle⟩ := ok_plc _ a ho
    obtain ⟨hg, ha, he, hr⟩ := ho
    have h120 := hs.seen.few hg
    have hal : a.length ≤ 34 := by rw [ha.1]; exact hs.seen.near.1
    have hAt : s.Merge.At = pB a := congrArg gB.At he
    have z1 : Ev (fun fu => eI s fu 0 0) (a.sum : Int) := zY a (by omega) (by omega) (fun fu c => by simp [eI, hAt, gG]) (fun fu c n h => by
      have d : decide ((n : Int) < ((pB a).length : Int)) = true := decide_eq_true (by rw [gG]; omega)
      simp only [eI, hAt, d, ↓reduceIte, gF a n h, Option.bind_some, qC n (by omega)])
    have z2 : Ev (fun fu => uT fu s) (a.sum : Int) := by
      unfold uT
      exact Ev.bind (zY (L := oQ s) a (by omega) (by omega) (fun fu c => by simp [oQ, hAt, gG]) (fun fu c n h => by
        have d : decide ((n : Int) < ((pB a).length : Int)) = true := decide_eq_true (by rw [gG]; omega)
        simp only [oQ, hAt, d, ↓reduceIte, gF a n h, Option.bind_some, qC n (by omega)])) (Ev.ret _)
    generalize hn : a.sum = n at *
    have o1 : decide ((20000 : Int) < (s.Out.length : Int)) = false := decide_eq_false (by have := hs.out; omega)
    have o2 : decide ((20000 : Int) < (n : Int)) = false := decide_eq_false (by omega)
    by_cases hst : s.Steps = (n : Int)
    · have d1 : decide (s.Steps = (n : Int)) = true := decide_eq_true hst
      obtain ⟨w1, w2⟩ := zbd s.Merge.Runs hs.seen.near hg
      have hlen := wP s.Merge.Runs
      have g : (0 : Int) ≤ (n : Int) ∧ (n : Int) ≤ ((yB s.Merge.Runs).length : Int) := by omega
      have hF := zbv s.Merge.Runs hg n
      have htl : ((yB s.Merge.Runs).take n).length = n := by simp; omega
      have f1 := zih ((yB s.Merge.Runs).take n) s.Shadow.Bottom (by omega) hF
      have f2 := zcY ((yB s.Merge.Runs).take n) s.Shadow.Bottom (by omega) hF
      obtain ⟨x, x1, x2⟩ := zmK s.Out (wG s.Shadow.Bottom ((yB s.Merge.Runs).take n)) (by have := hs.out; omega)
      obtain ⟨y, y1, y2⟩ := yZ s.Out (wG s.Shadow.Bottom ((yB s.Merge.Runs).take n)) (by have := hs.out; omega)
      obtain rfl : x = y := Bool.eq_iff_iff.2 (x2.trans y2.symm)
      have sheq : ∀ n' : Nat, n' = n → s.Steps = n' := fun _ h => by rw [h]; exact hst
      have full : s.Out = wG s.Shadow.Bottom ((yB s.Merge.Runs).take n) → s.Shadow = sF s.Shadow.Bottom ((yB s.Merge.Runs).take n) → s = uC s.Merge.Runs s.Shadow.Bottom n := by
        intro e1 e2
        have e3 : s.Merge = jC s.Merge.Runs (hC s.Merge.Runs n) := by rw [← hp]; exact he
        show s = ⟨jC s.Merge.Runs (hC s.Merge.Runs n), sF s.Shadow.Bottom ((yB s.Merge.Runs).take n), wG s.Shadow.Bottom ((yB s.Merge.Runs).take n), (n : Int)⟩
        rw [← e3, ← e1, ← e2, ← hst]
      have only : ∀ n', n' ≤ uB s.Merge.Runs → s = uC s.Merge.Runs s.Shadow.Bottom n' → n' = n := by
        intro n' hn' e
        have : s.Steps = (n' : Int) := congrArg vB.Steps e
        omega
      refine ⟨if x = true ∧ s.Shadow = sF s.Shadow.Bottom ((yB s.Merge.Runs).take n) then 0 else 6, Ev.bind c1 ?_, Ev.bind c2 ?_, ?_, fun _ n' hn' e => ?_⟩
      · simp only [decide_true, Bool.not_true, Bool.false_eq_true, ↓reduceIte]
        refine Ev.bind z1 ?_
        simp only [o1, o2, Bool.false_eq_true, ↓reduceIte, Option.bind_some, d1, Bool.not_true]
        refine Ev.bind w1 ?_
        simp only [decide_true, Bool.not_true, Bool.false_eq_true, ↓reduceIte, if_pos g, Int.toNat_natCast]
        refine Ev.bind f1 ?_
        simp only [decide_true, Bool.not_true, Bool.false_eq_true, ↓reduceIte, sK, Option.bind_some, oX]
        by_cases h0 : 0 < n
        · have d0 : decide ((0 : Int) < (n : Int)) = true := decide_eq_true (by omega)
          have w : IntKind.i64.wrap ((n : Int) - 1) = ((n - 1 : Nat) : Int) := by rw [wr (by omega) (by omega)]; omega
          have e1 := shd_eq s.Shadow.Bottom ((yB s.Merge.Runs).take n) (by omega)
          have e2 : ((yB s.Merge.Runs).take n)[((yB s.Merge.Runs).take n).length - 1]'(by omega) = (yB s.Merge.Runs)[n - 1]'(by omega) := by
            rw [List.getElem_take]; congr 1; omega
          rw [e2] at e1
          simp only [d0, ↓reduceIte, w, xA (yB s.Merge.Runs) (n - 1) (by omega), Option.bind_some, e1]
          exact Ev.bind x1 (Ev.of (fun fu => fin6 x _) (Ev.ret _))
        · have d0 : decide ((0 : Int) < (n : Int)) = false := decide_eq_false (by omega)
          obtain rfl : n = 0 := by omega
          simp only [d0, Bool.false_eq_true, ↓reduceIte, List.take_zero, sF, lE] at x1 ⊢
          exact Ev.bind x1 (Ev.of (fun fu => fin6 x _) (Ev.ret _))
      · simp only [decide_true, Bool.not_true, Bool.false_eq_true, ↓reduceIte]
        refine Ev.bind z2 ?_
        simp only [o1, o2, Bool.false_eq_true, ↓reduceIte, Option.bind_some, d1, Bool.not_true]
        refine Ev.bind w2 ?_
        simp only [if_pos g, Int.toNat_natCast]
        refine Ev.bind f2 ?_
        simp only [oX]
        exact Ev.bind y1 (Ev.of (fun fu => fin6 x _) (Ev.ret _))
      · by_cases h : x = true ∧ s.Shadow = sF s.Shadow.Bottom ((yB s.Merge.Runs).take n)
        · rw [if_pos h]; exact .inl ⟨rfl, hg, n, hle, full (x2.1 h.1) h.2⟩
        · rw [if_neg h]; exact .inr (by decide)
      · obtain rfl := only n' hn' e
        rw [if_pos]
        exact ⟨x2.2 (congrArg vB.Out e), congrArg vB.Shadow e⟩
    · have d1 : decide (s.Steps = (n : Int)) = false := decide_eq_false hst
      refine ⟨7, Ev.bind c1 ?_, Ev.bind c2 ?_, .inr (by decide), fun hg' n' hn' e => ?_⟩
      · simp only [decide_true, Bool.not_true, Bool.false_eq_true, ↓reduceIte]
        refine Ev.bind z1 ?_
        simp only [o1, o2, Bool.false_eq_true, ↓reduceIte, Option.bind_some, d1, Bool.not_false]
        exact Ev.ret _
      · simp only [decide_true, Bool.not_true, Bool.false_eq_true, ↓reduceIte]
        refine Ev.bind z2 ?_
        simp only [o1, o2, Bool.false_eq_true, ↓reduceIte, Option.bind_some, d1, Bool.not_false]
        exact Ev.ret _
      · exfalso
        have h1 : s.Steps = (n' : Int) := congrArg vB.Steps e
        have h2 : s.Merge = jC s.Merge.Runs (hC s.Merge.Runs n') := congrArg vB.Merge e
        have h3 : pB a = pB (hC s.Merge.Runs n') := by rw [← hAt]; exact congrArg gB.At h2
        have h4 : a = hC s.Merge.Runs n' := (List.map_inj_right (fun x y h => by have h : (x : Int) = (y : Int) := h; omega)).1 h3
        have h5 := hZ s.Merge.Runs hg' n' hn'
        rw [← h4, hn] at h5
        exact hst (by rw [h1, h5])
  · refine ⟨c.2, Ev.bind c1 ?_, Ev.bind c2 ?_, .inr hc, fun hg n hn e => absurd (congrArg Prod.snd (c4 _ (toOk hg n hn e))) hc⟩
    · simp only [decide_eq_false hc, Bool.not_false, ↓reduceIte]; exact Ev.ret _
    · simp only [decide_eq_false hc, Bool.not_false, ↓reduceIte]; exact Ev.ret _
theorem zc6 (runs : List (List aA)) (a : List Nat) (hn : xL runs) (hg : xC runs) (h : fN runs a) : Ev (fun fu => pM fu (jC runs a)) (0, 0) := by
  have hl := qZ runs a h.at'
  have := hn.1
  obtain ⟨r, -, r1, -, r4⟩ := zbx (jC runs a) ⟨hn, by rw [hl.1]; omega, by rw [hl.2.2.1]; omega, by rw [hl.2.2.2]; omega⟩
  rw [r4 a (zbj runs a hg h)] at r1
  exact r1
inductive Said (s : vB) (r : Int) : Prop
  | at (e : r = 0) (hg : xC s.Merge.Runs) (n : Nat) (hn : n ≤ uB s.Merge.Runs) (hs : s = uC s.Merge.Runs s.Shadow.Bottom n)
  | no (h : r ≠ 0)
theorem zfW (runs : List (List aA)) (b : Bool) (n : Nat) (hs : jJ runs) (hg : xC runs) (hn : n ≤ uB runs) : Ev (fun fu => zN fu (uC runs b n)) 0 ∧ Ev (fun fu => gX fu (uC runs b n)) 0 := by
  obtain ⟨r, r1, r2, -, r4⟩ := zj2 (uC runs b n) (zaD runs b n hs hg hn)
  have := r4 hg n hn rfl
  subst this
  exact ⟨r1, r2⟩
theorem kY (runs : List (List aA)) (b : Bool) (n : Nat) (hs : jJ runs) (hg : xC runs) (hn : n ≤ uB runs) : Ev (fun fu => oL fu (uC runs b n)) (((uB runs - n : Nat) : Int), 0) ∧ Ev (fun fu => uV fu (uC runs b n)) (((uB runs - n : Nat) : Int), 0) := by
  obtain ⟨c1, c2⟩ := zfW runs b n hs hg hn
  have p := aN runs hg n hn
  have l1 := zmo runs _ hg p.rch.at' (zao runs _ hs.near hg p.rch)
  have l2 := zh5 runs _ hg p.rch.at' (zc6 runs _ hs.near hg p.rch)
  rw [p.left] at l1 l2
  constructor
  · unfold oL
    refine Ev.bind c1 ?_
    simp only [decide_true, Bool.not_true, Bool.false_eq_true, ↓reduceIte]
    exact Ev.bind l1 (Ev.ret _)
  · unfold uV
    refine Ev.bind c2 ?_
    simp only [decide_true, Bool.not_true, Bool.false_eq_true, ↓reduceIte]
    exact Ev.bind l2 (Ev.ret _)
theorem zam (runs : List (List aA)) (b : Bool) (n : Nat) (h : n ≤ uB runs) : (wG b ((yB runs).take n)).length ≤ n := by
  have := zav b ((yB runs).take n) false []
  have h3 : ((yB runs).take n).length ≤ n := by simp; omega
  exact Nat.le_trans this h3
theorem zdR (runs : List (List aA)) (i : Nat) (hs : jJ runs) (hg : xC runs) (h : i < uB runs) (h2 : i < (yB runs).length) : Ev (fun fu => sO fu (jC runs (hC runs i))) ((yB runs)[i], (wn runs (hC runs i) : Int), jC runs (hC runs (i + 1)), 0) ∧
    Ev (fun fu => hX fu (jC runs (hC runs i))) ((yB runs)[i], (wn runs (hC runs i) : Int), jC runs (hC runs (i + 1)), 0) := by
  have p := aN runs hg i (by omega)
  have c := cY runs hg i h
  have e := zas runs _ c.hw c.hwa c.hq
  have n1 := zmQ runs _ hg p.rch.at' (zao runs _ hs.near hg p.rch)
  have n2 := zj0 runs _ hg p.rch.at' (zc6 runs _ hs.near hg p.rch)
  rw [e, ← sY runs i h c h2, ← cU] at n1 n2
  exact ⟨n1, n2⟩
theorem zbn (runs : List (List aA)) (i : Nat) (h2 : i < (yB runs).length) : (yB runs).take (i + 1) = (yB runs).take i ++ [(yB runs)[i]] := (List.take_append_getElem h2).symm
theorem zgj (runs : List (List aA)) (b : Bool) (i : Nat) (h2 : i < (yB runs).length) : sF b ((yB runs).take (i + 1)) = ⟨true, (yB runs)[i].Key, b⟩ := by
  rw [zbn runs i h2]
  simp only [sF, zek, lE]
theorem zfH (runs : List (List aA)) (b : Bool) (i : Nat) (h2 : i < (yB runs).length) : wG b ((yB runs).take (i + 1)) = wG b ((yB runs).take i) ++ (if dM b (sF b ((yB runs).take i)).Some (sF b ((yB runs).take i)).Last (yB runs)[i] then [(yB runs)[i]] else []) := by
  rw [zbn runs i h2]
  simp only [wG, zee, mH, sF]
  rfl
theorem zl5 (runs : List (List aA)) (b : Bool) (i : Nat) (hg : xC runs) (h2 : i < (yB runs).length) (fu : Nat) : nM fu (sF b ((yB runs).take i)) (yB runs)[i] = some (dM b (sF b ((yB runs).take i)).Some (sF b ((yB runs).take i)).Last (yB runs)[i], sF b ((yB runs).take (i + 1)), 0) := by
  have f := zbv runs hg (i + 1)
  rw [zbn runs i h2, zdS] at f
  have ok := zb7 _ false [] ⟨by simp, fun _ => rfl⟩ f.1
  rw [zgj runs b i h2]
  exact zfg fu _ _ b _ ok f.2.1 f.2.2.1
def tupSl (s : vB) : List (List aA) × List Int × List cA × List Int × Int × Bool × List UInt8 × Bool × Int × List aA :=
  (s.Merge.Runs, s.Merge.At, s.Merge.Tree.Keys, s.Merge.Tree.Lose, s.Merge.Tree.Win, s.Shadow.Some, s.Shadow.Last, s.Shadow.Bottom, s.Steps, s.Out)
theorem znM (runs : List (List aA)) (b : Bool) (hs : jJ runs) (hg : xC runs) (n U : Nat) (v : Int × Int) (k : Int) (hU : (if v.1 < k then v.1 else k) = (U : Int)) (hn : n + U ≤ uB runs) (m : Nat) : ∀ i, i + m = U →
    Ev (fun fu => vH v k fu (i : Int) (uC runs b (n + i)).Merge.Runs (uC runs b (n + i)).Merge.At (uC runs b (n + i)).Merge.Tree.Keys (uC runs b (n + i)).Merge.Tree.Lose (uC runs b (n + i)).Merge.Tree.Win (uC runs b (n + i)).Shadow.Some (uC runs b (n + i)).Shadow.Last (uC runs b (n + i)).Shadow.Bottom (uC runs b (n + i)).Steps (uC runs b (n + i)).Out) (.inl (tupSl (uC runs b (n + U)))) := by
  have h120 := hs.few hg
  induction m with
  | zero =>
    intro i hi
    obtain rfl : i = U := by omega
    have d : decide ((i : Int) < (i : Int)) = false := decide_eq_false (by omega)
    refine Ev.succ ?_
    simp only [vH, hU, d, Bool.false_eq_true, ↓reduceIte]
    exact Ev.ret _
  | succ m ih =>
    intro i hi
    have d : decide ((i : Int) < (U : Int)) = true := decide_eq_true (by omega)
    have hl : n + i < (yB runs).length := by rw [wP]; omega
    have nx := (zdR runs (n + i) hs hg (by omega) hl).1
    have hrec := ih (i + 1) (by omega)
    refine Ev.succ ?_
    simp only [vH, hU, d, ↓reduceIte]
    refine Ev.bind (a := ((yB runs)[n + i], (wn runs (hC runs (n + i)) : Int), jC runs (hC runs (n + i + 1)), 0)) nx ?_
    simp only [decide_true, Bool.not_true, Bool.false_eq_true, ↓reduceIte]
    have sh : ∀ fu, nM fu ⟨(uC runs b (n + i)).Shadow.Some, (uC runs b (n + i)).Shadow.Last, (uC runs b (n + i)).Shadow.Bottom⟩ (yB runs)[n + i] = _ := zl5 runs b (n + i) hg hl
    have hk := zam runs b (n + i) (by omega)
    have g : 2 * (((uC runs b (n + i)).Out.length + 1) * 48) ≤ 281474976710656 := by show 2 * (((wG b ((yB runs).take (n + i))).length + 1) * 48) ≤ 281474976710656; omega
    have w1 : IntKind.i64.wrap ((uC runs b (n + i)).Steps + 1) = (uC runs b (n + (i + 1))).Steps := qC (n + i) (by omega)
    have ko : (uC runs b (n + (i + 1))).Out = _ := zfH runs b (n + i) hl
    simp only [sh, Option.bind_some, decide_true, Bool.not_true, Bool.false_eq_true, ↓reduceIte, if_pos g, qC i (show i < 9223372036854775807 by omega), w1]
    rw [ko] at hrec
    cases hkp : dM b (sF b ((yB runs).take (n + i))).Some (sF b ((yB runs).take (n + i))).Last (yB runs)[n + i] with
    | true => rw [hkp] at hrec; exact hrec
    | false =>
      rw [hkp] at hrec
      simp only [Bool.false_eq_true, ↓reduceIte, List.append_nil] at hrec
      exact hrec
theorem zlA (runs : List (List aA)) (hs : jJ runs) (hg : xC runs) (n U : Nat) (v : Int × Int) (k : Int) (hU : (if v.1 < k then v.1 else k) = (U : Int)) (hn : n + U ≤ uB runs) (m : Nat) : ∀ i, i + m = U →
    Ev (fun fu => aV v k fu (i : Int) (jC runs (hC runs (n + i))).Runs (jC runs (hC runs (n + i))).At (jC runs (hC runs (n + i))).Tree.Keys (jC runs (hC runs (n + i))).Tree.Lose (jC runs (hC runs (n + i))).Tree.Win)
      ((jC runs (hC runs (n + U))).Runs, (jC runs (hC runs (n + U))).At, (jC runs (hC runs (n + U))).Tree.Keys, (jC runs (hC runs (n + U))).Tree.Lose, (jC runs (hC runs (n + U))).Tree.Win) := by
  have h120 := hs.few hg
  induction m with
  | zero =>
    intro i hi
    obtain rfl : i = U := by omega
    have d : decide ((i : Int) < (i : Int)) = false := decide_eq_false (by omega)
    refine Ev.succ ?_
    simp only [aV, hU, d, Bool.false_eq_true, ↓reduceIte]
    exact Ev.ret _
  | succ m ih =>
    intro i hi
    have d : decide ((i : Int) < (U : Int)) = true := decide_eq_true (by omega)
    have hl : n + i < (yB runs).length := by rw [wP]; omega
    have nx := (zdR runs (n + i) hs hg (by omega) hl).2
    have hrec := ih (i + 1) (by omega)
    refine Ev.succ ?_
    simp only [aV, hU, d, ↓reduceIte]
    refine Ev.bind (a := ((yB runs)[n + i], (wn runs (hC runs (n + i)) : Int), jC runs (hC runs (n + i + 1)), 0)) nx ?_
    simp only [qC i (show i < 9223372036854775807 by omega)]
    exact hrec
def used (runs : List (List aA)) (n : Nat) (k : Nat) : Nat := min k (uB runs - n)
theorem zkh (runs : List (List aA)) (b : Bool) (n : Nat) (hs : jJ runs) (hg : xC runs) (hn : n ≤ uB runs) : Ev (fun fu => uT fu (uC runs b n)) (n : Int) := by
  have p := aN runs hg n hn
  have hal : (hC runs n).length ≤ 34 := by rw [p.rch.at'.1]; exact hs.near.1
  have h120 := hs.few hg
  have e := hZ runs hg n hn
  have hAt : (uC runs b n).Merge.At = pB (hC runs n) := rfl
  unfold uT
  have := zY (L := oQ (uC runs b n)) (hC runs n) (by omega) (by omega) (fun fu c => by simp [oQ, hAt, gG]) (fun fu c i h => by
    have d : decide ((i : Int) < ((pB (hC runs n)).length : Int)) = true := decide_eq_true (by rw [gG]; omega)
    simp only [oQ, hAt, d, ↓reduceIte, gF _ i h, Option.bind_some, qC i (show i < 9223372036854775807 by omega)])
  rw [e] at this
  exact Ev.bind this (Ev.ret _)
theorem zez (runs : List (List aA)) (b : Bool) (n k : Nat) (hs : jJ runs) (hg : xC runs) (hn : n ≤ uB runs) :
    Ev (fun fu => iO fu (uC runs b n) (k : Int)) (uC runs b (n + used runs n k), (used runs n k : Int), 0) ∧ Ev (fun fu => rW fu (uC runs b n) (k : Int)) (uC runs b (n + used runs n k), (used runs n k : Int), 0) := by
  obtain ⟨c1, c2⟩ := kY runs b n hs hg hn
  have h120 := hs.few hg
  have p := aN runs hg n hn
  have hal : (pB (hC runs n)).length ≤ 34 := by rw [gG, p.rch.at'.1]; exact hs.near.1
  have hk := zam runs b n hn
  have hu : used runs n k ≤ uB runs - n := Nat.min_le_right _ _
  have hU : (if ((uB runs - n : Nat) : Int) < (k : Int) then ((uB runs - n : Nat) : Int) else (k : Int)) = (used runs n k : Int) := by
    unfold used; split <;> omega
  have d1 : decide ((k : Int) < 0) = false := decide_eq_false (by omega)
  have hSt : (uC runs b n).Steps = (n : Int) := rfl
  have w : IntKind.i64.wrap ((n : Int) + (used runs n k : Int)) = ((n + used runs n k : Nat) : Int) := by rw [wr (by omega) (by omega)]; omega
  have d2 : decide ((20000 : Int) < ((n + used runs n k : Nat) : Int)) = false := decide_eq_false (by omega)
  have g1 : 2 * ((uC runs b n).Out.length * 48) ≤ 281474976710656 := by show 2 * ((wG b ((yB runs).take n)).length * 48) ≤ 281474976710656; omega
  have g2 : 2 * ((uC runs b n).Merge.At.length * 8) ≤ 281474976710656 := by show 2 * ((pB (hC runs n)).length * 8) ≤ 281474976710656; omega
  constructor
  · have st := znM runs b hs hg n (used runs n k) (((uB runs - n : Nat) : Int), 0) (k : Int) hU (by omega) (used runs n k) 0 (by omega)
    unfold iO
    refine Ev.bind c1 ?_
    simp only [decide_true, Bool.not_true, Bool.false_eq_true, ↓reduceIte, d1, hU, hSt, w, d2, if_pos g1, if_pos g2]
    refine Ev.bind st ?_
    exact Ev.ret _
  · have st := zlA runs hs hg n (used runs n k) (((uB runs - n : Nat) : Int), 0) (k : Int) hU (by omega) (used runs n k) 0 (by omega)
    unfold rW
    refine Ev.bind c2 ?_
    simp only [decide_true, Bool.not_true, Bool.false_eq_true, ↓reduceIte, d1, Option.bind_some]
    refine Ev.bind (zkh runs b n hs hg hn) ?_
    simp only [hU, hSt, w, d2, Bool.false_eq_true, ↓reduceIte]
    refine Ev.bind st ?_
    refine Ev.bind (zbd runs hs.near hg).2 ?_
    have g3 : (0 : Int) ≤ ((n + used runs n k : Nat) : Int) ∧ ((n + used runs n k : Nat) : Int) ≤ ((yB runs).length : Int) := by rw [wP]; omega
    simp only [if_pos g3, Int.toNat_natCast]
    have htl : ((yB runs).take (n + used runs n k)).length ≤ 20000 := by simp; omega
    refine Ev.bind (zcY _ b htl (zbv runs hg _)) ?_
    exact Ev.ret _
theorem zh1 (a b : vB) (ha : rY a) : ∃ r, Ev (fun fu => zau fu a b) r ∧ (r = true ↔ a = b) := by
  obtain ⟨m, m1, m2⟩ := zi1 a.Merge b.Merge (by have := ha.merge.at'; omega) (by have := ha.seen.near.1; omega) (by have := ha.merge.keys; omega) (by have := ha.merge.lose; omega) (fun l hl => by have := ha.seen.near.2.1 l hl; omega)
  obtain ⟨o, o1, o2⟩ := yZ a.Out b.Out (by have := ha.out; omega)
  obtain ⟨am, ash, ao, ast⟩ := a
  obtain ⟨bm, bsh, bo, bst⟩ := b
  unfold zau
  simp only [oX] at *
  by_cases h1 : am = bm
  · obtain rfl : m = true := m2.2 h1
    by_cases h2 : ash = bsh
    · by_cases h3 : ao = bo
      · obtain rfl : o = true := o2.2 h3
        by_cases h4 : ast = bst
        · exact ⟨true, Ev.bind m1 (Ev.bind (a := true) (Ev.of (fun fu => by simp [h2]) (Ev.ret _)) (Ev.bind (a := true) (Ev.bind o1 (Ev.ret _)) (Ev.bind (a := true) (Ev.of (fun fu => by simp [h4]) (Ev.ret _)) (Ev.ret _)))), by simp [h1, h2, h3, h4]⟩
        · exact ⟨false, Ev.bind m1 (Ev.bind (a := true) (Ev.of (fun fu => by simp [h2]) (Ev.ret _)) (Ev.bind (a := true) (Ev.bind o1 (Ev.ret _)) (Ev.bind (a := false) (Ev.of (fun fu => by simp [h4]) (Ev.ret _)) (Ev.ret _)))), by simp [h4]⟩
      · obtain rfl : o = false := by cases o with | false => rfl | true => exact absurd (o2.1 rfl) h3
        exact ⟨false, Ev.bind m1 (Ev.bind (a := true) (Ev.of (fun fu => by simp [h2]) (Ev.ret _)) (Ev.bind (a := false) (Ev.bind o1 (Ev.ret _)) (Ev.bind (a := false) (Ev.of (fun fu => by simp) (Ev.ret _)) (Ev.ret _)))), by simp [h3]⟩
    · exact ⟨false, Ev.bind m1 (Ev.bind (a := false) (Ev.of (fun fu => by simp [h2]) (Ev.ret _)) (Ev.bind (a := false) (Ev.of (fun fu => by simp) (Ev.ret _)) (Ev.bind (a := false) (Ev.of (fun fu => by simp) (Ev.ret _)) (Ev.ret _)))), by simp [h2]⟩
  · obtain rfl : m = false := by cases m with | false => rfl | true => exact absurd (m2.1 rfl) h1
    exact ⟨false, Ev.bind m1 (Ev.bind (a := false) (Ev.of (fun fu => by simp) (Ev.ret _)) (Ev.bind (a := false) (Ev.of (fun fu => by simp) (Ev.ret _)) (Ev.bind (a := false) (Ev.of (fun fu => by simp) (Ev.ret _)) (Ev.ret _)))), by simp [h1]⟩
theorem zem (runs : List (List aA)) : (yB runs).take (uB runs) = yB runs := by rw [← wP]; exact List.take_length
theorem zh7 (runs : List (List aA)) (b : Bool) (hs : jJ runs) (hg : xC runs) : Ev (fun fu => jP fu runs b) (uC runs b 0, 0, 0) ∧ Ev (fun fu => zbo fu runs b) (uC runs b 0, 0, 0) := by
  obtain ⟨a1, a2⟩ := zdq runs hs.near hg
  constructor
  · unfold jP
    refine Ev.bind a1 ?_
    simp only [decide_true, Bool.not_true, Bool.false_eq_true, ↓reduceIte, sK, Option.bind_some]
    exact Ev.ret _
  · unfold zbo
    refine Ev.bind a2 ?_
    simp only [decide_true, Bool.not_true, Bool.false_eq_true, ↓reduceIte, zP, Option.bind_some]
    exact Ev.ret _
theorem gO {β : Type} (E : Nat → Sum Unit β → Prop) (len : Nat) (Q : Nat → Prop) (Bad : Nat → β → Prop) (stop : E len (.inl ()))
    (step : ∀ n, n < len → (∃ v, Bad n v ∧ E n (.inr v)) ∨ (Q n ∧ ∀ r, E (n + 1) r → E n r)) :
    ∃ r, E 0 r ∧ ((r = .inl () ∧ ∀ i, i < len → Q i) ∨ ∃ n v, n < len ∧ Bad n v ∧ r = .inr v ∧ ∀ i, i < n → Q i) := by
  have go : ∀ m n, n + m = len → ∃ r, E n r ∧ ((r = .inl () ∧ ∀ i, n ≤ i → i < len → Q i) ∨ ∃ k v, n ≤ k ∧ k < len ∧ Bad k v ∧ r = .inr v ∧ ∀ i, n ≤ i → i < k → Q i) := by
    intro m
    induction m with
    | zero =>
      intro n hn
      obtain rfl : n = len := by omega
      exact ⟨_, stop, .inl ⟨rfl, fun i h1 h2 => by omega⟩⟩
    | succ m ih =>
      intro n hn
      rcases step n (by omega) with ⟨v, hb, he⟩ | ⟨hq, hs⟩
      · exact ⟨_, he, .inr ⟨n, v, Nat.le_refl _, by omega, hb, rfl, fun i h1 h2 => by omega⟩⟩
      · obtain ⟨r, r1, r2⟩ := ih (n + 1) (by omega)
        refine ⟨r, hs r r1, ?_⟩
        rcases r2 with ⟨e, h⟩ | ⟨k, v, h1, h2, h3, h4, h5⟩
        · refine .inl ⟨e, fun i h1 h2 => ?_⟩
          by_cases e : i = n
          · rw [e]; exact hq
          · exact h i (by omega) h2
        · refine .inr ⟨k, v, by omega, h2, h3, h4, fun i q1 q2 => ?_⟩
          by_cases e : i = n
          · rw [e]; exact hq
          · exact h5 i (by omega) q2
  obtain ⟨r, r1, r2⟩ := go len 0 (by omega)
  refine ⟨r, r1, ?_⟩
  rcases r2 with ⟨e, h⟩ | ⟨k, v, h1, h2, h3, h4, h5⟩
  · exact .inl ⟨e, fun i h2 => h i (by omega) h2⟩
  · exact .inr ⟨k, v, h2, h3, h4, fun i q => h5 i (by omega) q⟩
def uR (l : List aA) : Prop := l.length ≤ 30 ∧ ∀ e ∈ l, e.Key.length ≤ 100
theorem zhQ (l : List aA) : ∃ b, Ev (fun fu => yV fu l) b ∧ (b = false → uR l) := by
  obtain ⟨r, r1, r2⟩ := gO (β := Bool) (fun n r => Ev (fun fu => xJ l fu (n : Int)) r) (min l.length 40) (fun i => ∀ h : i < l.length, l[i].Key.length ≤ 100) (fun _ v => v = true)
    (by
      refine Ev.succ (Ev.of (fun fu => ?_) (Ev.ret _))
      by_cases h : l.length ≤ 40
      · rw [Nat.min_eq_left h]; simp [xJ]
      · rw [Nat.min_eq_right (by omega)]; simp [xJ])
    (fun n hn => by
      have hl : n < l.length := Nat.lt_of_lt_of_le hn (Nat.min_le_left _ _)
      have h40 : n < 40 := Nat.lt_of_lt_of_le hn (Nat.min_le_right _ _)
      have d1 : decide ((n : Int) < (l.length : Int)) = true := decide_eq_true (by omega)
      have d2 : decide ((n : Int) < 40) = true := decide_eq_true (by omega)
      have c1 : decide ((100 : Int) < (l[n].Key.length : Int)) = decide (100 < l[n].Key.length) := decide_eq_decide.2 (by omega)
      have c2 : decide ((100 : Int) < (l[n].Val.length : Int)) = decide (100 < l[n].Val.length) := decide_eq_decide.2 (by omega)
      by_cases hk : 100 < l[n].Key.length
      · exact .inl ⟨true, rfl, Ev.succ (Ev.of (fun fu => by simp only [xJ, d1, d2, xA l n hl, c1, decide_eq_true hk, ↓reduceIte, Option.bind_some]) (Ev.ret _))⟩
      · by_cases hv : 100 < l[n].Val.length
        · exact .inl ⟨true, rfl, Ev.succ (Ev.of (fun fu => by simp only [xJ, d1, d2, xA l n hl, c1, c2, decide_eq_false hk, decide_eq_true hv, Bool.false_eq_true, ↓reduceIte, Option.bind_some]) (Ev.ret _))⟩
        · refine .inr ⟨fun _ => by omega, fun r hr => Ev.succ (Ev.of (fun fu => ?_) hr)⟩
          simp only [xJ, d1, d2, ↓reduceIte, Option.bind_some, xA l n hl, c1, c2, decide_eq_false hk, decide_eq_false hv, Bool.false_eq_true, qC n (show n < 9223372036854775807 by omega)])
  unfold yV
  rcases r2 with ⟨rfl, h⟩ | ⟨n, v, -, rfl, rfl, -⟩
  · refine ⟨_, Ev.bind r1 (Ev.ret _), fun hb => ?_⟩
    have hl : l.length ≤ 30 := by have := of_decide_eq_false hb; omega
    refine ⟨hl, fun e he => ?_⟩
    obtain ⟨i, hi, rfl⟩ := List.mem_iff_getElem.1 he
    exact h i (by omega) hi
  · exact ⟨true, Ev.bind r1 (Ev.ret _), by simp⟩
theorem zkV (l : List eB) : ∃ b, Ev (fun fu => eV fu l) b ∧ (b = false → l.length ≤ 6 ∧ ∀ r ∈ l, uR r.Entries) := by
  obtain ⟨r, r1, r2⟩ := gO (β := Bool) (fun n r => Ev (fun fu => mK l fu (n : Int)) r) (min l.length 10) (fun i => ∀ h : i < l.length, uR l[i].Entries) (fun _ v => v = true)
    (by
      refine Ev.succ (Ev.of (fun fu => ?_) (Ev.ret _))
      by_cases h : l.length ≤ 10
      · rw [Nat.min_eq_left h]; simp [mK]
      · rw [Nat.min_eq_right (by omega)]; simp [mK])
    (fun n hn => by
      have hl : n < l.length := Nat.lt_of_lt_of_le hn (Nat.min_le_left _ _)
      have h40 : n < 10 := Nat.lt_of_lt_of_le hn (Nat.min_le_right _ _)
      have d1 : decide ((n : Int) < (l.length : Int)) = true := decide_eq_true (by omega)
      have d2 : decide ((n : Int) < 10) = true := decide_eq_true (by omega)
      obtain ⟨b, b1, b2⟩ := zhQ l[n].Entries
      cases b with
      | true =>
        refine .inl ⟨true, rfl, Ev.succ ?_⟩
        simp only [mK, d1, d2, ↓reduceIte, Option.bind_some, xA l n hl]
        exact Ev.bind b1 (Ev.ret _)
      | false =>
        refine .inr ⟨fun _ => b2 rfl, fun r hr => Ev.succ ?_⟩
        simp only [mK, d1, d2, ↓reduceIte, Option.bind_some, xA l n hl, qC n (show n < 9223372036854775807 by omega)]
        exact Ev.bind b1 hr)
  unfold eV
  rcases r2 with ⟨rfl, h⟩ | ⟨n, v, -, rfl, rfl, -⟩
  · refine ⟨_, Ev.bind r1 (Ev.ret _), fun hb => ?_⟩
    have hl : l.length ≤ 6 := by have := of_decide_eq_false hb; omega
    refine ⟨hl, fun e he => ?_⟩
    obtain ⟨i, hi, rfl⟩ := List.mem_iff_getElem.1 he
    exact h i (by omega) hi
  · exact ⟨true, Ev.bind r1 (Ev.ret _), by simp⟩
def cJ (l : yA) : Prop := l.Levels.length ≤ 14 ∧ ∀ x ∈ l.Levels, x.Runs.length ≤ 6 ∧ ∀ r ∈ x.Runs, uR r.Entries
theorem zfv (l : yA) : ∃ b, Ev (fun fu => bW fu l) b ∧ (b = false → cJ l) := by
  obtain ⟨r, r1, r2⟩ := gO (β := Bool) (fun n r => Ev (fun fu => nK l fu (n : Int)) r) (min l.Levels.length 20) (fun i => ∀ h : i < l.Levels.length, l.Levels[i].Runs.length ≤ 6 ∧ ∀ r ∈ l.Levels[i].Runs, uR r.Entries) (fun _ v => v = true)
    (by
      refine Ev.succ (Ev.of (fun fu => ?_) (Ev.ret _))
      by_cases h : l.Levels.length ≤ 20
      · rw [Nat.min_eq_left h]; simp [nK]
      · rw [Nat.min_eq_right (by omega)]; simp [nK])
    (fun n hn => by
      have hl : n < l.Levels.length := Nat.lt_of_lt_of_le hn (Nat.min_le_left _ _)
      have h40 : n < 20 := Nat.lt_of_lt_of_le hn (Nat.min_le_right _ _)
      have d1 : decide ((n : Int) < (l.Levels.length : Int)) = true := decide_eq_true (by omega)
      have d2 : decide ((n : Int) < 20) = true := decide_eq_true (by omega)
      obtain ⟨b, b1, b2⟩ := zkV l.Levels[n].Runs
      cases b with
      | true =>
        refine .inl ⟨true, rfl, Ev.succ ?_⟩
        simp only [nK, d1, d2, ↓reduceIte, Option.bind_some, xA l.Levels n hl]
        exact Ev.bind b1 (Ev.ret _)
      | false =>
        refine .inr ⟨fun _ => b2 rfl, fun r hr => Ev.succ ?_⟩
        simp only [nK, d1, d2, ↓reduceIte, Option.bind_some, xA l.Levels n hl, qC n (show n < 9223372036854775807 by omega)]
        exact Ev.bind b1 hr)
  unfold bW
  rcases r2 with ⟨rfl, h⟩ | ⟨n, v, -, rfl, rfl, -⟩
  · refine ⟨_, Ev.bind r1 (Ev.ret _), fun hb => ?_⟩
    have hl : l.Levels.length ≤ 14 := by have := of_decide_eq_false hb; omega
    refine ⟨hl, fun e he => ?_⟩
    obtain ⟨i, hi, rfl⟩ := List.mem_iff_getElem.1 he
    exact h i (by omega) hi
  · exact ⟨true, Ev.bind r1 (Ev.ret _), by simp⟩
theorem zhY (b n : Nat) (hb : b ≤ 16) (hn : n ≤ 12) : Ev (fun fu => zaB fu (b : Int) (n : Int)) ((b * 2 ^ n : Nat) : Int) := by
  have go : ∀ (m i c : Nat), i + m = n → c ≤ 16 * 2 ^ i → Ev (fun fu => qU (n : Int) fu (c : Int) (i : Int)) ((c * 2 ^ m : Nat) : Int) := by
    intro m
    induction m with
    | zero =>
      intro i c hi _
      obtain rfl : i = n := by omega
      exact Ev.succ (Ev.of (fun fu => by simp [qU]) (Ev.ret _))
    | succ m ih =>
      intro i c hi hc
      have d1 : decide ((i : Int) < (n : Int)) = true := decide_eq_true (by omega)
      have hp : 2 ^ i ≤ 2 ^ 12 := Nat.pow_le_pow_right (by decide) (by omega)
      have w1 : IntKind.i64.wrap (2 * (c : Int)) = ((2 * c : Nat) : Int) := by rw [wr (by omega) (by omega)]; omega
      have := ih (i + 1) (2 * c) (by omega) (by rw [Nat.pow_succ]; omega)
      rw [show 2 * c * 2 ^ m = c * 2 ^ (m + 1) by rw [Nat.pow_succ, Nat.mul_comm 2 c, Nat.mul_assoc, Nat.mul_comm 2]] at this
      refine Ev.succ (Ev.of (fun fu => ?_) this)
      simp only [qU, d1, ↓reduceIte, w1, qC i (show i < 9223372036854775807 by omega)]
  unfold zaB
  exact Ev.bind (go n 0 b (by omega) (by simpa using hb)) (Ev.ret _)
def cX (r : eB) : Prop := hO r.Entries ∧ 1 ≤ r.Id ∧ r.Id ≤ 1000000
theorem ids_l1 (ids : List Int) (r : eB) (hl : ids.length ≤ 1000) : ∃ x, Ev (fun fu => vQ ids r fu 0) x ∧ ((x = .inl () ∧ r.Id ∉ ids) ∨ (x = .inr 8 ∧ r.Id ∈ ids)) := by
  obtain ⟨x, x1, x2⟩ := gO (β := Int) (fun n x => Ev (fun fu => vQ ids r fu (n : Int)) x) ids.length (fun i => ∀ h : i < ids.length, ids[i] ≠ r.Id) (fun i v => v = 8 ∧ ∃ h : i < ids.length, ids[i] = r.Id)
    (Ev.succ (Ev.of (fun fu => by simp [vQ]) (Ev.ret _)))
    (fun n hn => by
      have d1 : decide ((n : Int) < (ids.length : Int)) = true := decide_eq_true (by omega)
      by_cases e : ids[n] = r.Id
      · exact .inl ⟨8, ⟨rfl, hn, e⟩, Ev.succ (Ev.of (fun fu => by simp [vQ, hn, xA ids n hn, e]) (Ev.ret _))⟩
      · refine .inr ⟨fun _ => e, fun x hx => Ev.succ (Ev.of (fun fu => ?_) hx)⟩
        simp only [vQ, d1, ↓reduceIte, xA ids n hn, Option.bind_some, decide_eq_false e, Bool.false_eq_true, qC n (show n < 9223372036854775807 by omega)])
  refine ⟨x, x1, ?_⟩
  rcases x2 with ⟨rfl, h⟩ | ⟨n, v, -, ⟨rfl, hn, e⟩, rfl, -⟩
  · refine .inl ⟨rfl, fun hm => ?_⟩
    obtain ⟨i, hi, e⟩ := List.mem_iff_getElem.1 hm
    exact h i hi hi e
  · exact .inr ⟨rfl, e ▸ List.getElem_mem hn⟩
theorem ze4 (r : eB) (hr : uR r.Entries) (most : Int) : ∃ c, Ev (fun fu => sP fu r most) c ∧
    (∀ ids : List Int, ids.length ≤ 1000 → Ev (fun fu => zaW fu r most ids) (if c = 0 then (if r.Id ∈ ids then 8 else 0) else c)) ∧ (c = 0 → cX r) := by
  obtain ⟨q, q1, q2, q3⟩ := zcw r.Entries (fun e he => by have := hr.2 e he; omega)
  unfold sP zaW yQ zcz
  by_cases h1 : r.Id < 1
  · have d1 : decide (r.Id < 1) = true := decide_eq_true h1
    refine ⟨7, Ev.of (fun fu => by simp [d1]) (Ev.ret _), fun ids _ => Ev.of (fun fu => by simp [d1]) (Ev.ret _), by simp⟩
  · by_cases h2 : 1000000 < r.Id
    · refine ⟨7, Ev.of (fun fu => by simp [h1, h2]) (Ev.ret _), fun ids _ => Ev.of (fun fu => by simp [h1, h2]) (Ev.ret _), by simp⟩
    · simp only [decide_eq_false h1, decide_eq_false h2, Bool.false_eq_true, ↓reduceIte, Option.bind_some, Option.bind_assoc]
      by_cases h3 : q.2 = 0
      · by_cases h4 : (r.Entries.length : Int) = 0
        · refine ⟨4, Ev.bind q1 (Ev.of (fun fu => by simp [h3, h4]) (Ev.ret _)), fun ids _ => Ev.bind q2 (Ev.of (fun fu => by simp [h3, h4]) (Ev.ret _)), by simp⟩
        · by_cases h5 : most < (r.Entries.length : Int)
          · refine ⟨3, Ev.bind q1 (Ev.of (fun fu => by simp only [h3, h4, h5, decide_true, decide_false, Bool.not_true, Bool.false_eq_true, ↓reduceIte]) (Ev.ret _)), fun ids _ => Ev.bind q2 (Ev.of (fun fu => by simp only [h3, h4, h5, decide_true, decide_false, Bool.not_true, Bool.false_eq_true, ↓reduceIte]; rfl) (Ev.ret _)), by simp⟩
          · refine ⟨0, Ev.bind q1 (Ev.of (fun fu => by simp only [h3, h4, h5, decide_true, decide_false, Bool.not_true, Bool.false_eq_true, ↓reduceIte]) (Ev.ret _)), fun ids hi => Ev.bind q2 ?_, fun _ => ⟨q3 h3, by omega, by omega⟩⟩
            simp only [h3, h4, h5, decide_true, decide_false, Bool.not_true, Bool.false_eq_true, ↓reduceIte]
            obtain ⟨x, x1, x2⟩ := ids_l1 ids r hi
            rcases x2 with ⟨rfl, hx⟩ | ⟨rfl, hx⟩
            · rw [if_neg hx]; exact Ev.bind x1 (Ev.ret _)
            · rw [if_pos hx]; exact Ev.bind x1 (Ev.ret _)
      · refine ⟨q.2, Ev.bind q1 (Ev.of (fun fu => by simp only [decide_eq_false h3, Bool.not_false, ↓reduceIte]) (Ev.ret _)), fun ids _ => Ev.bind q2 (Ev.of (fun fu => by simp only [decide_eq_false h3, Bool.not_false, ↓reduceIte]; rw [if_neg h3]) (Ev.ret _)), fun h => absurd h h3⟩
def Inv (mp : List (Int × Bool)) (ids : List Int) : Prop := ∀ x, zE mp x = if x ∈ ids then some true else none
theorem zkJ {α : Type} (mp : List (Int × α)) (n x : Int) (y : α) : zE (mF mp n y) x = if x = n then some y else zE mp x := by
  induction mp with
  | nil => simp only [mF, zE]
  | cons e mp ih =>
    obtain ⟨k, v⟩ := e
    simp only [mF]
    by_cases h : n = k
    · rw [if_pos h]; subst h
      simp only [zE]
      by_cases h2 : x = n <;> simp [h2]
    · rw [if_neg h]
      simp only [zE, ih]
      by_cases h2 : x = k
      · rw [if_pos h2, if_pos h2]
        rw [if_neg (by omega)]
      · rw [if_neg h2, if_neg h2]
theorem Inv.add {mp : List (Int × Bool)} {ids : List Int} (h : Inv mp ids) (n : Int) : Inv (mF mp n true) (ids ++ [n]) := by
  intro x
  rw [zkJ, h x]
  by_cases e : x = n
  · simp [e]
  · by_cases e2 : x ∈ ids <;> simp [e, e2]
theorem zje (l : yA) (x : tA) (i B : Nat) (hi : i < 12) (hB : l.B = (B : Int)) (hB2 : B ≤ 16) (hs : ∀ r ∈ x.Runs, uR r.Entries) (hlen : x.Runs.length ≤ 6) (m : Nat) : ∀ (k : Nat) (mp : List (Int × Bool)) (ids : List Int) (run : Int), k + m = x.Runs.length → Inv mp ids → ids.length + m ≤ 200 →
    (∃ mp' ids' run', Ev (fun fu => aG x (i : Int) l fu 0 (k : Int) mp run) (.inl (run', 0, mp')) ∧ Ev (fun fu => eN x l (i : Int) fu (k : Int) ids) (.inl ids') ∧ Inv mp' ids' ∧ ids'.length ≤ ids.length + m ∧ ∀ j, k ≤ j → ∀ h : j < x.Runs.length, cX x.Runs[j]) ∨
    (∃ (k' c : Int) (mp' : List (Int × Bool)), c ≠ 0 ∧ Ev (fun fu => aG x (i : Int) l fu 0 (k : Int) mp run) (.inr (k', c, mp')) ∧ Ev (fun fu => eN x l (i : Int) fu (k : Int) ids) (.inr ((i : Int), k', c))) := by
  induction m with
  | zero =>
    intro k mp ids run hk hinv hl
    obtain rfl : k = x.Runs.length := by omega
    exact .inl ⟨mp, ids, run, Ev.succ (Ev.of (fun fu => by simp [aG]) (Ev.ret _)), Ev.succ (Ev.of (fun fu => by simp [eN]) (Ev.ret _)), hinv, Nat.le_refl _, fun j h1 h2 => by omega⟩
  | succ m ih =>
    intro k mp ids run hk hinv hl
    have hkl : k < x.Runs.length := by omega
    have d1 : decide ((k : Int) < (x.Runs.length : Int)) = true := decide_eq_true (by omega)
    have hp : 2 ^ i ≤ 2 ^ 12 := Nat.pow_le_pow_right (by decide) (by omega)
    have hm : B * 2 ^ i ≤ 16 * 2 ^ 12 := Nat.mul_le_mul hB2 hp
    have hw : IntKind.i64.wrap (l.B * 2 ^ (min (i : Int).toNat (IntKind.bits .i64))) = ((B * 2 ^ i : Nat) : Int) := by
      have e : min (i : Int).toNat (IntKind.bits .i64) = i := by
        have : IntKind.bits .i64 = 64 := rfl
        rw [this]; omega
      have e2 : l.B * 2 ^ i = ((B * 2 ^ i : Nat) : Int) := by rw [hB]; simp
      rw [e, e2, wr (by omega) (by omega)]
    have h0 : (0 : Int) ≤ (i : Int) := by omega
    obtain ⟨c, c1, c2, c3⟩ := ze4 x.Runs[k] (hs _ (List.getElem_mem hkl)) ((B * 2 ^ i : Nat) : Int)
    have c2 := c2 ids (by omega)
    have sz := zhY B i hB2 (by omega)
    rw [← hB] at sz
    have g : 2 * ((ids.length + 1) * 8) ≤ 281474976710656 := by omega
    by_cases hc : c = 0
    · subst hc
      rw [if_pos rfl] at c2
      by_cases hin : x.Runs[k].Id ∈ ids
      · rw [if_pos hin] at c2
        have hg : zE mp x.Runs[k].Id = some true := by rw [hinv, if_pos hin]
        refine .inr ⟨(k : Int), 8, mp, by decide, Ev.succ ?_, Ev.succ ?_⟩
        · simp only [aG, d1, ↓reduceIte, xA x.Runs k hkl, Option.bind_some, if_pos h0, hw]
          refine Ev.bind c1 ?_
          simp only [decide_true, ↓reduceIte, hg, Option.getD_some]
          exact Ev.ret _
        · simp only [eN, d1, ↓reduceIte, xA x.Runs k hkl, Option.bind_some]
          refine Ev.bind sz (Ev.bind c2 ?_)
          exact Ev.ret _
      · rw [if_neg hin] at c2
        have hg : zE mp x.Runs[k].Id = none := by rw [hinv, if_neg hin]
        have rec' := ih (k + 1) (mF mp x.Runs[k].Id true) (ids ++ [x.Runs[k].Id]) (k : Int) (by omega) (hinv.add _) (by simp; omega)
        have s1 : ∀ r, Ev (fun fu => aG x (i : Int) l fu 0 ((k + 1 : Nat) : Int) (mF mp x.Runs[k].Id true) (k : Int)) r → Ev (fun fu => aG x (i : Int) l fu 0 (k : Int) mp run) r := fun r hr => by
          refine Ev.succ ?_
          simp only [aG, d1, ↓reduceIte, xA x.Runs k hkl, Option.bind_some, if_pos h0, hw]
          refine Ev.bind c1 ?_
          simp only [decide_true, ↓reduceIte, hg, Option.getD_none, Bool.false_eq_true, Bool.not_true, qC k (show k < 9223372036854775807 by omega)]
          exact hr
        have s2 : ∀ r, Ev (fun fu => eN x l (i : Int) fu ((k + 1 : Nat) : Int) (ids ++ [x.Runs[k].Id])) r → Ev (fun fu => eN x l (i : Int) fu (k : Int) ids) r := fun r hr => by
          refine Ev.succ ?_
          simp only [eN, d1, ↓reduceIte, xA x.Runs k hkl, Option.bind_some]
          refine Ev.bind sz (Ev.bind c2 ?_)
          simp only [decide_true, Bool.not_true, Bool.false_eq_true, ↓reduceIte, if_pos g, qC k (show k < 9223372036854775807 by omega)]
          exact hr
        rcases rec' with ⟨mp', ids', run', q1, q2, q3, q4, q5⟩ | ⟨k', c, mp', q0, q1, q2⟩
        · refine .inl ⟨mp', ids', run', s1 _ q1, s2 _ q2, q3, by simp at q4; omega, fun j h1 h2 => ?_⟩
          by_cases e : j = k
          · subst e; exact c3 rfl
          · exact q5 j (by omega) h2
        · exact .inr ⟨k', c, mp', q0, s1 _ q1, s2 _ q2⟩
    · rw [if_neg hc] at c2
      refine .inr ⟨(k : Int), c, mp, hc, Ev.succ ?_, Ev.succ ?_⟩
      · simp only [aG, d1, ↓reduceIte, xA x.Runs k hkl, Option.bind_some, if_pos h0, hw]
        refine Ev.bind c1 ?_
        simp only [decide_eq_false hc, Bool.false_eq_true, ↓reduceIte, Bool.not_false]
        exact Ev.ret _
      · simp only [eN, d1, ↓reduceIte, xA x.Runs k hkl, Option.bind_some]
        refine Ev.bind sz (Ev.bind c2 ?_)
        simp only [decide_eq_false hc, Bool.not_false, ↓reduceIte]
        exact Ev.ret _
theorem zfS (l : yA) (B : Nat) (hB : l.B = (B : Int)) (hB2 : B ≤ 16) (hs : cJ l) (h12 : l.Levels.length ≤ 12) (m : Nat) : ∀ (i : Nat) (mp : List (Int × Bool)) (ids : List Int) (run level : Int), i + m = l.Levels.length → Inv mp ids → ids.length + 6 * m ≤ 150 →
    (∃ mp' ids' run' level', Ev (fun fu => mG l fu run 0 (i : Int) mp level) (level', run', 0, mp') ∧ Ev (fun fu => oM l fu (i : Int) ids) (.inl ids') ∧ ∀ j, i ≤ j → ∀ h : j < l.Levels.length, l.Levels[j].Runs.length ≤ 2 ∧ ∀ r ∈ l.Levels[j].Runs, cX r) ∨
    (∃ (i' k' c : Int) (mp' : List (Int × Bool)), c ≠ 0 ∧ Ev (fun fu => mG l fu run 0 (i : Int) mp level) (i', k', c, mp') ∧ Ev (fun fu => oM l fu (i : Int) ids) (.inr (i', k', c))) := by
  induction m with
  | zero =>
    intro i mp ids run level hi hinv hl
    obtain rfl : i = l.Levels.length := by omega
    exact .inl ⟨mp, ids, run, level, Ev.succ (Ev.of (fun fu => by simp [mG]) (Ev.ret _)), Ev.succ (Ev.of (fun fu => by simp [oM]) (Ev.ret _)), fun j h1 h2 => by omega⟩
  | succ m ih =>
    intro i mp ids run level hi hinv hl
    have hil : i < l.Levels.length := by omega
    have d1 : decide ((i : Int) < (l.Levels.length : Int)) = true := decide_eq_true (by omega)
    have hx := hs.2 _ (List.getElem_mem hil)
    by_cases h2 : 2 < l.Levels[i].Runs.length
    · have d2 : decide ((2 : Int) < (l.Levels[i].Runs.length : Int)) = true := decide_eq_true (by omega)
      refine .inr ⟨(i : Int), 0, 3, mp, by decide, Ev.succ ?_, Ev.succ ?_⟩
      · simp only [mG, d1, ↓reduceIte, xA l.Levels i hil, Option.bind_some, d2]
        exact Ev.ret _
      · simp only [oM, d1, ↓reduceIte, xA l.Levels i hil, Option.bind_some, d2]
        exact Ev.ret _
    · have d2 : decide ((2 : Int) < (l.Levels[i].Runs.length : Int)) = false := decide_eq_false (by omega)
      rcases zje l l.Levels[i] i B (by omega) hB hB2 hx.2 hx.1 l.Levels[i].Runs.length 0 mp ids 0 (by omega) hinv (by omega) with ⟨mp', ids', run', q1, q2, q3, q4, q5⟩ | ⟨k', c, mp', q0, q1, q2⟩
      · have s1 : ∀ r, Ev (fun fu => mG l fu run' 0 ((i + 1 : Nat) : Int) mp' (i : Int)) r → Ev (fun fu => mG l fu run 0 (i : Int) mp level) r := fun r hr => by
          refine Ev.succ ?_
          simp only [mG, d1, ↓reduceIte, xA l.Levels i hil, Option.bind_some, d2, Bool.false_eq_true]
          refine Ev.bind q1 ?_
          simp only [qC i (show i < 9223372036854775807 by omega)]
          exact hr
        have s2 : ∀ r, Ev (fun fu => oM l fu ((i + 1 : Nat) : Int) ids') r → Ev (fun fu => oM l fu (i : Int) ids) r := fun r hr => by
          refine Ev.succ ?_
          simp only [oM, d1, ↓reduceIte, xA l.Levels i hil, Option.bind_some, d2, Bool.false_eq_true]
          refine Ev.bind q2 ?_
          simp only [qC i (show i < 9223372036854775807 by omega)]
          exact hr
        rcases ih (i + 1) mp' ids' run' (i : Int) (by omega) q3 (by omega) with ⟨mp2, ids2, run2, lev2, t1, t2, t3⟩ | ⟨i2, k2, c2, mp2, t0, t1, t2⟩
        · refine .inl ⟨mp2, ids2, run2, lev2, s1 _ t1, s2 _ t2, fun j h1 h3 => ?_⟩
          by_cases e : j = i
          · subst e
            refine ⟨by omega, fun r hr => ?_⟩
            obtain ⟨n, hn, rfl⟩ := List.mem_iff_getElem.1 hr
            exact q5 n (by omega) hn
          · exact t3 j (by omega) h3
        · exact .inr ⟨i2, k2, c2, mp2, t0, s1 _ t1, s2 _ t2⟩
      · refine .inr ⟨(i : Int), k', c, mp', q0, Ev.succ ?_, Ev.succ ?_⟩
        · simp only [mG, d1, ↓reduceIte, xA l.Levels i hil, Option.bind_some, d2, Bool.false_eq_true]
          refine Ev.bind q1 ?_
          exact Ev.ret _
        · simp only [oM, d1, ↓reduceIte, xA l.Levels i hil, Option.bind_some, d2, Bool.false_eq_true]
          refine Ev.bind q2 ?_
          exact Ev.ret _
structure uO (l : yA) : Prop where
  b : 1 ≤ l.B ∧ l.B ≤ 16
  few : l.Levels.length ≤ 12
  runs : ∀ x ∈ l.Levels, x.Runs.length ≤ 2 ∧ ∀ r ∈ x.Runs, cX r
theorem zd8 (l : yA) (hs : cJ l) : ∃ r, Ev (fun fu => tH fu l) r ∧ Ev (fun fu => oK fu l) r ∧ ((r = (0, 0, 0) ∧ uO l) ∨ r.2.2 ≠ 0) := by
  unfold tH oK
  by_cases h1 : l.B < 1
  · exact ⟨(0, 0, 7), Ev.of (fun fu => by simp [h1]) (Ev.ret _), Ev.of (fun fu => by simp [h1]) (Ev.ret _), .inr (by decide)⟩
  · by_cases h2 : 16 < l.B
    · exact ⟨(0, 0, 7), Ev.of (fun fu => by simp [h1, h2]) (Ev.ret _), Ev.of (fun fu => by simp [h1, h2]) (Ev.ret _), .inr (by decide)⟩
    · simp only [decide_eq_false h1, decide_eq_false h2, Bool.false_eq_true, ↓reduceIte, Option.bind_some]
      by_cases h3 : 12 < l.Levels.length
      · have d : decide ((12 : Int) < (l.Levels.length : Int)) = true := decide_eq_true (by omega)
        simp only [d, ↓reduceIte]
        exact ⟨(0, 0, 3), Ev.ret _, Ev.ret _, .inr (by decide)⟩
      · have d : decide ((12 : Int) < (l.Levels.length : Int)) = false := decide_eq_false (by omega)
        simp only [d, Bool.false_eq_true, ↓reduceIte]
        obtain ⟨B, hB⟩ : ∃ B : Nat, l.B = (B : Int) := ⟨l.B.toNat, by omega⟩
        rcases zfS l B hB (by omega) hs (by omega) l.Levels.length 0 [] [] 0 0 (by omega) (fun x => by simp [zE]) (by simp; omega) with ⟨mp', ids', run', lev', q1, q2, q3⟩ | ⟨i', k', c, mp', q0, q1, q2⟩
        · obtain ⟨b, hb⟩ : ∃ b : Bool, (if decide ((0 : Int) < (l.Levels.length : Int)) = true then (ix l.Levels (IntKind.i64.wrap ((l.Levels.length : Int) - 1))).bind fun e218 => some (decide ((e218.Runs.length : Int) = 0)) else some false) = some b := by
            by_cases h0 : 0 < l.Levels.length
            · have d0 : decide ((0 : Int) < (l.Levels.length : Int)) = true := decide_eq_true (by omega)
              have w : IntKind.i64.wrap ((l.Levels.length : Int) - 1) = ((l.Levels.length - 1 : Nat) : Int) := by rw [wr (by omega) (by omega)]; omega
              simp only [d0, ↓reduceIte, w, xA l.Levels (l.Levels.length - 1) (by omega), Option.bind_some]
              exact ⟨_, rfl⟩
            · have d0 : decide ((0 : Int) < (l.Levels.length : Int)) = false := decide_eq_false (by omega)
              simp only [d0, Bool.false_eq_true, ↓reduceIte]
              exact ⟨_, rfl⟩
          cases b with
          | true =>
            refine ⟨(IntKind.i64.wrap ((l.Levels.length : Int) - 1), 0, 6), Ev.bind q1 ?_, Ev.bind q2 ?_, .inr (show (6 : Int) ≠ 0 by decide)⟩
            · simp only [decide_true, Bool.not_true, Bool.false_eq_true, ↓reduceIte, hb, Option.bind_some]; exact Ev.ret _
            · simp only [hb, Option.bind_some, ↓reduceIte]; exact Ev.ret _
          | false =>
            refine ⟨(0, 0, 0), Ev.bind q1 ?_, Ev.bind q2 ?_, .inl ⟨rfl, ⟨⟨by omega, by omega⟩, by omega, fun x hx => ?_⟩⟩⟩
            · simp only [decide_true, Bool.not_true, Bool.false_eq_true, ↓reduceIte, hb, Option.bind_some]; exact Ev.ret _
            · simp only [hb, Option.bind_some, Bool.false_eq_true, ↓reduceIte]; exact Ev.ret _
            · obtain ⟨n, hn, rfl⟩ := List.mem_iff_getElem.1 hx
              exact q3 n (by omega) hn
        · refine ⟨(i', k', c), Ev.bind q1 ?_, Ev.bind q2 ?_, .inr q0⟩
          · simp only [decide_eq_false q0, Bool.not_false, ↓reduceIte]; exact Ev.ret _
          · exact Ev.ret _
def nE (b : Int) (xs : List Int) : Int := xs.foldl (fun b x => if b < x then x else b) b
theorem zbE (M : Int) : ∀ (xs : List Int) (b : Int), b ≤ M → (∀ x ∈ xs, x ≤ M) → nE b xs ≤ M
  | [], b, hb, _ => hb
  | x :: xs, b, hb, h => by
    show nE (if b < x then x else b) xs ≤ M
    refine zbE M xs _ ?_ fun y hy => h y (by simp [hy])
    have := h x (by simp)
    split <;> omega
theorem jZ : ∀ (xs : List Int) (b : Int), b ≤ nE b xs
  | [], b => Int.le_refl b
  | x :: xs, b => by
    have h1 : b ≤ (if b < x then x else b) := by split <;> omega
    exact Int.le_trans h1 (jZ xs _)
theorem zok (xs ys : List Int) (b : Int) : nE b (xs ++ ys) = nE (nE b xs) ys := by simp [nE]
theorem zmj {xs ys : List Int} (h : xs.Perm ys) (b : Int) : nE b xs = nE b ys := by
  induction h generalizing b with
  | nil => rfl
  | cons x _ ih => exact ih _
  | swap x y l =>
    show nE (if (if b < y then y else b) < x then x else (if b < y then y else b)) l = nE (if (if b < x then x else b) < y then y else (if b < x then x else b)) l
    congr 1
    split <;> split <;> (try split) <;> omega
  | trans _ _ ih1 ih2 => exact (ih1 b).trans (ih2 b)
def iF (xs : List tA) : List Int := (xs.map fun x => x.Runs.map eB.Id).flatten
theorem zcp (l : yA) (hs : cJ l) : Ev (fun fu => gN fu l) (nE 0 (iF l.Levels)) := by
  have inner : ∀ (x : tA) (_ : x.Runs.length ≤ 6) (m k : Nat) (best : Int), k + m = x.Runs.length → Ev (fun fu => uI x fu best (k : Int)) (nE best ((x.Runs.drop k).map eB.Id)) := by
    intro x hx m
    induction m with
    | zero =>
      intro k best hk
      obtain rfl : k = x.Runs.length := by omega
      exact Ev.succ (Ev.of (fun fu => by simp [uI, nE]) (Ev.ret _))
    | succ m ih =>
      intro k best hk
      have hkl : k < x.Runs.length := by omega
      have d : decide ((k : Int) < (x.Runs.length : Int)) = true := decide_eq_true (by omega)
      have := ih (k + 1) (if best < x.Runs[k].Id then x.Runs[k].Id else best) (by omega)
      rw [List.drop_eq_getElem_cons hkl]
      refine Ev.succ ?_
      simp only [uI, d, ↓reduceIte, xA x.Runs k hkl, Option.bind_some, qC k (show k < 9223372036854775807 by omega)]
      exact this
  have outer : ∀ (m i : Nat) (best : Int), i + m = l.Levels.length → Ev (fun fu => cI l fu best (i : Int)) (nE best (iF (l.Levels.drop i))) := by
    intro m
    induction m with
    | zero =>
      intro i best hi
      obtain rfl : i = l.Levels.length := by omega
      exact Ev.succ (Ev.of (fun fu => by simp [cI, nE, iF]) (Ev.ret _))
    | succ m ih =>
      intro i best hi
      have hil : i < l.Levels.length := by omega
      have d : decide ((i : Int) < (l.Levels.length : Int)) = true := decide_eq_true (by omega)
      have hx := (hs.2 _ (List.getElem_mem hil)).1
      have := ih (i + 1) (nE best (l.Levels[i].Runs.map eB.Id)) (by omega)
      have h14 := hs.1
      rw [List.drop_eq_getElem_cons hil]
      rw [show iF (l.Levels[i] :: l.Levels.drop (i + 1)) = l.Levels[i].Runs.map eB.Id ++ iF (l.Levels.drop (i + 1)) from rfl, zok]
      refine Ev.succ ?_
      simp only [cI, d, ↓reduceIte, xA l.Levels i hil, Option.bind_some, qC i (show i < 9223372036854775807 by omega)]
      refine Ev.bind (inner l.Levels[i] hx l.Levels[i].Runs.length 0 best (by omega)) ?_
      exact this
  unfold gN
  exact Ev.bind (outer l.Levels.length 0 0 (by omega)) (Ev.ret _)
theorem zdv (l : yA) (hg : uO l) : ∀ x ∈ iF l.Levels, x ≤ 1000000 := by
  intro x hx
  unfold iF at hx
  obtain ⟨y, hy, hx⟩ := List.mem_flatten.1 hx
  obtain ⟨z, hz, rfl⟩ := List.mem_map.1 hy
  obtain ⟨r, hr, rfl⟩ := List.mem_map.1 hx
  exact ((hg.runs z hz).2 r hr).2.2
def yE : Nat → List tA → List Nat
  | _, [] => []
  | n, x :: xs => if x.Runs.length = 2 then n :: yE (n + 1) xs else yE (n + 1) xs
def lC (l : yA) : List Nat := yE 0 l.Levels
theorem zdP : ∀ (xs : List tA) (n : Nat), (yE n xs).length ≤ xs.length
  | [], _ => by simp [yE]
  | x :: xs, n => by
    have := zdP xs (n + 1)
    simp only [yE]
    split <;> simp <;> omega
theorem zbb : ∀ (xs : List tA) (n i : Nat), i ∈ yE n xs → n ≤ i ∧ ∃ h : i - n < xs.length, xs[i - n].Runs.length = 2
  | [], n, i, h => by simp [yE] at h
  | x :: xs, n, i, h => by
    simp only [yE] at h
    have zA : i ∈ yE (n + 1) xs → n ≤ i ∧ ∃ h : i - n < (x :: xs).length, (x :: xs)[i - n].Runs.length = 2 := fun h => by
      obtain ⟨h1, h2, h3⟩ := zbb xs (n + 1) i h
      refine ⟨by omega, by simp; omega, ?_⟩
      have e : i - n = (i - (n + 1)) + 1 := by omega
      simp only [e, List.getElem_cons_succ]; exact h3
    split at h
    · rename_i hx
      rcases List.mem_cons.1 h with rfl | h
      · exact ⟨Nat.le_refl _, by simp, by simpa using hx⟩
      · exact zA h
    · exact zA h
theorem zbG (l : yA) (k : Nat) (h : k < (lC l).length) : ∃ h2 : (lC l)[k] < l.Levels.length, l.Levels[(lC l)[k]].Runs.length = 2 := by
  obtain ⟨-, h2, h3⟩ := zbb l.Levels 0 _ (List.getElem_mem h)
  exact ⟨by simpa using h2, by simpa using h3⟩
theorem zan : ∀ (xs : List tA) (n : Nat), (yE n xs).Pairwise (· < ·)
  | [], _ => List.Pairwise.nil
  | x :: xs, n => by
    simp only [yE]
    split
    · exact List.Pairwise.cons (fun i hi => by have := (zbb xs (n + 1) i hi).1; omega) (zan xs (n + 1))
    · exact zan xs (n + 1)
theorem zhF (l : yA) (i j : Nat) (hi : i < (lC l).length) (hj : j < (lC l).length) (h : (lC l)[i] = (lC l)[j]) : i = j := by
  have p := List.pairwise_iff_getElem.1 (zan l.Levels 0)
  rcases Nat.lt_trichotomy i j with q | q | q
  · have := p i j hi hj q; exact absurd h (by show ¬ (yE 0 l.Levels)[i] = (yE 0 l.Levels)[j]; omega)
  · exact q
  · have := p j i hj hi q; exact absurd h (by show ¬ (yE 0 l.Levels)[i] = (yE 0 l.Levels)[j]; omega)
theorem zea (l : yA) (hl : l.Levels.length ≤ 14) : Ev (fun fu => qM fu l.B l.Levels) (pB (lC l)) ∧ Ev (fun fu => vX fu l) (pB (lC l)) := by
  have go : ∀ (m n : Nat) (acc : List Nat), n + m = l.Levels.length → acc.length ≤ n → Ev (fun fu => jH l.Levels fu (n : Int) (pB acc)) (pB (acc ++ yE n (l.Levels.drop n))) ∧ Ev (fun fu => cR l fu (n : Int) (pB acc)) (pB (acc ++ yE n (l.Levels.drop n))) := by
    intro m
    induction m with
    | zero =>
      intro n acc hn _
      obtain rfl : n = l.Levels.length := by omega
      exact ⟨Ev.succ (Ev.of (fun fu => by simp [jH, yE]) (Ev.ret _)), Ev.succ (Ev.of (fun fu => by simp [cR, yE]) (Ev.ret _))⟩
    | succ m ih =>
      intro n acc hn ha
      have hnl : n < l.Levels.length := by omega
      have d : decide ((n : Int) < (l.Levels.length : Int)) = true := decide_eq_true (by omega)
      have g : 2 * (((pB acc).length + 1) * 8) ≤ 281474976710656 := by rw [gG]; omega
      rw [List.drop_eq_getElem_cons hnl]
      by_cases h2 : l.Levels[n].Runs.length = 2
      · have d2 : decide ((l.Levels[n].Runs.length : Int) = 2) = true := decide_eq_true (by omega)
        have e : pB acc ++ [(n : Int)] = pB (acc ++ [n]) := by simp [pB]
        obtain ⟨i1, i2⟩ := ih (n + 1) (acc ++ [n]) (by omega) (by simp; omega)
        rw [List.append_assoc, List.singleton_append] at i1 i2
        simp only [yE, if_pos h2]
        constructor
        · refine Ev.succ ?_
          simp only [jH, d, d2, ↓reduceIte, xA l.Levels n hnl, Option.bind_some, if_pos g, e, qC n (show n < 9223372036854775807 by omega)]
          exact i1
        · refine Ev.succ ?_
          simp only [cR, d, d2, ↓reduceIte, xA l.Levels n hnl, Option.bind_some, if_pos g, e, qC n (show n < 9223372036854775807 by omega)]
          exact i2
      · have d2 : decide ((l.Levels[n].Runs.length : Int) = 2) = false := decide_eq_false (by omega)
        obtain ⟨i1, i2⟩ := ih (n + 1) acc (by omega) (by omega)
        simp only [yE, if_neg h2]
        constructor
        · refine Ev.succ ?_
          simp only [jH, d, d2, ↓reduceIte, xA l.Levels n hnl, Option.bind_some, Bool.false_eq_true, qC n (show n < 9223372036854775807 by omega)]
          exact i1
        · refine Ev.succ ?_
          simp only [cR, d, d2, ↓reduceIte, xA l.Levels n hnl, Option.bind_some, Bool.false_eq_true, qC n (show n < 9223372036854775807 by omega)]
          exact i2
  obtain ⟨g1, g2⟩ := go l.Levels.length 0 [] (by omega) (by simp)
  unfold qM vX
  exact ⟨Ev.bind g1 (Ev.ret _), Ev.bind g2 (Ev.ret _)⟩
def tV (x : tA) : List (List aA) := match x.Runs with | [a, b] => [b.Entries, a.Entries] | _ => []
def qB (l : yA) (i : Nat) : List (List aA) := match l.Levels[i]? with | some x => tV x | none => []
theorem zbs (x : tA) (h : x.Runs.length = 2) : ∃ a b, x.Runs = [a, b] := by
  match hx : x.Runs, h with
  | [a, b], _ => exact ⟨a, b, rfl⟩
theorem zbh (l : yA) (i : Nat) (hi : i < l.Levels.length) : qB l i = tV l.Levels[i] := by
  unfold qB; rw [List.getElem?_eq_getElem hi]
theorem zaj (l : yA) (hs : cJ l) (hg : uO l) (i : Nat) (hi : i < l.Levels.length) (h2 : l.Levels[i].Runs.length = 2) : xC (qB l i) ∧ jJ (qB l i) := by
  obtain ⟨a, b, e⟩ := zbs _ h2
  have hr := (hg.runs _ (List.getElem_mem hi)).2
  have hs2 := (hs.2 _ (List.getElem_mem hi)).2
  have ha := hr a (by rw [e]; simp)
  have hb := hr b (by rw [e]; simp)
  have sa := hs2 a (by rw [e]; simp)
  have sb := hs2 b (by rw [e]; simp)
  have er : qB l i = [b.Entries, a.Entries] := by rw [zbh l i hi]; unfold tV; rw [e]
  rw [er]
  have near : xL [b.Entries, a.Entries] := ⟨by simp, fun x hx => by
    rcases List.mem_cons.1 hx with rfl | hx
    · have := sb.1; omega
    · rcases List.mem_cons.1 hx with rfl | hx
      · have := sa.1; omega
      · simp at hx, fun x hx y hy => by
    rcases List.mem_cons.1 hx with rfl | hx
    · have := sb.2 y hy; omega
    · rcases List.mem_cons.1 hx with rfl | hx
      · have := sa.2 y hy; omega
      · simp at hx⟩
  refine ⟨⟨by simp, by simp, fun x hx => ?_⟩, ⟨near, fun _ => ?_⟩⟩
  · rcases List.mem_cons.1 hx with rfl | hx
    · exact hb.1
    · rcases List.mem_cons.1 hx with rfl | hx
      · exact ha.1
      · simp at hx
  · have := zex [b.Entries, a.Entries] (bE [b.Entries, a.Entries])
    have h1 := sa.1
    have h3 := sb.1
    simp only [zR, List.map_cons, List.map_nil, List.sum_cons, List.sum_nil] at this
    show zA [b.Entries, a.Entries] (bE [b.Entries, a.Entries]) ≤ 120
    omega
def xG (l : yA) (i : Nat) (b : Bool) (n : Nat) : bB := ⟨(i : Int), uC (qB l i) b n⟩
theorem zdr (l : yA) (hs : cJ l) (hg : uO l) (i : Nat) (b : Bool) (hi : i < l.Levels.length) (h2 : l.Levels[i].Runs.length = 2) : Ev (fun fu => uN fu l (i : Int) b) (xG l i b 0) ∧ Ev (fun fu => zaL fu l (i : Int) b) (xG l i b 0) := by
  obtain ⟨x, y, e⟩ := zbs _ h2
  obtain ⟨g, s⟩ := zaj l hs hg i hi h2
  obtain ⟨b1, b2⟩ := zh7 (qB l i) b s g
  have er : qB l i = [y.Entries, x.Entries] := by rw [zbh l i hi]; unfold tV; rw [e]
  have b1' := b1; have b2' := b2
  rw [er] at b1' b2'
  have i1 : ix l.Levels[i].Runs 1 = some y := by rw [e]; rfl
  have i0 : ix l.Levels[i].Runs 0 = some x := by rw [e]; rfl
  constructor
  · unfold uN
    simp only [xA l.Levels i hi, Option.bind_some, i1, i0]
    refine Ev.bind b1' ?_
    show Ev _ (bB.mk (i : Int) (uC (qB l i) b 0))
    rw [er]; exact Ev.ret _
  · unfold zaL zcS
    have d : decide ((l.Levels.length : Int) ≤ (i : Int)) = false := decide_eq_false (by omega)
    simp only [d, Bool.false_eq_true, ↓reduceIte, xA l.Levels i hi, Option.bind_some, i1, i0]
    refine Ev.bind b2' ?_
    show Ev _ (bB.mk (i : Int) (uC (qB l i) b 0))
    rw [er]; exact Ev.ret _
def tE (l : yA) (i : Nat) : Bool := decide (i + 1 = l.Levels.length)
theorem za5 (fu : Nat) (l : yA) (hl : l.Levels.length ≤ 14) (i : Nat) : jL fu l (i : Int) = some (tE l i) := by
  unfold jL tE
  rw [wr (by omega) (by omega)]
  congr 1
  exact decide_eq_decide.2 (by omega)
def noJb : oB := ⟨⟨0, []⟩, [], 0⟩
def cK (l : yA) : List bB := (lC l).map fun i => xG l i (tE l i) 0
theorem of_ev (l : yA) (hs : cJ l) (hg : uO l) (hc : Ev (fun fu => tH fu l) (0, 0, 0)) : Ev (fun fu => wK fu l) (⟨l, cK l, nE 0 (iF l.Levels) + 1⟩, 0) := by
  have h14 := hs.1
  have go : ∀ (m n : Nat) (acc : List bB), n + m = l.Levels.length → acc.length ≤ n → Ev (fun fu => kH (l.B, l.Levels) l fu (n : Int) acc) (acc ++ (yE n (l.Levels.drop n)).map fun i => xG l i (tE l i) 0) := by
    intro m
    induction m with
    | zero =>
      intro n acc hn _
      obtain rfl : n = l.Levels.length := by omega
      exact Ev.succ (Ev.of (fun fu => by simp [kH, yE]) (Ev.ret _))
    | succ m ih =>
      intro n acc hn ha
      have hnl : n < l.Levels.length := by omega
      have d : decide ((n : Int) < (l.Levels.length : Int)) = true := decide_eq_true (by omega)
      have g : 2 * ((acc.length + 1) * 176) ≤ 281474976710656 := by omega
      rw [List.drop_eq_getElem_cons hnl]
      by_cases h2 : l.Levels[n].Runs.length = 2
      · have d2 : decide ((l.Levels[n].Runs.length : Int) = 2) = true := decide_eq_true (by omega)
        have i1 := ih (n + 1) (acc ++ [xG l n (tE l n) 0]) (by omega) (by simp; omega)
        rw [List.append_assoc, List.singleton_append] at i1
        simp only [yE, if_pos h2, List.map_cons]
        refine Ev.succ ?_
        simp only [kH, d, d2, ↓reduceIte, xA l.Levels n hnl, Option.bind_some, za5 _ l h14 n]
        refine Ev.bind (zdr l hs hg n (tE l n) hnl h2).1 ?_
        simp only [if_pos g, qC n (show n < 9223372036854775807 by omega)]
        exact i1
      · have d2 : decide ((l.Levels[n].Runs.length : Int) = 2) = false := decide_eq_false (by omega)
        have i1 := ih (n + 1) acc (by omega) (by omega)
        simp only [yE, if_neg h2]
        refine Ev.succ ?_
        simp only [kH, d, d2, ↓reduceIte, xA l.Levels n hnl, Option.bind_some, Bool.false_eq_true, qC n (show n < 9223372036854775807 by omega)]
        exact i1
  have h1 := jZ (iF l.Levels) 0
  have h2 := zbE 1000000 (iF l.Levels) 0 (by decide) (zdv l hg)
  have w : IntKind.i64.wrap (nE 0 (iF l.Levels) + 1) = nE 0 (iF l.Levels) + 1 := wr (by omega) (by omega)
  unfold wK yK
  refine Ev.bind hc ?_
  simp only [decide_true, Bool.not_true, Bool.false_eq_true, ↓reduceIte, Option.bind_some]
  refine Ev.bind (zcp l hs) (Ev.bind (go l.Levels.length 0 [] (by omega) (by simp)) ?_)
  rw [w]
  exact Ev.ret _
theorem of_no (l : yA) (r : Int × Int × Int) (hc : Ev (fun fu => tH fu l) r) (h : r.2.2 ≠ 0) : Ev (fun fu => wK fu l) (noJb, r.2.2) := by
  unfold wK
  refine Ev.bind hc ?_
  simp only [decide_eq_false h, Bool.not_false, ↓reduceIte]
  exact Ev.ret _
end Go.T
end
