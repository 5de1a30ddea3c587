/- A state that was kept is the same after steps of it were made and their entries changed, and two ways on from it do not meet, of runs that are not far and numbers modulo 30; no other condition. -/
import Derived.Test.YtjmdbbhkgnlmmaaFGp
import Derived.Test.YtjmdbbhkgnlmmaaFGm
import Derived.Laws.BitsLemmas
import Derived.KernelRfl
import Derived.Test.YtjmdbbhkgnlmmaaFGt
set_option linter.unusedSimpArgs false
set_option linter.unusedVariables false
section
namespace Go.T
open Go Go.AM
def Ev {α : Type} (g : Nat → Option α) (r : α) : Prop := ∃ N, ∀ fu, N ≤ fu → g fu = some r
theorem Ev.ret {α : Type} (r : α) : Ev (fun _ => some r) r := ⟨0, fun _ _ => rfl⟩
theorem Ev.bind {α β : Type} {g : Nat → Option α} {a : α} {k : Nat → α → Option β} {r : β} (h : Ev g a) (h2 : Ev (fun fu => k fu a) r) : Ev (fun fu => (g fu).bind (k fu)) r := by
  obtain ⟨n, h⟩ := h
  obtain ⟨m, h2⟩ := h2
  exact ⟨n + m, fun fu hfu => by show (g fu).bind (k fu) = _; rw [h fu (by omega)]; exact h2 fu (by omega)⟩
theorem Ev.succ {α : Type} {g : Nat → Option α} {r : α} (h : Ev (fun fu => g (fu + 1)) r) : Ev g r := by
  obtain ⟨n, h⟩ := h
  exact ⟨n + 1, fun fu hfu => by obtain ⟨m, rfl⟩ : ∃ m, fu = m + 1 := ⟨fu - 1, by omega⟩; exact h m (by omega)⟩
theorem Ev.of {α : Type} {g g' : Nat → Option α} {r : α} (e : ∀ fu, g fu = g' fu) (h : Ev g' r) : Ev g r := by
  obtain ⟨n, h⟩ := h
  exact ⟨n, fun fu hfu => (e fu).trans (h fu hfu)⟩
theorem Ev.mono {α : Type} {g : Nat → Option α} {r : α} {n : Nat} (m : ∀ fu, Le1 (g fu) (g (fu + 1))) (h : g n = some r) : Ev g r := by
  refine ⟨n, fun fu hfu => ?_⟩
  induction fu with
  | zero => rw [show n = 0 by omega] at h; exact h
  | succ fu ih =>
    by_cases e : n = fu + 1
    · rw [← e]; exact h
    · exact m fu r (ih (by omega))
theorem Ev.uniq {α : Type} {g : Nat → Option α} {r s : α} (h : Ev g r) (k : Ev g s) : r = s := by
  obtain ⟨n, h⟩ := h
  obtain ⟨m, k⟩ := k
  have := (h (n + m) (by omega)).symm.trans (k (n + m) (by omega))
  exact Option.some.inj this
theorem Ev.one {α : Type} {g : Nat → Option α} {r : α} (h : Ev g r) : ∃ fu, g fu = some r := by
  obtain ⟨n, h⟩ := h; exact ⟨n, h n (Nat.le_refl n)⟩
theorem wr {n : Int} (h1 : -9223372036854775808 ≤ n) (h2 : n ≤ 9223372036854775807) : IntKind.i64.wrap n = n := by
  rw [IntKind.wrap_i64]; omega
theorem ix_nat {α : Type} (l : List α) (n : Nat) : ix l (n : Int) = l[n]? := by simp [ix]
theorem ix_get {α : Type} (l : List α) (n : Nat) (h : n < l.length) : ix l (n : Int) = some l[n] := by simp [ix, h]
abbrev bl := Op.bytesLess
theorem bl_irr (a : List UInt8) : bl a a = false := by
  induction a with
  | nil => rfl
  | cons x a ih => simpa [bl, Op.bytesLess] using ih
theorem bl_tri : ∀ (a b : List UInt8), bl a b = true ∨ a = b ∨ bl b a = true
  | [], [] => .inr (.inl rfl)
  | [], _ :: _ => .inl rfl
  | _ :: _, [] => .inr (.inr rfl)
  | x :: a, y :: b => by
    have tri : x < y ∨ x = y ∨ y < x := by
      rcases Nat.lt_trichotomy x.toNat y.toNat with h | h | h
      · exact .inl (UInt8.lt_iff_toNat_lt.2 h)
      · exact .inr (.inl (UInt8.toNat_inj.1 h))
      · exact .inr (.inr (UInt8.lt_iff_toNat_lt.2 h))
    rcases tri with h | h | h
    · left; simp [bl, Op.bytesLess, h]
    · subst h
      rcases bl_tri a b with k | k | k
      · left; simp [bl, Op.bytesLess]; exact k
      · right; left; rw [k]
      · right; right; simp [bl, Op.bytesLess]; exact k
    · right; right; simp [bl, Op.bytesLess, h]
theorem bl_trans : ∀ {a b c : List UInt8}, bl a b = true → bl b c = true → bl a c = true
  | a, [], c, h, _ => by cases a <;> simp [bl, Op.bytesLess] at h
  | a, b, [], _, k => by cases b <;> simp [bl, Op.bytesLess] at k
  | [], y :: b, z :: c, _, _ => rfl
  | x :: a, y :: b, z :: c, h, k => by
    simp only [bl, Op.bytesLess, Bool.or_eq_true, decide_eq_true_eq, Bool.and_eq_true, beq_iff_eq] at h k ⊢
    rcases h with h | ⟨rfl, h⟩
    · rcases k with k | ⟨rfl, k⟩
      · exact .inl (UInt8.lt_trans h k)
      · exact .inl h
    · rcases k with k | ⟨rfl, k⟩
      · exact .inl k
      · exact .inr ⟨rfl, bl_trans h k⟩
theorem bl_asym {a b : List UInt8} (h : bl a b = true) : bl b a = false := by
  cases k : bl b a with
  | false => rfl
  | true => have := bl_trans h k; rw [bl_irr] at this; cases this
def chk (e : TApiEntry) : Int := if 32 < e.Key.length ∨ 64 < e.Val.length then 3 else if e.Dead = true ∧ e.Val ≠ [] then 6 else if e.Seq < 1 ∨ 1000000000 < e.Seq then 7 else 0
theorem entries_Check_eq (fu : Nat) (e : TApiEntry) : entries_Check fu e = some (chk e) := by
  obtain ⟨k, v, d, s⟩ := e
  have c1 : decide ((32 : Int) < (k.length : Int)) = decide (32 < k.length) := decide_eq_decide.2 (by omega)
  have c2 : decide ((64 : Int) < (v.length : Int)) = decide (64 < v.length) := decide_eq_decide.2 (by omega)
  simp only [entries_Check, keys_Check, chk, c1, c2]
  by_cases h1 : 32 < k.length <;> by_cases h2 : 64 < v.length <;> cases d <;> by_cases h4 : v = [] <;> by_cases h5 : s < 1 <;> by_cases h6 : 1000000000 < s <;> simp [h1, h2, h4, h5, h6]
theorem ref03_Check_eq (fu : Nat) (e : TApiEntry) : bookendref03_Check fu e = some (chk e) := by
  obtain ⟨k, v, d, s⟩ := e
  have c1 : decide ((32 : Int) < (k.length : Int)) = decide (32 < k.length) := decide_eq_decide.2 (by omega)
  have c2 : decide ((64 : Int) < (v.length : Int)) = decide (64 < v.length) := decide_eq_decide.2 (by omega)
  simp only [bookendref03_Check, chk, c1, c2]
  by_cases h1 : 32 < k.length <;> by_cases h2 : 64 < v.length <;> cases d <;> by_cases h4 : v = [] <;> by_cases h5 : s < 1 <;> by_cases h6 : 1000000000 < s <;> simp [h1, h2, h4, h5, h6]
def cp : List UInt8 → List UInt8 → Nat
  | x :: a, y :: b => if x = y then cp a b + 1 else 0
  | _, _ => 0
theorem common_l1 (a b : List UInt8) (ha : a.length ≤ 1000000000000) (m : Nat) : ∀ n : Nat, n + m = a.length → Ev (fun fu => bookendref02_common_l1 a b fu (n : Int)) ((n + cp (a.drop n) (b.drop n) : Nat) : Int) := by
  induction m with
  | zero =>
    intro n hn
    refine Ev.succ (Ev.of (g' := fun _ => some ((n : Int))) (fun fu => ?_) ?_)
    · simp [bookendref02_common_l1, show ¬ (n : Int) < (a.length : Int) by omega]
    · rw [show a.drop n = [] from List.drop_eq_nil_of_le (by omega)]
      exact Ev.ret _
  | succ m ih =>
    intro n hn
    have hna : n < a.length := by omega
    rw [List.drop_eq_getElem_cons hna]
    refine Ev.succ ?_
    by_cases hb : n < b.length
    · rw [List.drop_eq_getElem_cons hb]
      by_cases he : a[n] = b[n]
      · refine Ev.of (g' := fun fu => bookendref02_common_l1 a b fu ((n + 1 : Nat) : Int)) (fun fu => ?_) ?_
        · simp [bookendref02_common_l1, hna, hb, ix_nat, he]
          rw [wr (by omega) (by omega)]
        · have := ih (n + 1) (by omega)
          rw [show ((n + cp (a[n] :: a.drop (n + 1)) (b[n] :: b.drop (n + 1)) : Nat) : Int) = ((n + 1 + cp (a.drop (n + 1)) (b.drop (n + 1)) : Nat) : Int) by
            rw [he]; simp [cp]; omega]
          exact this
      · refine Ev.of (g' := fun _ => some ((n : Int))) (fun fu => ?_) ?_
        · have : ¬ (a[n].toNat : Int) = (b[n].toNat : Int) := fun h => he (UInt8.toNat_inj.1 (by omega))
          simp [bookendref02_common_l1, hna, hb, ix_nat, this]
        · simp only [cp, if_neg he, Nat.add_zero]
          exact Ev.ret _
    · refine Ev.of (g' := fun _ => some ((n : Int))) (fun fu => ?_) ?_
      · simp [bookendref02_common_l1, hna, hb]
      · rw [show b.drop n = [] from List.drop_eq_nil_of_le (by omega)]
        exact Ev.ret _
theorem cp_le : ∀ a b, cp a b ≤ a.length ∧ cp a b ≤ b.length
  | [], b => by simp [cp]
  | _ :: _, [] => by simp [cp]
  | x :: a, y :: b => by
    have := cp_le a b
    simp only [cp]
    split <;> simp <;> omega
theorem cp_ord : ∀ a b, (cp a b = a.length → cp a b = b.length → a = b) ∧
    (cp a b = a.length → cp a b ≠ b.length → bl a b = true) ∧
    (cp a b ≠ a.length → cp a b = b.length → bl b a = true) ∧
    (∀ (h1 : cp a b < a.length) (h2 : cp a b < b.length), a[cp a b] ≠ b[cp a b] ∧ bl a b = decide (a[cp a b] < b[cp a b]))
  | [], [] => by simp [cp]
  | [], _ :: _ => by simp [cp, bl, Op.bytesLess]
  | _ :: _, [] => by simp [cp, bl, Op.bytesLess]
  | x :: a, y :: b => by
    obtain ⟨h1, h2, h3, h4⟩ := cp_ord a b
    by_cases e : x = y
    · subst e
      simp only [cp, ↓reduceIte, List.length_cons, Nat.add_right_cancel_iff, ne_eq, List.getElem_cons_succ, bl, Op.bytesLess, Nat.add_lt_add_iff_right]
      simp only [UInt8.lt_irrefl, decide_false, beq_self_eq_true, Bool.true_and, Bool.false_or]
      exact ⟨fun p q => by rw [h1 p q], h2, h3, h4⟩
    · simp only [cp, if_neg e, List.length_cons]
      refine ⟨by omega, by omega, by omega, fun _ _ => ?_⟩
      simp [bl, Op.bytesLess, e]
theorem order_ev (a b : List UInt8) (ha : a.length ≤ 1000000000000) : ∃ r, Ev (fun fu => bookendref02_Order fu a b) r ∧ ((0 ≤ r) ↔ bl a b = false) := by
  have hc : Ev (fun fu => bookendref02_common fu a b) (cp a b : Int) := by
    unfold bookendref02_common
    refine Ev.bind (a := (cp a b : Int)) ?_ (Ev.ret _)
    have := common_l1 a b ha a.length 0 (by omega)
    simpa using this
  obtain ⟨k1, k2⟩ := cp_le a b
  obtain ⟨h1, h2, h3, h4⟩ := cp_ord a b
  unfold bookendref02_Order
  have d1 : decide ((cp a b : Int) = (a.length : Int)) = decide (cp a b = a.length) := decide_eq_decide.2 (by omega)
  have d2 : decide ((cp a b : Int) = (b.length : Int)) = decide (cp a b = b.length) := decide_eq_decide.2 (by omega)
  have d3 : decide ((cp a b : Int) < (b.length : Int)) = decide (cp a b < b.length) := decide_eq_decide.2 (by omega)
  by_cases p : cp a b = a.length
  · by_cases q : cp a b = b.length
    · refine ⟨0, Ev.bind hc (Ev.of (fun fu => ?_) (Ev.ret _)), ?_⟩
      · simp only [d1, d2, d3, decide_eq_true p, decide_eq_true q]; rfl
      · rw [h1 p q]; simp [bl_irr]
    · refine ⟨-1, Ev.bind hc (Ev.of (fun fu => ?_) (Ev.ret _)), ?_⟩
      · simp only [d1, d2, d3, decide_eq_true p, decide_eq_false q]; rfl
      · rw [h2 p q]; simp
  · by_cases q : cp a b = b.length
    · refine ⟨1, Ev.bind hc (Ev.of (fun fu => ?_) (Ev.ret _)), ?_⟩
      · simp only [d1, d2, d3, decide_eq_false p, decide_eq_true q, decide_eq_false (show ¬ cp a b < b.length by omega)]; rfl
      · rw [bl_asym (h3 p q)]; simp
    · obtain ⟨j1, j2⟩ := h4 (by omega) (by omega)
      refine ⟨if a[cp a b] < b[cp a b] then -1 else 1, Ev.bind hc (Ev.of (fun fu => ?_) (Ev.ret _)), ?_⟩
      · have d4 : decide ((a[cp a b].toNat : Int) < (b[cp a b].toNat : Int)) = decide (a[cp a b] < b[cp a b]) := decide_eq_decide.2 (by rw [UInt8.lt_iff_toNat_lt]; omega)
        simp only [d1, d2, d3, decide_eq_false p, decide_eq_false q, decide_eq_true (show cp a b < b.length by omega), ix_get a (cp a b) (by omega), ix_get b (cp a b) (by omega), d4]
        by_cases z : a[cp a b] < b[cp a b]
        · have z' := UInt8.lt_iff_toNat_lt.1 z
          simp [z, z']
        · have z' : b[cp a b].toNat ≤ a[cp a b].toNat := by rw [UInt8.lt_iff_toNat_lt] at z; omega
          simp [z, z']
      · rw [j2]; split <;> simp [*]
def goodAt (l : List TApiEntry) (i : Nat) : Prop := ∀ h : i < l.length, chk l[i] = 0 ∧ (∀ h0 : 0 < i, bl l[i - 1].Key l[i].Key = true)
theorem list_l1 (l : List TApiEntry) (hl : l.length ≤ 1000000000000) (hk : ∀ e ∈ l, e.Key.length ≤ 1000000000000) (m : Nat) : ∀ n : Nat, n + m = l.length →
    ∃ r, Ev (fun fu => entries_CheckList_l1 l fu (n : Int)) r ∧ Ev (fun fu => bookendref03_CheckList_l1 l fu (n : Int)) r ∧
      ((r = .inl () ∧ ∀ i, n ≤ i → goodAt l i) ∨ ∃ i : Nat, ∃ c, r = .inr ((i : Int), c) ∧ c ≠ 0) := by
  induction m with
  | zero =>
    intro n hn
    refine ⟨.inl (), Ev.succ (Ev.of (fun fu => ?_) (Ev.ret _)), Ev.succ (Ev.of (fun fu => ?_) (Ev.ret _)), .inl ⟨rfl, fun i hi h => by omega⟩⟩
    · simp [entries_CheckList_l1, show ¬ (n : Int) < (l.length : Int) by omega]
    · simp [bookendref03_CheckList_l1, show ¬ (n : Int) < (l.length : Int) by omega]
  | succ m ih =>
    intro n hn
    have hnl : n < l.length := by omega
    have w1 : IntKind.i64.wrap ((n : Int) + 1) = ((n + 1 : Nat) : Int) := by rw [wr (by omega) (by omega)]; rfl
    obtain ⟨r, r1, r2, r3⟩ := ih (n + 1) (by omega)
    by_cases hc : chk l[n] = 0
    · by_cases h0 : 0 < n
      · have w2 : IntKind.i64.wrap ((n : Int) - 1) = ((n - 1 : Nat) : Int) := by rw [wr (by omega) (by omega)]; omega
        have hn1 : n - 1 < l.length := by omega
        obtain ⟨o, o1, o2⟩ := order_ev l[n - 1].Key l[n].Key (hk _ (List.getElem_mem hn1))
        cases hb : bl l[n - 1].Key l[n].Key with
        | true =>
          have ho : ¬ 0 ≤ o := by rw [o2, hb]; simp
          have hnb : (Op.bytesLess l[n].Key l[n - 1].Key || l[n].Key == l[n - 1].Key) = false := by
            rw [show Op.bytesLess l[n].Key l[n - 1].Key = false from bl_asym hb]
            have : l[n].Key ≠ l[n - 1].Key := fun e => by rw [e, bl_irr] at hb; cases hb
            simp [this]
          refine ⟨r, Ev.succ (Ev.of (fun fu => ?_) r1), Ev.succ ?_, ?_⟩
          · simp only [entries_CheckList_l1, entries_Check_eq, hc, w1, w2, ix_get l n hnl, ix_get l (n - 1) hn1]
            have hnb' := hnb
            simp only [Bool.or_eq_false_iff, Bool.or_eq_true, beq_iff_eq, beq_eq_false_iff_ne, ne_eq] at hnb'
            simp [hnl, h0, hnb', hc]
          · refine Ev.of (g' := fun fu => (bookendref02_Order fu l[n - 1].Key l[n].Key).bind fun vr35 => if 0 ≤ vr35 then some (.inr ((n : Int), 6)) else bookendref03_CheckList_l1 l fu ((n + 1 : Nat) : Int)) (fun fu => ?_) (Ev.bind o1 ?_)
            · simp only [bookendref03_CheckList_l1, ref03_Check_eq, hc, w1, w2, ix_get l n hnl, ix_get l (n - 1) hn1]
              cases hq : bookendref02_Order fu l[n - 1].Key l[n].Key <;> simp [hnl, h0, hc, hq]
            · simp only [if_neg ho]; exact r2
          · rcases r3 with ⟨e, h⟩ | h
            · refine .inl ⟨e, fun i hi hl => ?_⟩
              by_cases q : i = n
              · subst q; exact ⟨hc, fun _ => hb⟩
              · exact h i (by omega) hl
            · exact .inr h
        | false =>
          have ho : 0 ≤ o := by rw [o2, hb]
          have hnb : (Op.bytesLess l[n].Key l[n - 1].Key || l[n].Key == l[n - 1].Key) = true := by
            rcases bl_tri l[n - 1].Key l[n].Key with h | h | h
            · rw [hb] at h; cases h
            · simp [h]
            · simp only [bl] at h; simp [h]
          refine ⟨.inr (n, 6), Ev.succ (Ev.of (fun fu => ?_) (Ev.ret _)), Ev.succ ?_, .inr ⟨n, 6, rfl, by decide⟩⟩
          · simp only [entries_CheckList_l1, entries_Check_eq, hc, w1, w2, ix_get l n hnl, ix_get l (n - 1) hn1]
            have hnb' := hnb
            simp only [Bool.or_eq_false_iff, Bool.or_eq_true, beq_iff_eq, beq_eq_false_iff_ne, ne_eq] at hnb'
            simp [hnl, h0, hnb', hc]
          · refine Ev.of (g' := fun fu => (bookendref02_Order fu l[n - 1].Key l[n].Key).bind fun vr35 => if 0 ≤ vr35 then some (.inr ((n : Int), 6)) else bookendref03_CheckList_l1 l fu ((n + 1 : Nat) : Int)) (fun fu => ?_) (Ev.bind o1 ?_)
            · simp only [bookendref03_CheckList_l1, ref03_Check_eq, hc, w1, w2, ix_get l n hnl, ix_get l (n - 1) hn1]
              cases hq : bookendref02_Order fu l[n - 1].Key l[n].Key <;> simp [hnl, h0, hc, hq]
            · simp only [if_pos ho]; exact Ev.ret _
      · obtain rfl : n = 0 := by omega
        refine ⟨r, Ev.succ (Ev.of (fun fu => ?_) r1), Ev.succ (Ev.of (fun fu => ?_) r2), ?_⟩
        · simp only [entries_CheckList_l1, entries_Check_eq, hc, w1, ix_get l 0 hnl]
          simp [hnl, hc]
        · simp only [bookendref03_CheckList_l1, ref03_Check_eq, hc, w1, ix_get l 0 hnl]
          simp [hnl, hc]
        · rcases r3 with ⟨e, h⟩ | h
          · refine .inl ⟨e, fun i hi hl => ?_⟩
            by_cases q : i = 0
            · subst q; exact ⟨hc, fun h => by omega⟩
            · exact h i (by omega) hl
          · exact .inr h
    · refine ⟨.inr (n, chk l[n]), Ev.succ (Ev.of (fun fu => ?_) (Ev.ret _)), Ev.succ (Ev.of (fun fu => ?_) (Ev.ret _)), .inr ⟨n, _, rfl, hc⟩⟩
      · simp only [entries_CheckList_l1, entries_Check_eq, ix_get l n hnl]
        simp [hnl, hc]
      · simp only [bookendref03_CheckList_l1, ref03_Check_eq, ix_get l n hnl]
        simp [hnl, hc]
def GoodRun (l : List TApiEntry) : Prop := l.length ≤ 5000 ∧ ∀ i, goodAt l i
theorem checkList_ev (l : List TApiEntry) (hk : ∀ e ∈ l, e.Key.length ≤ 1000000000000) :
    ∃ r, Ev (fun fu => entries_CheckList fu l) r ∧ Ev (fun fu => bookendref03_CheckList fu l) r ∧ (r.2 = 0 → GoodRun l) := by
  unfold entries_CheckList bookendref03_CheckList
  by_cases h : 5000 < l.length
  · refine ⟨(-1, 3), Ev.of (fun fu => ?_) (Ev.ret _), Ev.of (fun fu => ?_) (Ev.ret _), by simp⟩ <;>
      rw [if_pos (by simp; omega)]
  · obtain ⟨r, r1, r2, r3⟩ := list_l1 l (by omega) hk l.length 0 (by omega)
    have hd : ¬ decide ((5000 : Int) < (l.length : Int)) = true := by simp; omega
    simp only [if_neg hd]
    rcases r3 with ⟨rfl, h3⟩ | ⟨i, c, rfl, hc⟩
    · exact ⟨(0, 0), Ev.bind r1 (Ev.ret _), Ev.bind r2 (Ev.ret _), fun _ => ⟨by omega, fun i => h3 i (by omega)⟩⟩
    · exact ⟨(i, c), Ev.bind r1 (Ev.ret _), Ev.bind r2 (Ev.ret _), fun h => absurd h hc⟩
end Go.T
end
section
namespace Go.T
open Go Go.AM
def Fits (runs : List (List TApiEntry)) : Prop := ∀ l ∈ runs, ∀ e ∈ l, e.Key.length ≤ 1000000000000
theorem check_l1 (runs : List (List TApiEntry)) (hf : Fits runs) (hl : runs.length ≤ 1000) (m : Nat) : ∀ n : Nat, n + m = runs.length →
    ∃ r, Ev (fun fu => merge_check_l1 runs fu (n : Int)) r ∧ Ev (fun fu => bookendref11_right_l1 runs fu (n : Int)) r ∧
      ((r = .inl () ∧ ∀ i, n ≤ i → ∀ h : i < runs.length, GoodRun runs[i]) ∨ ∃ i : Nat, ∃ c, r = .inr ((i : Int), c) ∧ c ≠ 0) := by
  induction m with
  | zero =>
    intro n hn
    refine ⟨.inl (), Ev.succ (Ev.of (fun fu => ?_) (Ev.ret _)), Ev.succ (Ev.of (fun fu => ?_) (Ev.ret _)), .inl ⟨rfl, fun i hi h => by omega⟩⟩
    · simp [merge_check_l1, show ¬ (n : Int) < (runs.length : Int) by omega]
    · simp [bookendref11_right_l1, show ¬ (n : Int) < (runs.length : Int) by omega]
  | succ m ih =>
    intro n hn
    have hnl : n < runs.length := by omega
    have w1 : IntKind.i64.wrap ((n : Int) + 1) = ((n + 1 : Nat) : Int) := by rw [wr (by omega) (by omega)]; rfl
    obtain ⟨r, r1, r2, r3⟩ := ih (n + 1) (by omega)
    obtain ⟨⟨p, c⟩, c1, c2, c3⟩ := checkList_ev runs[n] (hf _ (List.getElem_mem hnl))
    have f1 : ∀ fu, merge_check_l1 runs (fu + 1) (n : Int) = (entries_CheckList fu runs[n]).bind fun vr => if vr.2 = 0 then merge_check_l1 runs fu ((n + 1 : Nat) : Int) else some (.inr ((n : Int), vr.2)) := by
      intro fu
      simp only [merge_check_l1, w1, ix_get runs n hnl]
      simp [hnl]
    have f2 : ∀ fu, bookendref11_right_l1 runs (fu + 1) (n : Int) = (bookendref03_CheckList fu runs[n]).bind fun vr => if vr.2 = 0 then bookendref11_right_l1 runs fu ((n + 1 : Nat) : Int) else some (.inr ((n : Int), vr.2)) := by
      intro fu
      simp only [bookendref11_right_l1, w1, ix_get runs n hnl]
      simp [hnl]
    by_cases hc : c = 0
    · subst hc
      refine ⟨r, Ev.succ (Ev.of f1 (Ev.bind c1 r1)), Ev.succ (Ev.of f2 (Ev.bind c2 r2)), ?_⟩
      rcases r3 with ⟨e, h⟩ | h
      · refine .inl ⟨e, fun i hi hl => ?_⟩
        by_cases q : i = n
        · subst q; exact c3 rfl
        · exact h i (by omega) hl
      · exact .inr h
    · refine ⟨.inr (n, c), Ev.succ (Ev.of f1 (Ev.bind c1 ?_)), Ev.succ (Ev.of f2 (Ev.bind c2 ?_)), .inr ⟨n, c, rfl, hc⟩⟩
      · simp only [if_neg hc]; exact Ev.ret _
      · simp only [if_neg hc]; exact Ev.ret _
def GoodRuns (runs : List (List TApiEntry)) : Prop := 0 < runs.length ∧ runs.length ≤ 32 ∧ ∀ l ∈ runs, GoodRun l
theorem check_ev (runs : List (List TApiEntry)) (hf : Fits runs) (hl : runs.length ≤ 1000) :
    ∃ r, Ev (fun fu => merge_check fu runs) r ∧ Ev (fun fu => bookendref11_right fu runs) r ∧ ((r = (0, 0) ∧ GoodRuns runs) ∨ r.2 ≠ 0) := by
  unfold merge_check bookendref11_right
  by_cases h : runs.length = 0
  · refine ⟨(-1, 6), Ev.of (fun fu => ?_) (Ev.ret _), Ev.of (fun fu => ?_) (Ev.ret _), .inr (by simp)⟩ <;> simp [h]
  · by_cases h2 : 32 < runs.length
    · refine ⟨(-1, 3), Ev.of (fun fu => ?_) (Ev.ret _), Ev.of (fun fu => ?_) (Ev.ret _), .inr (by simp)⟩ <;>
        rw [if_neg (by simp; intro e; simp [e] at h), if_pos (by simp; omega)]
    · obtain ⟨r, r1, r2, r3⟩ := check_l1 runs hf hl runs.length 0 (by omega)
      have e1 : ¬ decide ((runs.length : Int) = 0) = true := by simp; intro e; simp [e] at h
      have e2 : ¬ decide ((32 : Int) < (runs.length : Int)) = true := by simp; omega
      simp only [if_neg e1, if_neg e2]
      rcases r3 with ⟨rfl, h3⟩ | ⟨i, c, rfl, hc⟩
      · refine ⟨(0, 0), Ev.bind r1 (Ev.ret _), Ev.bind r2 (Ev.ret _), .inl ⟨rfl, by omega, by omega, fun l hl => ?_⟩⟩
        obtain ⟨i, hi, rfl⟩ := List.mem_iff_getElem.1 hl
        exact h3 i (by omega) hi
      · exact ⟨(i, c), Ev.bind r1 (Ev.ret _), Ev.bind r2 (Ev.ret _), .inr hc⟩
def lt (keys : List TApiLsKey) (p q : Nat) : Bool :=
  match keys[p]?, keys[q]? with
  | some a, some b => if a.Done ≠ b.Done then b.Done else if a.Key ≠ b.Key then bl a.Key b.Key else decide (p < q)
  | _, _ => false
def Plain (keys : List TApiLsKey) : Prop := ∀ k ∈ keys, k.Done = true → k.Key = []
theorem judge_eq (fu : Nat) (keys : List TApiLsKey) (p q : Nat) (hp : p < keys.length) (hq : q < keys.length) : loser_judge_1 fu p q keys = some (lt keys p q) := by
  simp only [loser_judge_1, ix_get keys p hp, ix_get keys q hq, lt, List.getElem?_eq_getElem hp, List.getElem?_eq_getElem hq]
  by_cases h1 : keys[p].Done = keys[q].Done <;> by_cases h2 : keys[p].Key = keys[q].Key <;> simp [h1, h2, bl]
theorem wins_eq (fu : Nat) (keys : List TApiLsKey) (hpl : Plain keys) (p q : Nat) (hp : p < keys.length) (hq : q < keys.length) : bookendref10_wins fu keys p q = some (lt keys p q) := by
  simp only [bookendref10_wins, ix_get keys p hp, ix_get keys q hq, lt, List.getElem?_eq_getElem hp, List.getElem?_eq_getElem hq]
  have k1 := hpl _ (List.getElem_mem hp)
  have k2 := hpl _ (List.getElem_mem hq)
  cases d1 : keys[p].Done <;> cases d2 : keys[q].Done
  · by_cases h2 : keys[p].Key = keys[q].Key <;> simp [d1, d2, h2, bl]
  · simp [d1, d2]
  · simp [d1, d2]
  · have : keys[p].Key = keys[q].Key := by rw [k1 d1, k2 d2]
    simp [d1, d2, this]
theorem lt_total (keys : List TApiLsKey) (p q : Nat) (hp : p < keys.length) (hq : q < keys.length) (h : p ≠ q) : lt keys q p = !lt keys p q := by
  simp only [lt, List.getElem?_eq_getElem hp, List.getElem?_eq_getElem hq]
  by_cases d : keys[p].Done = keys[q].Done
  · by_cases k : keys[p].Key = keys[q].Key
    · simp [d, k]
      by_cases z : p < q
      · simp [z]; omega
      · simp [z]; omega
    · have k' : ¬ keys[q].Key = keys[p].Key := fun e => k e.symm
      simp only [ne_eq, d, k, k', not_true_eq_false, not_false_eq_true, ↓reduceIte]
      rcases bl_tri keys[p].Key keys[q].Key with h | h | h
      · rw [h, bl_asym h]; rfl
      · exact absurd h k
      · rw [h, bl_asym h]; rfl
  · have d' : ¬ keys[q].Done = keys[p].Done := fun e => d e.symm
    simp only [ne_eq, d, d', not_false_eq_true, ↓reduceIte]
    cases h1 : keys[p].Done <;> cases h2 : keys[q].Done <;> simp_all
def pl (keys : List TApiLsKey) : Nat → Nat → Nat × Nat
  | 0, node => (node - keys.length, 0)
  | k + 1, node => if keys.length ≤ node then (node - keys.length, 0) else
    let a := (pl keys k (2 * node)).1
    let b := (pl keys k (2 * node + 1)).1
    if lt keys a b then (a, b) else (b, a)
theorem pl_stable (keys : List TApiLsKey) : ∀ k k' node, 1 ≤ node → keys.length - node ≤ k → keys.length - node ≤ k' → pl keys k node = pl keys k' node := by
  intro k
  induction k with
  | zero =>
    intro k' node h1 h2 h3
    cases k' with
    | zero => rfl
    | succ k' => simp only [pl]; rw [if_pos (by omega)]
  | succ k ih =>
    intro k' node h1 h2 h3
    cases k' with
    | zero => simp only [pl]; rw [if_pos (by omega)]
    | succ k' =>
      simp only [pl]
      by_cases h : keys.length ≤ node
      · rw [if_pos h, if_pos h]
      · rw [if_neg h, if_neg h, ih k' (2 * node) (by omega) (by omega) (by omega), ih k' (2 * node + 1) (by omega) (by omega) (by omega)]
def nd (keys : List TApiLsKey) (node : Nat) : Nat × Nat := pl keys keys.length node
theorem nd_leaf (keys : List TApiLsKey) (node : Nat) (h : keys.length ≤ node) : nd keys node = (node - keys.length, 0) := by
  unfold nd
  cases hk : keys.length with
  | zero => simp [pl, hk]
  | succ n => simp only [pl]; rw [if_pos h, hk]
theorem nd_node (keys : List TApiLsKey) (node : Nat) (h1 : 1 ≤ node) (h : node < keys.length) :
    nd keys node = if lt keys (nd keys (2 * node)).1 (nd keys (2 * node + 1)).1 then ((nd keys (2 * node)).1, (nd keys (2 * node + 1)).1) else ((nd keys (2 * node + 1)).1, (nd keys (2 * node)).1) := by
  have e1 : nd keys node = pl keys (keys.length + 1) node := pl_stable keys _ _ node h1 (by omega) (by omega)
  rw [e1]
  simp only [pl]
  rw [if_neg (by omega)]
  rfl
theorem nd_lt (keys : List TApiLsKey) (m : Nat) : ∀ node, 1 ≤ node → node < 2 * keys.length → keys.length - node ≤ m → (nd keys node).1 < keys.length ∧ (nd keys node).2 < keys.length := by
  induction m with
  | zero =>
    intro node h1 h2 h3
    rw [nd_leaf keys node (by omega)]
    simp only
    omega
  | succ m ih =>
    intro node h1 h2 h3
    by_cases h : keys.length ≤ node
    · rw [nd_leaf keys node h]; simp only; omega
    · rw [nd_node keys node h1 (by omega)]
      have a := ih (2 * node) (by omega) (by omega) (by omega)
      have b := ih (2 * node + 1) (by omega) (by omega) (by omega)
      split
      · exact ⟨a.1, b.1⟩
      · exact ⟨b.1, a.1⟩
theorem nd_ok (keys : List TApiLsKey) (node : Nat) (h1 : 1 ≤ node) (h2 : node < 2 * keys.length) : (nd keys node).1 < keys.length ∧ (nd keys node).2 < keys.length :=
  nd_lt keys _ node h1 h2 (Nat.le_refl _)
theorem player_ev (keys : List TApiLsKey) (hpl : Plain keys) (hl : keys.length ≤ 1000000) (m : Nat) : ∀ node : Nat, 1 ≤ node → node < 2 * keys.length → keys.length - node ≤ m →
    Ev (fun fu => bookendref10_player fu keys (node : Int)) (((nd keys node).1 : Int), ((nd keys node).2 : Int)) := by
  induction m with
  | zero =>
    intro node h1 h2 h3
    rw [nd_leaf keys node (by omega)]
    refine Ev.succ (Ev.of (fun fu => ?_) (Ev.ret _))
    simp only [bookendref10_player]
    rw [if_pos (by simp; omega), wr (by omega) (by omega)]
    congr 2
    omega
  | succ m ih =>
    intro node h1 h2 h3
    by_cases h : keys.length ≤ node
    · rw [nd_leaf keys node h]
      refine Ev.succ (Ev.of (fun fu => ?_) (Ev.ret _))
      simp only [bookendref10_player]
      rw [if_pos (by simp; omega), wr (by omega) (by omega)]
      congr 2
      omega
    · have a := ih (2 * node) (by omega) (by omega) (by omega)
      have b := ih (2 * node + 1) (by omega) (by omega) (by omega)
      have ka := nd_ok keys (2 * node) (by omega) (by omega)
      have kb := nd_ok keys (2 * node + 1) (by omega) (by omega)
      refine Ev.succ ?_
      simp only [bookendref10_player]
      have w1 : IntKind.i64.wrap (2 * (node : Int)) = ((2 * node : Nat) : Int) := by rw [wr (by omega) (by omega)]; omega
      have w2 : IntKind.i64.wrap (((2 * node : Nat) : Int) + 1) = ((2 * node + 1 : Nat) : Int) := by rw [wr (by omega) (by omega)]; omega
      simp only [w1, w2]
      rw [show (decide ((keys.length : Int) ≤ (node : Int))) = false by simp; omega]
      simp only [Bool.false_eq_true, ↓reduceIte]
      refine Ev.bind a (Ev.bind b (Ev.of (fun fu => ?_) (Ev.ret _)))
      simp only [wins_eq fu keys hpl _ _ ka.1 kb.1, Option.bind_some]
      rw [nd_node keys node h1 (by omega)]
      split <;> rfl
end Go.T
end
section
namespace Go.T
open Go Go.AM
def pf (keys : List TApiLsKey) (i : Nat) : List Int := (List.range (2 * keys.length)).map fun j => if i < j then ((nd keys j).1 : Int) else 0
def lf (keys : List TApiLsKey) (i : Nat) : List Int := (List.range keys.length).map fun j => if i < j then ((nd keys j).2 : Int) else 0
theorem pf_len (keys : List TApiLsKey) (i : Nat) : (pf keys i).length = 2 * keys.length := by simp [pf]
theorem lf_len (keys : List TApiLsKey) (i : Nat) : (lf keys i).length = keys.length := by simp [lf]
theorem pf_get (keys : List TApiLsKey) (i j : Nat) (h : j < (pf keys i).length) : (pf keys i)[j] = if i < j then ((nd keys j).1 : Int) else 0 := by simp [pf]
theorem lf_get (keys : List TApiLsKey) (i j : Nat) (h : j < (lf keys i).length) : (lf keys i)[j] = if i < j then ((nd keys j).2 : Int) else 0 := by simp [lf]
theorem pf_set (keys : List TApiLsKey) (i : Nat) : (pf keys (i + 1)).set (i + 1) ((nd keys (i + 1)).1 : Int) = pf keys i := by
  refine List.ext_getElem (by simp [pf_len]) fun j h1 h2 => ?_
  rw [List.getElem_set, pf_get]
  split
  · rename_i e; subst e; rw [pf_get, if_pos (by omega)]
  · rename_i e; rw [pf_get]
    by_cases h : i < j
    · rw [if_pos h, if_pos (by omega)]
    · rw [if_neg h, if_neg (by omega)]
theorem lf_set (keys : List TApiLsKey) (i : Nat) : (lf keys (i + 1)).set (i + 1) ((nd keys (i + 1)).2 : Int) = lf keys i := by
  refine List.ext_getElem (by simp [lf_len]) fun j h1 h2 => ?_
  rw [List.getElem_set, lf_get]
  split
  · rename_i e; subst e; rw [lf_get, if_pos (by omega)]
  · rename_i e; rw [lf_get]
    by_cases h : i < j
    · rw [if_pos h, if_pos (by omega)]
    · rw [if_neg h, if_neg (by omega)]
theorem lf_same (keys : List TApiLsKey) (i : Nat) (hn : keys.length ≤ i + 1) : lf keys (i + 1) = lf keys i := by
  refine List.ext_getElem (by simp [lf_len]) fun j h1 h2 => ?_
  rw [lf_len] at h1
  rw [lf_get, lf_get, if_neg (by omega), if_neg (by omega)]
theorem play_l1 (keys : List TApiLsKey) (hl : keys.length ≤ 1000000) : ∀ i : Nat, i < 2 * keys.length → Ev (fun fu => loser_play_l1 keys keys fu (i : Int) (pf keys i) (lf keys i)) (pf keys 0, lf keys 0) := by
  intro i
  induction i with
  | zero =>
    intro _
    refine Ev.succ (Ev.of (fun fu => ?_) (Ev.ret _))
    simp [loser_play_l1]
  | succ i ih =>
    intro hi
    have hi' := ih (by omega)
    refine Ev.succ (Ev.of (fun fu => ?_) hi')
    have w1 : IntKind.i64.wrap (((i + 1 : Nat) : Int) - 1) = (i : Int) := by rw [wr (by omega) (by omega)]; omega
    have t1 : (((i + 1 : Nat) : Int)).toNat = i + 1 := rfl
    have p0 : decide ((0 : Int) < ((i + 1 : Nat) : Int)) = true := decide_eq_true (by omega)
    simp only [loser_play_l1, p0, ↓reduceIte, w1, t1]
    rw [ix_get (pf keys (i + 1)) (i + 1) (by rw [pf_len]; omega)]
    simp only [Option.bind_some]
    by_cases h : keys.length ≤ i + 1
    · have d : decide ((keys.length : Int) ≤ ((i + 1 : Nat) : Int)) = true := by simp; omega
      simp only [d, ↓reduceIte]
      have e : IntKind.i64.wrap (((i + 1 : Nat) : Int) - (keys.length : Int)) = ((nd keys (i + 1)).1 : Int) := by
        rw [wr (by omega) (by omega), nd_leaf keys (i + 1) h]; simp only; omega
      rw [e, pf_set, lf_same keys i h]
    · have d : decide ((keys.length : Int) ≤ ((i + 1 : Nat) : Int)) = false := by simp; omega
      have w2 : IntKind.i64.wrap (2 * ((i + 1 : Nat) : Int)) = ((2 * (i + 1) : Nat) : Int) := by rw [wr (by omega) (by omega)]; omega
      have w3 : IntKind.i64.wrap (((2 * (i + 1) : Nat) : Int) + 1) = ((2 * (i + 1) + 1 : Nat) : Int) := by rw [wr (by omega) (by omega)]; omega
      simp only [d, Bool.false_eq_true, ↓reduceIte, w2, w3]
      rw [ix_get (pf keys (i + 1)) (2 * (i + 1)) (by rw [pf_len]; omega), ix_get (pf keys (i + 1)) (2 * (i + 1) + 1) (by rw [pf_len]; omega), ix_get (lf keys (i + 1)) (i + 1) (by rw [lf_len]; omega)]
      simp only [Option.bind_some, pf_get, show i + 1 < 2 * (i + 1) by omega, show i + 1 < 2 * (i + 1) + 1 by omega, ↓reduceIte]
      rw [judge_eq fu keys _ _ (nd_ok keys (2 * (i + 1)) (by omega) (by omega)).1 (nd_ok keys (2 * (i + 1) + 1) (by omega) (by omega)).1]
      simp only [Option.bind_some]
      have hn := nd_node keys (i + 1) (by omega) (by omega)
      cases hlt : lt keys (nd keys (2 * (i + 1))).1 (nd keys (2 * (i + 1) + 1)).1 with
      | true =>
        rw [hlt] at hn
        simp only [↓reduceIte] at hn
        simp only [Bool.not_true, Bool.false_eq_true, ↓reduceIte]
        rw [← pf_set keys i, ← lf_set keys i, hn]
      | false =>
        rw [hlt] at hn
        simp only [Bool.false_eq_true, ↓reduceIte] at hn
        simp only [Bool.not_false, ↓reduceIte]
        rw [← pf_set keys i, ← lf_set keys i, hn]
def treeOf (keys : List TApiLsKey) : TApiLsTree := ⟨keys, lf keys 0, ((nd keys 1).1 : Int)⟩
theorem play_ev (keys : List TApiLsKey) (h0 : 0 < keys.length) (hl : keys.length ≤ 1000000) : Ev (fun fu => loser_play fu keys) (treeOf keys) := by
  have w1 : IntKind.i64.wrap (2 * (keys.length : Int)) = ((2 * keys.length : Nat) : Int) := by rw [wr (by omega) (by omega)]; omega
  have w2 : IntKind.i64.wrap (((2 * keys.length : Nat) : Int) - 1) = ((2 * keys.length - 1 : Nat) : Int) := by rw [wr (by omega) (by omega)]; omega
  have hne : keys.isEmpty = false := by cases keys; simp at h0; rfl
  simp only [loser_play, loser_judge, slices_Clone_apiLsKey, Option.bind_some, w1, w2, hne, Bool.false_eq_true, ↓reduceIte]
  have g1 : (0 : Int) ≤ ((2 * keys.length : Nat) : Int) ∧ ((2 * keys.length : Nat) : Int) ≤ ((2 * keys.length : Nat) : Int) ∧ ((2 * keys.length : Nat) : Int) ≤ 9223372036854775807 ∧ 8 * ((2 * keys.length : Nat) : Int) ≤ 281474976710656 := by omega
  have g2 : 2 * ((0 + keys.length) * 24) ≤ 281474976710656 := by omega
  have g3 : (0 : Int) ≤ (keys.length : Int) ∧ (keys.length : Int) ≤ (keys.length : Int) ∧ (keys.length : Int) ≤ 9223372036854775807 ∧ 8 * (keys.length : Int) ≤ 281474976710656 := by omega
  simp only [if_pos g1, if_pos g2, if_pos g3, Option.bind_some]
  have q1 : (List.replicate ((2 * keys.length : Nat) : Int).toNat 0 : List Int) = pf keys (2 * keys.length - 1) := by
    refine List.ext_getElem (by rw [pf_len, List.length_replicate]; omega) fun j h1 h2 => ?_
    rw [pf_len] at h2
    rw [pf_get, if_neg (by omega)]; simp
  have q2 : (List.replicate keys.length 0 : List Int) = lf keys (2 * keys.length - 1) := by
    refine List.ext_getElem (by simp [lf_len]) fun j h1 h2 => ?_
    rw [lf_len] at h2
    rw [lf_get, if_neg (by omega)]; simp
  rw [q1, q2]
  refine Ev.bind (play_l1 keys hl _ (by omega)) (Ev.of (fun fu => ?_) (Ev.ret _))
  simp only
  rw [show (1 : Int) = ((1 : Nat) : Int) from rfl, ix_get (pf keys 0) 1 (by rw [pf_len]; omega)]
  simp only [Option.bind_some, pf_get, Nat.lt_one_iff, ↓reduceIte, treeOf]
end Go.T
end
section
namespace Go.T
open Go Go.AM
theorem index_l1 (keys : List TApiLsKey) (hpl : Plain keys) (hl : keys.length ≤ 1000000) (m : Nat) : ∀ n : Nat, n + m = keys.length → Ev (fun fu => slices_IndexFunc_apiLsKey_l1 keys fu (n : Int)) (.inl ()) := by
  induction m with
  | zero =>
    intro n hn
    refine Ev.succ (Ev.of (fun fu => ?_) (Ev.ret _))
    simp [slices_IndexFunc_apiLsKey_l1, show ¬ (n : Int) < (keys.length : Int) by omega]
  | succ m ih =>
    intro n hn
    have hnl : n < keys.length := by omega
    have w1 : IntKind.i64.wrap ((n : Int) + 1) = ((n + 1 : Nat) : Int) := by rw [wr (by omega) (by omega)]; rfl
    refine Ev.succ (Ev.of (fun fu => ?_) (ih (n + 1) (by omega)))
    simp only [slices_IndexFunc_apiLsKey_l1, loser_check_1, w1, ix_get keys n hnl]
    have k1 := hpl _ (List.getElem_mem hnl)
    have d : decide ((n : Int) < (keys.length : Int)) = true := decide_eq_true (by omega)
    cases h : keys[n].Done with
    | false => simp [h, hnl, -Int.natCast_add]
    | true => simp [h, hnl, k1 h, -Int.natCast_add]
theorem lcheck_ev (keys : List TApiLsKey) (hpl : Plain keys) (h0 : 0 < keys.length) (hl : keys.length ≤ 32) : Ev (fun fu => loser_check fu keys) 0 := by
  have d1 : decide ((keys.length : Int) = 0) = false := decide_eq_false (by omega)
  have d2 : decide ((32 : Int) < (keys.length : Int)) = false := decide_eq_false (by omega)
  simp only [loser_check, slices_ContainsFunc_apiLsKey, slices_IndexFunc_apiLsKey, d1, d2, Bool.false_eq_true, ↓reduceIte]
  refine Ev.bind (a := false) (Ev.bind (a := (-1 : Int)) (Ev.bind (index_l1 keys hpl (by omega) keys.length 0 (by omega)) (Ev.ret _)) (Ev.of (fun fu => ?_) (Ev.ret _))) (Ev.of (fun fu => ?_) (Ev.ret _))
  · rfl
  · rfl
theorem build_ev (keys : List TApiLsKey) (hpl : Plain keys) (h0 : 0 < keys.length) (hl : keys.length ≤ 32) : Ev (fun fu => loser_Build fu keys) (treeOf keys, 0) := by
  unfold loser_Build
  refine Ev.bind (lcheck_ev keys hpl h0 hl) ?_
  simp only [decide_true, Bool.not_true, Bool.false_eq_true, ↓reduceIte]
  exact Ev.bind (play_ev keys h0 (by omega)) (Ev.ret _)
theorem right_l1 (keys : List TApiLsKey) (hpl : Plain keys) (hl : keys.length ≤ 1000000) (m : Nat) : ∀ n : Nat, n + m = keys.length → Ev (fun fu => bookendref10_right_l1 keys fu (n : Int)) (.inl ()) := by
  induction m with
  | zero =>
    intro n hn
    refine Ev.succ (Ev.of (fun fu => ?_) (Ev.ret _))
    simp [bookendref10_right_l1, show ¬ (n : Int) < (keys.length : Int) by omega]
  | succ m ih =>
    intro n hn
    have hnl : n < keys.length := by omega
    have w1 : IntKind.i64.wrap ((n : Int) + 1) = ((n + 1 : Nat) : Int) := by rw [wr (by omega) (by omega)]; rfl
    refine Ev.succ (Ev.of (fun fu => ?_) (ih (n + 1) (by omega)))
    simp only [bookendref10_right_l1, w1, ix_get keys n hnl]
    have k1 := hpl _ (List.getElem_mem hnl)
    have d : decide ((n : Int) < (keys.length : Int)) = true := decide_eq_true (by omega)
    cases h : keys[n].Done with
    | false => simp [h, hnl, -Int.natCast_add]
    | true => simp [h, hnl, k1 h, -Int.natCast_add]
def uf (keys : List TApiLsKey) (i : Nat) : List Int := (List.range keys.length).map fun j => if 0 < j ∧ j < i then ((nd keys j).2 : Int) else 0
theorem uf_len (keys : List TApiLsKey) (i : Nat) : (uf keys i).length = keys.length := by simp [uf]
theorem uf_get (keys : List TApiLsKey) (i j : Nat) (h : j < (uf keys i).length) : (uf keys i)[j] = if 0 < j ∧ j < i then ((nd keys j).2 : Int) else 0 := by simp [uf]
theorem uf_set (keys : List TApiLsKey) (i : Nat) (hi : 0 < i) : (uf keys i).set i ((nd keys i).2 : Int) = uf keys (i + 1) := by
  refine List.ext_getElem (by simp [uf_len]) fun j h1 h2 => ?_
  rw [List.getElem_set, uf_get]
  split
  · rename_i e; subst e; rw [uf_get, if_pos (by omega)]
  · rename_i e; rw [uf_get]
    by_cases h : 0 < j ∧ j < i
    · rw [if_pos h, if_pos (by omega)]
    · rw [if_neg h, if_neg (by omega)]
theorem rtree_l1 (keys : List TApiLsKey) (hpl : Plain keys) (hl : keys.length ≤ 1000000) (m : Nat) : ∀ n : Nat, 0 < n → n + m = keys.length → Ev (fun fu => bookendref10_tree_l1 keys fu (n : Int) (uf keys n)) (uf keys keys.length) := by
  induction m with
  | zero =>
    intro n h0 hn
    obtain rfl : n = keys.length := by omega
    refine Ev.succ (Ev.of (fun fu => ?_) (Ev.ret _))
    simp [bookendref10_tree_l1]
  | succ m ih =>
    intro n h0 hn
    have hnl : n < keys.length := by omega
    have w1 : IntKind.i64.wrap ((n : Int) + 1) = ((n + 1 : Nat) : Int) := by rw [wr (by omega) (by omega)]; rfl
    have d : decide ((n : Int) < (keys.length : Int)) = true := decide_eq_true (by omega)
    refine Ev.succ ?_
    simp only [bookendref10_tree_l1, w1, d, ↓reduceIte]
    refine Ev.bind (player_ev keys hpl hl keys.length n h0 (by omega) (by omega)) (Ev.of (fun fu => ?_) (ih (n + 1) (by omega) (by omega)))
    rw [ix_get (uf keys n) n (by rw [uf_len]; omega)]
    simp only [Option.bind_some, Int.toNat_natCast]
    rw [uf_set keys n h0]
theorem rtree_ev (keys : List TApiLsKey) (hpl : Plain keys) (h0 : 0 < keys.length) (hl : keys.length ≤ 1000000) : Ev (fun fu => bookendref10_tree fu keys) (treeOf keys) := by
  have g2 : 2 * ((0 + keys.length) * 24) ≤ 281474976710656 := by omega
  have g3 : (0 : Int) ≤ (keys.length : Int) ∧ (keys.length : Int) ≤ (keys.length : Int) ∧ (keys.length : Int) ≤ 9223372036854775807 ∧ 8 * (keys.length : Int) ≤ 281474976710656 := by omega
  simp only [bookendref10_tree, if_pos g2, if_pos g3]
  have q2 : (List.replicate keys.length 0 : List Int) = uf keys 1 := by
    refine List.ext_getElem (by simp [uf_len]) fun j h1 h2 => ?_
    rw [uf_len] at h2
    rw [uf_get, if_neg (by omega)]; simp
  have q3 : uf keys keys.length = lf keys 0 := by
    refine List.ext_getElem (by simp [uf_len, lf_len]) fun j h1 h2 => ?_
    rw [uf_len] at h1
    rw [uf_get, lf_get]
    by_cases h : 0 < j
    · rw [if_pos ⟨h, h1⟩, if_pos h]
    · rw [if_neg (by omega), if_neg h]
  rw [q2]
  have a := rtree_l1 keys hpl hl (keys.length - 1) 1 (by omega) (by omega)
  have b := player_ev keys hpl hl keys.length 1 (by omega) (by omega) (by omega)
  refine Ev.bind a (Ev.bind b (Ev.of (fun fu => ?_) (Ev.ret _)))
  rw [q3]; rfl
theorem rbuild_ev (keys : List TApiLsKey) (hpl : Plain keys) (h0 : 0 < keys.length) (hl : keys.length ≤ 32) : Ev (fun fu => bookendref10_Build fu keys) (treeOf keys, 0) := by
  unfold bookendref10_Build
  have hr : Ev (fun fu => bookendref10_right fu keys) 0 := by
    have d1 : decide ((keys.length : Int) = 0) = false := decide_eq_false (by omega)
    have d2 : decide ((32 : Int) < (keys.length : Int)) = false := decide_eq_false (by omega)
    simp only [bookendref10_right, d1, d2, Bool.false_eq_true, ↓reduceIte]
    exact Ev.bind (right_l1 keys hpl (by omega) keys.length 0 (by omega)) (Ev.ret _)
  refine Ev.bind hr ?_
  simp only [decide_true, Bool.not_true, Bool.false_eq_true, ↓reduceIte]
  exact Ev.bind (rtree_ev keys hpl h0 (by omega)) (Ev.ret _)
end Go.T
end
section
namespace Go.T
open Go Go.AM
def kAt (l : List TApiEntry) (a : Nat) : TApiLsKey := match l[a]? with | some e => ⟨e.Key, false⟩ | none => ⟨[], true⟩
def keysOf (runs : List (List TApiEntry)) (at' : List Nat) : List TApiLsKey := (List.range runs.length).map fun i => kAt (runs[i]?.getD []) (at'[i]?.getD 0)
theorem keysOf_len (runs : List (List TApiEntry)) (a : List Nat) : (keysOf runs a).length = runs.length := by simp [keysOf]
theorem keysOf_get (runs : List (List TApiEntry)) (a : List Nat) (i : Nat) (h : i < (keysOf runs a).length) (h1 : i < runs.length) (h2 : i < a.length) : (keysOf runs a)[i] = kAt runs[i] a[i] := by simp [keysOf, h1, h2]
theorem kAt_plain (l : List TApiEntry) (a : Nat) : (kAt l a).Done = true → (kAt l a).Key = [] := by
  unfold kAt; split <;> simp
theorem keysOf_plain (runs : List (List TApiEntry)) (a : List Nat) : Plain (keysOf runs a) := by
  intro k hk
  simp only [keysOf, List.mem_map] at hk
  obtain ⟨i, -, rfl⟩ := hk
  exact kAt_plain _ _
def At (runs : List (List TApiEntry)) (a : List Nat) : Prop := a.length = runs.length ∧ ∀ i (h : i < runs.length) (h2 : i < a.length), a[i] ≤ runs[i].length
def ints (a : List Nat) : List Int := a.map fun (n : Nat) => (n : Int)
theorem ints_len (a : List Nat) : (ints a).length = a.length := by simp [ints]
theorem ix_ints (a : List Nat) (i : Nat) (h : i < a.length) : ix (ints a) (i : Int) = some ((a[i] : Nat) : Int) := by
  rw [ix_get (ints a) i (by rw [ints_len]; exact h)]; simp [ints]
theorem next_eq (fu : Nat) (l : List TApiEntry) (a : Nat) (h : a ≤ l.length) : merge_next fu l (a : Int) = some (kAt l a) := by
  unfold merge_next kAt
  by_cases e : a = l.length
  · subst e; simp
  · have hl : a < l.length := by omega
    have d : decide ((a : Int) = (l.length : Int)) = false := decide_eq_false (by omega)
    rw [d, ix_get l a hl]; simp [hl]
def kf (runs : List (List TApiEntry)) (a : List Nat) (n : Nat) : List TApiLsKey := (List.range runs.length).map fun i => if i < n then kAt (runs[i]?.getD []) (a[i]?.getD 0) else ⟨[], false⟩
theorem kf_len (runs : List (List TApiEntry)) (a : List Nat) (n : Nat) : (kf runs a n).length = runs.length := by simp [kf]
theorem kf_set (runs : List (List TApiEntry)) (a : List Nat) (n : Nat) (h1 : n < runs.length) (h2 : n < a.length) : (kf runs a n).set n (kAt runs[n] a[n]) = kf runs a (n + 1) := by
  refine List.ext_getElem (by simp [kf_len]) fun j k1 k2 => ?_
  rw [List.getElem_set]
  simp only [kf, List.getElem_map, List.getElem_range]
  split
  · rename_i e; subst e; simp [h1, h2]
  · rename_i e
    by_cases h : j < n
    · rw [if_pos h, if_pos (by omega)]
    · rw [if_neg h, if_neg (by omega)]
theorem tree_l1 (runs : List (List TApiEntry)) (a : List Nat) (ha : At runs a) (hl : runs.length ≤ 1000000) (m : Nat) : ∀ n : Nat, n + m = runs.length →
    Ev (fun fu => merge_tree_l1 runs (ints a) fu (n : Int) (kf runs a n)) (keysOf runs a) := by
  induction m with
  | zero =>
    intro n hn
    have : kf runs a n = keysOf runs a := by
      refine List.ext_getElem (by simp [kf_len, keysOf_len]) fun j h1 h2 => ?_
      rw [kf_len] at h1
      simp only [kf, keysOf, List.getElem_map, List.getElem_range]
      rw [if_pos (by omega)]
    rw [this]
    refine Ev.succ (Ev.of (fun fu => ?_) (Ev.ret _))
    simp [merge_tree_l1, show ¬ (n : Int) < (runs.length : Int) by omega]
  | succ m ih =>
    intro n hn
    have hnl : n < runs.length := by omega
    have hna : n < a.length := by rw [ha.1]; exact hnl
    have w1 : IntKind.i64.wrap ((n : Int) + 1) = ((n + 1 : Nat) : Int) := by rw [wr (by omega) (by omega)]; rfl
    have d : decide ((n : Int) < (runs.length : Int)) = true := decide_eq_true (by omega)
    refine Ev.succ (Ev.of (fun fu => ?_) (ih (n + 1) (by omega)))
    simp only [merge_tree_l1, w1, d, ↓reduceIte, ix_get runs n hnl, ix_ints a n hna, Option.bind_some, next_eq fu runs[n] a[n] (ha.2 n hnl hna)]
    rw [ix_get (kf runs a n) n (by rw [kf_len]; exact hnl)]
    simp only [Option.bind_some, Int.toNat_natCast]
    rw [kf_set runs a n hnl hna]
theorem tree_ev (runs : List (List TApiEntry)) (a : List Nat) (ha : At runs a) (h0 : 0 < runs.length) (hl : runs.length ≤ 32) : Ev (fun fu => merge_tree fu runs (ints a)) (treeOf (keysOf runs a)) := by
  have g3 : (0 : Int) ≤ (runs.length : Int) ∧ (runs.length : Int) ≤ (runs.length : Int) ∧ (runs.length : Int) ≤ 9223372036854775807 ∧ 24 * (runs.length : Int) ≤ 281474976710656 := by omega
  simp only [merge_tree, if_pos g3]
  have q : (List.replicate runs.length (TApiLsKey.mk [] false) : List TApiLsKey) = kf runs a 0 := by
    refine List.ext_getElem (by simp [kf_len]) fun j h1 h2 => ?_
    simp [kf]
  rw [q]
  refine Ev.bind (tree_l1 runs a ha (by omega) runs.length 0 (by omega)) ?_
  refine Ev.bind (build_ev (keysOf runs a) (keysOf_plain runs a) (by rw [keysOf_len]; exact h0) (by rw [keysOf_len]; exact hl)) (Ev.ret _)
theorem keysOf_take (runs : List (List TApiEntry)) (a : List Nat) (n : Nat) (h1 : n < runs.length) (h2 : n < a.length) : (keysOf runs a).take (n + 1) = (keysOf runs a).take n ++ [kAt runs[n] a[n]] := by
  rw [List.take_succ_eq_append_getElem (by rw [keysOf_len]; exact h1), keysOf_get runs a n _ h1 h2]
theorem state_l1 (runs : List (List TApiEntry)) (a : List Nat) (ha : At runs a) (hl : runs.length ≤ 1000000) (m : Nat) : ∀ n : Nat, n + m = runs.length →
    Ev (fun fu => bookendref11_state_l1 runs (ints a) fu (n : Int) ((keysOf runs a).take n)) (keysOf runs a) := by
  induction m with
  | zero =>
    intro n hn
    rw [List.take_of_length_le (by rw [keysOf_len]; omega)]
    refine Ev.succ (Ev.of (fun fu => ?_) (Ev.ret _))
    simp [bookendref11_state_l1, show ¬ (n : Int) < (runs.length : Int) by omega]
  | succ m ih =>
    intro n hn
    have hnl : n < runs.length := by omega
    have hna : n < a.length := by rw [ha.1]; exact hnl
    have w1 : IntKind.i64.wrap ((n : Int) + 1) = ((n + 1 : Nat) : Int) := by rw [wr (by omega) (by omega)]; rfl
    have d : decide ((n : Int) < (runs.length : Int)) = true := decide_eq_true (by omega)
    have hg : 2 * ((((keysOf runs a).take n).length + 1) * 24) ≤ 281474976710656 := by rw [List.length_take, keysOf_len]; omega
    have hle := ha.2 n hnl hna
    refine Ev.succ (Ev.of (fun fu => ?_) (ih (n + 1) (by omega)))
    simp only [bookendref11_state_l1, w1, d, ↓reduceIte, ix_get runs n hnl, ix_ints a n hna, Option.bind_some, if_pos hg]
    rw [keysOf_take runs a n hnl hna]
    by_cases e : a[n] = runs[n].length
    · have d2 : decide (((a[n] : Nat) : Int) = (runs[n].length : Int)) = true := decide_eq_true (by omega)
      simp only [d2, Bool.not_true, Bool.false_eq_true, ↓reduceIte]
      simp [kAt, e]
    · have d2 : decide (((a[n] : Nat) : Int) = (runs[n].length : Int)) = false := decide_eq_false (by omega)
      have hlt : a[n] < runs[n].length := by omega
      simp only [d2, Bool.not_false, ↓reduceIte, ix_get runs[n] a[n] hlt, Option.bind_some]
      simp [kAt, hlt]
theorem state_ev (runs : List (List TApiEntry)) (a : List Nat) (ha : At runs a) (h0 : 0 < runs.length) (hl : runs.length ≤ 32) : Ev (fun fu => bookendref11_state fu runs (ints a)) ⟨runs, ints a, treeOf (keysOf runs a)⟩ := by
  have g1 : 2 * ((0 + runs.length) * 24) ≤ 281474976710656 := by omega
  have g2 : 2 * ((0 + (ints a).length) * 8) ≤ 281474976710656 := by rw [ints_len, ha.1]; omega
  simp only [bookendref11_state, if_pos g1, if_pos g2]
  refine Ev.bind (a := keysOf runs a) ?_ ?_
  · have := state_l1 runs a ha (by omega) runs.length 0 (by omega)
    simpa using this
  · exact Ev.bind (rbuild_ev (keysOf runs a) (keysOf_plain runs a) (by rw [keysOf_len]; exact h0) (by rw [keysOf_len]; exact hl)) (Ev.ret _)
end Go.T
end
section
namespace Go.T
open Go Go.AM
def stateOf (runs : List (List TApiEntry)) (a : List Nat) : TApiMgState := ⟨runs, ints a, treeOf (keysOf runs a)⟩
def zeros (runs : List (List TApiEntry)) : List Nat := List.replicate runs.length 0
theorem zeros_at (runs : List (List TApiEntry)) : At runs (zeros runs) := ⟨by simp [zeros], fun i h h2 => by simp [zeros]⟩
theorem zeros_ints (runs : List (List TApiEntry)) : (List.replicate runs.length 0 : List Int) = ints (zeros runs) := by simp [ints, zeros]
def noState : TApiMgState := ⟨[], [], ⟨[], [], 0⟩⟩
theorem begin_ev (runs : List (List TApiEntry)) (hf : Fits runs) (hl : runs.length ≤ 1000) :
    ∃ r, Ev (fun fu => merge_Begin fu runs) r ∧ Ev (fun fu => bookendref11_Begin fu runs) r ∧ ((GoodRuns runs ∧ r = (stateOf runs (zeros runs), 0, 0)) ∨ (r.1 = noState ∧ r.2.2 ≠ 0)) := by
  obtain ⟨⟨p, c⟩, r1, r2, r3⟩ := check_ev runs hf hl
  rcases r3 with ⟨e, hg⟩ | hc
  · cases e
    obtain ⟨h0, h32, hr⟩ := hg
    have g3 : (0 : Int) ≤ (runs.length : Int) ∧ (runs.length : Int) ≤ (runs.length : Int) ∧ (runs.length : Int) ≤ 9223372036854775807 ∧ 8 * (runs.length : Int) ≤ 281474976710656 := by omega
    have g2 : 2 * ((0 + runs.length) * 24) ≤ 281474976710656 := by omega
    have hne : runs.isEmpty = false := by cases runs; simp at h0; rfl
    refine ⟨(stateOf runs (zeros runs), 0, 0), ?_, ?_, .inl ⟨⟨h0, h32, hr⟩, rfl⟩⟩
    · unfold merge_Begin
      refine Ev.bind r1 ?_
      simp only [decide_true, Bool.not_true, Bool.false_eq_true, ↓reduceIte, if_pos g3, slices_Clone_apiEntry, hne, if_pos g2, Option.bind_some]
      rw [zeros_ints]
      exact Ev.bind (tree_ev runs _ (zeros_at runs) h0 h32) (Ev.ret _)
    · unfold bookendref11_Begin
      refine Ev.bind r2 ?_
      simp only [decide_true, Bool.not_true, Bool.false_eq_true, ↓reduceIte, if_pos g3]
      rw [zeros_ints]
      exact Ev.bind (state_ev runs _ (zeros_at runs) h0 h32) (Ev.ret _)
  · refine ⟨(noState, p, c), ?_, ?_, .inr ⟨rfl, hc⟩⟩
    · unfold merge_Begin
      refine Ev.bind r1 (Ev.of (fun fu => ?_) (Ev.ret _))
      simp only [decide_eq_false hc, Bool.not_false, ↓reduceIte]; rfl
    · unfold bookendref11_Begin
      refine Ev.bind r2 (Ev.of (fun fu => ?_) (Ev.ret _))
      simp only [decide_eq_false hc, Bool.not_false, ↓reduceIte]; rfl
def below (n w node : Nat) : Nat → Prop
  | 0 => node = w + n
  | k + 1 => node = w + n ∨ below n w (2 * node) k ∨ below n w (2 * node + 1) k
theorem lt_other (keys : List TApiLsKey) (w : Nat) (k : TApiLsKey) (p q : Nat) (hp : p ≠ w) (hq : q ≠ w) : lt (keys.set w k) p q = lt keys p q := by
  simp only [lt, List.getElem?_set_ne (Ne.symm hp), List.getElem?_set_ne (Ne.symm hq)]
def up (n w d : Nat) : Nat := (w + n) / 2 ^ d
end Go.T
end
section
namespace Go.T
open Go Go.AM
def Anc (x c : Nat) : Prop := ∃ d, x / 2 ^ d = c
theorem Anc.refl (x : Nat) : Anc x x := ⟨0, by simp⟩
theorem Anc.up {x c : Nat} (h : Anc x c) : Anc x (c / 2) := by
  obtain ⟨d, rfl⟩ := h
  exact ⟨d + 1, by rw [Nat.pow_succ, ← Nat.div_div_eq_div_mul]⟩
theorem Anc.le {x c : Nat} (h : Anc x c) : c ≤ x := by
  obtain ⟨d, rfl⟩ := h
  exact Nat.div_le_self _ _
theorem Anc.chain {x a b : Nat} (ha : Anc x a) (hb : Anc x b) : Anc a b ∨ Anc b a := by
  obtain ⟨d, rfl⟩ := ha
  obtain ⟨e, rfl⟩ := hb
  rcases Nat.le_total d e with h | h
  · exact .inl ⟨e - d, by rw [Nat.div_div_eq_div_mul, ← Nat.pow_add, Nat.add_sub_cancel' h]⟩
  · exact .inr ⟨d - e, by rw [Nat.div_div_eq_div_mul, ← Nat.pow_add, Nat.add_sub_cancel' h]⟩
theorem Anc.half {x c : Nat} (h : Anc x c) : c = x ∨ c ≤ x / 2 := by
  obtain ⟨d, rfl⟩ := h
  cases d with
  | zero => simp
  | succ d =>
    right
    rw [Nat.pow_succ, Nat.mul_comm, ← Nat.div_div_eq_div_mul]
    exact Nat.div_le_self _ _
theorem Anc.one {x p : Nat} (hp : 1 ≤ p) (ha : Anc x (2 * p)) (hb : Anc x (2 * p + 1)) : False := by
  rcases ha.chain hb with h | h
  · have := h.le; omega
  · rcases h.half with h | h <;> omega
theorem Anc.gap {x c j : Nat} (hc : Anc x c) (hj : Anc x j) (h1 : c / 2 < j) (h2 : j < c) : False := by
  rcases hc.chain hj with h | h
  · rcases h.half with h | h <;> omega
  · have := h.le; omega
theorem win_anc (keys : List TApiLsKey) (m : Nat) : ∀ node, 1 ≤ node → node < 2 * keys.length → keys.length - node ≤ m → Anc ((nd keys node).1 + keys.length) node := by
  induction m with
  | zero =>
    intro node h1 h2 h3
    rw [nd_leaf keys node (by omega)]
    simp only
    rw [Nat.sub_add_cancel (by omega)]
    exact .refl _
  | succ m ih =>
    intro node h1 h2 h3
    by_cases h : keys.length ≤ node
    · rw [nd_leaf keys node h]
      simp only
      rw [Nat.sub_add_cancel h]
      exact .refl _
    · have a := ih (2 * node) (by omega) (by omega) (by omega)
      have b := ih (2 * node + 1) (by omega) (by omega) (by omega)
      rw [nd_node keys node h1 (by omega)]
      split
      · have := Anc.up a; rwa [show 2 * node / 2 = node by omega] at this
      · have := Anc.up b; rwa [show (2 * node + 1) / 2 = node by omega] at this
theorem nd_other (keys : List TApiLsKey) (w : Nat) (k : TApiLsKey) (m : Nat) : ∀ node, 1 ≤ node → node < 2 * keys.length → keys.length - node ≤ m → ¬ Anc (w + keys.length) node → nd (keys.set w k) node = nd keys node := by
  induction m with
  | zero =>
    intro node h1 h2 h3 _
    rw [nd_leaf keys node (by omega), nd_leaf (keys.set w k) node (by simp; omega)]; simp
  | succ m ih =>
    intro node h1 h2 h3 hn
    by_cases h : keys.length ≤ node
    · rw [nd_leaf keys node h, nd_leaf (keys.set w k) node (by simp; omega)]; simp
    · have na : ¬ Anc (w + keys.length) (2 * node) := fun q => hn (by have := Anc.up q; rwa [show 2 * node / 2 = node by omega] at this)
      have nb : ¬ Anc (w + keys.length) (2 * node + 1) := fun q => hn (by have := Anc.up q; rwa [show (2 * node + 1) / 2 = node by omega] at this)
      have a := ih (2 * node) (by omega) (by omega) (by omega) na
      have b := ih (2 * node + 1) (by omega) (by omega) (by omega) nb
      rw [nd_node keys node h1 (by omega), nd_node (keys.set w k) node h1 (by simp; omega), a, b]
      have wa : (nd keys (2 * node)).1 ≠ w := fun e => na (by have := win_anc keys _ (2 * node) (by omega) (by omega) (Nat.le_refl _); rwa [e] at this)
      have wb : (nd keys (2 * node + 1)).1 ≠ w := fun e => nb (by have := win_anc keys _ (2 * node + 1) (by omega) (by omega) (Nat.le_refl _); rwa [e] at this)
      rw [lt_other keys w k _ _ wa wb]
theorem nd_other' (keys : List TApiLsKey) (w : Nat) (k : TApiLsKey) (node : Nat) (h1 : 1 ≤ node) (h2 : node < 2 * keys.length) (h : ¬ Anc (w + keys.length) node) : nd (keys.set w k) node = nd keys node :=
  nd_other keys w k _ node h1 h2 (Nat.le_refl _) h
theorem win_anc' (keys : List TApiLsKey) (node : Nat) (h1 : 1 ≤ node) (h2 : node < 2 * keys.length) : Anc ((nd keys node).1 + keys.length) node := win_anc keys _ node h1 h2 (Nat.le_refl _)
theorem game (keys : List TApiLsKey) (w : Nat) (k : TApiLsKey) (c : Nat) (hc : Anc (w + keys.length) c) (h2 : 2 ≤ c) (hc2 : c < 2 * keys.length) (hp : (nd keys (c / 2)).1 = w) :
    (nd keys c).1 = w ∧ nd (keys.set w k) (c / 2) = if lt (keys.set w k) (nd keys (c / 2)).2 (nd (keys.set w k) c).1 then ((nd keys (c / 2)).2, (nd (keys.set w k) c).1) else ((nd (keys.set w k) c).1, (nd keys (c / 2)).2) := by
  have hlen : (keys.set w k).length = keys.length := by simp
  have hp1 : 1 ≤ c / 2 := by omega
  have hpn : c / 2 < keys.length := by omega
  have o := nd_node keys (c / 2) hp1 hpn
  have o' := nd_node (keys.set w k) (c / 2) hp1 (by omega)
  rcases Nat.mod_two_eq_zero_or_one c with hm | hm
  · have e1 : 2 * (c / 2) = c := by omega
    rw [e1] at o o'
    have hs : ¬ Anc (w + keys.length) (c + 1) := fun q => by
      refine Anc.one (x := w + keys.length) hp1 (by rwa [e1]) (by rwa [e1])
    have so := nd_other' keys w k (c + 1) (by omega) (by omega) hs
    have hr : (nd keys (c + 1)).1 ≠ w := fun e => hs (by have := win_anc' keys (c + 1) (by omega) (by omega); rwa [e] at this)
    have hlt : lt keys (nd keys c).1 (nd keys (c + 1)).1 = true := by
      cases h : lt keys (nd keys c).1 (nd keys (c + 1)).1 with
      | true => rfl
      | false => rw [h] at o; rw [o] at hp; exact absurd hp hr
    rw [hlt] at o
    simp only [↓reduceIte] at o
    rw [o] at hp ⊢
    refine ⟨hp, ?_⟩
    rw [o', so]
    have k1 := (nd_ok (keys.set w k) c (by omega) (by omega)).1
    have k2 := (nd_ok keys (c + 1) (by omega) (by omega)).1
    have hne : (nd (keys.set w k) c).1 ≠ (nd keys (c + 1)).1 := fun e => by
      have q1 := win_anc' (keys.set w k) c (by omega) (by omega)
      have q2 := win_anc' keys (c + 1) (by omega) (by omega)
      rw [hlen, e] at q1
      exact Anc.one hp1 (by rwa [e1]) (by rwa [e1])
    rw [lt_total (keys.set w k) _ _ k1 (by omega) hne]
    cases lt (keys.set w k) (nd (keys.set w k) c).1 (nd keys (c + 1)).1 <;> rfl
  · have e1 : 2 * (c / 2) = c - 1 := by omega
    have e2 : c - 1 + 1 = c := by omega
    rw [e1, e2] at o o'
    have hs : ¬ Anc (w + keys.length) (c - 1) := fun q => by
      refine Anc.one (x := w + keys.length) hp1 (by rwa [e1]) (by rwa [e1, e2])
    have so := nd_other' keys w k (c - 1) (by omega) (by omega) hs
    have hr : (nd keys (c - 1)).1 ≠ w := fun e => hs (by have := win_anc' keys (c - 1) (by omega) (by omega); rwa [e] at this)
    have hlt : lt keys (nd keys (c - 1)).1 (nd keys c).1 = false := by
      cases h : lt keys (nd keys (c - 1)).1 (nd keys c).1 with
      | false => rfl
      | true => rw [h] at o; rw [o] at hp; exact absurd hp hr
    rw [hlt] at o
    simp only [Bool.false_eq_true, ↓reduceIte] at o
    rw [o] at hp ⊢
    exact ⟨hp, by rw [o', so]⟩
end Go.T
end
section
namespace Go.T
open Go Go.AM
theorem wtop (keys : List TApiLsKey) (w : Nat) (hw : (nd keys 1).1 = w) : ∀ c, 1 ≤ c → c < 2 * keys.length → Anc (w + keys.length) c → (nd keys c).1 = w := by
  intro c
  induction c using Nat.strongRecOn with
  | _ c ih =>
    intro h1 h2 hc
    by_cases e : c = 1
    · subst e; exact hw
    · exact (game keys w ⟨[], false⟩ c hc (by omega) h2 (ih (c / 2) (by omega) (by omega) (by omega) hc.up)).1
def rf (keys keys' : List TApiLsKey) (c : Nat) : List Int := (List.range keys.length).map fun j => if 0 < j then (if j < c then ((nd keys j).2 : Int) else ((nd keys' j).2 : Int)) else 0
theorem rf_len (keys keys' : List TApiLsKey) (c : Nat) : (rf keys keys' c).length = keys.length := by simp [rf]
theorem rf_get (keys keys' : List TApiLsKey) (c j : Nat) (h : j < (rf keys keys' c).length) : (rf keys keys' c)[j] = if 0 < j then (if j < c then ((nd keys j).2 : Int) else ((nd keys' j).2 : Int)) else 0 := by simp [rf]
theorem rf_set (keys : List TApiLsKey) (w : Nat) (k : TApiLsKey) (c : Nat) (hc : Anc (w + keys.length) c) (h2 : 2 ≤ c) (hc2 : c < 2 * keys.length) :
    (rf keys (keys.set w k) c).set (c / 2) ((nd (keys.set w k) (c / 2)).2 : Int) = rf keys (keys.set w k) (c / 2) := by
  refine List.ext_getElem (by simp [rf_len]) fun j h1 h2' => ?_
  rw [rf_len] at h2'
  rw [List.getElem_set, rf_get, rf_get]
  split
  · rename_i e; subst e; rw [if_pos (by omega), if_neg (by omega)]
  · rename_i e
    by_cases h0 : 0 < j
    · rw [if_pos h0, if_pos h0]
      by_cases q : j < c / 2
      · rw [if_pos q, if_pos (by omega)]
      · rw [if_neg q]
        by_cases q2 : j < c
        · rw [if_pos q2, nd_other' keys w k j h0 (by omega) fun ha => Anc.gap hc ha (by omega) q2]
        · rw [if_neg q2]
    · rw [if_neg h0, if_neg h0]
theorem replace_l1 (keys : List TApiLsKey) (w : Nat) (k : TApiLsKey) (hl : keys.length ≤ 1000000) (hw : (nd keys 1).1 = w) : ∀ (c : Nat) (g : Int), 1 ≤ c → c < 2 * keys.length → Anc (w + keys.length) c →
    ∃ g', Ev (fun fu => loser_Replace_l1 (keys.set w k) fu g (c : Int) ((nd (keys.set w k) c).1 : Int) (rf keys (keys.set w k) c)) (g', ((nd (keys.set w k) 1).1 : Int), rf keys (keys.set w k) 1) := by
  intro c
  induction c using Nat.strongRecOn with
  | _ c ih =>
    intro g h1 h2 hc
    have w1 : IntKind.i64.wrap ((c : Int).tdiv 2) = ((c / 2 : Nat) : Int) := by
      have : (c : Int).tdiv 2 = ((c / 2 : Nat) : Int) := rfl
      rw [this, wr (by omega) (by omega)]
    by_cases e : c = 1
    · subst e
      refine ⟨g, Ev.succ (Ev.of (fun fu => ?_) (Ev.ret _))⟩
      simp only [loser_Replace_l1, w1]
      rfl
    · have hp1 : 1 ≤ c / 2 := by omega
      obtain ⟨g', hg⟩ := ih (c / 2) (by omega) (IntKind.i64.wrap (g + 1)) hp1 (by omega) hc.up
      obtain ⟨-, gm⟩ := game keys w k c hc (by omega) h2 (wtop keys w hw (c / 2) hp1 (by omega) hc.up)
      have d : decide (((c / 2 : Nat) : Int) = 0) = false := decide_eq_false (by omega)
      have k1 := (nd_ok (keys.set w k) c (by omega) (by simp; omega)).1
      have k2 := (nd_ok keys (c / 2) (by omega) (by omega)).2
      refine ⟨g', Ev.succ (Ev.of (fun fu => ?_) hg)⟩
      simp only [loser_Replace_l1, w1, d, Bool.false_eq_true, ↓reduceIte]
      rw [ix_get (rf keys (keys.set w k) c) (c / 2) (by rw [rf_len]; omega), rf_get, if_pos (by omega), if_pos (by omega)]
      simp only [Option.bind_some]
      rw [judge_eq fu (keys.set w k) _ _ (by simp; omega) k1]
      simp only [Option.bind_some, Int.toNat_natCast]
      have rs := rf_set keys w k c hc (by omega) h2
      rw [gm] at rs ⊢
      cases hlt : lt (keys.set w k) (nd keys (c / 2)).2 (nd (keys.set w k) c).1 with
      | true =>
        rw [hlt] at rs
        simp only [↓reduceIte] at rs ⊢
        rw [rs]
      | false =>
        rw [hlt] at rs
        simp only [Bool.false_eq_true, ↓reduceIte] at rs ⊢
        rw [← rs]
        congr 1
        refine (List.ext_getElem (by simp) fun j h1 h2 => ?_).symm
        rw [List.getElem_set]
        split
        · rename_i e; subst e; rw [rf_get, if_pos (by omega), if_pos (by omega)]
        · rfl
end Go.T
end
section
namespace Go.T
open Go Go.AM
theorem lcheck_l1 (keys : List TApiLsKey) (hl : keys.length ≤ 1000000) (m : Nat) : ∀ n : Nat, n + m = keys.length → Ev (fun fu => loser_Check_l1 (treeOf keys) (treeOf keys) fu (n : Int)) (.inl ()) := by
  induction m with
  | zero =>
    intro n hn
    refine Ev.succ (Ev.of (fun fu => ?_) (Ev.ret _))
    have d : decide ((n : Int) < ((treeOf keys).Lose.length : Int)) = false := decide_eq_false (by simp only [treeOf, lf_len]; omega)
    simp only [loser_Check_l1, d, Bool.false_eq_true, ↓reduceIte]
  | succ m ih =>
    intro n hn
    have w1 : IntKind.i64.wrap ((n : Int) + 1) = ((n + 1 : Nat) : Int) := by rw [wr (by omega) (by omega)]; rfl
    refine Ev.succ (Ev.of (fun fu => ?_) (ih (n + 1) (by omega)))
    have d : decide ((n : Int) < ((treeOf keys).Lose.length : Int)) = true := decide_eq_true (by simp only [treeOf, lf_len]; omega)
    simp only [loser_Check_l1, d, ↓reduceIte, w1, ix_get (treeOf keys).Lose n (by simp only [treeOf, lf_len]; omega), Option.bind_some, decide_true, Bool.not_true, Bool.false_eq_true]
theorem lCheck_ev (keys : List TApiLsKey) (hpl : Plain keys) (h0 : 0 < keys.length) (hl : keys.length ≤ 32) : Ev (fun fu => loser_Check fu (treeOf keys)) (0, 0) := by
  unfold loser_Check
  refine Ev.bind (lcheck_ev keys hpl h0 hl) ?_
  have d : decide (((treeOf keys).Lose.length : Int) = ((treeOf keys).Keys.length : Int)) = true := decide_eq_true (by simp [treeOf, lf_len])
  simp only [decide_true, Bool.not_true, Bool.false_eq_true, ↓reduceIte, d]
  refine Ev.bind (play_ev keys h0 (by omega)) (Ev.bind (lcheck_l1 keys (by omega) keys.length 0 (by omega)) (Ev.of (fun fu => ?_) (Ev.ret _)))
  simp
def win (keys : List TApiLsKey) : Nat := (nd keys 1).1
theorem win_lt (keys : List TApiLsKey) (h0 : 0 < keys.length) : win keys < keys.length := (nd_ok keys 1 (by omega) (by omega)).1
theorem open_ev (keys : List TApiLsKey) (hpl : Plain keys) (h0 : 0 < keys.length) (hl : keys.length ≤ 32) :
    Ev (fun fu => loser_open fu (treeOf keys)) (if (keys[win keys]'(win_lt keys h0)).Done then 12 else 0) := by
  unfold loser_open
  refine Ev.bind (lCheck_ev keys hpl h0 hl) (Ev.of (fun fu => ?_) (Ev.ret _))
  have : ix (treeOf keys).Keys (treeOf keys).Win = some (keys[win keys]'(win_lt keys h0)) := ix_get keys (win keys) (win_lt keys h0)
  simp only [decide_true, Bool.not_true, Bool.false_eq_true, ↓reduceIte, this, Option.bind_some]
  split <;> rfl
theorem winner_ev (keys : List TApiLsKey) (hpl : Plain keys) (h0 : 0 < keys.length) (hl : keys.length ≤ 32) :
    Ev (fun fu => loser_Winner fu (treeOf keys)) (if (keys[win keys]'(win_lt keys h0)).Done then (0, [], 12) else ((win keys : Int), (keys[win keys]'(win_lt keys h0)).Key, 0)) := by
  unfold loser_Winner
  refine Ev.bind (open_ev keys hpl h0 hl) (Ev.of (fun fu => ?_) (Ev.ret _))
  have : ix (treeOf keys).Keys (treeOf keys).Win = some (keys[win keys]'(win_lt keys h0)) := ix_get keys (win keys) (win_lt keys h0)
  cases h : (keys[win keys]'(win_lt keys h0)).Done with
  | true => rfl
  | false => simp only [decide_true, Bool.not_true, Bool.false_eq_true, ↓reduceIte, this, Option.bind_some]; rfl
theorem replace_ev (keys : List TApiLsKey) (hpl : Plain keys) (h0 : 0 < keys.length) (hl : keys.length ≤ 32) (hd : (keys[win keys]'(win_lt keys h0)).Done = false) (k : TApiLsKey) (hk : k.Done = true → k.Key = [])
    (hb : k.Done = false → bl k.Key (keys[win keys]'(win_lt keys h0)).Key = false) : ∃ g, Ev (fun fu => loser_Replace fu (treeOf keys) k) (treeOf (keys.set (win keys) k), g, 0) := by
  have ho := open_ev keys hpl h0 hl
  simp only [hd, Bool.false_eq_true, ↓reduceIte] at ho
  have hc := lcheck_ev [k] (fun x hx => by simp at hx; subst hx; exact hk) (by simp) (by simp)
  have hwn := win_lt keys h0
  obtain ⟨g, hg⟩ := replace_l1 keys (win keys) k (by omega) rfl (win keys + keys.length) 0 (by omega) (by omega) (Anc.refl _)
  have q1 : (nd (keys.set (win keys) k) (win keys + keys.length)).1 = win keys := by rw [nd_leaf _ _ (by simp)]; simp
  have q2 : rf keys (keys.set (win keys) k) (win keys + keys.length) = lf keys 0 := by
    refine List.ext_getElem (by simp [rf_len, lf_len]) fun j h1 h2 => ?_
    rw [rf_len] at h1
    rw [rf_get, lf_get]
    by_cases q : 0 < j
    · rw [if_pos q, if_pos (by omega), if_pos q]
    · rw [if_neg q, if_neg q]
  have q3 : rf keys (keys.set (win keys) k) 1 = lf (keys.set (win keys) k) 0 := by
    refine List.ext_getElem (by simp [rf_len, lf_len]) fun j h1 h2 => ?_
    rw [rf_len] at h1
    rw [rf_get, lf_get]
    by_cases q : 0 < j
    · rw [if_pos q, if_neg (by omega), if_pos q]
    · rw [if_neg q, if_neg q]
  rw [q1, q2, q3] at hg
  refine ⟨g, ?_⟩
  unfold loser_Replace
  refine Ev.bind ho ?_
  simp only [decide_true, Bool.not_true, Bool.false_eq_true, ↓reduceIte]
  refine Ev.bind hc ?_
  have ixw : ix (treeOf keys).Keys (treeOf keys).Win = some (keys[win keys]'hwn) := ix_get keys (win keys) hwn
  have hb8 : (if (!k.Done) = true then some (Op.bytesLess k.Key (keys[win keys]'hwn).Key) else some false) = some false := by
    cases h : k.Done with
    | true => rfl
    | false => simp only [Bool.not_false, ↓reduceIte]; exact congrArg some (hb h)
  simp only [decide_true, Bool.not_true, Bool.false_eq_true, ↓reduceIte, ixw, Option.bind_some, hb8]
  have hne : (treeOf keys).Keys.isEmpty = false := by show keys.isEmpty = false; cases keys; simp at h0; rfl
  have hne2 : (treeOf keys).Lose.isEmpty = false := by
    show (lf keys 0).isEmpty = false
    have := lf_len keys 0
    cases h : lf keys 0
    · rw [h] at this; simp at this; omega
    · rfl
  have g1 : 2 * ((0 + (treeOf keys).Keys.length) * 24) ≤ 281474976710656 := by show 2 * ((0 + keys.length) * 24) ≤ _; omega
  have g2 : 2 * ((0 + (treeOf keys).Lose.length) * 8) ≤ 281474976710656 := by show 2 * ((0 + (lf keys 0).length) * 8) ≤ _; rw [lf_len]; omega
  simp only [slices_Clone_apiLsKey_2, slices_Clone_int_2, hne, hne2, Bool.false_eq_true, ↓reduceIte, if_pos g1, if_pos g2, Option.bind_some, ixw, loser_judge]
  have ws : IntKind.i64.wrap ((((treeOf keys).Keys.set (treeOf keys).Win.toNat k).length : Int) + (treeOf keys).Win) = ((win keys + keys.length : Nat) : Int) := by
    show IntKind.i64.wrap (((keys.set (win keys) k).length : Int) + (win keys : Int)) = _
    rw [List.length_set, wr (by omega) (by omega)]; omega
  rw [ws]
  exact Ev.bind hg (Ev.ret _)
end Go.T
end
section
namespace Go.T
open Go Go.AM
theorem lt_trans (keys : List TApiLsKey) (p q r : Nat) (hp : p < keys.length) (hq : q < keys.length) (hr : r < keys.length) (h : lt keys p q = true) (k : lt keys q r = true) : lt keys p r = true := by
  simp only [lt, List.getElem?_eq_getElem hp, List.getElem?_eq_getElem hq, List.getElem?_eq_getElem hr] at *
  generalize keys[p] = a at *
  generalize keys[q] = b at *
  generalize keys[r] = c at *
  obtain ⟨ak, ad⟩ := a
  obtain ⟨bk, bd⟩ := b
  obtain ⟨ck, cd⟩ := c
  simp only at *
  cases ad <;> cases bd <;> cases cd <;> simp at h k ⊢
  all_goals
    by_cases e1 : ak = bk
    · subst e1
      by_cases e2 : ak = ck
      · subst e2; simp at h k ⊢; omega
      · simp [e2] at k ⊢; exact k
    · simp [e1] at h
      by_cases e2 : bk = ck
      · subst e2; simp [e1]; exact h
      · simp [e2] at k
        have := bl_trans h k
        have ne : ak ≠ ck := fun e => by subst e; rw [bl_irr] at this; cases this
        simp [ne]; exact this
theorem Anc.child {x c : Nat} (h : Anc x c) (hne : c ≠ x) : ∃ b, Anc x b ∧ b / 2 = c := by
  obtain ⟨d, rfl⟩ := h
  cases d with
  | zero => simp at hne
  | succ d => exact ⟨x / 2 ^ d, ⟨d, rfl⟩, by rw [Nat.pow_succ, ← Nat.div_div_eq_div_mul]⟩
theorem win_min (keys : List TApiLsKey) (m : Nat) : ∀ node, 1 ≤ node → node < 2 * keys.length → keys.length - node ≤ m → ∀ x, x < keys.length → Anc (x + keys.length) node → x ≠ (nd keys node).1 → lt keys (nd keys node).1 x = true := by
  have leaf : ∀ node, keys.length ≤ node → node < 2 * keys.length → ∀ x, x < keys.length → Anc (x + keys.length) node → x ≠ (nd keys node).1 → lt keys (nd keys node).1 x = true := by
    intro node h1 h2 x hx ha hne
    rw [nd_leaf keys node h1] at hne
    simp only at hne
    rcases ha.half with h | h <;> omega
  induction m with
  | zero => intro node h1 h2 h3; exact leaf node (by omega) h2
  | succ m ih =>
    intro node h1 h2 h3 x hx ha hne
    by_cases h : keys.length ≤ node
    · exact leaf node h h2 x hx ha hne
    · have a := ih (2 * node) (by omega) (by omega) (by omega)
      have b := ih (2 * node + 1) (by omega) (by omega) (by omega)
      have ka := (nd_ok keys (2 * node) (by omega) (by omega)).1
      have kb := (nd_ok keys (2 * node + 1) (by omega) (by omega)).1
      obtain ⟨c, c1, c2⟩ := ha.child (by omega)
      have hn := nd_node keys node h1 (by omega)
      have dis : (nd keys (2 * node)).1 ≠ (nd keys (2 * node + 1)).1 := fun e => by
        have q1 := win_anc' keys (2 * node) (by omega) (by omega)
        have q2 := win_anc' keys (2 * node + 1) (by omega) (by omega)
        rw [e] at q1
        exact Anc.one h1 q1 q2
      have tot := lt_total keys _ _ ka kb dis
      have side : c = 2 * node ∨ c = 2 * node + 1 := by omega
      cases hlt : lt keys (nd keys (2 * node)).1 (nd keys (2 * node + 1)).1 with
      | true =>
        rw [hlt] at hn tot
        simp only [↓reduceIte] at hn
        rw [hn] at hne ⊢
        rcases side with rfl | rfl
        · exact a x hx c1 hne
        · by_cases e : x = (nd keys (2 * node + 1)).1
          · subst e; exact hlt
          · exact lt_trans keys _ _ _ ka kb hx hlt (b x hx c1 e)
      | false =>
        rw [hlt] at hn tot
        simp only [Bool.false_eq_true, ↓reduceIte] at hn
        simp only [Bool.not_false] at tot
        rw [hn] at hne ⊢
        rcases side with rfl | rfl
        · by_cases e : x = (nd keys (2 * node)).1
          · subst e; exact tot
          · exact lt_trans keys _ _ _ kb ka hx tot (a x hx c1 e)
        · exact b x hx c1 hne
end Go.T
end
section
namespace Go.T
open Go Go.AM
theorem kAt_done (l : List TApiEntry) (a : Nat) : (kAt l a).Done = decide (l.length ≤ a) := by
  unfold kAt
  by_cases h : a < l.length
  · simp [h]
  · simp [h]; omega
theorem kAt_key (l : List TApiEntry) (a : Nat) (h : a < l.length) : kAt l a = ⟨l[a].Key, false⟩ := by simp [kAt, h]
def Best (keys : List TApiLsKey) (n : Nat) (b : Int) : Prop :=
  (b = -1 ∧ ∀ j (h : j < keys.length), j < n → keys[j].Done = true) ∨
  ∃ w : Nat, ∃ hw : w < keys.length, b = (w : Int) ∧ w < n ∧ keys[w].Done = false ∧ ∀ j, j < n → j < keys.length → j ≠ w → lt keys w j = true
theorem lt_done (keys : List TApiLsKey) (p q : Nat) (hp : p < keys.length) (hq : q < keys.length) (h1 : keys[p].Done = false) (h2 : keys[q].Done = true) : lt keys p q = true := by
  simp only [lt, List.getElem?_eq_getElem hp, List.getElem?_eq_getElem hq, h1, h2]; rfl
theorem best_done (keys : List TApiLsKey) (n : Nat) (b : Int) (hn : n < keys.length) (h : Best keys n b) (hd : keys[n].Done = true) : Best keys (n + 1) b := by
  rcases h with ⟨e, h⟩ | ⟨w, hw, e, h1, h2, h3⟩
  · refine .inl ⟨e, fun j hj hn' => ?_⟩
    by_cases q : j = n
    · subst q; exact hd
    · exact h j hj (by omega)
  · refine .inr ⟨w, hw, e, by omega, h2, fun j hj hl hne => ?_⟩
    by_cases q : j = n
    · subst q; exact lt_done keys w j hw hl h2 hd
    · exact h3 j (by omega) hl hne
theorem best_first (keys : List TApiLsKey) (n : Nat) (hn : n < keys.length) (h : Best keys n (-1)) (hd : keys[n].Done = false) : Best keys (n + 1) (n : Int) := by
  rcases h with ⟨e, h⟩ | ⟨w, hw, e, _⟩
  · refine .inr ⟨n, hn, rfl, by omega, hd, fun j hj hl hne => ?_⟩
    exact lt_done keys n j hn hl hd (h j hl (by omega))
  · omega
theorem lt_key (keys : List TApiLsKey) (p q : Nat) (hp : p < keys.length) (hq : q < keys.length) (h1 : keys[p].Done = false) (h2 : keys[q].Done = false) :
    lt keys p q = if keys[p].Key = keys[q].Key then decide (p < q) else bl keys[p].Key keys[q].Key := by
  simp only [lt, List.getElem?_eq_getElem hp, List.getElem?_eq_getElem hq, h1, h2]
  by_cases e : keys[p].Key = keys[q].Key <;> simp [e]
theorem best_next (keys : List TApiLsKey) (n w : Nat) (hn : n < keys.length) (hw : w < keys.length) (h : Best keys n (w : Int)) (hd : keys[n].Done = false) :
    Best keys (n + 1) (if bl keys[n].Key keys[w].Key = true then (n : Int) else (w : Int)) := by
  rcases h with ⟨e, _⟩ | ⟨w', hw', e, h1, h2, h3⟩
  · omega
  · obtain rfl : w' = w := by omega
    have k := lt_key keys n w' hn hw hd h2
    have k' := lt_key keys w' n hw hn h2 hd
    by_cases b : bl keys[n].Key keys[w'].Key = true
    · rw [if_pos b]
      have ne : ¬ keys[n].Key = keys[w'].Key := fun e => by rw [e, bl_irr] at b; cases b
      rw [if_neg ne, b] at k
      refine .inr ⟨n, hn, rfl, by omega, hd, fun j hj hl hne => ?_⟩
      by_cases q : j = w'
      · subst q; exact k
      · exact lt_trans keys n w' j hn hw hl k (h3 j (by omega) hl q)
    · rw [if_neg b]
      refine .inr ⟨w', hw, rfl, by omega, h2, fun j hj hl hne => ?_⟩
      by_cases q : j = n
      · subst q
        rw [k']
        by_cases e2 : keys[w'].Key = keys[j].Key
        · rw [if_pos e2]; exact decide_eq_true (by omega)
        · rw [if_neg e2]
          rcases bl_tri keys[w'].Key keys[j].Key with h | h | h
          · exact h
          · exact absurd h e2
          · exact absurd h b
      · exact h3 j (by omega) hl hne
theorem first_l1 (runs : List (List TApiEntry)) (a : List Nat) (ha : At runs a) (hl : runs.length ≤ 1000000) (m : Nat) : ∀ (n : Nat) (b : Int), n + m = runs.length → Best (keysOf runs a) n b →
    ∃ r, Ev (fun fu => bookendref11_first_l1 runs (ints a) fu b (n : Int)) r ∧ Best (keysOf runs a) runs.length r := by
  induction m with
  | zero =>
    intro n b hn hb
    obtain rfl : n = runs.length := by omega
    refine ⟨b, Ev.succ (Ev.of (fun fu => ?_) (Ev.ret _)), hb⟩
    simp [bookendref11_first_l1]
  | succ m ih =>
    intro n b hn hb
    have hnl : n < runs.length := by omega
    have hna : n < a.length := by rw [ha.1]; exact hnl
    have hk : n < (keysOf runs a).length := by rw [keysOf_len]; exact hnl
    have w1 : IntKind.i64.wrap ((n : Int) + 1) = ((n + 1 : Nat) : Int) := by rw [wr (by omega) (by omega)]; rfl
    have d : decide ((n : Int) < (runs.length : Int)) = true := decide_eq_true (by omega)
    have kg := keysOf_get runs a n hk hnl hna
    by_cases q : a[n] < runs[n].length
    · have d2 : decide (((a[n] : Nat) : Int) < (runs[n].length : Int)) = true := decide_eq_true (by omega)
      have hd : ((keysOf runs a)[n]).Done = false := by rw [kg, kAt_key _ _ q]
      by_cases hneg : b = -1
      · subst hneg
        obtain ⟨r, r1, r2⟩ := ih (n + 1) n (by omega) (best_first _ n hk hb hd)
        refine ⟨r, Ev.succ (Ev.of (fun fu => ?_) r1), r2⟩
        simp only [bookendref11_first_l1, w1, d, ↓reduceIte, ix_ints a n hna, ix_get runs n hnl, Option.bind_some, d2]
        rfl
      · obtain ⟨w, hw, rfl, h1, h2, h3⟩ : ∃ w : Nat, ∃ hw : w < (keysOf runs a).length, b = (w : Int) ∧ w < n ∧ (keysOf runs a)[w].Done = false ∧ True := by
          rcases hb with ⟨e, _⟩ | ⟨w, hw, e, h1, h2, _⟩
          · exact absurd e hneg
          · exact ⟨w, hw, e, h1, h2, trivial⟩
        have hwl : w < runs.length := by rw [keysOf_len] at hw; exact hw
        have hwa : w < a.length := by rw [ha.1]; exact hwl
        have kw := keysOf_get runs a w hw hwl hwa
        have qw : a[w] < runs[w].length := by
          rw [kw, kAt_done] at h2
          have := of_decide_eq_false h2
          omega
        have nx := best_next _ n w hk hw hb hd
        have e1 : (keysOf runs a)[n].Key = runs[n][a[n]].Key := by rw [kg, kAt_key _ _ q]
        have e2 : (keysOf runs a)[w].Key = runs[w][a[w]].Key := by rw [kw, kAt_key _ _ qw]
        rw [e1, e2] at nx
        have dn : decide ((w : Int) < 0) = false := decide_eq_false (by omega)
        obtain ⟨r, r1, r2⟩ := ih (n + 1) _ (by omega) nx
        refine ⟨r, Ev.succ (Ev.of (fun fu => ?_) r1), r2⟩
        simp only [bookendref11_first_l1, w1, d, ↓reduceIte, ix_ints a n hna, ix_get runs n hnl, ix_ints a w hwa, ix_get runs w hwl, ix_get runs[n] a[n] q, ix_get runs[w] a[w] qw, Option.bind_some, d2, dn, Bool.false_eq_true, bl]
        split <;> rfl
    · have d2 : decide (((a[n] : Nat) : Int) < (runs[n].length : Int)) = false := decide_eq_false (by omega)
      have hd : ((keysOf runs a)[n]).Done = true := by rw [kg, kAt_done]; exact decide_eq_true (by omega)
      obtain ⟨r, r1, r2⟩ := ih (n + 1) b (by omega) (best_done _ n b hk hb hd)
      refine ⟨r, Ev.succ (Ev.of (fun fu => ?_) r1), r2⟩
      simp only [bookendref11_first_l1, w1, d, ↓reduceIte, ix_ints a n hna, ix_get runs n hnl, Option.bind_some, d2]
      rfl
end Go.T
end
section
namespace Go.T
open Go Go.AM
theorem anc_root (x : Nat) (h : 1 ≤ x) : Anc x 1 := by
  induction x using Nat.strongRecOn with
  | _ x ih =>
    by_cases e : x = 1
    · subst e; exact .refl 1
    · obtain ⟨d, hd⟩ := ih (x / 2) (by omega) (by omega)
      exact ⟨d + 1, by rw [Nat.pow_succ, Nat.mul_comm, ← Nat.div_div_eq_div_mul]; exact hd⟩
theorem win_least (keys : List TApiLsKey) (x : Nat) (hx : x < keys.length) (h : x ≠ win keys) : lt keys (win keys) x = true :=
  win_min keys _ 1 (Nat.le_refl 1) (by omega) (Nat.le_refl _) x hx (anc_root _ (by omega)) h
theorem best_win (keys : List TApiLsKey) (h0 : 0 < keys.length) (b : Int) (h : Best keys keys.length b) : b = if (keys[win keys]'(win_lt keys h0)).Done then -1 else (win keys : Int) := by
  have hw := win_lt keys h0
  rcases h with ⟨e, h⟩ | ⟨w, hw', e, h1, h2, h3⟩
  · rw [h _ hw hw]; exact e
  · by_cases q : w = win keys
    · subst q; rw [h2]; exact e
    · have a := win_least keys w hw' q
      have b' := h3 _ hw hw (Ne.symm q)
      have t := lt_total keys w (win keys) hw' hw q
      rw [a, b'] at t; cases t
end Go.T
end
section
namespace Go.T
open Go Go.AM
def wn (runs : List (List TApiEntry)) (a : List Nat) : Nat := win (keysOf runs a)
def stp (a : List Nat) (w : Nat) : List Nat := a.set w (a[w]?.getD 0 + 1)
theorem stp_eq (a : List Nat) (w : Nat) (h : w < a.length) : stp a w = a.set w (a[w] + 1) := by simp [stp, h]
theorem stp_len (a : List Nat) (w : Nat) : (stp a w).length = a.length := by simp [stp]
theorem wn_lt (runs : List (List TApiEntry)) (a : List Nat) (h0 : 0 < runs.length) : wn runs a < runs.length := by
  have := win_lt (keysOf runs a) (by rw [keysOf_len]; exact h0)
  rwa [keysOf_len] at this
inductive Turn (runs : List (List TApiEntry)) (a : List Nat) (h0 : 0 < runs.length) : Prop
  | fin (h : ((keysOf runs a)[win (keysOf runs a)]'(win_lt _ (by rw [keysOf_len]; exact h0))).Done = true) (all : ∀ i (h1 : i < runs.length) (h2 : i < a.length), a[i] = runs[i].length)
  | go (hw : wn runs a < runs.length) (hwa : wn runs a < a.length) (hq : a[wn runs a] < runs[wn runs a].length)
      (h : ((keysOf runs a)[win (keysOf runs a)]'(win_lt _ (by rw [keysOf_len]; exact h0))) = ⟨runs[wn runs a][a[wn runs a]].Key, false⟩)
theorem turn (runs : List (List TApiEntry)) (a : List Nat) (ha : At runs a) (h0 : 0 < runs.length) : Turn runs a h0 := by
  have hw := wn_lt runs a h0
  have hwa : wn runs a < a.length := by rw [ha.1]; exact hw
  have hk := win_lt (keysOf runs a) (by rw [keysOf_len]; exact h0)
  have kg : (keysOf runs a)[win (keysOf runs a)] = kAt runs[wn runs a] a[wn runs a] := keysOf_get runs a (wn runs a) hk hw hwa
  by_cases q : a[wn runs a] < runs[wn runs a].length
  · exact .go hw hwa q (by rw [kg, kAt_key _ _ q])
  · have hd : (keysOf runs a)[win (keysOf runs a)].Done = true := by rw [kg, kAt_done]; exact decide_eq_true (by omega)
    refine .fin hd fun i h1 h2 => ?_
    have hle := ha.2 i h1 h2
    by_cases e : i = wn runs a
    · subst e; omega
    · have hik : i < (keysOf runs a).length := by rw [keysOf_len]; exact h1
      have l := win_least (keysOf runs a) i hik e
      by_cases hlt : a[i] < runs[i].length
      · have d2 : ((keysOf runs a)[i]).Done = false := by rw [keysOf_get runs a i hik h1 h2, kAt_key _ _ hlt]
        have := lt_done (keysOf runs a) i (win (keysOf runs a)) hik hk d2 hd
        have t := lt_total (keysOf runs a) i (win (keysOf runs a)) hik hk e
        rw [l, this] at t; cases t
      · omega
theorem keysOf_stp (runs : List (List TApiEntry)) (a : List Nat) (w : Nat) (h1 : w < runs.length) (h2 : w < a.length) : keysOf runs (stp a w) = (keysOf runs a).set w (kAt runs[w] (a[w] + 1)) := by
  refine List.ext_getElem (by simp [keysOf_len]) fun j k1 k2 => ?_
  rw [keysOf_len] at k1
  rw [List.getElem_set]
  simp only [keysOf, List.getElem_map, List.getElem_range, stp]
  split
  · rename_i e; subst e; simp [h1, h2]
  · rename_i e; simp [e]
theorem stp_at (runs : List (List TApiEntry)) (a : List Nat) (w : Nat) (ha : At runs a) (h1 : w < runs.length) (h2 : w < a.length) (h : a[w] < runs[w].length) : At runs (stp a w) := by
  refine ⟨by rw [stp_len]; exact ha.1, fun i k1 k2 => ?_⟩
  simp only [stp_eq a w h2, List.getElem_set]
  split
  · rename_i e; subst e; omega
  · exact ha.2 i k1 (by rw [stp_len] at k2; exact k2)
theorem peek_fin (runs : List (List TApiEntry)) (a : List Nat) (h0 : 0 < runs.length) (hl : runs.length ≤ 32)
    (h : ((keysOf runs a)[win (keysOf runs a)]'(win_lt _ (by rw [keysOf_len]; exact h0))).Done = true) (t : TApiLsTree) (ht : t = treeOf (keysOf runs a)) (x : List Int) :
    Ev (fun fu => merge_reader_peek fu runs x t.Keys t.Lose t.Win) (⟨[], [], false, 0⟩, 0, 12) := by
  subst ht
  unfold merge_reader_peek
  have := winner_ev (keysOf runs a) (keysOf_plain runs a) (by rw [keysOf_len]; exact h0) (by rw [keysOf_len]; exact hl)
  rw [if_pos h] at this
  exact Ev.bind this (Ev.ret _)
theorem peek_go (runs : List (List TApiEntry)) (a : List Nat) (h0 : 0 < runs.length) (hl : runs.length ≤ 32) (hw : wn runs a < runs.length) (hwa : wn runs a < a.length) (hq : a[wn runs a] < runs[wn runs a].length)
    (h : ((keysOf runs a)[win (keysOf runs a)]'(win_lt _ (by rw [keysOf_len]; exact h0))) = ⟨runs[wn runs a][a[wn runs a]].Key, false⟩) (t : TApiLsTree) (ht : t = treeOf (keysOf runs a)) :
    Ev (fun fu => merge_reader_peek fu runs (ints a) t.Keys t.Lose t.Win) (runs[wn runs a][a[wn runs a]], (wn runs a : Int), 0) := by
  subst ht
  unfold merge_reader_peek
  have := winner_ev (keysOf runs a) (keysOf_plain runs a) (by rw [keysOf_len]; exact h0) (by rw [keysOf_len]; exact hl)
  rw [if_neg (by rw [h]; simp)] at this
  refine Ev.bind this (Ev.of (fun fu => ?_) (Ev.ret _))
  have e1 : ix runs ((win (keysOf runs a) : Nat) : Int) = some runs[wn runs a] := ix_get runs _ hw
  have e2 : ix (ints a) ((win (keysOf runs a) : Nat) : Int) = some ((a[wn runs a] : Nat) : Int) := ix_ints a _ hwa
  simp only [decide_true, Bool.not_true, Bool.false_eq_true, ↓reduceIte, e1, e2, Option.bind_some, ix_get _ _ hq]
  rfl
theorem read_ev (runs : List (List TApiEntry)) (a : List Nat) (hg : GoodRuns runs) (ha : At runs a) (hw : wn runs a < runs.length) (hwa : wn runs a < a.length) (hq : a[wn runs a] < runs[wn runs a].length)
    (h : ((keysOf runs a)[win (keysOf runs a)]'(win_lt _ (by rw [keysOf_len]; exact hg.1))) = ⟨runs[wn runs a][a[wn runs a]].Key, false⟩) (t : TApiLsTree) (ht : t = treeOf (keysOf runs a)) :
    ∃ g, Ev (fun fu => loser_Replace fu t (kAt runs[wn runs a] (a[wn runs a] + 1))) (treeOf (keysOf runs (stp a (wn runs a))), g, 0) := by
  subst ht
  have hk := win_lt (keysOf runs a) (by rw [keysOf_len]; exact hg.1)
  obtain ⟨g, e⟩ := replace_ev (keysOf runs a) (keysOf_plain runs a) (by rw [keysOf_len]; exact hg.1) (by rw [keysOf_len]; exact hg.2.1) (by rw [h]) (kAt runs[wn runs a] (a[wn runs a] + 1)) (kAt_plain _ _) (by
    intro hd
    rw [h, kAt_done] at *
    have hlt : a[wn runs a] + 1 < runs[wn runs a].length := by have := of_decide_eq_false hd; omega
    rw [kAt_key _ _ hlt]
    have := ((hg.2.2 _ (List.getElem_mem hw)).2 (a[wn runs a] + 1) hlt).2 (by omega)
    exact bl_asym this)
  refine ⟨g, ?_⟩
  have q : (keysOf runs a).set (win (keysOf runs a)) (kAt runs[wn runs a] (a[wn runs a] + 1)) = keysOf runs (stp a (wn runs a)) := (keysOf_stp runs a (wn runs a) hw hwa).symm
  rw [q] at e
  exact e
def rest (runs : List (List TApiEntry)) (a : List Nat) : Nat := (List.zipWith (fun l n => l.length - n) runs a).sum
theorem rest_stp : ∀ (runs : List (List TApiEntry)) (a : List Nat) (w : Nat) (h1 : w < runs.length) (h2 : w < a.length), a[w] < runs[w].length → rest runs (stp a w) + 1 = rest runs a
  | l :: runs, n :: a, 0, _, _, h => by
    simp only [List.getElem_cons_zero] at h
    simp [rest, stp]; omega
  | l :: runs, n :: a, w + 1, h1, h2, h => by
    have := rest_stp runs a w (by simpa using h1) (by simpa using h2) (by simpa using h)
    simp [rest, stp] at this ⊢; omega
theorem rest_zero : ∀ (runs : List (List TApiEntry)) (a : List Nat), (∀ i (h1 : i < runs.length) (h2 : i < a.length), a[i] = runs[i].length) → rest runs a = 0
  | [], a, _ => by simp [rest]
  | _ :: _, [], _ => by simp [rest]
  | l :: runs, n :: a, h => by
    have h0 := h 0 (by simp) (by simp)
    have := rest_zero runs a fun i h1 h2 => by have := h (i + 1) (by simp; omega) (by simp; omega); simpa using this
    simp [rest] at this h0 ⊢
    exact ⟨by omega, this⟩
theorem rest_le : ∀ (runs : List (List TApiEntry)) (a : List Nat) (c : Nat), (∀ l ∈ runs, l.length ≤ c) → rest runs a ≤ runs.length * c
  | [], a, c, _ => by simp [rest]
  | _ :: _, [], c, _ => by simp [rest]
  | l :: runs, n :: a, c, h => by
    have h0 := h l (by simp)
    have := rest_le runs a c fun l hl => h l (by simp [hl])
    simp [rest, Nat.add_mul] at this ⊢
    omega
def outs (runs : List (List TApiEntry)) : Nat → List Nat → List (TApiEntry × Nat)
  | 0, _ => []
  | n + 1, a => ((runs[wn runs a]?.getD [])[a[wn runs a]?.getD 0]?.getD ⟨[], [], false, 0⟩, wn runs a) :: outs runs n (stp a (wn runs a))
def ents (l : List (TApiEntry × Nat)) : List TApiEntry := l.map (·.1)
def froms (l : List (TApiEntry × Nat)) : List Int := l.map fun x => (x.2 : Int)
theorem ints_set (a : List Nat) (w : Nat) (n : Nat) : (ints a).set w ((n : Nat) : Int) = ints (a.set w n) := by simp [ints, List.map_set]
def ends (runs : List (List TApiEntry)) : Nat → List Nat → List Nat
  | 0, a => a
  | n + 1, a => ends runs n (stp a (wn runs a))
theorem all_l1 (runs : List (List TApiEntry)) (hg : GoodRuns runs) (s : TApiMgState × Int × Int) (hs : s.1.Runs = runs) (m : Nat) : ∀ (a : List Nat) (t : TApiLsTree) (l : List TApiEntry) (from' : List Int),
    At runs a → t = treeOf (keysOf runs a) → rest runs a = m → l.length + m ≤ 200000 → from'.length = l.length →
    Ev (fun fu => merge_All_l1 s fu (ints a) t.Keys t.Lose t.Win l from') (ints (ends runs m a), (treeOf (keysOf runs (ends runs m a))).Keys, (treeOf (keysOf runs (ends runs m a))).Lose, (treeOf (keysOf runs (ends runs m a))).Win, l ++ ents (outs runs m a), from' ++ froms (outs runs m a)) := by
  have h0 := hg.1
  have h32 := hg.2.1
  induction m with
  | zero =>
    intro a t l from' ha ht hr hm hfl
    rcases turn runs a ha h0 with ⟨hd, hall⟩ | ⟨hw, hwa, hq, hk⟩
    · refine Ev.succ ?_
      simp only [merge_All_l1, hs]
      refine Ev.bind (peek_fin runs a h0 h32 hd t ht (ints a)) ?_
      simp only [show (decide ((12 : Int) = 0)) = false from rfl, Bool.not_false, ↓reduceIte, ends, outs, ents, froms, List.map_nil, List.append_nil]
      rw [ht]
      exact Ev.ret _
    · have := rest_stp runs a _ hw hwa hq
      omega
  | succ m ih =>
    intro a t l from' ha ht hr hm hfl
    rcases turn runs a ha h0 with ⟨hd, hall⟩ | ⟨hw, hwa, hq, hk⟩
    · rw [rest_zero runs a hall] at hr; omega
    · refine Ev.succ ?_
      simp only [merge_All_l1, hs]
      refine Ev.bind (peek_go runs a h0 h32 hw hwa hq hk t ht) ?_
      have hle : runs[wn runs a].length ≤ 5000 := (hg.2.2 _ (List.getElem_mem hw)).1
      have w1 : IntKind.i64.wrap (((a[wn runs a] : Nat) : Int) + 1) = ((a[wn runs a] + 1 : Nat) : Int) := by rw [wr (by omega) (by omega)]; rfl
      have g1 : 2 * ((l.length + 1) * 48) ≤ 281474976710656 := by omega
      have g2 : 2 * ((from'.length + 1) * 8) ≤ 281474976710656 := by omega
      have hs' : (ints a).set (wn runs a) ((a[wn runs a] + 1 : Nat) : Int) = ints (stp a (wn runs a)) := by rw [ints_set, stp_eq a _ hwa]
      have hix : ix (ints (stp a (wn runs a))) ((wn runs a : Nat) : Int) = some ((a[wn runs a] + 1 : Nat) : Int) := by
        rw [ix_ints _ _ (by rw [stp_len]; exact hwa)]; simp [stp_eq a _ hwa]
      simp only [show (decide ((0 : Int) = 0)) = true from rfl, Bool.not_true, Bool.false_eq_true, ↓reduceIte, if_pos g1, if_pos g2, ix_ints a _ hwa, ix_get runs _ hw, Option.bind_some, Int.toNat_natCast, w1, hs', hix]
      have hnx : ∀ fu, merge_next fu runs[wn runs a] ((a[wn runs a] + 1 : Nat) : Int) = some (kAt runs[wn runs a] (a[wn runs a] + 1)) := fun fu => next_eq fu _ _ (by omega)
      simp only [hnx, Option.bind_some]
      obtain ⟨g, hrd⟩ := read_ev runs a hg ha hw hwa hq hk t ht
      have hrs := rest_stp runs a _ hw hwa hq
      have hrec := ih (stp a (wn runs a)) (treeOf (keysOf runs (stp a (wn runs a)))) (l ++ [runs[wn runs a][a[wn runs a]]]) (from' ++ [(wn runs a : Int)]) (stp_at runs a _ ha hw hwa hq) rfl (by omega) (by simp; omega) (by simp [hfl])
      have ht2 : (⟨t.Keys, t.Lose, t.Win⟩ : TApiLsTree) = t := rfl
      simp only [ht2]
      refine Ev.bind hrd ?_
      have ho : outs runs (m + 1) a = (runs[wn runs a][a[wn runs a]], wn runs a) :: outs runs m (stp a (wn runs a)) := by
        simp only [outs, List.getElem?_eq_getElem hw, List.getElem?_eq_getElem hwa, Option.getD_some, List.getElem?_eq_getElem hq]
      have he : ends runs (m + 1) a = ends runs m (stp a (wn runs a)) := rfl
      rw [ho, he]
      simpa [ents, froms] using hrec
end Go.T
end
section
namespace Go.T
open Go Go.AM
def pick {ρ : Type} (c : Nat → Option ρ) : Nat → Nat → Sum Unit ρ
  | 0, _ => .inl ()
  | m + 1, n => match c n with | some r => .inr r | none => pick c m (n + 1)
theorem Ev.loop {ρ : Type} {L : Nat → Int → Option (Sum Unit ρ)} {len : Nat} (c : Nat → Option ρ) (stop : Ev (fun fu => L fu (len : Int)) (.inl ()))
    (step : ∀ n, n < len → (∀ r, c n = some r → Ev (fun fu => L fu (n : Int)) (.inr r)) ∧ (c n = none → ∀ r, Ev (fun fu => L fu ((n + 1 : Nat) : Int)) r → Ev (fun fu => L fu (n : Int)) r)) (m : Nat) :
    ∀ n, n + m = len → Ev (fun fu => L fu (n : Int)) (pick c m n) := by
  induction m with
  | zero => intro n hn; obtain rfl : n = len := by omega
            exact stop
  | succ m ih =>
    intro n hn
    obtain ⟨s1, s2⟩ := step n (by omega)
    simp only [pick]
    cases h : c n with
    | some r => exact s1 r h
    | none => exact s2 h _ (ih (n + 1) (by omega))
theorem pick_inl {ρ : Type} {c : Nat → Option ρ} {m n : Nat} {u : Unit} (h : pick c m n = .inl u) : ∀ i, n ≤ i → i < n + m → c i = none := by
  induction m generalizing n with
  | zero => intro i h1 h2; omega
  | succ m ih =>
    intro i h1 h2
    simp only [pick] at h
    cases hc : c n with
    | some r => rw [hc] at h; cases h
    | none =>
      rw [hc] at h
      by_cases e : i = n
      · subst e; exact hc
      · exact ih h i (by omega) (by omega)
theorem pick_none {ρ : Type} {c : Nat → Option ρ} {m n : Nat} (h : ∀ i, n ≤ i → i < n + m → c i = none) : pick c m n = .inl () := by
  induction m generalizing n with
  | zero => rfl
  | succ m ih => simp only [pick, h n (by omega) (by omega)]; exact ih fun i h1 h2 => h i (by omega) (by omega)
theorem pick_inr {ρ : Type} {c : Nat → Option ρ} {m n : Nat} {r : ρ} (h : pick c m n = .inr r) : ∃ i, n ≤ i ∧ i < n + m ∧ c i = some r := by
  induction m generalizing n with
  | zero => cases h
  | succ m ih =>
    simp only [pick] at h
    cases hc : c n with
    | some r' => rw [hc] at h; cases h; exact ⟨n, by omega, by omega, hc⟩
    | none =>
      rw [hc] at h
      obtain ⟨i, h1, h2, h3⟩ := ih h
      exact ⟨i, by omega, by omega, h3⟩
theorem w_succ (n : Nat) (h : n < 9223372036854775807) : IntKind.i64.wrap ((n : Int) + 1) = ((n + 1 : Nat) : Int) := by rw [wr (by omega) (by omega)]; rfl
theorem entry_eqb (x y : TApiEntry) : TApiEntry.eqb x y = decide (x = y) := by
  obtain ⟨a, b, c, d⟩ := x
  obtain ⟨a', b', c', d'⟩ := y
  by_cases h1 : a = a' <;> by_cases h2 : b = b' <;> by_cases h3 : c = c' <;> by_cases h4 : d = d' <;> simp [TApiEntry.eqb, h1, h2, h3, h4]
theorem key_eqb (x y : TApiLsKey) : TApiLsKey.eqb x y = decide (x = y) := by
  obtain ⟨a, b⟩ := x
  obtain ⟨a', b'⟩ := y
  by_cases h1 : a = a' <;> by_cases h2 : b = b' <;> simp [TApiLsKey.eqb, h1, h2]
theorem Ev.eqs {α ρ : Type} [DecidableEq α] (bad : ρ) (l k : List α) (h : l.length = k.length) {L : Nat → Int → Option (Sum Unit ρ)}
    (stop : ∀ fu, L (fu + 1) (l.length : Int) = some (.inl ())) (step : ∀ fu n (h1 : n < l.length) (h2 : n < k.length), L (fu + 1) (n : Int) = if l[n] = k[n] then L fu ((n + 1 : Nat) : Int) else some (.inr bad)) :
    ∃ r, Ev (fun fu => L fu 0) r ∧ ((r = .inl () ∧ l = k) ∨ (r = .inr bad ∧ l ≠ k)) := by
  have lp := Ev.loop (L := L) (len := l.length) (fun i => if l[i]? = k[i]? then none else some bad)
    (Ev.succ (Ev.of stop (Ev.ret _))) (fun n hn => by
      have hk : n < k.length := by omega
      simp only [List.getElem?_eq_getElem hn, List.getElem?_eq_getElem hk, Option.some.injEq]
      refine ⟨fun r hr => Ev.succ (Ev.of (fun fu => step fu n hn hk) ?_), fun hr r q => Ev.succ (Ev.of (fun fu => step fu n hn hk) ?_)⟩
      · by_cases e : l[n] = k[n]
        · rw [if_pos e] at hr; cases hr
        · rw [if_neg e] at hr; cases hr; simp only [if_neg e]; exact Ev.ret _
      · by_cases e : l[n] = k[n]
        · simp only [if_pos e]; exact q
        · rw [if_neg e] at hr; cases hr) l.length 0 (by omega)
  cases hp : pick (fun i => if l[i]? = k[i]? then none else some bad) l.length 0 with
  | inl u =>
    rw [hp] at lp
    refine ⟨_, lp, .inl ⟨rfl, List.ext_getElem h fun i h1 h2 => ?_⟩⟩
    have := pick_inl hp i (by omega) (by omega)
    simp only [List.getElem?_eq_getElem h1, List.getElem?_eq_getElem h2, Option.some.injEq] at this
    by_cases e : l[i] = k[i]
    · exact e
    · rw [if_neg e] at this; cases this
  | inr r =>
    rw [hp] at lp
    obtain ⟨i, h1, h2, h3⟩ := pick_inr hp
    by_cases e : l[i]? = k[i]?
    · simp [e] at h3
    · simp [e] at h3
      subst h3
      exact ⟨_, lp, .inr ⟨rfl, fun e' => by subst e'; simp at e⟩⟩
theorem sameEntries_ev (l k : List TApiEntry) (hl : l.length < 1000000000000000000) : ∃ b, Ev (fun fu => bookendref11_SameEntries fu l k) b ∧ (b = true ↔ l = k) := by
  unfold bookendref11_SameEntries
  by_cases h : l.length = k.length
  · have hd : (!decide ((l.length : Int) = (k.length : Int))) = false := by simp; omega
    simp only [hd, Bool.false_eq_true, ↓reduceIte]
    obtain ⟨r, r1, r2⟩ := Ev.eqs false l k h (L := bookendref11_SameEntries_l1 l k) (fun fu => by simp [bookendref11_SameEntries_l1]) (fun fu n h1 h2 => by
      have d : decide ((n : Int) < (l.length : Int)) = true := decide_eq_true (by omega)
      simp only [bookendref11_SameEntries_l1, d, ↓reduceIte, ix_get l n h1, ix_get k n h2, Option.bind_some, entry_eqb, w_succ n (by omega)]
      by_cases e : l[n] = k[n] <;> simp [e])
    rcases r2 with ⟨rfl, e⟩ | ⟨rfl, e⟩
    · exact ⟨true, Ev.bind r1 (Ev.ret _), by simp [e]⟩
    · exact ⟨false, Ev.bind r1 (Ev.ret _), by simp [e]⟩
  · have hd : (!decide ((l.length : Int) = (k.length : Int))) = true := by simp; omega
    simp only [hd, ↓reduceIte]
    exact ⟨false, Ev.ret _, by simp; intro e; exact h (by rw [e])⟩
theorem ints_ev (l k : List Int) (hl : l.length < 1000000000000000000) : ∃ b, Ev (fun fu => bookendref10_Ints fu l k) b ∧ (b = true ↔ l = k) := by
  unfold bookendref10_Ints
  by_cases h : l.length = k.length
  · have hd : (!decide ((l.length : Int) = (k.length : Int))) = false := by simp; omega
    simp only [hd, Bool.false_eq_true, ↓reduceIte]
    obtain ⟨r, r1, r2⟩ := Ev.eqs false l k h (L := bookendref10_Ints_l1 l k) (fun fu => by simp [bookendref10_Ints_l1]) (fun fu n h1 h2 => by
      have d : decide ((n : Int) < (l.length : Int)) = true := decide_eq_true (by omega)
      simp only [bookendref10_Ints_l1, d, ↓reduceIte, ix_get l n h1, ix_get k n h2, Option.bind_some, w_succ n (by omega)]
      by_cases e : l[n] = k[n] <;> simp [e])
    rcases r2 with ⟨rfl, e⟩ | ⟨rfl, e⟩
    · exact ⟨true, Ev.bind r1 (Ev.ret _), by simp [e]⟩
    · exact ⟨false, Ev.bind r1 (Ev.ret _), by simp [e]⟩
  · have hd : (!decide ((l.length : Int) = (k.length : Int))) = true := by simp; omega
    simp only [hd, ↓reduceIte]
    exact ⟨false, Ev.ret _, by simp; intro e; exact h (by rw [e])⟩
theorem keysEq_ev (a b : TApiLsTree) (hl : a.Keys.length < 1000000000000000000) (h : a.Keys.length = b.Keys.length) : ∃ r, Ev (fun fu => bookendref10_Same_l1 a b fu 0) r ∧ ((r = .inl () ∧ a.Keys = b.Keys) ∨ (r = .inr false ∧ a.Keys ≠ b.Keys)) :=
  Ev.eqs false a.Keys b.Keys h (L := bookendref10_Same_l1 a b) (fun fu => by simp [bookendref10_Same_l1]) (fun fu n h1 h2 => by
    have d : decide ((n : Int) < (a.Keys.length : Int)) = true := decide_eq_true (by omega)
    simp only [bookendref10_Same_l1, d, ↓reduceIte, ix_get a.Keys n h1, ix_get b.Keys n h2, Option.bind_some, key_eqb, w_succ n (by omega)]
    by_cases e : a.Keys[n] = b.Keys[n] <;> simp [e])
theorem sameTree_ev (a b : TApiLsTree) (hl : a.Keys.length < 1000000000000000000) (hl2 : a.Lose.length < 1000000000000000000) : ∃ r, Ev (fun fu => bookendref10_Same fu a b) r ∧ (r = true ↔ a = b) := by
  obtain ⟨i, i1, i2⟩ := ints_ev a.Lose b.Lose hl2
  obtain ⟨ak, al, aw⟩ := a
  obtain ⟨bk, bl, bw⟩ := b
  simp only at *
  unfold bookendref10_Same
  by_cases h : ak.length = bk.length
  · have hd : (!decide ((ak.length : Int) = (bk.length : Int))) = false := by simp; omega
    by_cases hw : aw = bw
    · simp only [hd, hw, decide_true, Bool.not_true, Bool.false_eq_true, ↓reduceIte, Option.bind_some]
      cases i with
      | false =>
        refine ⟨false, Ev.bind (Ev.bind i1 (Ev.ret _)) (Ev.ret _), ?_⟩
        simp at i2
        simp; intro _ e; exact absurd e i2
      | true =>
        obtain ⟨r, r1, r2⟩ := keysEq_ev ⟨ak, al, aw⟩ ⟨bk, bl, bw⟩ hl h
        subst hw
        rcases r2 with ⟨rfl, e⟩ | ⟨rfl, e⟩
        · refine ⟨true, Ev.bind (a := false) (Ev.bind i1 (Ev.ret _)) (Ev.bind r1 (Ev.ret _)), ?_⟩
          simp at i2 e
          simp [i2, e]
        · refine ⟨false, Ev.bind (a := false) (Ev.bind i1 (Ev.ret _)) (Ev.bind r1 (Ev.ret _)), ?_⟩
          simp at e
          simp; intro e'; exact absurd e' e
    · refine ⟨false, Ev.of (fun fu => ?_) (Ev.ret _), by simp; intro _ _ e; exact absurd e hw⟩
      simp [hd, hw]
  · refine ⟨false, Ev.of (fun fu => ?_) (Ev.ret _), by simp; intro e; exact absurd (by rw [e]) h⟩
    have hd : (!decide ((ak.length : Int) = (bk.length : Int))) = true := by simp; omega
    simp [hd]
end Go.T
end
section
namespace Go.T
open Go Go.AM
theorem begin2 : @merge_Begin_2 = @merge_Begin := by kernel_rfl
theorem first_ev (runs : List (List TApiEntry)) (a : List Nat) (ha : At runs a) (h0 : 0 < runs.length) (hl : runs.length ≤ 32) :
    Ev (fun fu => bookendref11_first fu runs (ints a)) (if ((keysOf runs a)[win (keysOf runs a)]'(win_lt _ (by rw [keysOf_len]; exact h0))).Done then -1 else (wn runs a : Int)) := by
  unfold bookendref11_first
  obtain ⟨r, r1, r2⟩ := first_l1 runs a ha (by omega) runs.length 0 (-1) (by omega) (.inl ⟨rfl, fun j h1 h2 => by omega⟩)
  have := best_win (keysOf runs a) (by rw [keysOf_len]; exact h0) r (by rw [keysOf_len]; exact r2)
  rw [this] at r1
  exact Ev.bind r1 (Ev.ret _)
theorem rall_l1 (runs : List (List TApiEntry)) (hg : GoodRuns runs) (m : Nat) : ∀ (a : List Nat) (l : List TApiEntry) (from' : List Int),
    At runs a → rest runs a = m → l.length + m ≤ 200000 → from'.length = l.length →
    Ev (fun fu => bookendref11_All_l1 runs fu (ints a) l from') (l ++ ents (outs runs m a), from' ++ froms (outs runs m a), 0) := by
  have h0 := hg.1
  have h32 := hg.2.1
  induction m with
  | zero =>
    intro a l from' ha hr hm hfl
    have hf := first_ev runs a ha h0 h32
    rcases turn runs a ha h0 with ⟨hd, hall⟩ | ⟨hw, hwa, hq, hk⟩
    · refine Ev.succ ?_
      rw [if_pos hd] at hf
      simp only [bookendref11_All_l1]
      refine Ev.bind hf ?_
      simp only [show (decide ((-1 : Int) < 0)) = true from rfl, ↓reduceIte, outs, ents, froms, List.map_nil, List.append_nil]
      exact Ev.ret _
    · have := rest_stp runs a _ hw hwa hq
      omega
  | succ m ih =>
    intro a l from' ha hr hm hfl
    have hf := first_ev runs a ha h0 h32
    rcases turn runs a ha h0 with ⟨hd, hall⟩ | ⟨hw, hwa, hq, hk⟩
    · rw [rest_zero runs a hall] at hr; omega
    · refine Ev.succ ?_
      rw [if_neg (by rw [hk]; simp)] at hf
      simp only [bookendref11_All_l1]
      refine Ev.bind hf ?_
      have hle : runs[wn runs a].length ≤ 5000 := (hg.2.2 _ (List.getElem_mem hw)).1
      have hs' : (ints a).set (wn runs a) ((a[wn runs a] + 1 : Nat) : Int) = ints (stp a (wn runs a)) := by rw [ints_set, stp_eq a _ hwa]
      have g1 : 2 * ((l.length + 1) * 48) ≤ 281474976710656 := by omega
      have g2 : 2 * ((from'.length + 1) * 8) ≤ 281474976710656 := by omega
      have hd : (decide (((wn runs a : Nat) : Int) < 0)) = false := decide_eq_false (by omega)
      simp only [hd, Bool.false_eq_true, ↓reduceIte, if_pos g1, if_pos g2, ix_ints a _ hwa, ix_get runs _ hw, ix_get _ _ hq, Option.bind_some, Int.toNat_natCast, w_succ _ (show a[wn runs a] < 9223372036854775807 by omega), hs']
      have hrs := rest_stp runs a _ hw hwa hq
      have hrec := ih (stp a (wn runs a)) (l ++ [runs[wn runs a][a[wn runs a]]]) (from' ++ [(wn runs a : Int)]) (stp_at runs a _ ha hw hwa hq) (by omega) (by simp; omega) (by simp [hfl])
      have ho : outs runs (m + 1) a = (runs[wn runs a][a[wn runs a]], wn runs a) :: outs runs m (stp a (wn runs a)) := by
        simp only [outs, List.getElem?_eq_getElem hw, List.getElem?_eq_getElem hwa, Option.getD_some, List.getElem?_eq_getElem hq]
      rw [ho]
      simpa [ents, froms] using hrec
theorem rest_good (runs : List (List TApiEntry)) (hg : GoodRuns runs) (a : List Nat) : rest runs a ≤ 160000 := by
  have := rest_le runs a 5000 fun l hl => (hg.2.2 l hl).1
  have := Nat.mul_le_mul_right 5000 hg.2.1
  omega
theorem all_ev (runs : List (List TApiEntry)) (hf : Fits runs) (hl : runs.length ≤ 1000) :
    ∃ r, Ev (fun fu => merge_All fu runs) r ∧ Ev (fun fu => bookendref11_All fu runs) r ∧
      ((GoodRuns runs ∧ r = (ents (outs runs (rest runs (zeros runs)) (zeros runs)), froms (outs runs (rest runs (zeros runs)) (zeros runs)), 0)) ∨ (r.1 = [] ∧ r.2.1 = [] ∧ r.2.2 ≠ 0)) := by
  obtain ⟨b, b1, b2, b3⟩ := begin_ev runs hf hl
  obtain ⟨c, c1, c2, c3⟩ := check_ev runs hf hl
  unfold merge_All bookendref11_All
  rw [begin2]
  rcases b3 with ⟨hg, rfl⟩ | ⟨hb, hb2⟩
  · have hg3 : (0 : Int) ≤ (runs.length : Int) ∧ (runs.length : Int) ≤ (runs.length : Int) ∧ (runs.length : Int) ≤ 9223372036854775807 ∧ 8 * (runs.length : Int) ≤ 281474976710656 := by have := hg.2.1; omega
    have hr := rest_good runs hg (zeros runs)
    refine ⟨_, ?_, ?_, .inl ⟨hg, rfl⟩⟩
    · refine Ev.bind b1 ?_
      simp only [decide_true, Bool.not_true, Bool.false_eq_true, ↓reduceIte]
      exact Ev.bind (all_l1 runs hg (stateOf runs (zeros runs), 0, 0) rfl _ (zeros runs) _ [] [] (zeros_at runs) rfl rfl (by simp; omega) rfl) (Ev.of (fun fu => by simp) (Ev.ret _))
    · have hc : c = (0, 0) := by
        rcases c3 with ⟨e, _⟩ | e
        · exact e
        · exfalso
          have : Ev (fun fu => merge_Begin fu runs) (noState, c.1, c.2) := by
            unfold merge_Begin
            refine Ev.bind c1 (Ev.of (fun fu => ?_) (Ev.ret _))
            simp only [decide_eq_false e, Bool.not_false, ↓reduceIte]; rfl
          have := Ev.uniq this b1
          simp only [Prod.mk.injEq] at this
          exact e this.2.2
      subst hc
      refine Ev.bind c2 ?_
      simp only [decide_true, Bool.not_true, Bool.false_eq_true, ↓reduceIte, if_pos hg3]
      rw [zeros_ints]
      exact Ev.bind (rall_l1 runs hg _ (zeros runs) [] [] (zeros_at runs) rfl (by simp; omega) rfl) (Ev.of (fun fu => by simp) (Ev.ret _))
  · have hc : c.2 ≠ 0 := by
      intro e
      rcases c3 with ⟨e', hg⟩ | e'
      · obtain ⟨b', b1', -, b3'⟩ := begin_ev runs hf hl
        have g3 : (0 : Int) ≤ (runs.length : Int) ∧ (runs.length : Int) ≤ (runs.length : Int) ∧ (runs.length : Int) ≤ 9223372036854775807 ∧ 8 * (runs.length : Int) ≤ 281474976710656 := by have := hg.2.1; omega
        have : Ev (fun fu => bookendref11_Begin fu runs) (stateOf runs (zeros runs), 0, 0) := by
          unfold bookendref11_Begin
          subst e'
          refine Ev.bind c2 ?_
          simp only [decide_true, Bool.not_true, Bool.false_eq_true, ↓reduceIte, if_pos g3]
          rw [zeros_ints]
          exact Ev.bind (state_ev runs _ (zeros_at runs) hg.1 hg.2.1) (Ev.ret _)
        have := Ev.uniq this b2
        rw [← this] at hb2
        simp at hb2
      · exact e' e
    refine ⟨([], [], b.2.2), ?_, ?_, .inr ⟨rfl, rfl, hb2⟩⟩
    · refine Ev.bind b1 ?_
      simp only [decide_eq_false hb2, Bool.not_false, ↓reduceIte]
      exact Ev.ret _
    · refine Ev.bind c2 ?_
      have : c.2 = b.2.2 := by
        have : Ev (fun fu => merge_Begin fu runs) (noState, c.1, c.2) := by
          unfold merge_Begin
          refine Ev.bind c1 (Ev.of (fun fu => ?_) (Ev.ret _))
          simp only [decide_eq_false hc, Bool.not_false, ↓reduceIte]; rfl
        have := Ev.uniq this b1
        rw [← this]
      rw [this]
      simp only [decide_eq_false hb2, Bool.not_false, ↓reduceIte]
      exact Ev.ret _
def Near (runs : List (List TApiEntry)) : Prop := runs.length ≤ 34 ∧ (∀ l ∈ runs, l.length ≤ 6000) ∧ ∀ l ∈ runs, ∀ e ∈ l, e.Key.length ≤ 200
theorem Near.fits {runs : List (List TApiEntry)} (h : Near runs) : Fits runs := fun l hl e he => Nat.le_trans (h.2.2 l hl e he) (by decide)
theorem far_l1 (runs : List (List TApiEntry)) (l : List TApiEntry) (h : ix runs 0 = some l) (hl : l.length ≤ 5005) : ∃ r, Ev (fun fu => bookendlaw11_Far_l1 runs fu 0) r ∧ ((r = .inl () ∧ ∀ e ∈ l, e = ⟨[], [], false, 0⟩) ∨ r = .inr true) := by
  have lp := Ev.loop (L := bookendlaw11_Far_l1 runs) (len := l.length) (fun i => if l[i]? = some ⟨[], [], false, 0⟩ then none else some true)
    (Ev.succ (Ev.of (fun fu => by simp [bookendlaw11_Far_l1, h]) (Ev.ret _))) (fun n hn => by
      have d : decide ((n : Int) < (l.length : Int)) = true := decide_eq_true (by omega)
      have f : ∀ fu, bookendlaw11_Far_l1 runs (fu + 1) (n : Int) = if l[n] = ⟨[], [], false, 0⟩ then bookendlaw11_Far_l1 runs fu ((n + 1 : Nat) : Int) else some (.inr true) := fun fu => by
        simp only [bookendlaw11_Far_l1, h, d, ↓reduceIte, ix_get l n hn, Option.bind_some, entry_eqb, w_succ n (by omega)]
        by_cases e : l[n] = ⟨[], [], false, 0⟩ <;> simp [e]
      simp only [List.getElem?_eq_getElem hn, Option.some.injEq]
      refine ⟨fun r hr => Ev.succ (Ev.of f ?_), fun hr r q => Ev.succ (Ev.of f ?_)⟩
      · by_cases e : l[n] = ⟨[], [], false, 0⟩
        · rw [if_pos e] at hr; cases hr
        · rw [if_neg e] at hr; cases hr; simp only [if_neg e]; exact Ev.ret _
      · by_cases e : l[n] = ⟨[], [], false, 0⟩
        · simp only [if_pos e]; exact q
        · rw [if_neg e] at hr; cases hr) l.length 0 (by omega)
  cases hp : pick (fun i => if l[i]? = some (⟨[], [], false, 0⟩ : TApiEntry) then none else some true) l.length 0 with
  | inl u =>
    rw [hp] at lp
    refine ⟨_, lp, .inl ⟨rfl, fun e he => ?_⟩⟩
    obtain ⟨i, hi, rfl⟩ := List.mem_iff_getElem.1 he
    have := pick_inl hp i (by omega) (by omega)
    simp only [List.getElem?_eq_getElem hi, Option.some.injEq] at this
    by_cases e : l[i] = ⟨[], [], false, 0⟩
    · exact e
    · rw [if_neg e] at this; cases this
  | inr r =>
    rw [hp] at lp
    obtain ⟨i, h1, h2, h3⟩ := pick_inr hp
    refine ⟨_, lp, .inr ?_⟩
    split at h3
    · cases h3
    · cases h3; rfl
theorem far_l5 (l : List TApiEntry) (hl : l.length ≤ 1000) : ∃ r, Ev (fun fu => bookendlaw11_Far_l5 l fu 0) r ∧ ((r = .inl () ∧ ∀ e ∈ l, e.Key.length ≤ 200) ∨ r = .inr true) := by
  have lp := Ev.loop (L := bookendlaw11_Far_l5 l) (len := l.length) (fun i => match l[i]? with | some e => if 200 < e.Key.length ∨ 200 < e.Val.length then some true else none | none => none)
    (Ev.succ (Ev.of (fun fu => by simp [bookendlaw11_Far_l5]) (Ev.ret _))) (fun n hn => by
      have d : decide ((n : Int) < (l.length : Int)) = true := decide_eq_true (by omega)
      have f : ∀ fu, bookendlaw11_Far_l5 l (fu + 1) (n : Int) = if 200 < l[n].Key.length ∨ 200 < l[n].Val.length then some (.inr true) else bookendlaw11_Far_l5 l fu ((n + 1 : Nat) : Int) := fun fu => by
        have c1 : decide ((200 : Int) < (l[n].Key.length : Int)) = decide (200 < l[n].Key.length) := decide_eq_decide.2 (by omega)
        have c2 : decide ((200 : Int) < (l[n].Val.length : Int)) = decide (200 < l[n].Val.length) := decide_eq_decide.2 (by omega)
        simp only [bookendlaw11_Far_l5, d, ↓reduceIte, ix_get l n hn, Option.bind_some, c1, c2, w_succ n (by omega)]
        by_cases e1 : 200 < l[n].Key.length <;> by_cases e2 : 200 < l[n].Val.length <;> simp [e1, e2]
      simp only [List.getElem?_eq_getElem hn]
      refine ⟨fun r hr => Ev.succ (Ev.of f ?_), fun hr r q => Ev.succ (Ev.of f ?_)⟩
      · by_cases e : 200 < l[n].Key.length ∨ 200 < l[n].Val.length
        · rw [if_pos e] at hr; cases hr; simp only [if_pos e]; exact Ev.ret _
        · rw [if_neg e] at hr; cases hr
      · by_cases e : 200 < l[n].Key.length ∨ 200 < l[n].Val.length
        · rw [if_pos e] at hr; cases hr
        · simp only [if_neg e]; exact q) l.length 0 (by omega)
  cases hp : pick (fun i => match l[i]? with | some e => if 200 < e.Key.length ∨ 200 < e.Val.length then some true else none | none => none) l.length 0 with
  | inl u =>
    rw [hp] at lp
    refine ⟨_, lp, .inl ⟨rfl, fun e he => ?_⟩⟩
    obtain ⟨i, hi, rfl⟩ := List.mem_iff_getElem.1 he
    have := pick_inl hp i (by omega) (by omega)
    simp only [List.getElem?_eq_getElem hi] at this
    split at this
    · cases this
    · omega
  | inr r =>
    rw [hp] at lp
    obtain ⟨i, h1, h2, h3⟩ := pick_inr hp
    refine ⟨_, lp, .inr ?_⟩
    split at h3
    · split at h3
      · cases h3; rfl
      · cases h3
    · cases h3
theorem far_l4 (runs : List (List TApiEntry)) (hl : runs.length ≤ 34) (m : Nat) : ∀ (n many : Nat), n + m = runs.length → many ≤ 120 →
    ∃ r, Ev (fun fu => bookendlaw11_Far_l4 runs fu (many : Int) (n : Int)) r ∧ ((r = .inl () ∧ ∀ i (h : i < runs.length), n ≤ i → runs[i].length ≤ 120 ∧ ∀ e ∈ runs[i], e.Key.length ≤ 200) ∨ r = .inr true) := by
  induction m with
  | zero =>
    intro n many hn hm
    obtain rfl : n = runs.length := by omega
    exact ⟨.inl (), Ev.succ (Ev.of (fun fu => by simp [bookendlaw11_Far_l4]) (Ev.ret _)), .inl ⟨rfl, fun i h1 h2 => by omega⟩⟩
  | succ m ih =>
    intro n many hn hm
    have hnl : n < runs.length := by omega
    have d : decide ((n : Int) < (runs.length : Int)) = true := decide_eq_true (by omega)
    have hmin : (if (200 : Int) < (runs[n].length : Int) then (200 : Int) else (runs[n].length : Int)) = ((min runs[n].length 200 : Nat) : Int) := by
      split <;> omega
    have hw : IntKind.i64.wrap ((many : Int) + ((min runs[n].length 200 : Nat) : Int)) = ((many + min runs[n].length 200 : Nat) : Int) := by rw [wr (by omega) (by omega)]; omega
    have f : ∀ fu, bookendlaw11_Far_l4 runs (fu + 1) (many : Int) (n : Int) = if 120 < many + min runs[n].length 200 then some (.inr true) else (bookendlaw11_Far_l5 runs[n] fu 0).bind fun x90 => match x90 with | .inl _ => bookendlaw11_Far_l4 runs fu ((many + min runs[n].length 200 : Nat) : Int) ((n + 1 : Nat) : Int) | .inr y => some (.inr y) := fun fu => by
      have c1 : decide ((120 : Int) < ((many + min runs[n].length 200 : Nat) : Int)) = decide (120 < many + min runs[n].length 200) := decide_eq_decide.2 (by omega)
      simp only [bookendlaw11_Far_l4, d, ↓reduceIte, ix_get runs n hnl, Option.bind_some, hmin, hw, c1, w_succ n (by omega)]
      simp only [decide_eq_true_eq]
      by_cases q : 120 < many + min runs[n].length 200
      · rw [if_pos q, if_pos q]
      · rw [if_neg q, if_neg q]; congr 1
    by_cases hc : 120 < many + min runs[n].length 200
    · exact ⟨.inr true, Ev.succ (Ev.of f (by simp only [if_pos hc]; exact Ev.ret _)), .inr rfl⟩
    · obtain ⟨r, r1, r2⟩ := far_l5 runs[n] (by omega)
      rcases r2 with ⟨rfl, r2⟩ | rfl
      · obtain ⟨q, q1, q2⟩ := ih (n + 1) (many + min runs[n].length 200) (by omega) (by omega)
        refine ⟨q, Ev.succ (Ev.of f (by simp only [if_neg hc]; exact Ev.bind r1 q1)), ?_⟩
        rcases q2 with ⟨rfl, q2⟩ | rfl
        · refine .inl ⟨rfl, fun i h1 h2 => ?_⟩
          by_cases e : i = n
          · subst e; exact ⟨by omega, r2⟩
          · exact q2 i h1 (by omega)
        · exact .inr rfl
      · exact ⟨.inr true, Ev.succ (Ev.of f (by simp only [if_neg hc]; exact Ev.bind r1 (Ev.ret _))), .inr rfl⟩
theorem far_ev (runs : List (List TApiEntry)) : ∃ b, Ev (fun fu => bookendlaw11_Far fu runs) b ∧ (b = false → Near runs) := by
  unfold bookendlaw11_Far
  by_cases h : 34 < runs.length
  · refine ⟨true, Ev.of (fun fu => ?_) (Ev.ret _), by simp⟩
    rw [if_pos (by simp; omega)]
  · have d : decide ((34 : Int) < (runs.length : Int)) = false := decide_eq_false (by omega)
    simp only [d, Bool.false_eq_true, ↓reduceIte]
    have far4 : (∃ r, Ev (fun fu => bookendlaw11_Far_l4 runs fu 0 0) r ∧ ((r = .inl () ∧ Near runs) ∨ r = .inr true)) := by
      obtain ⟨r, r1, r2⟩ := far_l4 runs (by omega) runs.length 0 0 (by omega) (by omega)
      refine ⟨r, r1, ?_⟩
      rcases r2 with ⟨e, h2⟩ | e
      · refine .inl ⟨e, by omega, fun l hl => ?_, fun l hl => ?_⟩
        · obtain ⟨i, hi, rfl⟩ := List.mem_iff_getElem.1 hl
          have := (h2 i hi (by omega)).1; omega
        · obtain ⟨i, hi, rfl⟩ := List.mem_iff_getElem.1 hl
          exact (h2 i hi (by omega)).2
      · exact .inr e
    by_cases h1 : runs.length = 1
    · have h0 : 0 < runs.length := by omega
      have d1 : decide ((runs.length : Int) = 1) = true := decide_eq_true (by omega)
      have ix0 : ix runs 0 = some runs[0] := ix_get runs 0 h0
      simp only [d1, ↓reduceIte, ix0, Option.bind_some]
      by_cases h5 : 5000 < runs[0].length ∧ runs[0].length ≤ 5005
      · have d2 : decide ((5000 : Int) < (runs[0].length : Int)) = true := decide_eq_true (by omega)
        have d3 : decide ((runs[0].length : Int) ≤ 5005) = true := decide_eq_true (by omega)
        simp only [d2, d3, ↓reduceIte, Option.bind_some]
        obtain ⟨r, r1, r2⟩ := far_l1 runs runs[0] ix0 (by omega)
        rcases r2 with ⟨rfl, r2⟩ | rfl
        · refine ⟨false, Ev.bind r1 (Ev.ret _), fun _ => ⟨by omega, fun l hl => ?_, fun l hl e he => ?_⟩⟩
          · obtain ⟨i, hi, rfl⟩ := List.mem_iff_getElem.1 hl
            obtain rfl : i = 0 := by omega
            omega
          · obtain ⟨i, hi, rfl⟩ := List.mem_iff_getElem.1 hl
            obtain rfl : i = 0 := by omega
            rw [r2 e he]; simp
        · exact ⟨true, Ev.bind r1 (Ev.ret _), by simp⟩
      · have hb : (if decide ((5000 : Int) < (runs[0].length : Int)) = true then some (decide ((runs[0].length : Int) ≤ 5005)) else some false) = some false := by
          by_cases q : 5000 < runs[0].length
          · have d3 : decide ((runs[0].length : Int) ≤ 5005) = false := decide_eq_false (by omega)
            rw [d3]; split <;> rfl
          · rw [if_neg (by simp; omega)]
        simp only [hb, Option.bind_some, Bool.false_eq_true, ↓reduceIte]
        obtain ⟨r, r1, r2⟩ := far4
        rcases r2 with ⟨rfl, r2⟩ | rfl
        · exact ⟨false, Ev.bind r1 (Ev.ret _), fun _ => r2⟩
        · exact ⟨true, Ev.bind r1 (Ev.ret _), by simp⟩
    · have d1 : decide ((runs.length : Int) = 1) = false := decide_eq_false (by omega)
      simp only [d1, Bool.false_eq_true, ↓reduceIte, Option.bind_some]
      obtain ⟨r, r1, r2⟩ := far4
      rcases r2 with ⟨rfl, r2⟩ | rfl
      · exact ⟨false, Ev.bind r1 (Ev.ret _), fun _ => r2⟩
      · exact ⟨true, Ev.bind r1 (Ev.ret _), by simp⟩
theorem stateOf_lens (runs : List (List TApiEntry)) (a : List Nat) (ha : At runs a) : (stateOf runs a).At.length = runs.length ∧ (stateOf runs a).Runs.length = runs.length ∧ (stateOf runs a).Tree.Keys.length = runs.length ∧ (stateOf runs a).Tree.Lose.length = runs.length := by
  simp [stateOf, treeOf, ints_len, keysOf_len, lf_len, ha.1]
theorem outs_len (runs : List (List TApiEntry)) (n : Nat) : ∀ a, (outs runs n a).length = n := by
  induction n with
  | zero => intro a; rfl
  | succ n ih => intro a; simp [outs, ih]
end Go.T
end
section
namespace Go.T
open Go Go.AM
structure Small (s : TApiMgState) : Prop where
  near : Near s.Runs
  at' : s.At.length ≤ 1000
  keys : s.Tree.Keys.length ≤ 1000
  lose : s.Tree.Lose.length ≤ 1000
theorem eqKeys_ev (l k : List TApiLsKey) (hl : l.length ≤ 1000) : ∃ b, Ev (fun fu => slices_Equal_apiLsKey fu l k) b ∧ (b = true ↔ l = k) := by
  unfold slices_Equal_apiLsKey
  by_cases h : l.length = k.length
  · have hd : (!decide ((l.length : Int) = (k.length : Int))) = false := by simp; omega
    simp only [hd, Bool.false_eq_true, ↓reduceIte]
    obtain ⟨r, r1, r2⟩ := Ev.eqs false l k h (L := slices_Equal_apiLsKey_l1 l k) (fun fu => by simp [slices_Equal_apiLsKey_l1]) (fun fu n h1 h2 => by
      have d : decide ((n : Int) < (l.length : Int)) = true := decide_eq_true (by omega)
      simp only [slices_Equal_apiLsKey_l1, d, ↓reduceIte, ix_get l n h1, ix_get k n h2, Option.bind_some, key_eqb, w_succ n (by omega)]
      by_cases e : l[n] = k[n] <;> simp [e])
    rcases r2 with ⟨rfl, e⟩ | ⟨rfl, e⟩
    · exact ⟨true, Ev.bind r1 (Ev.ret _), by simp [e]⟩
    · exact ⟨false, Ev.bind r1 (Ev.ret _), by simp [e]⟩
  · have hd : (!decide ((l.length : Int) = (k.length : Int))) = true := by simp; omega
    simp only [hd, ↓reduceIte]
    exact ⟨false, Ev.ret _, by simp; intro e; exact h (by rw [e])⟩
theorem eqInts_ev (l k : List Int) (hl : l.length ≤ 1000) : ∃ b, Ev (fun fu => slices_Equal_int fu l k) b ∧ (b = true ↔ l = k) := by
  unfold slices_Equal_int
  by_cases h : l.length = k.length
  · have hd : (!decide ((l.length : Int) = (k.length : Int))) = false := by simp; omega
    simp only [hd, Bool.false_eq_true, ↓reduceIte]
    obtain ⟨r, r1, r2⟩ := Ev.eqs false l k h (L := slices_Equal_int_l1 l k) (fun fu => by simp [slices_Equal_int_l1]) (fun fu n h1 h2 => by
      have d : decide ((n : Int) < (l.length : Int)) = true := decide_eq_true (by omega)
      simp only [slices_Equal_int_l1, d, ↓reduceIte, ix_get l n h1, ix_get k n h2, Option.bind_some, w_succ n (by omega)]
      by_cases e : l[n] = k[n] <;> simp [e])
    rcases r2 with ⟨rfl, e⟩ | ⟨rfl, e⟩
    · exact ⟨true, Ev.bind r1 (Ev.ret _), by simp [e]⟩
    · exact ⟨false, Ev.bind r1 (Ev.ret _), by simp [e]⟩
  · have hd : (!decide ((l.length : Int) = (k.length : Int))) = true := by simp; omega
    simp only [hd, ↓reduceIte]
    exact ⟨false, Ev.ret _, by simp; intro e; exact h (by rw [e])⟩
theorem alike_ev (a b : TApiLsTree) (hk : a.Keys.length ≤ 1000) (hl : a.Lose.length ≤ 1000) : Ev (fun fu => merge_alike fu a b) (decide (a = b)) := by
  obtain ⟨i, i1, i2⟩ := eqKeys_ev a.Keys b.Keys hk
  obtain ⟨j, j1, j2⟩ := eqInts_ev a.Lose b.Lose hl
  obtain ⟨ak, al, aw⟩ := a
  obtain ⟨bk, bl, bw⟩ := b
  simp only at *
  unfold merge_alike
  by_cases hw : aw = bw
  · subst hw
    simp only [decide_true, ↓reduceIte]
    refine Ev.bind (Ev.bind i1 (Ev.ret _)) ?_
    cases i with
    | false =>
      simp at i2
      exact Ev.of (fun fu => by simp [i2]) (Ev.ret _)
    | true =>
      simp at i2
      refine Ev.bind (a := j) (Ev.bind j1 (Ev.ret _)) (Ev.of (fun fu => ?_) (Ev.ret _))
      cases j <;> simp at j2 <;> simp [i2, j2]
  · exact Ev.of (fun fu => by simp [hw]) (Ev.ret _)
def placeBad (s : TApiMgState) (i : Nat) : Option (Int × Int) :=
  match s.At[i]?, s.Runs[i]? with
  | some n, some l => if n < 0 ∨ (l.length : Int) < n then some ((i : Int), 6) else none
  | _, _ => none
theorem check1_ev (s : TApiMgState) (h : s.At.length = s.Runs.length) (hs : s.At.length ≤ 1000) : Ev (fun fu => merge_Check_l1 s fu 0) (pick (placeBad s) s.At.length 0) := by
  refine Ev.loop (L := merge_Check_l1 s) (len := s.At.length) (placeBad s) (Ev.succ (Ev.of (fun fu => by simp [merge_Check_l1]) (Ev.ret _))) (fun n hn => ?_) s.At.length 0 (by omega)
  have hr : n < s.Runs.length := by omega
  have d : decide ((n : Int) < (s.At.length : Int)) = true := decide_eq_true (by omega)
  have f : ∀ fu, merge_Check_l1 s (fu + 1) (n : Int) = if s.At[n] < 0 ∨ (s.Runs[n].length : Int) < s.At[n] then some (.inr ((n : Int), 6)) else merge_Check_l1 s fu ((n + 1 : Nat) : Int) := fun fu => by
    simp only [merge_Check_l1, d, ↓reduceIte, ix_get s.At n hn, ix_get s.Runs n hr, Option.bind_some, w_succ n (by omega)]
    by_cases e1 : s.At[n] < 0 <;> by_cases e2 : (s.Runs[n].length : Int) < s.At[n] <;> simp [e1, e2]
  simp only [placeBad, List.getElem?_eq_getElem hn, List.getElem?_eq_getElem hr]
  refine ⟨fun r q => Ev.succ (Ev.of f ?_), fun q r k => Ev.succ (Ev.of f ?_)⟩
  · split at q
    · rename_i e; cases q; simp only [if_pos e]; exact Ev.ret _
    · cases q
  · split at q
    · cases q
    · rename_i e; simp only [if_neg e]; exact k
theorem rcheck1_ev (s : TApiMgState) (h : s.At.length = s.Runs.length) (hs : s.At.length ≤ 1000) : Ev (fun fu => bookendref11_Check_l1 s fu 0) (pick (placeBad s) s.At.length 0) := by
  refine Ev.loop (L := bookendref11_Check_l1 s) (len := s.At.length) (placeBad s) (Ev.succ (Ev.of (fun fu => by simp [bookendref11_Check_l1]) (Ev.ret _))) (fun n hn => ?_) s.At.length 0 (by omega)
  have hr : n < s.Runs.length := by omega
  have d : decide ((n : Int) < (s.At.length : Int)) = true := decide_eq_true (by omega)
  have f : ∀ fu, bookendref11_Check_l1 s (fu + 1) (n : Int) = if s.At[n] < 0 ∨ (s.Runs[n].length : Int) < s.At[n] then some (.inr ((n : Int), 6)) else bookendref11_Check_l1 s fu ((n + 1 : Nat) : Int) := fun fu => by
    simp only [bookendref11_Check_l1, d, ↓reduceIte, ix_get s.At n hn, ix_get s.Runs n hr, Option.bind_some, w_succ n (by omega)]
    by_cases e1 : s.At[n] < 0 <;> by_cases e2 : (s.Runs[n].length : Int) < s.At[n] <;> simp [e1, e2]
  simp only [placeBad, List.getElem?_eq_getElem hn, List.getElem?_eq_getElem hr]
  refine ⟨fun r q => Ev.succ (Ev.of f ?_), fun q r k => Ev.succ (Ev.of f ?_)⟩
  · split at q
    · rename_i e; cases q; simp only [if_pos e]; exact Ev.ret _
    · cases q
  · split at q
    · cases q
    · rename_i e; simp only [if_neg e]; exact k
theorem places (s : TApiMgState) (h : s.At.length = s.Runs.length) (hp : pick (placeBad s) s.At.length 0 = .inl ()) : ∃ a, s.At = ints a ∧ At s.Runs a := by
  have hb : ∀ i (h1 : i < s.At.length) (h2 : i < s.Runs.length), 0 ≤ s.At[i] ∧ s.At[i] ≤ (s.Runs[i].length : Int) := by
    intro i h1 h2
    have := pick_inl hp i (by omega) (by omega)
    simp only [placeBad, List.getElem?_eq_getElem h1, List.getElem?_eq_getElem h2] at this
    split at this
    · cases this
    · omega
  refine ⟨s.At.map Int.toNat, ?_, by simp [h], fun i h1 h2 => ?_⟩
  · refine List.ext_getElem (by simp [ints]) fun i h1 h2 => ?_
    have := (hb i h1 (by omega)).1
    simp [ints]; omega
  · have := hb i (by omega) h1
    simp; omega
def readBad (runs : List (List TApiEntry)) (a : List Nat) (w : Nat) (i : Nat) : Option (Int × Int) :=
  match runs[i]?, a[i]?, runs[w]?, a[w]? with
  | some l, some (n + 1), some r, some m =>
    match l[n]?, r[m]? with
    | some x, some y => if bl y.Key x.Key = true ∨ (x.Key = y.Key ∧ w < i) then some ((w : Int), 6) else none
    | _, _ => none
  | _, _, _, _ => none
theorem cmpKey (fu : Nat) (x y : List UInt8) : cmp_Compare_string fu x y = some (if bl x y = true then -1 else if x = y then 0 else 1) := by
  simp only [cmp_Compare_string, cmp_isNaN_string, beq_self_eq_true, Bool.not_true, Option.bind_some, Bool.false_eq_true, ↓reduceIte, bl]
  by_cases h : Op.bytesLess x y = true
  · simp [h]
  · by_cases e : x = y
    · subst e; have := bl_irr x; simp only [bl] at this; simp [this]
    · simp [h, e]
theorem cmpInt (fu : Nat) (x y : Int) : cmp_Compare_int fu x y = some (if x < y then -1 else if y < x then 1 else 0) := by
  simp only [cmp_Compare_int, cmp_isNaN_int, decide_true, Bool.not_true, Option.bind_some, Bool.false_eq_true, ↓reduceIte, decide_eq_true_eq]
  split
  · rfl
  · split <;> rfl
theorem cmpOr_ev (x y : Int) : Ev (fun fu => cmp_Or_int fu [x, y]) (if x ≠ 0 then x else y) := by
  unfold cmp_Or_int
  by_cases hx : x = 0
  · subst hx
    by_cases hy : y = 0
    · subst hy
      refine Ev.bind (a := .inl ()) (Ev.succ (Ev.succ (Ev.succ (Ev.of (fun fu => ?_) (Ev.ret _))))) (Ev.of (fun fu => by simp) (Ev.ret _))
      simp [cmp_Or_int_l1, ix, wr]
    · refine Ev.bind (a := .inr y) (Ev.succ (Ev.succ (Ev.of (fun fu => ?_) (Ev.ret _)))) (Ev.of (fun fu => by simp) (Ev.ret _))
      simp [cmp_Or_int_l1, ix, wr, hy]
  · refine Ev.bind (a := .inr x) (Ev.succ (Ev.of (fun fu => ?_) (Ev.ret _))) (Ev.of (fun fu => by simp [hx]) (Ev.ret _))
    simp [cmp_Or_int_l1, ix, hx]
theorem check2_ev (s : TApiMgState) (a : List Nat) (hA : s.At = ints a) (ha : At s.Runs a) (hs : a.length ≤ 1000) (hlen : ∀ l ∈ s.Runs, l.length ≤ 6000) (w : Nat) (hw : w < s.Runs.length) (hwa : w < a.length) (hq : a[w] < s.Runs[w].length) :
    Ev (fun fu => merge_Check_l2 s ((w : Int), s.Runs[w][a[w]].Key, 0) fu 0) (pick (readBad s.Runs a w) a.length 0) := by
  have hl : s.At.length = a.length := by rw [hA, ints_len]
  refine Ev.loop (L := merge_Check_l2 s ((w : Int), s.Runs[w][a[w]].Key, 0)) (len := a.length) (readBad s.Runs a w) (Ev.succ (Ev.of (fun fu => by simp [merge_Check_l2, hl]) (Ev.ret _))) (fun n hn => ?_) a.length 0 (by omega)
  have hr : n < s.Runs.length := by rw [← ha.1]; exact hn
  have d : decide ((n : Int) < (s.At.length : Int)) = true := decide_eq_true (by omega)
  have ixA : ix s.At (n : Int) = some ((a[n] : Nat) : Int) := by rw [hA]; exact ix_ints a n hn
  have hle := ha.2 n hr hn
  have h6 := hlen _ (List.getElem_mem hr)
  simp only [readBad, List.getElem?_eq_getElem hr, List.getElem?_eq_getElem hn, List.getElem?_eq_getElem hw, List.getElem?_eq_getElem hwa]
  cases hk : a[n] with
  | zero =>
    have f : ∀ fu, merge_Check_l2 s ((w : Int), s.Runs[w][a[w]].Key, 0) (fu + 1) (n : Int) = merge_Check_l2 s ((w : Int), s.Runs[w][a[w]].Key, 0) fu ((n + 1 : Nat) : Int) := fun fu => by
      simp only [merge_Check_l2, d, ↓reduceIte, ixA, hk, Option.bind_some, w_succ n (by omega)]
      simp
    simp only
    exact ⟨fun r q => by (simp at q), fun _ r k => Ev.succ (Ev.of f k)⟩
  | succ m =>
    have hm : m < s.Runs[n].length := by omega
    have w1 : IntKind.i64.wrap (((m + 1 : Nat) : Int) - 1) = (m : Int) := by rw [wr (by omega) (by omega)]; omega
    have d0 : decide ((0 : Int) < ((m + 1 : Nat) : Int)) = true := decide_eq_true (by omega)
    simp only [List.getElem?_eq_getElem hm, List.getElem?_eq_getElem hq]
    generalize hx : s.Runs[n][m] = x
    generalize hy : s.Runs[w][a[w]] = y
    have f : ∀ fu, merge_Check_l2 s ((w : Int), y.Key, 0) (fu + 1) (n : Int) = ((cmp_Or_int fu [if bl x.Key y.Key = true then -1 else if x.Key = y.Key then 0 else 1, if (n : Int) < (w : Int) then -1 else if (w : Int) < (n : Int) then 1 else 0]).bind fun vr61 => some (decide (0 < vr61))).bind fun b62 => if b62 = true then some (.inr ((w : Int), 6)) else merge_Check_l2 s ((w : Int), y.Key, 0) fu ((n + 1 : Nat) : Int) := fun fu => by
      simp only [merge_Check_l2, d, ↓reduceIte, ixA, hk, Option.bind_some, w_succ n (by omega), d0, ix_get s.Runs n hr, w1, ix_get s.Runs[n] m hm, hx, cmpKey, cmpInt]
    have o := cmpOr_ev (if bl x.Key y.Key = true then -1 else if x.Key = y.Key then 0 else 1) (if (n : Int) < (w : Int) then -1 else if (w : Int) < (n : Int) then 1 else 0)
    have hiff : decide (0 < (if (if bl x.Key y.Key = true then (-1 : Int) else if x.Key = y.Key then 0 else 1) ≠ 0 then (if bl x.Key y.Key = true then (-1 : Int) else if x.Key = y.Key then 0 else 1) else (if (n : Int) < (w : Int) then -1 else if (w : Int) < (n : Int) then 1 else 0))) = decide (bl y.Key x.Key = true ∨ (x.Key = y.Key ∧ w < n)) := by
      refine decide_eq_decide.2 ?_
      rcases bl_tri x.Key y.Key with h | h | h
      · have hne : x.Key ≠ y.Key := fun e => by rw [e, bl_irr] at h; cases h
        simp [h, bl_asym h, hne]
      · simp only [h, bl_irr, Bool.false_eq_true, ↓reduceIte, ne_eq, not_true_eq_false, true_and, false_or]
        by_cases q : (n : Int) < (w : Int)
        · rw [if_pos q]; omega
        · rw [if_neg q]
          by_cases q2 : (w : Int) < (n : Int)
          · rw [if_pos q2]; omega
          · rw [if_neg q2]; omega
      · have hne : x.Key ≠ y.Key := fun e => by rw [e, bl_irr] at h; cases h
        simp [h, bl_asym h, hne]
    refine ⟨fun r q => Ev.succ (Ev.of f ?_), fun q r k => Ev.succ (Ev.of f ?_)⟩
    · split at q
      · rename_i e; cases q
        refine Ev.bind (a := true) (Ev.bind o (Ev.of (fun fu => by rw [hiff, decide_eq_true e]) (Ev.ret _))) (Ev.ret _)
      · cases q
    · split at q
      · cases q
      · rename_i e
        refine Ev.bind (a := false) (Ev.bind o (Ev.of (fun fu => by rw [hiff, decide_eq_false e]) (Ev.ret _))) ?_
        simp only [Bool.false_eq_true, ↓reduceIte]; exact k
theorem rcheck2_ev (s : TApiMgState) (a : List Nat) (hA : s.At = ints a) (ha : At s.Runs a) (hs : a.length ≤ 1000) (hlen : ∀ l ∈ s.Runs, l.length ≤ 6000) (w : Nat) (hw : w < s.Runs.length) (hwa : w < a.length) (hq : a[w] < s.Runs[w].length) :
    Ev (fun fu => bookendref11_Check_l2 s (w : Int) fu 0) (pick (readBad s.Runs a w) a.length 0) := by
  have hl : s.Runs.length = a.length := by rw [ha.1]
  have dw : decide ((0 : Int) ≤ (w : Int)) = true := decide_eq_true (by omega)
  refine Ev.loop (L := bookendref11_Check_l2 s (w : Int)) (len := a.length) (readBad s.Runs a w) (Ev.succ (Ev.of (fun fu => by simp [bookendref11_Check_l2, hl]) (Ev.ret _))) (fun n hn => ?_) a.length 0 (by omega)
  have hr : n < s.Runs.length := by rw [← ha.1]; exact hn
  have d : decide ((n : Int) < (s.Runs.length : Int)) = true := decide_eq_true (by omega)
  have ixA : ix s.At (n : Int) = some ((a[n] : Nat) : Int) := by rw [hA]; exact ix_ints a n hn
  have ixW : ix s.At (w : Int) = some ((a[w] : Nat) : Int) := by rw [hA]; exact ix_ints a w hwa
  have hle := ha.2 n hr hn
  have h6 := hlen _ (List.getElem_mem hr)
  simp only [readBad, List.getElem?_eq_getElem hr, List.getElem?_eq_getElem hn, List.getElem?_eq_getElem hw, List.getElem?_eq_getElem hwa]
  cases hk : a[n] with
  | zero =>
    have f : ∀ fu, bookendref11_Check_l2 s (w : Int) (fu + 1) (n : Int) = bookendref11_Check_l2 s (w : Int) fu ((n + 1 : Nat) : Int) := fun fu => by
      simp only [bookendref11_Check_l2, d, dw, ↓reduceIte, ixA, hk, Option.bind_some, w_succ n (by omega)]
      simp
    simp only
    exact ⟨fun r q => by (simp at q), fun _ r k => Ev.succ (Ev.of f k)⟩
  | succ m =>
    have hm : m < s.Runs[n].length := by omega
    have w1 : IntKind.i64.wrap (((m + 1 : Nat) : Int) - 1) = (m : Int) := by rw [wr (by omega) (by omega)]; omega
    have d0 : decide (((m + 1 : Nat) : Int) = 0) = false := decide_eq_false (by omega)
    simp only [List.getElem?_eq_getElem hm, List.getElem?_eq_getElem hq]
    generalize hx : s.Runs[n][m] = x
    generalize hy : s.Runs[w][a[w]] = y
    have f : ∀ fu, bookendref11_Check_l2 s (w : Int) (fu + 1) (n : Int) = if bl y.Key x.Key = true ∨ (x.Key = y.Key ∧ w < n) then some (.inr ((w : Int), 6)) else bookendref11_Check_l2 s (w : Int) fu ((n + 1 : Nat) : Int) := fun fu => by
      have c1 : decide ((w : Int) < (n : Int)) = decide (w < n) := decide_eq_decide.2 (by omega)
      simp only [bookendref11_Check_l2, d, dw, ↓reduceIte, ixA, ixW, hk, Option.bind_some, w_succ n (by omega), d0, Bool.false_eq_true, ix_get s.Runs n hr, ix_get s.Runs w hw, w1, ix_get s.Runs[n] m hm, ix_get s.Runs[w] a[w] hq, hx, hy, c1]
      rcases bl_tri x.Key y.Key with h | h | h
      · have hne : x.Key ≠ y.Key := fun e => by rw [e, bl_irr] at h; cases h
        have h' : Op.bytesLess x.Key y.Key = true := h
        simp [h', bl_asym h, hne]
      · by_cases q : w < n <;> simp [h, bl_irr, q]
      · have hne : x.Key ≠ y.Key := fun e => by rw [e, bl_irr] at h; cases h
        have h' : Op.bytesLess x.Key y.Key = false := bl_asym h
        simp [h, h', hne]
    refine ⟨fun r q => Ev.succ (Ev.of f ?_), fun q r k => Ev.succ (Ev.of f ?_)⟩
    · split at q
      · rename_i e; cases q; simp only [if_pos e]; exact Ev.ret _
      · cases q
    · split at q
      · cases q
      · rename_i e; simp only [if_neg e]; exact k
theorem goodList_l1 (l : List TApiEntry) (hg : GoodRun l) (m : Nat) : ∀ n : Nat, n + m = l.length → Ev (fun fu => entries_CheckList_l1 l fu (n : Int)) (.inl ()) := by
  have hl := hg.1
  induction m with
  | zero => intro n hn; exact Ev.succ (Ev.of (fun fu => by simp [entries_CheckList_l1, show ¬ (n : Int) < (l.length : Int) by omega]) (Ev.ret _))
  | succ m ih =>
    intro n hn
    have hnl : n < l.length := by omega
    obtain ⟨hc, hb⟩ := hg.2 n hnl
    refine Ev.succ (Ev.of (fun fu => ?_) (ih (n + 1) (by omega)))
    by_cases h0 : 0 < n
    · have w2 : IntKind.i64.wrap ((n : Int) - 1) = ((n - 1 : Nat) : Int) := by rw [wr (by omega) (by omega)]; omega
      have hb' := hb h0
      have hnb1 : Op.bytesLess l[n].Key l[n - 1].Key = false := bl_asym hb'
      have hnb2 : ¬ l[n].Key = l[n - 1].Key := fun e => by rw [e, bl_irr] at hb'; cases hb'
      simp only [entries_CheckList_l1, entries_Check_eq, hc, w2, ix_get l n hnl, ix_get l (n - 1) (by omega), w_succ n (by omega)]
      simp [hnl, h0, hnb1, hnb2, hc, -Int.natCast_add]
    · simp only [entries_CheckList_l1, entries_Check_eq, hc, ix_get l n hnl, w_succ n (by omega)]
      simp [hnl, h0, hc, -Int.natCast_add]
theorem goodList (l : List TApiEntry) (hg : GoodRun l) : Ev (fun fu => entries_CheckList fu l) (0, 0) := by
  have hl := hg.1
  unfold entries_CheckList
  have hd : ¬ decide ((5000 : Int) < (l.length : Int)) = true := by simp; omega
  simp only [if_neg hd]
  exact Ev.bind (goodList_l1 l hg l.length 0 (by omega)) (Ev.ret _)
theorem goodRuns_l1 (runs : List (List TApiEntry)) (hg : GoodRuns runs) (m : Nat) : ∀ n : Nat, n + m = runs.length → Ev (fun fu => merge_check_l1 runs fu (n : Int)) (.inl ()) := by
  have hl := hg.2.1
  induction m with
  | zero => intro n hn; exact Ev.succ (Ev.of (fun fu => by simp [merge_check_l1, show ¬ (n : Int) < (runs.length : Int) by omega]) (Ev.ret _))
  | succ m ih =>
    intro n hn
    have hnl : n < runs.length := by omega
    have f : ∀ fu, merge_check_l1 runs (fu + 1) (n : Int) = (entries_CheckList fu runs[n]).bind fun vr => if vr.2 = 0 then merge_check_l1 runs fu ((n + 1 : Nat) : Int) else some (.inr ((n : Int), vr.2)) := by
      intro fu
      simp only [merge_check_l1, ix_get runs n hnl, w_succ n (by omega)]
      simp [hnl]
    exact Ev.succ (Ev.of f (Ev.bind (goodList _ (hg.2.2 _ (List.getElem_mem hnl))) (ih (n + 1) (by omega))))
theorem goodCheck (runs : List (List TApiEntry)) (hg : GoodRuns runs) {c : Int × Int} (h : Ev (fun fu => merge_check fu runs) c) : c = (0, 0) := by
  refine Ev.uniq h ?_
  have h0 := hg.1
  have hl := hg.2.1
  unfold merge_check
  have e1 : ¬ decide ((runs.length : Int) = 0) = true := by simp; intro e; simp [e] at h0
  have e2 : ¬ decide ((32 : Int) < (runs.length : Int)) = true := by simp; omega
  simp only [if_neg e1, if_neg e2]
  exact Ev.bind (goodRuns_l1 runs hg runs.length 0 (by omega)) (Ev.ret _)
def Ok (s : TApiMgState) (a : List Nat) : Prop := GoodRuns s.Runs ∧ At s.Runs a ∧ s = stateOf s.Runs a ∧ ((∃ i, ∃ h : i < s.Runs.length, ∃ h2 : i < a.length, a[i] ≠ s.Runs[i].length) → pick (readBad s.Runs a (wn s.Runs a)) a.length 0 = .inl ())
theorem mgCheck_ev (s : TApiMgState) (hs : Small s) : ∃ r, Ev (fun fu => merge_Check fu s) r ∧ Ev (fun fu => bookendref11_Check fu s) r ∧ ((r = (0, 0) ∧ ∃ a, Ok s a) ∨ r.2 ≠ 0) ∧ (∀ a, Ok s a → r = (0, 0)) := by
  obtain ⟨c, c1, c2, c3⟩ := check_ev s.Runs hs.near.fits (by have := hs.near.1; omega)
  unfold merge_Check bookendref11_Check
  rcases c3 with ⟨rfl, hg⟩ | hc
  · have h0 := hg.1
    have h32 := hg.2.1
    by_cases hl : s.At.length = s.Runs.length
    · have hd : decide ((s.At.length : Int) = (s.Runs.length : Int)) = true := decide_eq_true (by omega)
      have l1 := check1_ev s hl hs.at'
      have l2 := rcheck1_ev s hl hs.at'
      cases hp : pick (placeBad s) s.At.length 0 with
      | inr r =>
        obtain ⟨i, h1, h2, h3⟩ := pick_inr hp
        rw [hp] at l1 l2
        refine ⟨r, Ev.bind c1 ?_, Ev.bind c2 ?_, .inr ?_, fun a hok => ?_⟩
        · simp only [decide_true, Bool.not_true, Bool.false_eq_true, ↓reduceIte, hd]; exact Ev.bind l1 (Ev.ret _)
        · simp only [decide_true, Bool.not_true, Bool.false_eq_true, ↓reduceIte, hd]; exact Ev.bind l2 (Ev.ret _)
        · simp only [placeBad] at h3
          split at h3
          · split at h3
            · cases h3; simp
            · cases h3
          · cases h3
        · exfalso
          have e : s.At = ints a := by rw [hok.2.2.1]; rfl
          have h2' : i < s.Runs.length := by omega
          have h2a : i < a.length := by rw [hok.2.1.1]; exact h2'
          have hle := hok.2.1.2 i h2' h2a
          simp only [placeBad, e] at h3
          rw [show (ints a)[i]? = some ((a[i] : Nat) : Int) by simp [ints, h2a], List.getElem?_eq_getElem h2'] at h3
          simp only at h3
          rw [if_neg (by omega)] at h3
          cases h3
      | inl u =>
        rw [hp] at l1 l2
        obtain ⟨a, hA, ha⟩ := places s hl hp
        have hal : a.length = s.Runs.length := ha.1
        have tr := tree_ev s.Runs a ha h0 h32
        have st := state_ev s.Runs a ha h0 h32
        have al := alike_ev s.Tree (treeOf (keysOf s.Runs a)) hs.keys hs.lose
        obtain ⟨q, q1, q2⟩ := sameTree_ev s.Tree (treeOf (keysOf s.Runs a)) (by have := hs.keys; omega) (by have := hs.lose; omega)
        by_cases ht : s.Tree = treeOf (keysOf s.Runs a)
        · rw [decide_eq_true ht] at al
          obtain rfl : q = true := q2.2 ht
          have hst : s = stateOf s.Runs a := by
            obtain ⟨r, t, u⟩ := s
            simp only at hA ht ⊢
            simp only [stateOf, hA, ht]
          have hf := first_ev s.Runs a ha h0 h32
          have hwin := winner_ev (keysOf s.Runs a) (keysOf_plain s.Runs a) (by rw [keysOf_len]; exact h0) (by rw [keysOf_len]; exact h32)
          rcases turn s.Runs a ha h0 with ⟨hfin, hall⟩ | ⟨hw, hwa, hq, hk⟩
          · rw [if_pos hfin] at hf hwin
            have rl2 : Ev (fun fu => bookendref11_Check_l2 s (-1) fu 0) (.inl ()) := Ev.succ (Ev.of (fun fu => by simp [bookendref11_Check_l2]) (Ev.ret _))
            refine ⟨(0, 0), Ev.bind c1 ?_, Ev.bind c2 ?_, .inl ⟨rfl, a, hg, ha, hst, ?_⟩, fun _ _ => rfl⟩
            · simp only [decide_true, Bool.not_true, Bool.false_eq_true, ↓reduceIte, hd]
              rw [hA]
              refine Ev.bind l1 (Ev.bind tr (Ev.bind al ?_))
              simp only [Bool.not_true, Bool.false_eq_true, ↓reduceIte]
              rw [ht]
              exact Ev.bind hwin (Ev.of (fun fu => by simp) (Ev.ret _))
            · simp only [decide_true, Bool.not_true, Bool.false_eq_true, ↓reduceIte, hd]
              rw [hA]
              refine Ev.bind l2 (Ev.bind st (Ev.bind q1 ?_))
              simp only [Bool.not_true, Bool.false_eq_true, ↓reduceIte]
              exact Ev.bind hf (Ev.bind rl2 (Ev.ret _))
            · rintro ⟨i, h1, h2, h3⟩; exact absurd (hall i h1 h2) h3
          · rw [if_neg (by rw [hk]; simp)] at hf hwin
            rw [hk] at hwin
            have k1 := check2_ev s a hA ha (by rw [hal]; omega) hs.near.2.1 (wn s.Runs a) hw hwa hq
            have k2 := rcheck2_ev s a hA ha (by rw [hal]; omega) hs.near.2.1 (wn s.Runs a) hw hwa hq
            have e1 : Ev (fun fu => merge_Check fu s) (match pick (readBad s.Runs a (wn s.Runs a)) a.length 0 with | .inl _ => (0, 0) | .inr y => y) := by
              unfold merge_Check
              refine Ev.bind c1 ?_
              simp only [decide_true, Bool.not_true, Bool.false_eq_true, ↓reduceIte, hd]
              rw [hA]
              refine Ev.bind l1 (Ev.bind tr (Ev.bind al ?_))
              simp only [Bool.not_true, Bool.false_eq_true, ↓reduceIte]
              rw [ht]
              refine Ev.bind hwin ?_
              simp only [decide_true, Bool.not_true, Bool.false_eq_true, ↓reduceIte]
              refine Ev.bind k1 ?_
              cases pick (readBad s.Runs a (wn s.Runs a)) a.length 0 <;> exact Ev.ret _
            have e2 : Ev (fun fu => bookendref11_Check fu s) (match pick (readBad s.Runs a (wn s.Runs a)) a.length 0 with | .inl _ => (0, 0) | .inr y => y) := by
              unfold bookendref11_Check
              refine Ev.bind c2 ?_
              simp only [decide_true, Bool.not_true, Bool.false_eq_true, ↓reduceIte, hd]
              rw [hA]
              refine Ev.bind l2 (Ev.bind st (Ev.bind q1 ?_))
              simp only [Bool.not_true, Bool.false_eq_true, ↓reduceIte]
              refine Ev.bind hf (Ev.bind k2 ?_)
              cases pick (readBad s.Runs a (wn s.Runs a)) a.length 0 <;> exact Ev.ret _
            refine ⟨_, e1, e2, ?_, fun a' hok => ?_⟩
            · cases hpk : pick (readBad s.Runs a (wn s.Runs a)) a.length 0 with
              | inl u => exact .inl ⟨rfl, a, hg, ha, hst, fun _ => hpk⟩
              | inr y =>
                right
                obtain ⟨i, h1, h2, h3⟩ := pick_inr hpk
                simp only [readBad] at h3
                split at h3
                · split at h3
                  · split at h3
                    · cases h3; simp
                    · cases h3
                  · cases h3
                · cases h3
            · have : ints a' = ints a := by
                have e : s.At = ints a' := by rw [hok.2.2.1]; rfl
                rw [← e, hA]
              have : a' = a := by
                refine List.map_inj_right (fun x y h => ?_) |>.1 this
                exact Int.ofNat.inj h
              subst this
              rw [hok.2.2.2 ⟨_, hw, hwa, by omega⟩]
        · rw [decide_eq_false ht] at al
          obtain rfl : q = false := by cases q; rfl; exact absurd (q2.1 rfl) ht
          refine ⟨(-1, 6), Ev.bind c1 ?_, Ev.bind c2 ?_, .inr (by simp), fun a' hok => ?_⟩
          · simp only [decide_true, Bool.not_true, Bool.false_eq_true, ↓reduceIte, hd]
            rw [hA]
            refine Ev.bind l1 (Ev.bind tr (Ev.bind al (Ev.ret _)))
          · simp only [decide_true, Bool.not_true, Bool.false_eq_true, ↓reduceIte, hd]
            rw [hA]
            refine Ev.bind l2 (Ev.bind st (Ev.bind q1 (Ev.ret _)))
          · exfalso
            have : ints a' = ints a := by
              have e : s.At = ints a' := by rw [hok.2.2.1]; rfl
              rw [← e, hA]
            have : a' = a := by
              refine List.map_inj_right (fun x y h => ?_) |>.1 this
              exact Int.ofNat.inj h
            subst this
            exact ht (by rw [hok.2.2.1]; rfl)
    · have hd : decide ((s.At.length : Int) = (s.Runs.length : Int)) = false := decide_eq_false (by omega)
      refine ⟨(-1, 6), Ev.bind c1 ?_, Ev.bind c2 ?_, .inr (by simp), fun a hok => ?_⟩
      · simp only [decide_true, Bool.not_true, Bool.false_eq_true, ↓reduceIte, hd, Bool.not_false]; exact Ev.ret _
      · simp only [decide_true, Bool.not_true, Bool.false_eq_true, ↓reduceIte, hd, Bool.not_false]; exact Ev.ret _
      · exfalso; apply hl; rw [hok.2.2.1]; simp [stateOf, ints_len, hok.2.1.1]
  · refine ⟨c, Ev.bind c1 ?_, Ev.bind c2 ?_, .inr hc, fun a hok => ?_⟩
    · simp only [decide_eq_false hc, Bool.not_false, ↓reduceIte]; exact Ev.ret _
    · simp only [decide_eq_false hc, Bool.not_false, ↓reduceIte]; exact Ev.ret _
    · exfalso
      exact hc (by rw [goodCheck s.Runs hok.1 c1])
end Go.T
end
section
namespace Go.T
open Go Go.AM
theorem Ok.eq {s : TApiMgState} {a : List Nat} (h : Ok s a) : s = stateOf s.Runs a := h.2.2.1
def noEntry : TApiEntry := ⟨[], [], false, 0⟩
theorem cloneRuns (fu : Nat) (runs : List (List TApiEntry)) (h : GoodRuns runs) : slices_Clone_apiEntry fu runs = some runs := by
  have h0 := h.1
  have h32 := h.2.1
  have hne : runs.isEmpty = false := by cases runs; simp at h0; rfl
  have g2 : 2 * ((0 + runs.length) * 24) ≤ 281474976710656 := by omega
  simp only [slices_Clone_apiEntry, hne, Bool.false_eq_true, ↓reduceIte, if_pos g2]
theorem cloneInts2 (fu : Nat) (l : List Int) (h : l.length ≤ 100000) : slices_Clone_int_2 fu l = some l := by
  unfold slices_Clone_int_2
  cases l with
  | nil => rfl
  | cons x l =>
    have g2 : 2 * ((0 + (x :: l).length) * 8) ≤ 281474976710656 := by omega
    simp only [List.isEmpty_cons, Bool.false_eq_true, ↓reduceIte, if_pos g2]
theorem at_len {runs : List (List TApiEntry)} {a : List Nat} (h : At runs a) : (ints a).length = runs.length := by rw [ints_len, h.1]
def nextOf (runs : List (List TApiEntry)) (a : List Nat) : TApiEntry × Int × TApiMgState × Int :=
  if rest runs a = 0 then (noEntry, 0, noState, 12) else
    ((runs[wn runs a]?.getD [])[a[wn runs a]?.getD 0]?.getD noEntry, (wn runs a : Int), stateOf runs (stp a (wn runs a)), 0)
theorem rest_fin (runs : List (List TApiEntry)) (a : List Nat) (hall : ∀ i (h1 : i < runs.length) (h2 : i < a.length), a[i] = runs[i].length) : rest runs a = 0 := rest_zero runs a hall
theorem rest_go (runs : List (List TApiEntry)) (a : List Nat) (hw : wn runs a < runs.length) (hwa : wn runs a < a.length) (hq : a[wn runs a] < runs[wn runs a].length) : rest runs a ≠ 0 := by
  have := rest_stp runs a _ hw hwa hq; omega
theorem nextOf_go (runs : List (List TApiEntry)) (a : List Nat) (hw : wn runs a < runs.length) (hwa : wn runs a < a.length) (hq : a[wn runs a] < runs[wn runs a].length) :
    nextOf runs a = (runs[wn runs a][a[wn runs a]], (wn runs a : Int), stateOf runs (stp a (wn runs a)), 0) := by
  unfold nextOf
  rw [if_neg (rest_go runs a hw hwa hq)]
  simp only [List.getElem?_eq_getElem hw, List.getElem?_eq_getElem hwa, Option.getD_some, List.getElem?_eq_getElem hq]
theorem next_ev (runs : List (List TApiEntry)) (a : List Nat) (hg : GoodRuns runs) (ha : At runs a) (hc : Ev (fun fu => merge_Check fu (stateOf runs a)) (0, 0)) : Ev (fun fu => merge_Next fu (stateOf runs a)) (nextOf runs a) := by
  have h0 := hg.1
  have h32 := hg.2.1
  have hil : (ints a).length ≤ 100000 := by rw [at_len ha]; omega
  unfold merge_Next
  refine Ev.bind hc ?_
  simp only [decide_true, Bool.not_true, Bool.false_eq_true, ↓reduceIte, stateOf, cloneRuns _ _ hg, cloneInts2 _ _ hil, Option.bind_some]
  rcases turn runs a ha h0 with ⟨hd, hall⟩ | ⟨hw, hwa, hq, hk⟩
  · refine Ev.bind (peek_fin runs a h0 h32 hd _ rfl (ints a)) (Ev.of (fun fu => ?_) (Ev.ret _))
    simp only [nextOf, rest_fin runs a hall, ↓reduceIte]; rfl
  · refine Ev.bind (peek_go runs a h0 h32 hw hwa hq hk _ rfl) ?_
    have hle : runs[wn runs a].length ≤ 5000 := (hg.2.2 _ (List.getElem_mem hw)).1
    have hs' : (ints a).set (wn runs a) ((a[wn runs a] + 1 : Nat) : Int) = ints (stp a (wn runs a)) := by rw [ints_set, stp_eq a _ hwa]
    have hix : ix (ints (stp a (wn runs a))) ((wn runs a : Nat) : Int) = some ((a[wn runs a] + 1 : Nat) : Int) := by
      rw [ix_ints _ _ (by rw [stp_len]; exact hwa)]; simp [stp_eq a _ hwa]
    have hnx : ∀ fu, merge_next fu runs[wn runs a] ((a[wn runs a] + 1 : Nat) : Int) = some (kAt runs[wn runs a] (a[wn runs a] + 1)) := fun fu => next_eq fu _ _ (by omega)
    simp only [decide_true, Bool.not_true, Bool.false_eq_true, ↓reduceIte, ix_ints a _ hwa, ix_get runs _ hw, Option.bind_some, Int.toNat_natCast, w_succ _ (show a[wn runs a] < 9223372036854775807 by omega), hs', hix, hnx]
    obtain ⟨g, hrd⟩ := read_ev runs a hg ha hw hwa hq hk _ rfl
    rw [nextOf_go runs a hw hwa hq]
    exact Ev.bind hrd (Ev.ret _)
theorem rnext_ev (runs : List (List TApiEntry)) (a : List Nat) (hg : GoodRuns runs) (ha : At runs a) (hc : Ev (fun fu => bookendref11_Check fu (stateOf runs a)) (0, 0)) : Ev (fun fu => bookendref11_Next fu (stateOf runs a)) (nextOf runs a) := by
  have h0 := hg.1
  have h32 := hg.2.1
  have g2 : 2 * ((0 + (ints a).length) * 8) ≤ 281474976710656 := by rw [at_len ha]; omega
  unfold bookendref11_Next
  refine Ev.bind hc ?_
  have hf := first_ev runs a ha h0 h32
  simp only [decide_true, Bool.not_true, Bool.false_eq_true, ↓reduceIte, stateOf, if_pos g2]
  refine Ev.bind hf ?_
  rcases turn runs a ha h0 with ⟨hd, hall⟩ | ⟨hw, hwa, hq, hk⟩
  · rw [if_pos hd]
    refine Ev.of (fun fu => ?_) (Ev.ret _)
    simp only [nextOf, rest_fin runs a hall, ↓reduceIte]; rfl
  · rw [if_neg (by rw [hk]; simp)]
    have hle : runs[wn runs a].length ≤ 5000 := (hg.2.2 _ (List.getElem_mem hw)).1
    have hs' : (ints a).set (wn runs a) ((a[wn runs a] + 1 : Nat) : Int) = ints (stp a (wn runs a)) := by rw [ints_set, stp_eq a _ hwa]
    have hdw : decide (((wn runs a : Nat) : Int) < 0) = false := decide_eq_false (by omega)
    simp only [if_pos g2, hdw, Bool.false_eq_true, ↓reduceIte, ix_ints a _ hwa, ix_get runs _ hw, ix_get _ _ hq, Option.bind_some, Int.toNat_natCast, w_succ _ (show a[wn runs a] < 9223372036854775807 by omega), hs']
    rw [nextOf_go runs a hw hwa hq]
    exact Ev.bind (state_ev runs _ (stp_at runs a _ ha hw hwa hq) h0 h32) (Ev.ret _)
theorem rest_drop (runs : List (List TApiEntry)) (a : List Nat) (ha : At runs a) (n : Nat) (h : n < runs.length) (h2 : n < a.length) : rest (runs.drop n) (a.drop n) = (runs[n].length - a[n]) + rest (runs.drop (n + 1)) (a.drop (n + 1)) := by
  unfold rest
  rw [List.drop_eq_getElem_cons h, List.drop_eq_getElem_cons h2, List.zipWith_cons_cons, List.sum_cons]
theorem left_l1 (runs : List (List TApiEntry)) (hg : GoodRuns runs) (a : List Nat) (ha : At runs a) (m : Nat) : ∀ (n c : Nat), n + m = runs.length → c ≤ 1000000 * n →
    Ev (fun fu => merge_Left_l1 (stateOf runs a) fu (c : Int) (n : Int)) ((c + rest (runs.drop n) (a.drop n) : Nat) : Int) := by
  have h32 := hg.2.1
  induction m with
  | zero =>
    intro n c hn hc
    obtain rfl : n = runs.length := by omega
    refine Ev.succ (Ev.of (fun fu => ?_) (Ev.ret _))
    simp [merge_Left_l1, stateOf, rest]
  | succ m ih =>
    intro n c hn hc
    have hr : n < runs.length := by omega
    have h2 : n < a.length := by rw [ha.1]; exact hr
    have hle := ha.2 n hr h2
    have h5 := (hg.2.2 _ (List.getElem_mem hr)).1
    have w1 : IntKind.i64.wrap ((runs[n].length : Int) - ((a[n] : Nat) : Int)) = ((runs[n].length - a[n] : Nat) : Int) := by rw [wr (by omega) (by omega)]; omega
    have w2 : IntKind.i64.wrap ((c : Int) + ((runs[n].length - a[n] : Nat) : Int)) = ((c + (runs[n].length - a[n]) : Nat) : Int) := by rw [wr (by omega) (by omega)]; omega
    have d : decide ((n : Int) < (runs.length : Int)) = true := decide_eq_true (by omega)
    have := ih (n + 1) (c + (runs[n].length - a[n])) (by omega) (by omega)
    rw [rest_drop runs a ha n hr h2, ← Nat.add_assoc]
    refine Ev.succ (Ev.of (fun fu => ?_) this)
    have e1 : (stateOf runs a).Runs = runs := rfl
    have e2 : (stateOf runs a).At = ints a := rfl
    simp only [merge_Left_l1, e1, e2, d, ↓reduceIte, ix_get runs n hr, ix_ints a n h2, Option.bind_some, w1, w2, w_succ n (by omega)]
theorem rleft_l1 (runs : List (List TApiEntry)) (hg : GoodRuns runs) (a : List Nat) (ha : At runs a) (m : Nat) : ∀ (n c : Nat), n + m = runs.length → c ≤ 1000000 * n →
    Ev (fun fu => bookendref11_Left_l1 (stateOf runs a) fu (c : Int) (n : Int)) ((c + rest (runs.drop n) (a.drop n) : Nat) : Int) := by
  have h32 := hg.2.1
  induction m with
  | zero =>
    intro n c hn hc
    obtain rfl : n = runs.length := by omega
    refine Ev.succ (Ev.of (fun fu => ?_) (Ev.ret _))
    simp [bookendref11_Left_l1, stateOf, rest]
  | succ m ih =>
    intro n c hn hc
    have hr : n < runs.length := by omega
    have h2 : n < a.length := by rw [ha.1]; exact hr
    have hle := ha.2 n hr h2
    have h5 := (hg.2.2 _ (List.getElem_mem hr)).1
    have w1 : IntKind.i64.wrap ((c : Int) + (runs[n].length : Int)) = ((c + runs[n].length : Nat) : Int) := by rw [wr (by omega) (by omega)]; omega
    have w2 : IntKind.i64.wrap (((c + runs[n].length : Nat) : Int) - ((a[n] : Nat) : Int)) = ((c + (runs[n].length - a[n]) : Nat) : Int) := by rw [wr (by omega) (by omega)]; omega
    have d : decide ((n : Int) < (runs.length : Int)) = true := decide_eq_true (by omega)
    have := ih (n + 1) (c + (runs[n].length - a[n])) (by omega) (by omega)
    rw [rest_drop runs a ha n hr h2, ← Nat.add_assoc]
    refine Ev.succ (Ev.of (fun fu => ?_) this)
    have e1 : (stateOf runs a).Runs = runs := rfl
    have e2 : (stateOf runs a).At = ints a := rfl
    simp only [bookendref11_Left_l1, e1, e2, d, ↓reduceIte, ix_get runs n hr, ix_ints a n h2, Option.bind_some, w1, w2, w_succ n (by omega)]
theorem left_ev (runs : List (List TApiEntry)) (a : List Nat) (hg : GoodRuns runs) (ha : At runs a) (hc : Ev (fun fu => merge_Check fu (stateOf runs a)) (0, 0)) : Ev (fun fu => merge_Left fu (stateOf runs a)) ((rest runs a : Int), 0) := by
  unfold merge_Left
  refine Ev.bind hc ?_
  simp only [decide_true, Bool.not_true, Bool.false_eq_true, ↓reduceIte]
  have := left_l1 runs hg a ha runs.length 0 0 (by omega) (by omega)
  simp only [Nat.zero_add, List.drop_zero] at this
  exact Ev.bind this (Ev.ret _)
theorem rleft_ev (runs : List (List TApiEntry)) (a : List Nat) (hg : GoodRuns runs) (ha : At runs a) (hc : Ev (fun fu => bookendref11_Check fu (stateOf runs a)) (0, 0)) : Ev (fun fu => bookendref11_Left fu (stateOf runs a)) ((rest runs a : Int), 0) := by
  unfold bookendref11_Left
  refine Ev.bind hc ?_
  simp only [decide_true, Bool.not_true, Bool.false_eq_true, ↓reduceIte]
  have := rleft_l1 runs hg a ha runs.length 0 0 (by omega) (by omega)
  simp only [Nat.zero_add, List.drop_zero] at this
  exact Ev.bind this (Ev.ret _)
theorem win_key (runs : List (List TApiEntry)) (a : List Nat) (ha : At runs a) (h0 : 0 < runs.length) (hw : wn runs a < runs.length) (hwa : wn runs a < a.length) (hq : a[wn runs a] < runs[wn runs a].length)
    (i : Nat) (h1 : i < runs.length) (h2 : i < a.length) (h3 : a[i] < runs[i].length) : i = wn runs a ∨ (bl runs[wn runs a][a[wn runs a]].Key runs[i][a[i]].Key = true ∨ (runs[wn runs a][a[wn runs a]].Key = runs[i][a[i]].Key ∧ wn runs a < i)) := by
  by_cases e : i = wn runs a
  · exact .inl e
  · right
    have hk1 : wn runs a < (keysOf runs a).length := by rw [keysOf_len]; exact hw
    have hk2 : i < (keysOf runs a).length := by rw [keysOf_len]; exact h1
    have l := win_least (keysOf runs a) i hk2 e
    have g1 : (keysOf runs a)[wn runs a] = ⟨runs[wn runs a][a[wn runs a]].Key, false⟩ := by rw [keysOf_get runs a _ hk1 hw hwa, kAt_key _ _ hq]
    have g2 : (keysOf runs a)[i] = ⟨runs[i][a[i]].Key, false⟩ := by rw [keysOf_get runs a _ hk2 h1 h2, kAt_key _ _ h3]
    have lk := lt_key (keysOf runs a) (wn runs a) i hk1 hk2 (by rw [g1]) (by rw [g2])
    rw [show lt (keysOf runs a) (wn runs a) i = true from l, g1, g2] at lk
    simp only at lk
    split at lk
    · rename_i e2; exact .inr ⟨e2, of_decide_eq_true lk.symm⟩
    · exact .inl lk.symm
end Go.T
end
section
namespace Go.T
open Go Go.AM
end Go.T
end
section
namespace Go.T
open Go Go.AM
def lx (k : List UInt8) (i : Nat) (l : List UInt8) (j : Nat) : Prop := bl k l = true ∨ (k = l ∧ i < j)
theorem lx_bl {k l m : List UInt8} {i j : Nat} (h : lx k i l j) (h2 : bl l m = true) : bl k m = true := by
  rcases h with h | ⟨rfl, _⟩
  · exact bl_trans h h2
  · exact h2
def Passed (runs : List (List TApiEntry)) (a : List Nat) : Prop :=
  ∀ i (h1 : i < runs.length) (h2 : i < a.length) m (hm : m < runs[i].length), a[i] = m + 1 → ∀ j (h3 : j < runs.length) (h4 : j < a.length) (h5 : a[j] < runs[j].length), lx runs[i][m].Key i runs[j][a[j]].Key j
structure Rch (runs : List (List TApiEntry)) (a : List Nat) : Prop where
  at' : At runs a
  passed : Passed runs a
theorem rch_zeros (runs : List (List TApiEntry)) : Rch runs (zeros runs) := ⟨zeros_at runs, fun i h1 h2 m hm e => by simp [zeros] at e⟩
theorem stp_get (a : List Nat) (w i : Nat) (h : i < (stp a w).length) (hw : w < a.length) (hi : i < a.length) : (stp a w)[i] = if w = i then a[w] + 1 else a[i] := by
  simp only [stp_eq a w hw, List.getElem_set]
theorem rch_stp (runs : List (List TApiEntry)) (a : List Nat) (hg : GoodRuns runs) (h : Rch runs a) (hw : wn runs a < runs.length) (hwa : wn runs a < a.length) (hq : a[wn runs a] < runs[wn runs a].length) : Rch runs (stp a (wn runs a)) := by
  refine ⟨stp_at runs a _ h.at' hw hwa hq, ?_⟩
  have asc : ∀ n (hn : n + 1 < runs[wn runs a].length), bl (runs[wn runs a][n]'(by omega)).Key runs[wn runs a][n + 1].Key = true := fun n hn =>
    ((hg.2.2 _ (List.getElem_mem hw)).2 (n + 1) hn).2 (by omega)
  intro i h1 h2 m hm e j h3 h4 h5
  have h2' : i < a.length := by rw [stp_len] at h2; exact h2
  have h4' : j < a.length := by rw [stp_len] at h4; exact h4
  have gi := stp_get a (wn runs a) i h2 hwa h2'
  have gj := stp_get a (wn runs a) j h4 hwa h4'
  simp only [gj] at h5 ⊢
  rw [gi] at e
  by_cases ei : wn runs a = i
  · subst ei
    simp only [↓reduceIte] at e
    obtain rfl : m = a[wn runs a] := by omega
    by_cases ej : wn runs a = j
    · subst ej
      simp only [↓reduceIte] at h5 ⊢
      exact .inl (asc _ h5)
    · simp only [if_neg ej] at h5 ⊢
      rcases win_key runs a h.at' hg.1 hw hwa hq j h3 h4' h5 with e | e
      · exact absurd e.symm ej
      · exact e
  · simp only [if_neg ei] at e
    by_cases ej : wn runs a = j
    · subst ej
      simp only [↓reduceIte] at h5 ⊢
      exact .inl (lx_bl (h.passed i h1 h2' m hm e _ hw hwa hq) (asc _ h5))
    · simp only [if_neg ej] at h5 ⊢
      exact h.passed i h1 h2' m hm e j h3 h4' h5
theorem rch_read (runs : List (List TApiEntry)) (a : List Nat) (hg : GoodRuns runs) (h : Rch runs a) : (∃ i, ∃ h : i < runs.length, ∃ h2 : i < a.length, a[i] ≠ runs[i].length) → pick (readBad runs a (wn runs a)) a.length 0 = .inl () := by
  rintro ⟨i, h1, h2, h3⟩
  rcases turn runs a h.at' hg.1 with ⟨hd, hall⟩ | ⟨hw, hwa, hq, hk⟩
  · exact absurd (hall i h1 h2) h3
  · refine pick_none fun j k1 k2 => ?_
    have hj : j < a.length := by omega
    have hjr : j < runs.length := by rw [← h.at'.1]; exact hj
    simp only [readBad, List.getElem?_eq_getElem hjr, List.getElem?_eq_getElem hj, List.getElem?_eq_getElem hw, List.getElem?_eq_getElem hwa]
    cases e : a[j] with
    | zero => rfl
    | succ m =>
      have hle := h.at'.2 j hjr hj
      have hm : m < runs[j].length := by omega
      simp only [List.getElem?_eq_getElem hm, List.getElem?_eq_getElem hq]
      refine if_neg ?_
      rcases h.passed j hjr hj m hm e _ hw hwa hq with p | ⟨p, q⟩
      · rw [bl_asym p]
        simp
        intro e; rw [e, bl_irr] at p; cases p
      · rw [p, bl_irr]; simp; omega
theorem rch_ok (runs : List (List TApiEntry)) (a : List Nat) (hg : GoodRuns runs) (h : Rch runs a) : Ok (stateOf runs a) a := ⟨hg, h.at', rfl, rch_read runs a hg h⟩
theorem rch_check (runs : List (List TApiEntry)) (a : List Nat) (hn : Near runs) (hg : GoodRuns runs) (h : Rch runs a) : Ev (fun fu => merge_Check fu (stateOf runs a)) (0, 0) := by
  have hl := stateOf_lens runs a h.at'
  have := hn.1
  obtain ⟨r, r1, -, -, r4⟩ := mgCheck_ev (stateOf runs a) ⟨hn, by rw [hl.1]; omega, by rw [hl.2.2.1]; omega, by rw [hl.2.2.2]; omega⟩
  rw [r4 a (rch_ok runs a hg h)] at r1
  exact r1
end Go.T
end
section
namespace Go.T
open Go Go.AM
def plc (runs : List (List TApiEntry)) (i : Nat) : List Nat := ends runs i (zeros runs)
theorem ends_succ (runs : List (List TApiEntry)) (i : Nat) : ∀ a, ends runs (i + 1) a = stp (ends runs i a) (wn runs (ends runs i a)) := by
  induction i with
  | zero => intro a; rfl
  | succ i ih => intro a; exact ih (stp a (wn runs a))
theorem plc_succ (runs : List (List TApiEntry)) (i : Nat) : plc runs (i + 1) = stp (plc runs i) (wn runs (plc runs i)) := ends_succ runs i _
def tot (runs : List (List TApiEntry)) : Nat := rest runs (zeros runs)
structure Plc (runs : List (List TApiEntry)) (i : Nat) : Prop where
  rch : Rch runs (plc runs i)
  left : rest runs (plc runs i) = tot runs - i
theorem plc_all (runs : List (List TApiEntry)) (hg : GoodRuns runs) (i : Nat) (h : i ≤ tot runs) : Plc runs i := by
  induction i with
  | zero => exact ⟨rch_zeros runs, rfl⟩
  | succ i ih =>
    have p := ih (by omega)
    rcases turn runs (plc runs i) p.rch.at' hg.1 with ⟨hd, hall⟩ | ⟨hw, hwa, hq, hk⟩
    · have := rest_zero runs _ hall
      rw [p.left] at this; omega
    · have := rest_stp runs _ _ hw hwa hq
      rw [← plc_succ, p.left] at this
      exact ⟨by rw [plc_succ]; exact rch_stp runs _ hg p.rch hw hwa hq, by omega⟩
structure Cur (runs : List (List TApiEntry)) (i : Nat) : Prop where
  hw : wn runs (plc runs i) < runs.length
  hwa : wn runs (plc runs i) < (plc runs i).length
  hq : (plc runs i)[wn runs (plc runs i)] < runs[wn runs (plc runs i)].length
theorem plc_cur (runs : List (List TApiEntry)) (hg : GoodRuns runs) (i : Nat) (h : i < tot runs) : Cur runs i := by
  have p := plc_all runs hg i (by omega)
  rcases turn runs (plc runs i) p.rch.at' hg.1 with ⟨hd, hall⟩ | ⟨hw, hwa, hq, hk⟩
  · have := rest_zero runs _ hall
    rw [p.left] at this; omega
  · exact ⟨hw, hwa, hq⟩
theorem outs_get (runs : List (List TApiEntry)) (m : Nat) : ∀ (a : List Nat) (i : Nat), i < m → (outs runs m a)[i]? = some ((runs[wn runs (ends runs i a)]?.getD [])[(ends runs i a)[wn runs (ends runs i a)]?.getD 0]?.getD ⟨[], [], false, 0⟩, wn runs (ends runs i a)) := by
  induction m with
  | zero => intro a i h; omega
  | succ m ih =>
    intro a i h
    cases i with
    | zero => rfl
    | succ i => simp only [outs, List.getElem?_cons_succ]; exact ih _ i (by omega)
def allE (runs : List (List TApiEntry)) : List TApiEntry := ents (outs runs (tot runs) (zeros runs))
def allF (runs : List (List TApiEntry)) : List Int := froms (outs runs (tot runs) (zeros runs))
theorem allE_len (runs : List (List TApiEntry)) : (allE runs).length = tot runs := by simp [allE, ents, outs_len]
theorem ix_allE (runs : List (List TApiEntry)) (i : Nat) (h : i < tot runs) (c : Cur runs i) : ix (allE runs) (i : Int) = some ((runs[wn runs (plc runs i)]'(c.hw))[(plc runs i)[wn runs (plc runs i)]'(c.hwa)]'(c.hq)) := by
  rw [ix_nat]
  simp only [allE, ents, List.getElem?_map, outs_get runs _ _ i h, Option.map_some]
  have h1 := c.hw
  have h2 := c.hwa
  have h3 := c.hq
  simp only [plc] at h1 h2 h3 ⊢
  simp only [List.getElem?_eq_getElem h1, List.getElem?_eq_getElem h2, Option.getD_some, List.getElem?_eq_getElem h3]
end Go.T
end
section
namespace Go.T
open Go Go.AM
def sumLen (runs : List (List TApiEntry)) : Nat := (runs.map List.length).sum
theorem rest_sumLen : ∀ (runs : List (List TApiEntry)) (a : List Nat), rest runs a ≤ sumLen runs
  | [], _ => by simp [rest, sumLen]
  | _ :: _, [] => by simp [rest]
  | l :: runs, n :: a => by
    have := rest_sumLen runs a
    simp only [rest, sumLen, List.zipWith_cons_cons, List.sum_cons, List.map_cons] at this ⊢
    omega
theorem far_l4' (runs : List (List TApiEntry)) (hl : runs.length ≤ 34) (m : Nat) : ∀ (n many : Nat), n + m = runs.length → many ≤ 120 →
    ∃ r, Ev (fun fu => bookendlaw11_Far_l4 runs fu (many : Int) (n : Int)) r ∧ ((r = .inl () ∧ many + sumLen (runs.drop n) ≤ 120) ∨ r = .inr true) := by
  induction m with
  | zero =>
    intro n many hn hm
    obtain rfl : n = runs.length := by omega
    exact ⟨.inl (), Ev.succ (Ev.of (fun fu => by simp [bookendlaw11_Far_l4]) (Ev.ret _)), .inl ⟨rfl, by simp [sumLen]; exact hm⟩⟩
  | succ m ih =>
    intro n many hn hm
    have hnl : n < runs.length := by omega
    have d : decide ((n : Int) < (runs.length : Int)) = true := decide_eq_true (by omega)
    have hmin : (if (200 : Int) < (runs[n].length : Int) then (200 : Int) else (runs[n].length : Int)) = ((min runs[n].length 200 : Nat) : Int) := by
      split <;> omega
    have hw : IntKind.i64.wrap ((many : Int) + ((min runs[n].length 200 : Nat) : Int)) = ((many + min runs[n].length 200 : Nat) : Int) := by rw [wr (by omega) (by omega)]; omega
    have f : ∀ fu, bookendlaw11_Far_l4 runs (fu + 1) (many : Int) (n : Int) = if 120 < many + min runs[n].length 200 then some (.inr true) else (bookendlaw11_Far_l5 runs[n] fu 0).bind fun x90 => match x90 with | .inl _ => bookendlaw11_Far_l4 runs fu ((many + min runs[n].length 200 : Nat) : Int) ((n + 1 : Nat) : Int) | .inr y => some (.inr y) := fun fu => by
      have c1 : decide ((120 : Int) < ((many + min runs[n].length 200 : Nat) : Int)) = decide (120 < many + min runs[n].length 200) := decide_eq_decide.2 (by omega)
      simp only [bookendlaw11_Far_l4, d, ↓reduceIte, ix_get runs n hnl, Option.bind_some, hmin, hw, c1, w_succ n (by omega)]
      simp only [decide_eq_true_eq]
      by_cases q : 120 < many + min runs[n].length 200
      · rw [if_pos q, if_pos q]
      · rw [if_neg q, if_neg q]; congr 1
    by_cases hc : 120 < many + min runs[n].length 200
    · exact ⟨.inr true, Ev.succ (Ev.of f (by simp only [if_pos hc]; exact Ev.ret _)), .inr rfl⟩
    · obtain ⟨r, r1, r2⟩ := far_l5 runs[n] (by omega)
      rcases r2 with ⟨rfl, r2⟩ | rfl
      · obtain ⟨q, q1, q2⟩ := ih (n + 1) (many + min runs[n].length 200) (by omega) (by omega)
        refine ⟨q, Ev.succ (Ev.of f (by simp only [if_neg hc]; exact Ev.bind r1 q1)), ?_⟩
        rcases q2 with ⟨rfl, q2⟩ | rfl
        · refine .inl ⟨rfl, ?_⟩
          rw [List.drop_eq_getElem_cons hnl]
          simp only [sumLen, List.map_cons, List.sum_cons] at q2 ⊢
          omega
        · exact .inr rfl
      · exact ⟨.inr true, Ev.succ (Ev.of f (by simp only [if_neg hc]; exact Ev.bind r1 (Ev.ret _))), .inr rfl⟩
structure Seen (runs : List (List TApiEntry)) : Prop where
  near : Near runs
  few : GoodRuns runs → tot runs ≤ 120
theorem far2_ev (runs : List (List TApiEntry)) : ∃ b, Ev (fun fu => bookendlaw11_Far fu runs) b ∧ (b = false → Seen runs) := by
  obtain ⟨b, b1, b2⟩ := far_ev runs
  refine ⟨b, b1, fun hb => ⟨b2 hb, fun hg => ?_⟩⟩
  subst hb
  have hn := b2 rfl
  unfold bookendlaw11_Far at b1
  have d : decide ((34 : Int) < (runs.length : Int)) = false := decide_eq_false (by have := hn.1; omega)
  simp only [d, Bool.false_eq_true, ↓reduceIte] at b1
  have hb : (if decide ((runs.length : Int) = 1) = true then (ix runs 0).bind fun e3 => some (decide (5000 < (e3.length : Int))) else some false) = some false := by
    by_cases h1 : runs.length = 1
    · have h0 : 0 < runs.length := by omega
      have hh := (hg.2.2 _ (List.getElem_mem h0)).1
      have ix0 : ix runs 0 = some runs[0] := ix_get runs 0 h0
      have d1 : decide ((runs.length : Int) = 1) = true := decide_eq_true (by omega)
      have d2 : decide ((5000 : Int) < (runs[0].length : Int)) = false := decide_eq_false (by omega)
      simp only [d1, ↓reduceIte, ix0, Option.bind_some, d2]
    · have d1 : decide ((runs.length : Int) = 1) = false := decide_eq_false (by omega)
      simp only [d1, Bool.false_eq_true, ↓reduceIte]
  simp only [hb, Option.bind_some, Bool.false_eq_true, ↓reduceIte] at b1
  obtain ⟨r, r1, r2⟩ := far_l4' runs (by have := hn.1; omega) runs.length 0 0 (by omega) (by omega)
  rcases r2 with ⟨rfl, r2⟩ | rfl
  · simp only [List.drop_zero, Nat.zero_add] at r2
    exact Nat.le_trans (rest_sumLen runs _) r2
  · have b3 : Ev (fun fu => (bookendlaw11_Far_l4 runs fu 0 0).bind fun x73 => match x73 with | .inl _ => some false | .inr y => some y) true := Ev.bind r1 (Ev.ret _)
    exact absurd (Ev.uniq b1 b3) (by simp)
end Go.T
end
section
namespace Go.T
open Go Go.AM
def keep1 (b s : Bool) (k : List UInt8) (e : TApiEntry) : Bool := !(s && e.Key == k) && !(b && e.Dead)
def keptFrom (b : Bool) : Bool → List UInt8 → List TApiEntry → List TApiEntry
  | _, _, [] => []
  | s, k, e :: l => if keep1 b s k e then e :: keptFrom b true e.Key l else keptFrom b true e.Key l
def lastFrom : Bool → List UInt8 → List TApiEntry → Bool × List UInt8
  | s, k, [] => (s, k)
  | _, _, e :: l => lastFrom true e.Key l
def kept (b : Bool) (l : List TApiEntry) : List TApiEntry := keptFrom b false [] l
def shd (b : Bool) (l : List TApiEntry) : TApiShState := ⟨(lastFrom false [] l).1, (lastFrom false [] l).2, b⟩
def Fine : Bool → List UInt8 → List TApiEntry → Prop
  | _, _, [] => True
  | s, k, e :: l => chk e = 0 ∧ (s = true → bl e.Key k = false) ∧ Fine true e.Key l
def StOk (s : Bool) (k : List UInt8) : Prop := k.length ≤ 32 ∧ (s = false → k = [])
theorem chk_key {e : TApiEntry} (h : chk e = 0) : e.Key.length ≤ 32 := by
  simp only [chk] at h
  split at h
  · cases h
  · omega
theorem stOk_next {e : TApiEntry} (h : chk e = 0) : StOk true e.Key := ⟨chk_key h, by simp⟩
theorem keptFrom_len (b : Bool) : ∀ (l : List TApiEntry) s k, (keptFrom b s k l).length ≤ l.length
  | [], _, _ => Nat.le_refl _
  | e :: l, s, k => by
    have := keptFrom_len b l true e.Key
    simp only [keptFrom]
    split <;> simp only [List.length_cons] <;> omega
theorem keptFrom_app (b : Bool) : ∀ (l r : List TApiEntry) s k, keptFrom b s k (l ++ r) = keptFrom b s k l ++ keptFrom b (lastFrom s k l).1 (lastFrom s k l).2 r
  | [], r, s, k => rfl
  | e :: l, r, s, k => by
    have := keptFrom_app b l r true e.Key
    simp only [keptFrom, lastFrom, List.cons_append, this]
    split <;> rfl
theorem lastFrom_app : ∀ (l r : List TApiEntry) s k, lastFrom s k (l ++ r) = lastFrom (lastFrom s k l).1 (lastFrom s k l).2 r
  | [], _, _, _ => rfl
  | e :: l, r, s, k => by simp only [lastFrom, List.cons_append, lastFrom_app l r]
theorem fine_app : ∀ (l r : List TApiEntry) s k, Fine s k (l ++ r) ↔ Fine s k l ∧ Fine (lastFrom s k l).1 (lastFrom s k l).2 r
  | [], r, s, k => by simp [Fine, lastFrom]
  | e :: l, r, s, k => by simp only [Fine, lastFrom, List.cons_append, fine_app l r, and_assoc]
theorem lastOk : ∀ (l : List TApiEntry) s k, StOk s k → Fine s k l → StOk (lastFrom s k l).1 (lastFrom s k l).2
  | [], _, _, h, _ => h
  | e :: l, s, k, _, f => lastOk l true e.Key (stOk_next f.1) f.2.2
theorem lastFrom_last : ∀ (l : List TApiEntry) s k (h : 0 < l.length), lastFrom s k l = (true, l[l.length - 1].Key)
  | [e], _, _, _ => rfl
  | e :: f :: l, s, k, h => by
    have := lastFrom_last (f :: l) true e.Key (by simp)
    rw [lastFrom, this]
    simp
theorem keys_Check_eq (fu : Nat) (k : List UInt8) : keys_Check fu k = some (if 32 < k.length then 3 else 0) := by
  have c1 : decide ((32 : Int) < (k.length : Int)) = decide (32 < k.length) := decide_eq_decide.2 (by omega)
  simp only [keys_Check, c1]
  by_cases h : 32 < k.length <;> simp [h]
theorem shCheck_eq (fu : Nat) (s : Bool) (k : List UInt8) (b : Bool) (h : StOk s k) : shadow_Check fu ⟨s, k, b⟩ = some 0 := by
  simp only [shadow_Check, keys_Check_eq, if_neg (show ¬ 32 < k.length by have := h.1; omega), Option.bind_some]
  cases s with
  | false => rw [h.2 rfl]; simp
  | true => simp
theorem rshCheck_eq (fu : Nat) (s : Bool) (k : List UInt8) (b : Bool) (h : StOk s k) : bookendref12_Check fu ⟨s, k, b⟩ = some 0 := by
  have d : decide ((32 : Int) < (k.length : Int)) = false := decide_eq_false (by have := h.1; omega)
  simp only [bookendref12_Check, d, Bool.false_eq_true, ↓reduceIte]
  cases s with
  | false => rw [h.2 rfl]; simp
  | true => simp
theorem shStep_eq (fu : Nat) (s : Bool) (k : List UInt8) (b : Bool) (e : TApiEntry) (h : StOk s k) (h1 : chk e = 0) (h2 : s = true → bl e.Key k = false) : shadow_Step fu ⟨s, k, b⟩ e = some (keep1 b s k e, ⟨true, e.Key, b⟩, 0) := by
  have h2' : s = true → Op.bytesLess e.Key k = false := h2
  simp only [shadow_Step, shCheck_eq fu s k b h, entries_Check_eq, h1, Option.bind_some, keep1]
  cases s with
  | false => cases b <;> cases hd : e.Dead <;> simp
  | true =>
    simp only [h2' rfl]
    cases hk : (e.Key == k) <;> cases b <;> cases hd : e.Dead <;> simp
theorem rshStep_eq (fu : Nat) (s : Bool) (k : List UInt8) (b : Bool) (e : TApiEntry) (h : StOk s k) (h1 : chk e = 0) (h2 : s = true → bl e.Key k = false) : bookendref12_Step fu ⟨s, k, b⟩ e = some (keep1 b s k e, ⟨true, e.Key, b⟩, 0) := by
  have h2' : s = true → Op.bytesLess e.Key k = false := h2
  simp only [bookendref12_Step, rshCheck_eq fu s k b h, ref03_Check_eq, h1, Option.bind_some, keep1]
  cases s with
  | false => cases b <;> cases hd : e.Dead <;> simp
  | true =>
    simp only [h2' rfl]
    cases hk : (e.Key == k) <;> cases b <;> cases hd : e.Dead <;> simp
theorem filter_l1 (l : List TApiEntry) (v : TApiShState) (hl : l.length ≤ 1000000) (m : Nat) : ∀ (n : Nat) (s : Bool) (k : List UInt8) (out : List TApiEntry), n + m = l.length → StOk s k → Fine s k (l.drop n) → out.length ≤ n →
    Ev (fun fu => shadow_Filter_l1 l v fu (n : Int) s k out) (.inl ((lastFrom s k (l.drop n)).1, (lastFrom s k (l.drop n)).2, out ++ keptFrom v.Bottom s k (l.drop n))) := by
  induction m with
  | zero =>
    intro n s k out hn hs hf ho
    obtain rfl : n = l.length := by omega
    exact Ev.succ (Ev.of (fun fu => by simp [shadow_Filter_l1, List.drop_length, lastFrom, keptFrom]) (Ev.ret _))
  | succ m ih =>
    intro n s k out hn hs hf ho
    have hnl : n < l.length := by omega
    have d : decide ((n : Int) < (l.length : Int)) = true := decide_eq_true (by omega)
    rw [List.drop_eq_getElem_cons hnl] at hf ⊢
    have h2 : s = true → Op.bytesLess l[n].Key k = false := hf.2.1
    have g : 2 * ((out.length + 1) * 48) ≤ 281474976710656 := by omega
    have hcl : (⟨l[n].Key, l[n].Val, l[n].Dead, l[n].Seq⟩ : TApiEntry) = l[n] := rfl
    have ih1 := ih (n + 1) true l[n].Key (out ++ [l[n]]) (by omega) (stOk_next hf.1) hf.2.2 (by simp; omega)
    have ih2 := ih (n + 1) true l[n].Key out (by omega) (stOk_next hf.1) hf.2.2 (by omega)
    simp only [lastFrom, keptFrom]
    refine Ev.succ ?_
    simp only [shadow_Filter_l1, d, ↓reduceIte, ix_get l n hnl, Option.bind_some, shCheck_eq _ s k v.Bottom hs, entries_Check_eq, hf.1, decide_true, Bool.not_true, Bool.false_eq_true, w_succ n (by omega), shadow_kept_entry, hcl, if_pos g, keep1]
    rw [List.append_assoc] at ih1
    cases s with
    | false =>
      simp only [Bool.false_eq_true, ↓reduceIte, Option.bind_some, Bool.false_and, Bool.not_false, Bool.true_and]
      cases hb : v.Bottom with
      | false => rw [hb] at ih1; exact ih1
      | true =>
        rw [hb] at ih1 ih2
        cases hd : l[n].Dead with
        | false => exact ih1
        | true => exact ih2
    | true =>
      simp only [↓reduceIte, h2 rfl, Option.bind_some, Bool.false_eq_true, Bool.true_and]
      cases hk : (l[n].Key == k) with
      | true => exact ih2
      | false =>
        simp only [Bool.false_eq_true, ↓reduceIte, Bool.not_false, Bool.true_and]
        cases hb : v.Bottom with
        | false => rw [hb] at ih1; exact ih1
        | true =>
          rw [hb] at ih1 ih2
          cases hd : l[n].Dead with
          | false => exact ih1
          | true => exact ih2
theorem filter_ev (l : List TApiEntry) (b : Bool) (hl : l.length ≤ 20000) (hf : Fine false [] l) : Ev (fun fu => shadow_Filter fu l b) (kept b l, 0, 0) := by
  unfold shadow_Filter
  have d : decide ((20000 : Int) < (l.length : Int)) = false := decide_eq_false (by omega)
  simp only [d, Bool.false_eq_true, ↓reduceIte, shadow_Begin, Option.bind_some]
  have := filter_l1 l ⟨false, [], b⟩ (by omega) l.length 0 false [] [] (by omega) ⟨by simp, fun _ => rfl⟩ (by simpa using hf) (by simp)
  exact Ev.bind this (by simp only [List.drop_zero, List.nil_append]; exact Ev.ret _)
theorem rfilter_l1 (l : List TApiEntry) (b : Bool) (hl : l.length ≤ 1000000) (m : Nat) : ∀ (n : Nat) (s : Bool) (k : List UInt8) (out : List TApiEntry), n + m = l.length → StOk s k → Fine s k (l.drop n) → out.length ≤ n →
    Ev (fun fu => bookendref12_Filter_l1 l fu (n : Int) s k b out) (.inl ((lastFrom s k (l.drop n)).1, (lastFrom s k (l.drop n)).2, b, out ++ keptFrom b s k (l.drop n))) := by
  induction m with
  | zero =>
    intro n s k out hn hs hf ho
    obtain rfl : n = l.length := by omega
    exact Ev.succ (Ev.of (fun fu => by simp [bookendref12_Filter_l1, List.drop_length, lastFrom, keptFrom]) (Ev.ret _))
  | succ m ih =>
    intro n s k out hn hs hf ho
    have hnl : n < l.length := by omega
    have d : decide ((n : Int) < (l.length : Int)) = true := decide_eq_true (by omega)
    rw [List.drop_eq_getElem_cons hnl] at hf ⊢
    have g : 2 * ((out.length + 1) * 48) ≤ 281474976710656 := by omega
    have ih1 := ih (n + 1) true l[n].Key (out ++ [l[n]]) (by omega) (stOk_next hf.1) hf.2.2 (by simp; omega)
    have ih2 := ih (n + 1) true l[n].Key out (by omega) (stOk_next hf.1) hf.2.2 (by omega)
    simp only [lastFrom, keptFrom]
    refine Ev.succ ?_
    simp only [bookendref12_Filter_l1, d, ↓reduceIte, ix_get l n hnl, Option.bind_some, rshStep_eq _ s k b l[n] hs hf.1 hf.2.1, decide_true, Bool.not_true, Bool.false_eq_true, w_succ n (by omega), if_pos g]
    rw [List.append_assoc] at ih1
    cases keep1 b s k l[n] with
    | true => exact ih1
    | false => exact ih2
theorem rfilter_ev (l : List TApiEntry) (b : Bool) (hl : l.length ≤ 20000) (hf : Fine false [] l) : Ev (fun fu => bookendref12_Filter fu l b) (kept b l, 0, 0) := by
  unfold bookendref12_Filter
  have d : decide ((20000 : Int) < (l.length : Int)) = false := decide_eq_false (by omega)
  simp only [d, Bool.false_eq_true, ↓reduceIte, bookendref12_Begin, Option.bind_some]
  have := rfilter_l1 l b (by omega) l.length 0 false [] [] (by omega) ⟨by simp, fun _ => rfl⟩ (by simpa using hf) (by simp)
  exact Ev.bind this (by simp only [List.drop_zero, List.nil_append]; exact Ev.ret _)
theorem behind_ev (l : List TApiEntry) (b : Bool) (hl : l.length ≤ 20000) (hf : Fine false [] l) : Ev (fun fu => bookendref13_behind fu l b) (kept b l, shd b l) := by
  unfold bookendref13_behind
  refine Ev.bind (rfilter_ev l b hl hf) ?_
  simp only [bookendref12_Begin, Option.bind_some]
  by_cases h : 0 < l.length
  · have d : decide ((0 : Int) < (l.length : Int)) = true := decide_eq_true (by omega)
    have w : IntKind.i64.wrap ((l.length : Int) - 1) = ((l.length - 1 : Nat) : Int) := by rw [wr (by omega) (by omega)]; omega
    simp only [d, ↓reduceIte, w, ix_get l (l.length - 1) (by omega), Option.bind_some, shd, lastFrom_last l false [] h]
    exact Ev.ret _
  · have d : decide ((0 : Int) < (l.length : Int)) = false := decide_eq_false (by omega)
    obtain rfl : l = [] := List.length_eq_zero_iff.1 (by omega)
    simp only [d, Bool.false_eq_true, ↓reduceIte, shd, lastFrom]
    exact Ev.ret _
end Go.T
end
section
namespace Go.T
open Go Go.AM
theorem fine_of : ∀ (l : List TApiEntry) (s : Bool) (k : List UInt8), (∀ i (h : i < l.length), chk l[i] = 0) → (∀ i (h : i + 1 < l.length), bl l[i + 1].Key l[i].Key = false) → (∀ h : 0 < l.length, s = true → bl l[0].Key k = false) → Fine s k l
  | [], _, _, _, _, _ => trivial
  | e :: l, s, k, h1, h2, h3 => ⟨h1 0 (by simp), h3 (by simp), fine_of l true e.Key (fun i h => h1 (i + 1) (by simp; omega)) (fun i h => h2 (i + 1) (by simp; omega)) (fun h _ => h2 0 (by simp; omega))⟩
theorem fine_take : ∀ (l : List TApiEntry) (n : Nat) s k, Fine s k l → Fine s k (l.take n)
  | [], n, _, _, _ => by simp [Fine]
  | e :: l, 0, _, _, _ => trivial
  | e :: l, n + 1, s, k, h => ⟨h.1, h.2.1, fine_take l n true e.Key h.2.2⟩
theorem allE_get (runs : List (List TApiEntry)) (i : Nat) (h : i < tot runs) (c : Cur runs i) (h2 : i < (allE runs).length) : (allE runs)[i] = (runs[wn runs (plc runs i)]'(c.hw))[(plc runs i)[wn runs (plc runs i)]'(c.hwa)]'(c.hq) := by
  have := ix_allE runs i h c
  rw [ix_get _ _ h2] at this
  exact Option.some.inj this
theorem allE_fine (runs : List (List TApiEntry)) (hg : GoodRuns runs) : Fine false [] (allE runs) := by
  refine fine_of _ _ _ (fun i h => ?_) (fun i h => ?_) (by simp)
  · rw [allE_len] at h
    have c := plc_cur runs hg i h
    rw [allE_get runs i h c]
    exact ((hg.2.2 _ (List.getElem_mem c.hw)).2 _ c.hq).1
  · rw [allE_len] at h
    have c := plc_cur runs hg (i + 1) h
    have c' := plc_cur runs hg i (by omega)
    have p := plc_all runs hg (i + 1) (by omega)
    have hw := c.hw
    have hwa := c.hwa
    have hq := c.hq
    have hw' := c'.hw
    have hwa' := c'.hwa
    have hq' := c'.hq
    rw [allE_get runs i (by omega) c', allE_get runs (i + 1) h c]
    have hl2 : wn runs (plc runs i) < (plc runs (i + 1)).length := by rw [plc_succ, stp_len]; exact hwa'
    have e1 : (plc runs (i + 1))[wn runs (plc runs i)] = (plc runs i)[wn runs (plc runs i)] + 1 := by
      have := stp_get (plc runs i) (wn runs (plc runs i)) (wn runs (plc runs i)) (by rw [stp_len]; exact hwa') hwa' hwa'
      simp only [plc_succ, this, ↓reduceIte]
    rcases p.rch.passed (wn runs (plc runs i)) hw' hl2 _ hq' e1 _ hw hwa hq with l | ⟨l, l2⟩
    · exact bl_asym l
    · rw [l]; exact bl_irr _
theorem rest_sum : ∀ (runs : List (List TApiEntry)) (a : List Nat), a.length = runs.length → (∀ i (h : i < runs.length) (h2 : i < a.length), a[i] ≤ runs[i].length) → rest runs a + a.sum = sumLen runs
  | [], [], _, _ => rfl
  | l :: runs, n :: a, hl, h => by
    have := rest_sum runs a (by simpa using hl) (fun i h1 h2 => h (i + 1) (by simp; omega) (by simp; omega))
    have h0 := h 0 (by simp) (by simp)
    simp only [List.getElem_cons_zero] at h0
    simp only [rest, sumLen, List.zipWith_cons_cons, List.sum_cons, List.map_cons] at this ⊢
    omega
theorem zeros_sum (runs : List (List TApiEntry)) : (zeros runs).sum = 0 := by
  simp [zeros]
theorem tot_sum (runs : List (List TApiEntry)) : tot runs = sumLen runs := by
  have := rest_sum runs (zeros runs) (zeros_at runs).1 (zeros_at runs).2
  rw [zeros_sum] at this
  simpa [tot] using this
theorem at_sum (runs : List (List TApiEntry)) (a : List Nat) (h : At runs a) : rest runs a + a.sum = tot runs := by
  rw [tot_sum]; exact rest_sum runs a h.1 h.2
theorem plc_sum (runs : List (List TApiEntry)) (hg : GoodRuns runs) (i : Nat) (h : i ≤ tot runs) : (plc runs i).sum = i := by
  have p := plc_all runs hg i h
  have := at_sum runs _ p.rch.at'
  have := p.left
  omega
theorem sum_le : ∀ (a b : List Nat), a.length = b.length → (∀ i (h1 : i < a.length) (h2 : i < b.length), a[i] ≤ b[i]) → a.sum ≤ b.sum ∧ (a.sum = b.sum → a = b)
  | [], [], _, _ => ⟨Nat.le_refl _, fun _ => rfl⟩
  | x :: a, y :: b, hl, h => by
    obtain ⟨p, q⟩ := sum_le a b (by simpa using hl) (fun i h1 h2 => h (i + 1) (by simp; omega) (by simp; omega))
    have h0 := h 0 (by simp) (by simp)
    simp only [List.getElem_cons_zero] at h0
    simp only [List.sum_cons]
    refine ⟨by omega, fun e => ?_⟩
    obtain rfl : x = y := by omega
    rw [q (by omega)]
theorem more (a b : List Nat) (hl : a.length = b.length) (hs : a.sum = b.sum) (hne : a ≠ b) : ∃ i, ∃ h1 : i < a.length, ∃ h2 : i < b.length, a[i] < b[i] := by
  refine Classical.byContradiction fun hn => hne ?_
  have := sum_le b a hl.symm fun i h1 h2 => Nat.le_of_not_lt fun h => hn ⟨i, h2, h1, h⟩
  exact (this.2 hs.symm).symm
def le (k l : List UInt8) : Prop := bl k l = true ∨ k = l
theorem run_mono (l : List TApiEntry) (hg : GoodRun l) (i : Nat) : ∀ (d : Nat) (h : i + d < l.length), le (l[i]'(by omega)).Key l[i + d].Key ∧ (0 < d → bl (l[i]'(by omega)).Key l[i + d].Key = true)
  | 0, _ => ⟨.inr rfl, by omega⟩
  | d + 1, h => by
    have p := (run_mono l hg i d (by omega)).1
    have q : bl (l[i + d]'(by omega)).Key l[i + (d + 1)].Key = true := (hg.2 (i + (d + 1)) h).2 (by omega)
    rcases p with p | p
    · exact ⟨.inl (bl_trans p q), fun _ => bl_trans p q⟩
    · rw [p]; exact ⟨.inl q, fun _ => q⟩
theorem run_le (l : List TApiEntry) (hg : GoodRun l) (i j : Nat) (h : i ≤ j) (hj : j < l.length) : le (l[i]'(by omega)).Key l[j].Key := by
  obtain ⟨d, rfl⟩ : ∃ d, j = i + d := ⟨j - i, by omega⟩
  exact (run_mono l hg i d hj).1
theorem run_lt (l : List TApiEntry) (hg : GoodRun l) (i j : Nat) (h : i < j) (hj : j < l.length) : bl (l[i]'(by omega)).Key l[j].Key = true := by
  obtain ⟨d, rfl⟩ : ∃ d, j = i + d := ⟨j - i, by omega⟩
  exact (run_mono l hg i d hj).2 (by omega)
theorem bl_le {a b c : List UInt8} (h : bl a b = true) (k : le b c) : bl a c = true := by
  rcases k with k | rfl
  · exact bl_trans h k
  · exact h
theorem le_bl {a b c : List UInt8} (h : le a b) (k : bl b c = true) : bl a c = true := by
  rcases h with h | rfl
  · exact bl_trans h k
  · exact k
theorem rch_same (runs : List (List TApiEntry)) (hg : GoodRuns runs) (a b : List Nat) (ha : Rch runs a) (hb : Rch runs b) (hs : a.sum = b.sum) : a = b := by
  refine Classical.byContradiction fun hne => ?_
  have hl : a.length = b.length := by rw [ha.at'.1, hb.at'.1]
  obtain ⟨i, i1, i2, i3⟩ := more a b hl hs hne
  obtain ⟨j, j1, j2, j3⟩ := more b a hl.symm hs.symm (Ne.symm hne)
  have ir : i < runs.length := by rw [← ha.at'.1]; exact i1
  have jr : j < runs.length := by rw [← ha.at'.1]; exact j2
  have hbi := hb.at'.2 i ir i2
  have haj := ha.at'.2 j jr j2
  have gi := hg.2.2 _ (List.getElem_mem ir)
  have gj := hg.2.2 _ (List.getElem_mem jr)
  have p1 := ha.passed j jr j2 (a[j] - 1) (by omega) (by omega) i ir i1 (by omega)
  have p2 := hb.passed i ir i2 (b[i] - 1) (by omega) (by omega) j jr j1 (by omega)
  have q1 := run_le runs[i] gi a[i] (b[i] - 1) (by omega) (by omega)
  have q2 := run_le runs[j] gj b[j] (a[j] - 1) (by omega) (by omega)
  rcases p1 with p1 | ⟨p1, o1⟩
  · have r1 := bl_le p1 q1
    have r2 : bl runs[j][a[j] - 1].Key runs[j][b[j]].Key = true := by
      rcases p2 with p2 | ⟨p2, _⟩
      · exact bl_trans r1 p2
      · rw [← p2]; exact r1
    have := bl_le r2 q2
    rw [bl_irr] at this; cases this
  · rcases p2 with p2 | ⟨p2, o2⟩
    · have r1 := le_bl q1 p2
      rw [← p1] at r1
      have := bl_le r1 q2
      rw [bl_irr] at this; cases this
    · omega
theorem ok_passed (runs : List (List TApiEntry)) (hg : GoodRuns runs) (a : List Nat) (ha : At runs a) (h : (∃ i, ∃ h : i < runs.length, ∃ h2 : i < a.length, a[i] ≠ runs[i].length) → pick (readBad runs a (wn runs a)) a.length 0 = .inl ()) : Passed runs a := by
  intro i h1 h2 m hm e j h3 h4 h5
  have hp := h ⟨j, h3, h4, by omega⟩
  rcases turn runs a ha hg.1 with ⟨hd, hall⟩ | ⟨hw, hwa, hq, hk⟩
  · have := hall j h3 h4; omega
  · have hb := pick_inl hp i (by omega) (by omega)
    simp only [readBad, List.getElem?_eq_getElem h1, List.getElem?_eq_getElem h2, e, List.getElem?_eq_getElem hw, List.getElem?_eq_getElem hwa, List.getElem?_eq_getElem hm, List.getElem?_eq_getElem hq] at hb
    have hb' : ¬ (bl runs[wn runs a][a[wn runs a]].Key runs[i][m].Key = true ∨ (runs[i][m].Key = runs[wn runs a][a[wn runs a]].Key ∧ wn runs a < i)) := by
      intro q; rw [if_pos q] at hb; cases hb
    have w1 : lx runs[i][m].Key i runs[wn runs a][a[wn runs a]].Key (wn runs a) := by
      rcases bl_tri runs[i][m].Key runs[wn runs a][a[wn runs a]].Key with t | t | t
      · exact .inl t
      · refine .inr ⟨t, ?_⟩
        have : ¬ wn runs a < i := fun q => hb' (.inr ⟨t, q⟩)
        rcases Nat.lt_or_ge i (wn runs a) with q | q
        · exact q
        · obtain rfl : i = wn runs a := by omega
          have := run_lt _ (hg.2.2 _ (List.getElem_mem h1)) m a[wn runs a] (by omega) hq
          rw [t, bl_irr] at this; cases this
      · exact absurd (.inl t) hb'
    rcases win_key runs a ha hg.1 hw hwa hq j h3 h4 h5 with rfl | w2
    · exact w1
    · rcases w2 with w2 | ⟨w2, w3⟩
      · rcases w1 with w1 | ⟨w1, _⟩
        · exact .inl (bl_trans w1 w2)
        · rw [w1]; exact .inl w2
      · rcases w1 with w1 | ⟨w1, w4⟩
        · rw [← w2]; exact .inl w1
        · exact .inr ⟨w1.trans w2, by omega⟩
theorem ok_plc (s : TApiMgState) (a : List Nat) (h : Ok s a) : a = plc s.Runs a.sum ∧ a.sum ≤ tot s.Runs := by
  obtain ⟨hg, ha, he, hr⟩ := h
  have hs := at_sum s.Runs a ha
  have hle : a.sum ≤ tot s.Runs := by omega
  exact ⟨rch_same s.Runs hg a _ ⟨ha, ok_passed s.Runs hg a ha hr⟩ (plc_all s.Runs hg _ hle).rch (plc_sum s.Runs hg _ hle).symm, hle⟩
end Go.T
end
section
namespace Go.T
open Go Go.AM
theorem sh_eqb (x y : TApiShState) : TApiShState.eqb x y = decide (x = y) := by
  obtain ⟨a, b, c⟩ := x
  obtain ⟨a', b', c'⟩ := y
  by_cases h1 : a = a' <;> by_cases h2 : b = b' <;> by_cases h3 : c = c' <;> simp [TApiShState.eqb, h1, h2, h3]
theorem slAlike_ev (l k : List TApiEntry) (hl : l.length < 1000000000000000000) : ∃ b, Ev (fun fu => slices_alike fu l k) b ∧ (b = true ↔ l = k) := by
  unfold slices_alike
  by_cases h : l.length = k.length
  · have hd : (!decide ((l.length : Int) = (k.length : Int))) = false := by simp; omega
    simp only [hd, Bool.false_eq_true, ↓reduceIte]
    obtain ⟨r, r1, r2⟩ := Ev.eqs false l k h (L := slices_alike_l1 l k) (fun fu => by simp [slices_alike_l1]) (fun fu n h1 h2 => by
      have d : decide ((n : Int) < (l.length : Int)) = true := decide_eq_true (by omega)
      simp only [slices_alike_l1, d, ↓reduceIte, ix_get l n h1, ix_get k n h2, Option.bind_some, entry_eqb, w_succ n (by omega)]
      by_cases e : l[n] = k[n] <;> simp [e])
    rcases r2 with ⟨rfl, e⟩ | ⟨rfl, e⟩
    · exact ⟨true, Ev.bind r1 (Ev.ret _), by simp [e]⟩
    · exact ⟨false, Ev.bind r1 (Ev.ret _), by simp [e]⟩
  · have hd : (!decide ((l.length : Int) = (k.length : Int))) = true := by simp; omega
    simp only [hd, ↓reduceIte]
    exact ⟨false, Ev.ret _, by simp; intro e; exact h (by rw [e])⟩
theorem sum_loop {L : Nat → Int → Int → Option Int} (a : List Nat) (hl : a.length ≤ 1000000) (hb : a.sum ≤ 1000000) (stop : ∀ fu c, L (fu + 1) c (a.length : Int) = some c)
    (step : ∀ fu c n (h : n < a.length), L (fu + 1) c (n : Int) = L fu (IntKind.i64.wrap (c + (a[n] : Int))) ((n + 1 : Nat) : Int)) : Ev (fun fu => L fu 0 0) (a.sum : Int) := by
  have go : ∀ m (n c : Nat), n + m = a.length → c + (a.drop n).sum = a.sum → Ev (fun fu => L fu (c : Int) (n : Int)) (a.sum : Int) := by
    intro m
    induction m with
    | zero =>
      intro n c hn hc
      obtain rfl : n = a.length := by omega
      simp only [List.drop_length, List.sum_nil, Nat.add_zero] at hc
      subst hc
      exact Ev.succ (Ev.of (fun fu => stop fu _) (Ev.ret _))
    | succ m ih =>
      intro n c hn hc
      have hnl : n < a.length := by omega
      rw [List.drop_eq_getElem_cons hnl, List.sum_cons] at hc
      have w : IntKind.i64.wrap ((c : Int) + (a[n] : Int)) = ((c + a[n] : Nat) : Int) := by rw [wr (by omega) (by omega)]; omega
      exact Ev.succ (Ev.of (fun fu => (step fu c n hnl).trans (by rw [w])) (ih (n + 1) (c + a[n]) (by omega) (by omega)))
  exact go a.length 0 0 (by omega) (by simp)
def slAt (runs : List (List TApiEntry)) (b : Bool) (n : Nat) : TApiSlState := ⟨stateOf runs (plc runs n), shd b ((allE runs).take n), kept b ((allE runs).take n), (n : Int)⟩
def noSl : TApiSlState := ⟨noState, ⟨false, [], false⟩, [], 0⟩
structure SmallSl (s : TApiSlState) : Prop where
  merge : Small s.Merge
  seen : Seen s.Merge.Runs
  out : s.Out.length ≤ 1000
theorem slAt_small (runs : List (List TApiEntry)) (b : Bool) (n : Nat) (hs : Seen runs) (hg : GoodRuns runs) (hn : n ≤ tot runs) : SmallSl (slAt runs b n) := by
  have p := plc_all runs hg n hn
  have hl := stateOf_lens runs _ p.rch.at'
  have h1 := hs.near.1
  refine ⟨⟨hs.near, ?_, ?_, ?_⟩, hs, ?_⟩
  · show (stateOf runs (plc runs n)).At.length ≤ 1000
    rw [hl.1]; omega
  · show (stateOf runs (plc runs n)).Tree.Keys.length ≤ 1000
    rw [hl.2.2.1]; omega
  · show (stateOf runs (plc runs n)).Tree.Lose.length ≤ 1000
    rw [hl.2.2.2]; omega
  · show (kept b ((allE runs).take n)).length ≤ 1000
    have := keptFrom_len b ((allE runs).take n) false []
    have h2 := hs.few hg
    have h3 : ((allE runs).take n).length ≤ n := by simp; omega
    show (keptFrom b false [] ((allE runs).take n)).length ≤ 1000
    omega
theorem take_fine (runs : List (List TApiEntry)) (hg : GoodRuns runs) (n : Nat) : Fine false [] ((allE runs).take n) := fine_take _ _ _ _ (allE_fine runs hg)
theorem shd_eq (b : Bool) (l : List TApiEntry) (h : 0 < l.length) : shd b l = ⟨true, l[l.length - 1].Key, b⟩ := by simp only [shd, lastFrom_last l false [] h]
theorem fin6 (x : Bool) (p : Prop) [Decidable p] : (if (!x) = true then some true else some (!decide p)).bind (fun b => if b = true then some (6 : Int) else some 0) = some (if x = true ∧ p then 0 else 6) := by
  cases x <;> by_cases h : p <;> simp [h]
theorem check_good (runs : List (List TApiEntry)) (hn : Near runs) (hg : GoodRuns runs) : Ev (fun fu => merge_check fu runs) (0, 0) ∧ Ev (fun fu => bookendref11_right fu runs) (0, 0) := by
  obtain ⟨c, c1, c2, c3⟩ := check_ev runs hn.fits (by have := hn.1; omega)
  rcases c3 with ⟨rfl, _⟩ | hc
  · exact ⟨c1, c2⟩
  · exfalso
    have h := rch_check runs _ hn hg (rch_zeros runs)
    have : Ev (fun fu => merge_Check fu (stateOf runs (zeros runs))) c := by
      unfold merge_Check
      refine Ev.bind c1 (Ev.of (fun fu => ?_) (Ev.ret _))
      simp only [decide_eq_false hc, Bool.not_false, ↓reduceIte]
    have := Ev.uniq this h
    rw [this] at hc
    exact hc rfl
theorem begin_good (runs : List (List TApiEntry)) (hn : Near runs) (hg : GoodRuns runs) : Ev (fun fu => merge_Begin fu runs) (stateOf runs (zeros runs), 0, 0) ∧ Ev (fun fu => bookendref11_Begin fu runs) (stateOf runs (zeros runs), 0, 0) := by
  obtain ⟨b, b1, b2, b3⟩ := begin_ev runs hn.fits (by have := hn.1; omega)
  rcases b3 with ⟨_, rfl⟩ | ⟨_, hb⟩
  · exact ⟨b1, b2⟩
  · exfalso
    have g3 : (0 : Int) ≤ (runs.length : Int) ∧ (runs.length : Int) ≤ (runs.length : Int) ∧ (runs.length : Int) ≤ 9223372036854775807 ∧ 8 * (runs.length : Int) ≤ 281474976710656 := by have := hg.2.1; omega
    have : Ev (fun fu => bookendref11_Begin fu runs) (stateOf runs (zeros runs), 0, 0) := by
      unfold bookendref11_Begin
      refine Ev.bind (check_good runs hn hg).2 ?_
      simp only [decide_true, Bool.not_true, Bool.false_eq_true, ↓reduceIte, if_pos g3]
      rw [zeros_ints]
      exact Ev.bind (state_ev runs _ (zeros_at runs) hg.1 hg.2.1) (Ev.ret _)
    have := Ev.uniq this b2
    rw [← this] at hb
    exact hb rfl
theorem all_good (runs : List (List TApiEntry)) (hn : Near runs) (hg : GoodRuns runs) : Ev (fun fu => merge_All fu runs) (allE runs, allF runs, 0) ∧ Ev (fun fu => bookendref11_All fu runs) (allE runs, allF runs, 0) := by
  obtain ⟨w, w1, w2, w3⟩ := all_ev runs hn.fits (by have := hn.1; omega)
  rcases w3 with ⟨_, rfl⟩ | ⟨_, _, hw⟩
  · exact ⟨w1, w2⟩
  · exfalso
    have hr := rest_good runs hg (zeros runs)
    have : Ev (fun fu => merge_All fu runs) (allE runs, allF runs, 0) := by
      unfold merge_All
      rw [begin2]
      refine Ev.bind (begin_good runs hn hg).1 ?_
      simp only [decide_true, Bool.not_true, Bool.false_eq_true, ↓reduceIte]
      exact Ev.bind (all_l1 runs hg (stateOf runs (zeros runs), 0, 0) rfl _ (zeros runs) _ [] [] (zeros_at runs) rfl rfl (by simp; omega) rfl) (Ev.of (fun fu => by simp [allE, allF, tot]) (Ev.ret _))
    have := Ev.uniq this w1
    rw [← this] at hw
    exact hw rfl
theorem slCheck_ev (s : TApiSlState) (hs : SmallSl s) : ∃ r, Ev (fun fu => slices_Check fu s) r ∧ Ev (fun fu => bookendref13_Check fu s) r ∧
    ((r = 0 ∧ GoodRuns s.Merge.Runs ∧ ∃ n, n ≤ tot s.Merge.Runs ∧ s = slAt s.Merge.Runs s.Shadow.Bottom n) ∨ r ≠ 0) ∧
    (GoodRuns s.Merge.Runs → ∀ n, n ≤ tot s.Merge.Runs → s = slAt s.Merge.Runs s.Shadow.Bottom n → r = 0) := by
  obtain ⟨c, c1, c2, c3, c4⟩ := mgCheck_ev s.Merge hs.merge
  unfold slices_Check bookendref13_Check
  have toOk : GoodRuns s.Merge.Runs → ∀ n, n ≤ tot s.Merge.Runs → s = slAt s.Merge.Runs s.Shadow.Bottom n → Ok s.Merge (plc s.Merge.Runs n) := by
    intro hg n hn e
    have := rch_ok s.Merge.Runs _ hg (plc_all s.Merge.Runs hg n hn).rch
    have e2 : s.Merge = stateOf s.Merge.Runs (plc s.Merge.Runs n) := congrArg TApiSlState.Merge e
    rw [← e2] at this
    exact this
  rcases c3 with ⟨rfl, a, ho⟩ | hc
  · obtain ⟨hp, hle⟩ := ok_plc _ a ho
    obtain ⟨hg, ha, he, hr⟩ := ho
    have h120 := hs.seen.few hg
    have hal : a.length ≤ 34 := by rw [ha.1]; exact hs.seen.near.1
    have hAt : s.Merge.At = ints a := congrArg TApiMgState.At he
    have z1 : Ev (fun fu => slices_Check_l1 s fu 0 0) (a.sum : Int) := sum_loop a (by omega) (by omega) (fun fu c => by simp [slices_Check_l1, hAt, ints_len]) (fun fu c n h => by
      have d : decide ((n : Int) < ((ints a).length : Int)) = true := decide_eq_true (by rw [ints_len]; omega)
      simp only [slices_Check_l1, hAt, d, ↓reduceIte, ix_ints a n h, Option.bind_some, w_succ n (by omega)])
    have z2 : Ev (fun fu => bookendref13_read fu s) (a.sum : Int) := by
      unfold bookendref13_read
      exact Ev.bind (sum_loop (L := bookendref13_read_l1 s) a (by omega) (by omega) (fun fu c => by simp [bookendref13_read_l1, hAt, ints_len]) (fun fu c n h => by
        have d : decide ((n : Int) < ((ints a).length : Int)) = true := decide_eq_true (by rw [ints_len]; omega)
        simp only [bookendref13_read_l1, hAt, d, ↓reduceIte, ix_ints a n h, Option.bind_some, w_succ n (by omega)])) (Ev.ret _)
    generalize hn : a.sum = n at *
    have o1 : decide ((20000 : Int) < (s.Out.length : Int)) = false := decide_eq_false (by have := hs.out; omega)
    have o2 : decide ((20000 : Int) < (n : Int)) = false := decide_eq_false (by omega)
    by_cases hst : s.Steps = (n : Int)
    · have d1 : decide (s.Steps = (n : Int)) = true := decide_eq_true hst
      obtain ⟨w1, w2⟩ := all_good s.Merge.Runs hs.seen.near hg
      have hlen := allE_len s.Merge.Runs
      have g : (0 : Int) ≤ (n : Int) ∧ (n : Int) ≤ ((allE s.Merge.Runs).length : Int) := by omega
      have hF := take_fine s.Merge.Runs hg n
      have htl : ((allE s.Merge.Runs).take n).length = n := by simp; omega
      have f1 := filter_ev ((allE s.Merge.Runs).take n) s.Shadow.Bottom (by omega) hF
      have f2 := behind_ev ((allE s.Merge.Runs).take n) s.Shadow.Bottom (by omega) hF
      obtain ⟨x, x1, x2⟩ := slAlike_ev s.Out (kept s.Shadow.Bottom ((allE s.Merge.Runs).take n)) (by have := hs.out; omega)
      obtain ⟨y, y1, y2⟩ := sameEntries_ev s.Out (kept s.Shadow.Bottom ((allE s.Merge.Runs).take n)) (by have := hs.out; omega)
      obtain rfl : x = y := Bool.eq_iff_iff.2 (x2.trans y2.symm)
      have sheq : ∀ n' : Nat, n' = n → s.Steps = n' := fun _ h => by rw [h]; exact hst
      have full : s.Out = kept s.Shadow.Bottom ((allE s.Merge.Runs).take n) → s.Shadow = shd s.Shadow.Bottom ((allE s.Merge.Runs).take n) → s = slAt s.Merge.Runs s.Shadow.Bottom n := by
        intro e1 e2
        have e3 : s.Merge = stateOf s.Merge.Runs (plc s.Merge.Runs n) := by rw [← hp]; exact he
        show s = ⟨stateOf s.Merge.Runs (plc s.Merge.Runs n), shd s.Shadow.Bottom ((allE s.Merge.Runs).take n), kept s.Shadow.Bottom ((allE s.Merge.Runs).take n), (n : Int)⟩
        rw [← e3, ← e1, ← e2, ← hst]
      have only : ∀ n', n' ≤ tot s.Merge.Runs → s = slAt s.Merge.Runs s.Shadow.Bottom n' → n' = n := by
        intro n' hn' e
        have : s.Steps = (n' : Int) := congrArg TApiSlState.Steps e
        omega
      refine ⟨if x = true ∧ s.Shadow = shd s.Shadow.Bottom ((allE s.Merge.Runs).take n) then 0 else 6, Ev.bind c1 ?_, Ev.bind c2 ?_, ?_, fun _ n' hn' e => ?_⟩
      · simp only [decide_true, Bool.not_true, Bool.false_eq_true, ↓reduceIte]
        refine Ev.bind z1 ?_
        simp only [o1, o2, Bool.false_eq_true, ↓reduceIte, Option.bind_some, d1, Bool.not_true]
        refine Ev.bind w1 ?_
        simp only [decide_true, Bool.not_true, Bool.false_eq_true, ↓reduceIte, if_pos g, Int.toNat_natCast]
        refine Ev.bind f1 ?_
        simp only [decide_true, Bool.not_true, Bool.false_eq_true, ↓reduceIte, shadow_Begin, Option.bind_some, sh_eqb]
        by_cases h0 : 0 < n
        · have d0 : decide ((0 : Int) < (n : Int)) = true := decide_eq_true (by omega)
          have w : IntKind.i64.wrap ((n : Int) - 1) = ((n - 1 : Nat) : Int) := by rw [wr (by omega) (by omega)]; omega
          have e1 := shd_eq s.Shadow.Bottom ((allE s.Merge.Runs).take n) (by omega)
          have e2 : ((allE s.Merge.Runs).take n)[((allE s.Merge.Runs).take n).length - 1]'(by omega) = (allE s.Merge.Runs)[n - 1]'(by omega) := by
            rw [List.getElem_take]; congr 1; omega
          rw [e2] at e1
          simp only [d0, ↓reduceIte, w, ix_get (allE s.Merge.Runs) (n - 1) (by omega), Option.bind_some, e1]
          exact Ev.bind x1 (Ev.of (fun fu => fin6 x _) (Ev.ret _))
        · have d0 : decide ((0 : Int) < (n : Int)) = false := decide_eq_false (by omega)
          obtain rfl : n = 0 := by omega
          simp only [d0, Bool.false_eq_true, ↓reduceIte, List.take_zero, shd, lastFrom] at x1 ⊢
          exact Ev.bind x1 (Ev.of (fun fu => fin6 x _) (Ev.ret _))
      · simp only [decide_true, Bool.not_true, Bool.false_eq_true, ↓reduceIte]
        refine Ev.bind z2 ?_
        simp only [o1, o2, Bool.false_eq_true, ↓reduceIte, Option.bind_some, d1, Bool.not_true]
        refine Ev.bind w2 ?_
        simp only [if_pos g, Int.toNat_natCast]
        refine Ev.bind f2 ?_
        simp only [sh_eqb]
        exact Ev.bind y1 (Ev.of (fun fu => fin6 x _) (Ev.ret _))
      · by_cases h : x = true ∧ s.Shadow = shd s.Shadow.Bottom ((allE s.Merge.Runs).take n)
        · rw [if_pos h]; exact .inl ⟨rfl, hg, n, hle, full (x2.1 h.1) h.2⟩
        · rw [if_neg h]; exact .inr (by decide)
      · obtain rfl := only n' hn' e
        rw [if_pos]
        exact ⟨x2.2 (congrArg TApiSlState.Out e), congrArg TApiSlState.Shadow e⟩
    · have d1 : decide (s.Steps = (n : Int)) = false := decide_eq_false hst
      refine ⟨7, Ev.bind c1 ?_, Ev.bind c2 ?_, .inr (by decide), fun hg' n' hn' e => ?_⟩
      · simp only [decide_true, Bool.not_true, Bool.false_eq_true, ↓reduceIte]
        refine Ev.bind z1 ?_
        simp only [o1, o2, Bool.false_eq_true, ↓reduceIte, Option.bind_some, d1, Bool.not_false]
        exact Ev.ret _
      · simp only [decide_true, Bool.not_true, Bool.false_eq_true, ↓reduceIte]
        refine Ev.bind z2 ?_
        simp only [o1, o2, Bool.false_eq_true, ↓reduceIte, Option.bind_some, d1, Bool.not_false]
        exact Ev.ret _
      · exfalso
        have h1 : s.Steps = (n' : Int) := congrArg TApiSlState.Steps e
        have h2 : s.Merge = stateOf s.Merge.Runs (plc s.Merge.Runs n') := congrArg TApiSlState.Merge e
        have h3 : ints a = ints (plc s.Merge.Runs n') := by rw [← hAt]; exact congrArg TApiMgState.At h2
        have h4 : a = plc s.Merge.Runs n' := (List.map_inj_right (fun x y h => by have h : (x : Int) = (y : Int) := h; omega)).1 h3
        have h5 := plc_sum s.Merge.Runs hg' n' hn'
        rw [← h4, hn] at h5
        exact hst (by rw [h1, h5])
  · refine ⟨c.2, Ev.bind c1 ?_, Ev.bind c2 ?_, .inr hc, fun hg n hn e => absurd (congrArg Prod.snd (c4 _ (toOk hg n hn e))) hc⟩
    · simp only [decide_eq_false hc, Bool.not_false, ↓reduceIte]; exact Ev.ret _
    · simp only [decide_eq_false hc, Bool.not_false, ↓reduceIte]; exact Ev.ret _
end Go.T
end
section
namespace Go.T
open Go Go.AM
theorem rch_rcheck (runs : List (List TApiEntry)) (a : List Nat) (hn : Near runs) (hg : GoodRuns runs) (h : Rch runs a) : Ev (fun fu => bookendref11_Check fu (stateOf runs a)) (0, 0) := by
  have hl := stateOf_lens runs a h.at'
  have := hn.1
  obtain ⟨r, -, r1, -, r4⟩ := mgCheck_ev (stateOf runs a) ⟨hn, by rw [hl.1]; omega, by rw [hl.2.2.1]; omega, by rw [hl.2.2.2]; omega⟩
  rw [r4 a (rch_ok runs a hg h)] at r1
  exact r1
inductive Said (s : TApiSlState) (r : Int) : Prop
  | at (e : r = 0) (hg : GoodRuns s.Merge.Runs) (n : Nat) (hn : n ≤ tot s.Merge.Runs) (hs : s = slAt s.Merge.Runs s.Shadow.Bottom n)
  | no (h : r ≠ 0)
theorem slCheck_at (runs : List (List TApiEntry)) (b : Bool) (n : Nat) (hs : Seen runs) (hg : GoodRuns runs) (hn : n ≤ tot runs) : Ev (fun fu => slices_Check fu (slAt runs b n)) 0 ∧ Ev (fun fu => bookendref13_Check fu (slAt runs b n)) 0 := by
  obtain ⟨r, r1, r2, -, r4⟩ := slCheck_ev (slAt runs b n) (slAt_small runs b n hs hg hn)
  have := r4 hg n hn rfl
  subst this
  exact ⟨r1, r2⟩
theorem slLeft_at (runs : List (List TApiEntry)) (b : Bool) (n : Nat) (hs : Seen runs) (hg : GoodRuns runs) (hn : n ≤ tot runs) : Ev (fun fu => slices_Left fu (slAt runs b n)) (((tot runs - n : Nat) : Int), 0) ∧ Ev (fun fu => bookendref13_Left fu (slAt runs b n)) (((tot runs - n : Nat) : Int), 0) := by
  obtain ⟨c1, c2⟩ := slCheck_at runs b n hs hg hn
  have p := plc_all runs hg n hn
  have l1 := left_ev runs _ hg p.rch.at' (rch_check runs _ hs.near hg p.rch)
  have l2 := rleft_ev runs _ hg p.rch.at' (rch_rcheck runs _ hs.near hg p.rch)
  rw [p.left] at l1 l2
  constructor
  · unfold slices_Left
    refine Ev.bind c1 ?_
    simp only [decide_true, Bool.not_true, Bool.false_eq_true, ↓reduceIte]
    exact Ev.bind l1 (Ev.ret _)
  · unfold bookendref13_Left
    refine Ev.bind c2 ?_
    simp only [decide_true, Bool.not_true, Bool.false_eq_true, ↓reduceIte]
    exact Ev.bind l2 (Ev.ret _)
theorem kept_len (runs : List (List TApiEntry)) (b : Bool) (n : Nat) (h : n ≤ tot runs) : (kept b ((allE runs).take n)).length ≤ n := by
  have := keptFrom_len b ((allE runs).take n) false []
  have h3 : ((allE runs).take n).length ≤ n := by simp; omega
  exact Nat.le_trans this h3
theorem next_at (runs : List (List TApiEntry)) (i : Nat) (hs : Seen runs) (hg : GoodRuns runs) (h : i < tot runs) (h2 : i < (allE runs).length) : Ev (fun fu => merge_Next fu (stateOf runs (plc runs i))) ((allE runs)[i], (wn runs (plc runs i) : Int), stateOf runs (plc runs (i + 1)), 0) ∧
    Ev (fun fu => bookendref11_Next fu (stateOf runs (plc runs i))) ((allE runs)[i], (wn runs (plc runs i) : Int), stateOf runs (plc runs (i + 1)), 0) := by
  have p := plc_all runs hg i (by omega)
  have c := plc_cur runs hg i h
  have e := nextOf_go runs _ c.hw c.hwa c.hq
  have n1 := next_ev runs _ hg p.rch.at' (rch_check runs _ hs.near hg p.rch)
  have n2 := rnext_ev runs _ hg p.rch.at' (rch_rcheck runs _ hs.near hg p.rch)
  rw [e, ← allE_get runs i h c h2, ← plc_succ] at n1 n2
  exact ⟨n1, n2⟩
theorem take_next (runs : List (List TApiEntry)) (i : Nat) (h2 : i < (allE runs).length) : (allE runs).take (i + 1) = (allE runs).take i ++ [(allE runs)[i]] := (List.take_append_getElem h2).symm
theorem shd_next (runs : List (List TApiEntry)) (b : Bool) (i : Nat) (h2 : i < (allE runs).length) : shd b ((allE runs).take (i + 1)) = ⟨true, (allE runs)[i].Key, b⟩ := by
  rw [take_next runs i h2]
  simp only [shd, lastFrom_app, lastFrom]
theorem kept_next (runs : List (List TApiEntry)) (b : Bool) (i : Nat) (h2 : i < (allE runs).length) : kept b ((allE runs).take (i + 1)) = kept b ((allE runs).take i) ++ (if keep1 b (shd b ((allE runs).take i)).Some (shd b ((allE runs).take i)).Last (allE runs)[i] then [(allE runs)[i]] else []) := by
  rw [take_next runs i h2]
  simp only [kept, keptFrom_app, keptFrom, shd]
  rfl
theorem shStep_at (runs : List (List TApiEntry)) (b : Bool) (i : Nat) (hg : GoodRuns runs) (h2 : i < (allE runs).length) (fu : Nat) : shadow_Step fu (shd b ((allE runs).take i)) (allE runs)[i] = some (keep1 b (shd b ((allE runs).take i)).Some (shd b ((allE runs).take i)).Last (allE runs)[i], shd b ((allE runs).take (i + 1)), 0) := by
  have f := take_fine runs hg (i + 1)
  rw [take_next runs i h2, fine_app] at f
  have ok := lastOk _ false [] ⟨by simp, fun _ => rfl⟩ f.1
  rw [shd_next runs b i h2]
  exact shStep_eq fu _ _ b _ ok f.2.1 f.2.2.1
def tupSl (s : TApiSlState) : List (List TApiEntry) × List Int × List TApiLsKey × List Int × Int × Bool × List UInt8 × Bool × Int × List TApiEntry :=
  (s.Merge.Runs, s.Merge.At, s.Merge.Tree.Keys, s.Merge.Tree.Lose, s.Merge.Tree.Win, s.Shadow.Some, s.Shadow.Last, s.Shadow.Bottom, s.Steps, s.Out)
theorem step_l1 (runs : List (List TApiEntry)) (b : Bool) (hs : Seen runs) (hg : GoodRuns runs) (n U : Nat) (v : Int × Int) (k : Int) (hU : (if v.1 < k then v.1 else k) = (U : Int)) (hn : n + U ≤ tot runs) (m : Nat) : ∀ i, i + m = U →
    Ev (fun fu => slices_Step_l1 v k fu (i : Int) (slAt runs b (n + i)).Merge.Runs (slAt runs b (n + i)).Merge.At (slAt runs b (n + i)).Merge.Tree.Keys (slAt runs b (n + i)).Merge.Tree.Lose (slAt runs b (n + i)).Merge.Tree.Win (slAt runs b (n + i)).Shadow.Some (slAt runs b (n + i)).Shadow.Last (slAt runs b (n + i)).Shadow.Bottom (slAt runs b (n + i)).Steps (slAt runs b (n + i)).Out) (.inl (tupSl (slAt runs b (n + U)))) := by
  have h120 := hs.few hg
  induction m with
  | zero =>
    intro i hi
    obtain rfl : i = U := by omega
    have d : decide ((i : Int) < (i : Int)) = false := decide_eq_false (by omega)
    refine Ev.succ ?_
    simp only [slices_Step_l1, hU, d, Bool.false_eq_true, ↓reduceIte]
    exact Ev.ret _
  | succ m ih =>
    intro i hi
    have d : decide ((i : Int) < (U : Int)) = true := decide_eq_true (by omega)
    have hl : n + i < (allE runs).length := by rw [allE_len]; omega
    have nx := (next_at runs (n + i) hs hg (by omega) hl).1
    have hrec := ih (i + 1) (by omega)
    refine Ev.succ ?_
    simp only [slices_Step_l1, hU, d, ↓reduceIte]
    refine Ev.bind (a := ((allE runs)[n + i], (wn runs (plc runs (n + i)) : Int), stateOf runs (plc runs (n + i + 1)), 0)) nx ?_
    simp only [decide_true, Bool.not_true, Bool.false_eq_true, ↓reduceIte]
    have sh : ∀ fu, shadow_Step fu ⟨(slAt runs b (n + i)).Shadow.Some, (slAt runs b (n + i)).Shadow.Last, (slAt runs b (n + i)).Shadow.Bottom⟩ (allE runs)[n + i] = _ := shStep_at runs b (n + i) hg hl
    have hk := kept_len runs b (n + i) (by omega)
    have g : 2 * (((slAt runs b (n + i)).Out.length + 1) * 48) ≤ 281474976710656 := by show 2 * (((kept b ((allE runs).take (n + i))).length + 1) * 48) ≤ 281474976710656; omega
    have w1 : IntKind.i64.wrap ((slAt runs b (n + i)).Steps + 1) = (slAt runs b (n + (i + 1))).Steps := w_succ (n + i) (by omega)
    have ko : (slAt runs b (n + (i + 1))).Out = _ := kept_next runs b (n + i) hl
    simp only [sh, Option.bind_some, decide_true, Bool.not_true, Bool.false_eq_true, ↓reduceIte, if_pos g, w_succ i (show i < 9223372036854775807 by omega), w1]
    rw [ko] at hrec
    cases hkp : keep1 b (shd b ((allE runs).take (n + i))).Some (shd b ((allE runs).take (n + i))).Last (allE runs)[n + i] with
    | true => rw [hkp] at hrec; exact hrec
    | false =>
      rw [hkp] at hrec
      simp only [Bool.false_eq_true, ↓reduceIte, List.append_nil] at hrec
      exact hrec
theorem rstep_l1 (runs : List (List TApiEntry)) (hs : Seen runs) (hg : GoodRuns runs) (n U : Nat) (v : Int × Int) (k : Int) (hU : (if v.1 < k then v.1 else k) = (U : Int)) (hn : n + U ≤ tot runs) (m : Nat) : ∀ i, i + m = U →
    Ev (fun fu => bookendref13_Step_l1 v k fu (i : Int) (stateOf runs (plc runs (n + i))).Runs (stateOf runs (plc runs (n + i))).At (stateOf runs (plc runs (n + i))).Tree.Keys (stateOf runs (plc runs (n + i))).Tree.Lose (stateOf runs (plc runs (n + i))).Tree.Win)
      ((stateOf runs (plc runs (n + U))).Runs, (stateOf runs (plc runs (n + U))).At, (stateOf runs (plc runs (n + U))).Tree.Keys, (stateOf runs (plc runs (n + U))).Tree.Lose, (stateOf runs (plc runs (n + U))).Tree.Win) := by
  have h120 := hs.few hg
  induction m with
  | zero =>
    intro i hi
    obtain rfl : i = U := by omega
    have d : decide ((i : Int) < (i : Int)) = false := decide_eq_false (by omega)
    refine Ev.succ ?_
    simp only [bookendref13_Step_l1, hU, d, Bool.false_eq_true, ↓reduceIte]
    exact Ev.ret _
  | succ m ih =>
    intro i hi
    have d : decide ((i : Int) < (U : Int)) = true := decide_eq_true (by omega)
    have hl : n + i < (allE runs).length := by rw [allE_len]; omega
    have nx := (next_at runs (n + i) hs hg (by omega) hl).2
    have hrec := ih (i + 1) (by omega)
    refine Ev.succ ?_
    simp only [bookendref13_Step_l1, hU, d, ↓reduceIte]
    refine Ev.bind (a := ((allE runs)[n + i], (wn runs (plc runs (n + i)) : Int), stateOf runs (plc runs (n + i + 1)), 0)) nx ?_
    simp only [w_succ i (show i < 9223372036854775807 by omega)]
    exact hrec
def used (runs : List (List TApiEntry)) (n : Nat) (k : Nat) : Nat := min k (tot runs - n)
theorem read_at (runs : List (List TApiEntry)) (b : Bool) (n : Nat) (hs : Seen runs) (hg : GoodRuns runs) (hn : n ≤ tot runs) : Ev (fun fu => bookendref13_read fu (slAt runs b n)) (n : Int) := by
  have p := plc_all runs hg n hn
  have hal : (plc runs n).length ≤ 34 := by rw [p.rch.at'.1]; exact hs.near.1
  have h120 := hs.few hg
  have e := plc_sum runs hg n hn
  have hAt : (slAt runs b n).Merge.At = ints (plc runs n) := rfl
  unfold bookendref13_read
  have := sum_loop (L := bookendref13_read_l1 (slAt runs b n)) (plc runs n) (by omega) (by omega) (fun fu c => by simp [bookendref13_read_l1, hAt, ints_len]) (fun fu c i h => by
    have d : decide ((i : Int) < ((ints (plc runs n)).length : Int)) = true := decide_eq_true (by rw [ints_len]; omega)
    simp only [bookendref13_read_l1, hAt, d, ↓reduceIte, ix_ints _ i h, Option.bind_some, w_succ i (show i < 9223372036854775807 by omega)])
  rw [e] at this
  exact Ev.bind this (Ev.ret _)
theorem slStep_at (runs : List (List TApiEntry)) (b : Bool) (n k : Nat) (hs : Seen runs) (hg : GoodRuns runs) (hn : n ≤ tot runs) :
    Ev (fun fu => slices_Step fu (slAt runs b n) (k : Int)) (slAt runs b (n + used runs n k), (used runs n k : Int), 0) ∧ Ev (fun fu => bookendref13_Step fu (slAt runs b n) (k : Int)) (slAt runs b (n + used runs n k), (used runs n k : Int), 0) := by
  obtain ⟨c1, c2⟩ := slLeft_at runs b n hs hg hn
  have h120 := hs.few hg
  have p := plc_all runs hg n hn
  have hal : (ints (plc runs n)).length ≤ 34 := by rw [ints_len, p.rch.at'.1]; exact hs.near.1
  have hk := kept_len runs b n hn
  have hu : used runs n k ≤ tot runs - n := Nat.min_le_right _ _
  have hU : (if ((tot runs - n : Nat) : Int) < (k : Int) then ((tot runs - n : Nat) : Int) else (k : Int)) = (used runs n k : Int) := by
    unfold used; split <;> omega
  have d1 : decide ((k : Int) < 0) = false := decide_eq_false (by omega)
  have hSt : (slAt runs b n).Steps = (n : Int) := rfl
  have w : IntKind.i64.wrap ((n : Int) + (used runs n k : Int)) = ((n + used runs n k : Nat) : Int) := by rw [wr (by omega) (by omega)]; omega
  have d2 : decide ((20000 : Int) < ((n + used runs n k : Nat) : Int)) = false := decide_eq_false (by omega)
  have g1 : 2 * ((slAt runs b n).Out.length * 48) ≤ 281474976710656 := by show 2 * ((kept b ((allE runs).take n)).length * 48) ≤ 281474976710656; omega
  have g2 : 2 * ((slAt runs b n).Merge.At.length * 8) ≤ 281474976710656 := by show 2 * ((ints (plc runs n)).length * 8) ≤ 281474976710656; omega
  constructor
  · have st := step_l1 runs b hs hg n (used runs n k) (((tot runs - n : Nat) : Int), 0) (k : Int) hU (by omega) (used runs n k) 0 (by omega)
    unfold slices_Step
    refine Ev.bind c1 ?_
    simp only [decide_true, Bool.not_true, Bool.false_eq_true, ↓reduceIte, d1, hU, hSt, w, d2, if_pos g1, if_pos g2]
    refine Ev.bind st ?_
    exact Ev.ret _
  · have st := rstep_l1 runs hs hg n (used runs n k) (((tot runs - n : Nat) : Int), 0) (k : Int) hU (by omega) (used runs n k) 0 (by omega)
    unfold bookendref13_Step
    refine Ev.bind c2 ?_
    simp only [decide_true, Bool.not_true, Bool.false_eq_true, ↓reduceIte, d1, Option.bind_some]
    refine Ev.bind (read_at runs b n hs hg hn) ?_
    simp only [hU, hSt, w, d2, Bool.false_eq_true, ↓reduceIte]
    refine Ev.bind st ?_
    refine Ev.bind (all_good runs hs.near hg).2 ?_
    have g3 : (0 : Int) ≤ ((n + used runs n k : Nat) : Int) ∧ ((n + used runs n k : Nat) : Int) ≤ ((allE runs).length : Int) := by rw [allE_len]; omega
    simp only [if_pos g3, Int.toNat_natCast]
    have htl : ((allE runs).take (n + used runs n k)).length ≤ 20000 := by simp; omega
    refine Ev.bind (behind_ev _ b htl (take_fine runs hg _)) ?_
    exact Ev.ret _
end Go.T
end
section
namespace Go.T
open Go Go.AM
theorem awake_val : bookendlaw13_awake 40 = some true := by kernel_rfl
theorem awake_ev : Ev (fun fu => bookendlaw13_awake fu) true := Ev.mono (n := 40) (fun fu => m_bookendlaw13_awake fu) awake_val
end Go.T
end
section
namespace Go.T
open Go Go.AM
theorem se_self (l : List TApiEntry) (h : l.length < 1000000000000000000) : Ev (fun fu => bookendref11_SameEntries fu l l) true := by
  obtain ⟨b, b1, b2⟩ := sameEntries_ev l l h
  obtain rfl : b = true := b2.2 rfl
  exact b1
theorem slBegin_good (runs : List (List TApiEntry)) (b : Bool) (hs : Seen runs) (hg : GoodRuns runs) : Ev (fun fu => slices_Begin fu runs b) (slAt runs b 0, 0, 0) ∧ Ev (fun fu => bookendref13_Begin fu runs b) (slAt runs b 0, 0, 0) := by
  obtain ⟨a1, a2⟩ := begin_good runs hs.near hg
  constructor
  · unfold slices_Begin
    refine Ev.bind a1 ?_
    simp only [decide_true, Bool.not_true, Bool.false_eq_true, ↓reduceIte, shadow_Begin, Option.bind_some]
    exact Ev.ret _
  · unfold bookendref13_Begin
    refine Ev.bind a2 ?_
    simp only [decide_true, Bool.not_true, Bool.false_eq_true, ↓reduceIte, bookendref12_Begin, Option.bind_some]
    exact Ev.ret _
theorem slBegin_bad (runs : List (List TApiEntry)) (b : Bool) (hs : Seen runs) (hg : ¬ GoodRuns runs) : ∃ i c, c ≠ 0 ∧ Ev (fun fu => slices_Begin fu runs b) (noSl, i, c) ∧ Ev (fun fu => bookendref13_Begin fu runs b) (noSl, i, c) := by
  obtain ⟨w, w1, w2, w3⟩ := begin_ev runs hs.near.fits (by have := hs.near.1; omega)
  rcases w3 with ⟨h, _⟩ | ⟨_, hc⟩
  · exact absurd h hg
  · refine ⟨w.2.1, w.2.2, hc, ?_, ?_⟩
    · unfold slices_Begin
      refine Ev.bind w1 ?_
      simp only [decide_eq_false hc, Bool.not_false, ↓reduceIte]
      exact Ev.ret _
    · unfold bookendref13_Begin
      refine Ev.bind w2 ?_
      simp only [decide_eq_false hc, Bool.not_false, ↓reduceIte]
      exact Ev.ret _
end Go.T
end
section
namespace Go.T
open Go Go.AM
end Go.T
end
section
namespace Go.T
open Go Go.AM
end Go.T
end
section
namespace Go.T
open Go Go.AM
theorem next2' : @merge_Next_2 = @merge_Next := by kernel_rfl
def tup3 (s : TApiSlState) : List (List TApiEntry) × List TApiLsKey × List Int × Int × Bool × List UInt8 × Bool × Int × List TApiEntry × List Int :=
  (s.Merge.Runs, s.Merge.Tree.Keys, s.Merge.Tree.Lose, s.Merge.Tree.Win, s.Shadow.Some, s.Shadow.Last, s.Shadow.Bottom, s.Steps, s.Out, s.Merge.At)
theorem step3_l1 (runs : List (List TApiEntry)) (b : Bool) (hs : Seen runs) (hg : GoodRuns runs) (n U : Nat) (v : Int × Int) (k : Int) (hU : (if v.1 < k then v.1 else k) = (U : Int)) (hn : n + U ≤ tot runs) (m : Nat) : ∀ i, i + m = U →
    Ev (fun fu => slices_Step_3_l1 v k fu (slAt runs b (n + i)).Merge.At (i : Int) (slAt runs b (n + i)).Merge.Runs (slAt runs b (n + i)).Merge.Tree.Keys (slAt runs b (n + i)).Merge.Tree.Lose (slAt runs b (n + i)).Merge.Tree.Win (slAt runs b (n + i)).Shadow.Some (slAt runs b (n + i)).Shadow.Last (slAt runs b (n + i)).Shadow.Bottom (slAt runs b (n + i)).Steps (slAt runs b (n + i)).Out) (.inl (tup3 (slAt runs b (n + U)))) := by
  have h120 := hs.few hg
  induction m with
  | zero =>
    intro i hi
    obtain rfl : i = U := by omega
    have d : decide ((i : Int) < (i : Int)) = false := decide_eq_false (by omega)
    refine Ev.succ ?_
    simp only [slices_Step_3_l1, hU, d, Bool.false_eq_true, ↓reduceIte]
    exact Ev.ret _
  | succ m ih =>
    intro i hi
    have d : decide ((i : Int) < (U : Int)) = true := decide_eq_true (by omega)
    have hl : n + i < (allE runs).length := by rw [allE_len]; omega
    have nx := (next_at runs (n + i) hs hg (by omega) hl).1
    have hrec := ih (i + 1) (by omega)
    refine Ev.succ ?_
    simp only [slices_Step_3_l1, next2', hU, d, ↓reduceIte]
    refine Ev.bind (a := ((allE runs)[n + i], (wn runs (plc runs (n + i)) : Int), stateOf runs (plc runs (n + i + 1)), 0)) nx ?_
    simp only [decide_true, Bool.not_true, Bool.false_eq_true, ↓reduceIte]
    have sh : ∀ fu, shadow_Step fu ⟨(slAt runs b (n + i)).Shadow.Some, (slAt runs b (n + i)).Shadow.Last, (slAt runs b (n + i)).Shadow.Bottom⟩ (allE runs)[n + i] = _ := shStep_at runs b (n + i) hg hl
    have hk := kept_len runs b (n + i) (by omega)
    have g : 2 * (((slAt runs b (n + i)).Out.length + 1) * 48) ≤ 281474976710656 := by show 2 * (((kept b ((allE runs).take (n + i))).length + 1) * 48) ≤ 281474976710656; omega
    have w1 : IntKind.i64.wrap ((slAt runs b (n + i)).Steps + 1) = (slAt runs b (n + (i + 1))).Steps := w_succ (n + i) (by omega)
    have ko : (slAt runs b (n + (i + 1))).Out = _ := kept_next runs b (n + i) hl
    simp only [sh, Option.bind_some, decide_true, Bool.not_true, Bool.false_eq_true, ↓reduceIte, if_pos g, w_succ i (show i < 9223372036854775807 by omega), w1]
    rw [ko] at hrec
    cases hkp : keep1 b (shd b ((allE runs).take (n + i))).Some (shd b ((allE runs).take (n + i))).Last (allE runs)[n + i] with
    | true => rw [hkp] at hrec; exact hrec
    | false =>
      rw [hkp] at hrec
      simp only [Bool.false_eq_true, ↓reduceIte, List.append_nil] at hrec
      exact hrec
theorem slStep3_at (runs : List (List TApiEntry)) (b : Bool) (n k : Nat) (hs : Seen runs) (hg : GoodRuns runs) (hn : n ≤ tot runs) :
    Ev (fun fu => slices_Step_3 fu (slAt runs b n) (k : Int)) (slAt runs b (n + used runs n k), (used runs n k : Int), 0) := by
  obtain ⟨c1, c2⟩ := slLeft_at runs b n hs hg hn
  have h120 := hs.few hg
  have p := plc_all runs hg n hn
  have hal : (ints (plc runs n)).length ≤ 34 := by rw [ints_len, p.rch.at'.1]; exact hs.near.1
  have hk := kept_len runs b n hn
  have hu : used runs n k ≤ tot runs - n := Nat.min_le_right _ _
  have hU : (if ((tot runs - n : Nat) : Int) < (k : Int) then ((tot runs - n : Nat) : Int) else (k : Int)) = (used runs n k : Int) := by
    unfold used; split <;> omega
  have d1 : decide ((k : Int) < 0) = false := decide_eq_false (by omega)
  have hSt : (slAt runs b n).Steps = (n : Int) := rfl
  have w : IntKind.i64.wrap ((n : Int) + (used runs n k : Int)) = ((n + used runs n k : Nat) : Int) := by rw [wr (by omega) (by omega)]; omega
  have d2 : decide ((20000 : Int) < ((n + used runs n k : Nat) : Int)) = false := decide_eq_false (by omega)
  have g1 : 2 * ((slAt runs b n).Out.length * 48) ≤ 281474976710656 := by show 2 * ((kept b ((allE runs).take n)).length * 48) ≤ 281474976710656; omega
  have g2 : 2 * ((slAt runs b n).Merge.At.length * 8) ≤ 281474976710656 := by show 2 * ((ints (plc runs n)).length * 8) ≤ 281474976710656; omega
  have st := step3_l1 runs b hs hg n (used runs n k) (((tot runs - n : Nat) : Int), 0) (k : Int) hU (by omega) (used runs n k) 0 (by omega)
  unfold slices_Step_3
  refine Ev.bind c1 ?_
  simp only [decide_true, Bool.not_true, Bool.false_eq_true, ↓reduceIte, d1, hU, hSt, w, d2, if_pos g1, if_pos g2]
  refine Ev.bind st ?_
  exact Ev.ret _
theorem sown_l1 (m : Nat) : ∀ (n : Nat) (l : List TApiEntry), n + m = l.length → l.length ≤ 1000 → ∃ r, Ev (fun fu => bookendlaw13_SlicesOwn_l1 fu (n : Int) l) r := by
  induction m with
  | zero => intro n l hn hl; exact ⟨l, Ev.succ (Ev.of (fun fu => by simp [bookendlaw13_SlicesOwn_l1, show ¬ (n : Int) < (l.length : Int) by omega]) (Ev.ret _))⟩
  | succ m ih =>
    intro n l hn hl
    have hr : n < l.length := by omega
    have d : decide ((n : Int) < (l.length : Int)) = true := decide_eq_true (by omega)
    obtain ⟨r, h⟩ := ih (n + 1) (l.set n (TApiEntry.mk [99, 104, 97, 110, 103, 101, 100] [] false 0)) (by simp; omega) (by simpa using hl)
    refine ⟨r, Ev.succ (Ev.of (fun fu => ?_) h)⟩
    simp only [bookendlaw13_SlicesOwn_l1, d, ↓reduceIte, ix_get l n hr, Option.bind_some, w_succ n (show n < 9223372036854775807 by omega), Int.toNat_natCast]
theorem sown_l2 (m : Nat) : ∀ (n : Nat) (l : List Int), n + m = l.length → l.length ≤ 1000 → ∃ r, Ev (fun fu => bookendlaw13_SlicesOwn_l2 fu (n : Int) l) r := by
  induction m with
  | zero => intro n l hn hl; exact ⟨l, Ev.succ (Ev.of (fun fu => by simp [bookendlaw13_SlicesOwn_l2, show ¬ (n : Int) < (l.length : Int) by omega]) (Ev.ret _))⟩
  | succ m ih =>
    intro n l hn hl
    have hr : n < l.length := by omega
    have d : decide ((n : Int) < (l.length : Int)) = true := decide_eq_true (by omega)
    obtain ⟨r, h⟩ := ih (n + 1) (l.set n (-1)) (by simp; omega) (by simpa using hl)
    refine ⟨r, Ev.succ (Ev.of (fun fu => ?_) h)⟩
    simp only [bookendlaw13_SlicesOwn_l2, d, ↓reduceIte, ix_get l n hr, Option.bind_some, w_succ n (show n < 9223372036854775807 by omega), Int.toNat_natCast]
theorem slicesOwn_ev (runs : List (List TApiEntry)) (b : Bool) (x : T2Uint8) (h0 : 0 ≤ x.e0 ∧ x.e0 ≤ 255) (h1 : 0 ≤ x.e1 ∧ x.e1 ≤ 255) : Ev (fun fu => bookendlaw13_SlicesOwn fu runs b x) true := by
  obtain ⟨f, f1, f2⟩ := far2_ev runs
  obtain ⟨p, hp, hp2⟩ : ∃ v : Nat, x.e0 = (v : Int) ∧ v ≤ 255 := ⟨x.e0.toNat, by omega, by omega⟩
  obtain ⟨q, hq, hq2⟩ : ∃ v : Nat, x.e1 = (v : Int) ∧ v ≤ 255 := ⟨x.e1.toNat, by omega, by omega⟩
  have wp : ∃ P : Nat, IntKind.i64.wrap (x.e0.tmod 30) = (P : Int) := ⟨p % 30, by
    have e : (p : Int).tmod 30 = ((p % 30 : Nat) : Int) := (Int.ofNat_tmod p 30).symm
    rw [hp, e]; exact wr (by omega) (by omega)⟩
  have wq : ∃ Q : Nat, IntKind.i64.wrap (x.e1.tmod 30) = (Q : Int) := ⟨q % 30, by
    have e : (q : Int).tmod 30 = ((q % 30 : Nat) : Int) := (Int.ofNat_tmod q 30).symm
    rw [hq, e]; exact wr (by omega) (by omega)⟩
  obtain ⟨P, wp⟩ := wp
  obtain ⟨Q, wq⟩ := wq
  unfold bookendlaw13_SlicesOwn
  rw [wp, wq]
  refine Ev.bind f1 ?_
  cases f with
  | true => exact Ev.bind awake_ev (Ev.ret _)
  | false =>
    have hs := f2 rfl
    simp only [Bool.false_eq_true, ↓reduceIte]
    by_cases hg : GoodRuns runs
    · obtain ⟨b1, -⟩ := slBegin_good runs b hs hg
      have h120 := hs.few hg
      have hu : used runs 0 P ≤ tot runs - 0 := Nat.min_le_right _ _
      have st1 := (slStep_at runs b 0 P hs hg (by omega)).1
      have hv : used runs (0 + used runs 0 P) 1 ≤ tot runs - (0 + used runs 0 P) := Nat.min_le_right _ _
      have hw : used runs (0 + used runs 0 P) Q ≤ tot runs - (0 + used runs 0 P) := Nat.min_le_right _ _
      have st2 := slStep3_at runs b (0 + used runs 0 P) 1 hs hg (by omega)
      have st3 := (slStep_at runs b (0 + used runs 0 P) Q hs hg (by omega)).1
      have hn : 0 + used runs 0 P ≤ tot runs := by omega
      generalize 0 + used runs 0 P = n at *
      generalize used runs n 1 = v at *
      generalize used runs n Q = w at *
      have kn := kept_len runs b n (by omega)
      have kw := kept_len runs b (n + w) (by omega)
      have kv := kept_len runs b (n + v) (by omega)
      have g1 : 2 * ((0 + (slAt runs b n).Out.length) * 48) ≤ 281474976710656 := by show 2 * ((0 + (kept b ((allE runs).take n)).length) * 48) ≤ 281474976710656; omega
      have g2 : 2 * ((0 + (slAt runs b (n + w)).Out.length) * 48) ≤ 281474976710656 := by show 2 * ((0 + (kept b ((allE runs).take (n + w))).length) * 48) ≤ 281474976710656; omega
      have hal : (slAt runs b (n + v)).Merge.At.length ≤ 1000 := by
        have := (slAt_small runs b (n + v) hs hg (by omega)).merge.at'; exact this
      obtain ⟨y1, z1⟩ := sown_l1 _ 0 (slAt runs b (n + v)).Out (Nat.zero_add _) (by show (kept b ((allE runs).take (n + v))).length ≤ 1000; omega)
      obtain ⟨y2, z2⟩ := sown_l2 _ 0 (slAt runs b (n + v)).Merge.At (Nat.zero_add _) hal
      have s1 := se_self (slAt runs b n).Out (by show (kept b ((allE runs).take n)).length < _; omega)
      have s2 := se_self (slAt runs b (n + w)).Out (by show (kept b ((allE runs).take (n + w))).length < _; omega)
      have ck1 := (slCheck_at runs b n hs hg (by omega)).1
      have ck2 := (slCheck_at runs b (n + w) hs hg (by omega)).1
      refine Ev.bind b1 ?_
      simp only [decide_true, Bool.not_true, Bool.false_eq_true, ↓reduceIte]
      refine Ev.bind st1 ?_
      simp only [decide_true, Bool.not_true, Bool.false_eq_true, ↓reduceIte, if_pos g1]
      refine Ev.bind (a := (slAt runs b (n + v), (v : Int), 0)) st2 ?_
      refine Ev.bind (a := (slAt runs b (n + w), (w : Int), 0)) st3 ?_
      simp only [decide_true, Bool.not_true, Bool.false_eq_true, ↓reduceIte, Option.bind_some, if_pos g2]
      refine Ev.bind z1 (Ev.bind z2 (Ev.bind s1 ?_))
      simp only [↓reduceIte]
      refine Ev.bind (Ev.bind s2 (Ev.ret _)) ?_
      simp only [↓reduceIte]
      refine Ev.bind (Ev.bind ck1 (Ev.ret _)) ?_
      simp only [decide_true, ↓reduceIte]
      refine Ev.bind (Ev.bind ck2 (Ev.ret _)) ?_
      simp only [decide_true, ↓reduceIte]
      exact Ev.bind (Ev.bind awake_ev (Ev.ret _)) (Ev.ret _)
    · obtain ⟨i, c', hc', b1, -⟩ := slBegin_bad runs b hs hg
      refine Ev.bind b1 ?_
      simp only [decide_eq_false hc', Bool.not_false, ↓reduceIte]
      exact Ev.bind awake_ev (Ev.ret _)
end Go.T
end
section
namespace Go.T
open Go Go.AM Go.Proofs
set_option maxRecDepth 100000
set_option maxHeartbeats 4000000
set_option linter.unusedVariables false
theorem c_bookendlaw11_Far {fu : Nat} {runs1 : List (List TApiEntry)} {r : Bool} (h0 : bookendlaw11_Far fu runs1 = some r) : PCall Try.prog 9 [.psl 1 (runs1.map (encSl 4 TApiEntry.enc))] (.bool r) [] := by
 refine awp_pcall Try.func9 rfl (by decide) (Nat.le_of_ble_eq_true rfl) ?_
 dsimp only [Try.f9]
 rw [bookendlaw11_Far] at h0
 refine (show AWP _ _ _ _ ⟨enumFr 0 _, [], 0, []⟩ from ?_)
 refine awp_sr2 8 [0] (fun _ => none) rfl (fun _ _ => rT) ?_
 refine awp_seq ?_
 refine awp_sr2 32 [0, 9] (fun _ => none) rfl (fun _ _ => rT) ?_
 refine awp_if rfl (fun hb2 => ?_) (fun hb2 => ?_)
 ·
  replace h0 := iteT h0 hb2
  refine awp_sr2 40 [2] (fun _ => none) rfl (fun _ _ => rT) ?_
  refine awp_ret ?_
  refine kr_then ?_
  obtain rfl := Option.some.inj h0
  refine leave_retG [] ?_
  exact rG
 ·
  replace h0 := iteF h0 hb2
  refine awp_skip ?_
  refine kn_then ?_
  refine awp_seq ?_
  obtain ⟨b4, hb4, h0⟩ := bindS h0
  obtain ⟨b6, hb6, h0⟩ := bindS h0
  refine awp_sr3 (fr' := [(0, .psl 1 (List.map (encSl 4 TApiEntry.enc) runs1)), (26, .bool b6)]) (hp' := []) [] 168 [0, 26] (fun _ => none) rfl (fun Kt hK => by
    cases hg7 : (decide ((runs1.length : Int) = 1)) with
    | false =>
     replace hb4 := iteF hb4 hg7
     have hqb4 := Option.some.inj hb4
     cases b4 with
     | false =>
      replace hb6 := iteF hb6 rfl
      have hqb6 := Option.some.inj hb6
      subst hqb6
      simp (maxSteps := 1000000) only [↓reduceIte, reduceCtorEq, Nat.reduceEqDiff, Nat.reduceLT, Nat.reduceLeDiff, Nat.reduceAdd, Nat.reduceMul, Int.reduceToNat, push_cast, ↓hg7]
      try simp only [↓hg7] at hK
      all_goals exact rU
     | true =>
      cases hqb4
    | true =>
     replace hb4 := iteT hb4 hg7
     obtain ⟨e3, he3, hb4⟩ := bindS hb4
     have he3b := (idxS he3).2.1
     have he3c := (idxL 0 he3 rfl).1
     have he3a := (idxL 0 he3 rfl).2
     have hqb4 := Option.some.inj hb4
     cases b4 with
     | false =>
      replace hb6 := iteF hb6 rfl
      have hqb6 := Option.some.inj hb6
      subst hqb6
      simp (maxSteps := 1000000) only [↓reduceIte, reduceCtorEq, Nat.reduceEqDiff, Nat.reduceLT, Nat.reduceLeDiff, Nat.reduceAdd, Nat.reduceMul, Int.reduceToNat, push_cast, ↓hg7, he3a, he3b, he3c, he3, ↓hqb4]
      try simp only [↓hg7, ↓hqb4] at hK
      all_goals exact rU
     | true =>
      replace hb6 := iteT hb6 rfl
      obtain ⟨e5, he5, hb6⟩ := bindS hb6
      have he5b := (idxS he5).2.1
      have he5c := (idxL 0 he5 rfl).1
      have he5a := (idxL 0 he5 rfl).2
      obtain rfl := Option.some.inj (he3.symm.trans he5)
      have hqb6 := Option.some.inj hb6
      subst hqb6
      simp (maxSteps := 1000000) only [↓reduceIte, reduceCtorEq, Nat.reduceEqDiff, Nat.reduceLT, Nat.reduceLeDiff, Nat.reduceAdd, Nat.reduceMul, Int.reduceToNat, push_cast, ↓hg7, he3a, he3b, he3c, he3, ↓hqb4, he5a, he5b, he5c, he5]
      try simp only [↓hg7, ↓hqb4] at hK
      all_goals exact rU) ?_
  refine awp_if rfl (fun hb10 => ?_) (fun hb10 => ?_)
  ·
   replace h0 := iteT h0 hb10
   refine awp_seq ?_
   refine awp_sr2 176 [0, 3] (fun _ => none) rfl (fun _ _ => rT) ?_
   obtain ⟨x20, hxx20, h0⟩ := bindS h0
   refine awp_bloop (fun s' => ∃ o26 : Unit, x20 = .inl o26 ∧ s'.nx ≤ 224 ∧ LeN [] s' ⟨[], [], 224, []⟩) ?_ ?_
   ·
    intro s' hs
    obtain ⟨o26, rfl, hn, hs⟩ := hs
    refine kn_then ?_
    refine awp_re [] hn hs ?_
    refine awp_sr2 232 [2] (fun _ => none) rfl (fun _ _ => rT) ?_
    refine awp_ret ?_
    refine kr_then ?_
    obtain rfl := Option.some.inj h0
    refine leave_retG [] ?_
    exact rG
   ·
    refine awp_loopF (ι := { p : Nat × Int // bookendlaw11_Far_l1 runs1 p.1 p.2 = some x20 }) (fun p => ⟨[(0, .psl 1 (List.map (encSl 4 TApiEntry.enc) runs1)), (3, .int .i64 p.1.2)], [], 176, []⟩) (fun p => p.1.1) ⟨(fu, 0), hxx20⟩ ⟨rF, rE, rfl, rfl, trivial, trivial⟩ (fun _ => Nat.le_refl _) ?_
    rintro ⟨⟨fu, i21⟩, h1⟩
    cases fu with
    | zero =>
   replace h1 : bookendlaw11_Far_l1 runs1 0 i21 = some x20 := h1
   rw [bookendlaw11_Far_l1] at h1; cases h1
    | succ fu =>
     replace h1 : bookendlaw11_Far_l1 runs1 (fu + 1) i21 = some x20 := h1
     rw [bookendlaw11_Far_l1] at h1
     refine (show AWP _ _ _ _ ⟨[(0, .psl 1 (List.map (encSl 4 TApiEntry.enc) runs1)), (3, .int .i64 i21)], [], 176, []⟩ from ?_)
     refine awp_seq ?_
     obtain ⟨e22, he22, h1⟩ := bindS h1
     have he22b := (idxS he22).2.1
     have he22c := (idxL 0 he22 rfl).1
     have he22a := (idxL 0 he22 rfl).2
     refine awp_sr2 224 [0, 3, 32] (fun _ => none) rfl (fun _ _ => rS (rA he22a (rA he22b he22c))) ?_
     refine awp_if rfl (fun hb23 => ?_) (fun hb23 => ?_)
     ·
      replace h1 := iteT h1 hb23
      refine awp_skip ?_
      refine kn_then ?_
      refine awp_seq ?_
      refine awp_block ?_
      obtain ⟨e24, he24, h1⟩ := bindS h1
      obtain ⟨he24a, he24b, he24c⟩ := idxS he24
      refine awp_sr2 288 [0, 3, 42] (fun _ => none) rfl (fun _ _ => rS (rA he22a (rA he22b (rA he22c (rA he24a (rA he24b he24c)))))) ?_
      refine awp_if rfl (fun hb25 => ?_) (fun hb25 => ?_)
      ·
       replace h1 := iteT h1 hb25
       refine awp_sr2 296 [2] (fun _ => none) rfl (fun _ _ => rS (rA he22a (rA he22b (rA he22c (rA he24a (rA he24b he24c)))))) ?_
       refine awp_ret ?_
       obtain rfl := Option.some.inj h1
       refine kr_block ?_
       refine kr_then ?_
       refine kr_then ?_
       refine kr_loop ?_
       refine kr_then ?_
       refine kr_then ?_
       obtain rfl := Option.some.inj h0
       refine leave_retG [] ?_
       simp (maxSteps := 1000000) only [↓reduceIte, reduceCtorEq, Nat.reduceEqDiff, Nat.reduceLT, Nat.reduceLeDiff, Nat.reduceAdd, Nat.reduceMul, Int.reduceToNat, push_cast, Gives, he22a, he22b, he22c, he24a, he24b, he24c]
       all_goals exact rH
      ·
       replace h1 := iteF h1 hb25
       refine awp_skip ?_
       refine kn_block ?_
       refine kn_then ?_
       refine awp_r2 312 [0, 3] (fun _ => none) rfl (fun _ _ => rS (rA he22a (rA he22b (rA he22c (rA he24a (rA he24b he24c)))))) ?_
       refine kn_then ?_
       exact ⟨⟨(fu, (IntKind.i64.wrap (i21 + 1))), h1⟩, ⟨rF, rE, rfl, rfl, trivial, trivial⟩, Nat.lt_succ_self _⟩
     ·
      replace h1 := iteF h1 hb23
      refine awp_exit ?_
      refine kx_then ?_
      refine kx_then ?_
      refine kx_done ?_
      obtain rfl := Option.some.inj h1
      exact ⟨_, rfl, Nat.le_of_ble_eq_true rfl, ⟨rF, rE, rfl, rfl, trivial, trivial⟩⟩
  ·
   replace h0 := iteF h0 hb10
   refine awp_skip ?_
   refine kn_then ?_
   refine awp_sr2 176 [0, 4] (fun _ => none) rfl (fun _ _ => rT) ?_
   refine awp_seq ?_
   refine awp_sr2 184 [0, 4, 5] (fun _ => none) rfl (fun _ _ => rT) ?_
   obtain ⟨x73, hxx73, h0⟩ := bindS h0
   refine awp_bloop (fun s' => ∃ o98 : Unit, x73 = .inl o98 ∧ s'.nx ≤ 216 ∧ LeN [] s' ⟨[], [], 216, []⟩) ?_ ?_
   ·
    intro s' hs
    obtain ⟨o98, rfl, hn, hs⟩ := hs
    refine kn_then ?_
    refine awp_re [] hn hs ?_
    refine awp_sr2 224 [2] (fun _ => none) rfl (fun _ _ => rT) ?_
    refine awp_ret ?_
    obtain rfl := Option.some.inj h0
    refine leave_retG [] ?_
    exact rG
   ·
    refine awp_loopF (ι := { p : Nat × Int × Int // bookendlaw11_Far_l4 runs1 p.1 p.2.1 p.2.2 = some x73 }) (fun p => ⟨[(0, .psl 1 (List.map (encSl 4 TApiEntry.enc) runs1)), (4, .int .i64 p.1.2.1), (5, .int .i64 p.1.2.2)], [], 184, []⟩) (fun p => p.1.1) ⟨(fu, 0, 0), hxx73⟩ ⟨rF, rE, rfl, rfl, trivial, trivial⟩ (fun _ => Nat.le_refl _) ?_
    rintro ⟨⟨fu, many74, i75⟩, h1⟩
    cases fu with
    | zero =>
   replace h1 : bookendlaw11_Far_l4 runs1 0 many74 i75 = some x73 := h1
   rw [bookendlaw11_Far_l4] at h1; cases h1
    | succ fu =>
     replace h1 : bookendlaw11_Far_l4 runs1 (fu + 1) many74 i75 = some x73 := h1
     rw [bookendlaw11_Far_l4] at h1
     refine (show AWP _ _ _ _ ⟨[(0, .psl 1 (List.map (encSl 4 TApiEntry.enc) runs1)), (4, .int .i64 many74), (5, .int .i64 i75)], [], 184, []⟩ from ?_)
     refine awp_seq ?_
     refine awp_sr2 216 [0, 4, 5, 46] (fun _ => none) rfl (fun _ _ => rT) ?_
     refine awp_if rfl (fun hb76 => ?_) (fun hb76 => ?_)
     ·
      replace h1 := iteT h1 hb76
      refine awp_skip ?_
      refine kn_then ?_
      refine awp_seq ?_
      refine awp_block ?_
      obtain ⟨e77, he77, h1⟩ := bindS h1
      obtain ⟨he77a, he77b, he77c⟩ := idxS he77
      refine awp_sr2 288 [0, 4, 5] (fun _ => none) rfl (fun _ _ => rS (rA he77a (rA he77b he77c))) ?_
      refine awp_seq ?_
      refine awp_sr2 304 [0, 4, 5, 58] (fun _ => none) rfl (fun _ _ => rS (rA he77a (rA he77b he77c))) ?_
      refine awp_if rfl (fun hb78 => ?_) (fun hb78 => ?_)
      ·
       replace h1 := iteT h1 hb78
       refine awp_sr2 312 [2] (fun _ => none) rfl (fun _ _ => rS (rA he77a (rA he77b he77c))) ?_
       refine awp_ret ?_
       obtain rfl := Option.some.inj h1
       refine kr_then ?_
       refine kr_block ?_
       refine kr_then ?_
       refine kr_then ?_
       refine kr_loop ?_
       refine kr_then ?_
       obtain rfl := Option.some.inj h0
       refine leave_retG [] ?_
       simp (maxSteps := 1000000) only [↓reduceIte, reduceCtorEq, Nat.reduceEqDiff, Nat.reduceLT, Nat.reduceLeDiff, Nat.reduceAdd, Nat.reduceMul, Int.reduceToNat, push_cast, Gives, he77a, he77b, he77c]
       all_goals exact rH
      ·
       replace h1 := iteF h1 hb78
       refine awp_skip ?_
       refine kn_then ?_
       refine awp_sr2 312 [0, 4, 5, 6] (fun _ => none) rfl (fun _ _ => rS (rA he77a (rA he77b he77c))) ?_
       obtain ⟨x90, hxx90, h1⟩ := bindS h1
       refine awp_bloop (fun s' => ∃ o97 : Unit, x90 = .inl o97 ∧ s'.nx ≤ 368 ∧ LeN [] s' ⟨[(0, .psl 1 (List.map (encSl 4 TApiEntry.enc) runs1)), (4, .int .i64 (IntKind.i64.wrap (many74 + (if 200 < (e77.length : Int) then 200 else (e77.length : Int))))), (5, .int .i64 i75)], [], 368, []⟩) ?_ ?_
       ·
        intro s' hs
        obtain ⟨o97, rfl, hn, hs⟩ := hs
        refine kn_block ?_
        refine kn_then ?_
        refine awp_re [] hn hs ?_
        refine awp_r2 392 [0, 4, 5] (fun _ => none) rfl (fun _ _ => rS (rA he77a (rA he77b he77c))) ?_
        refine kn_then ?_
        exact ⟨⟨(fu, (IntKind.i64.wrap (many74 + (if 200 < (e77.length : Int) then 200 else (e77.length : Int)))), (IntKind.i64.wrap (i75 + 1))), h1⟩, ⟨rF, rE, rfl, rfl, trivial, trivial⟩, Nat.lt_succ_self _⟩
       ·
        refine awp_loopF (ι := { p : Nat × Int // bookendlaw11_Far_l5 e77 p.1 p.2 = some x90 }) (fun p => ⟨[(0, .psl 1 (List.map (encSl 4 TApiEntry.enc) runs1)), (4, .int .i64 (IntKind.i64.wrap (many74 + (if 200 < (e77.length : Int) then 200 else (e77.length : Int))))), (5, .int .i64 i75), (6, .int .i64 p.1.2)], [], 312, []⟩) (fun p => p.1.1) ⟨(fu, 0), hxx90⟩ ⟨rF, rE, rfl, rfl, trivial, trivial⟩ (fun _ => Nat.le_refl _) ?_
        rintro ⟨⟨fu, k91⟩, h2⟩
        cases fu with
        | zero =>
   replace h2 : bookendlaw11_Far_l5 e77 0 k91 = some x90 := h2
   rw [bookendlaw11_Far_l5] at h2; cases h2
        | succ fu =>
         replace h2 : bookendlaw11_Far_l5 e77 (fu + 1) k91 = some x90 := h2
         rw [bookendlaw11_Far_l5] at h2
         refine (show AWP _ _ _ _ ⟨[(0, .psl 1 (List.map (encSl 4 TApiEntry.enc) runs1)), (4, .int .i64 (IntKind.i64.wrap (many74 + (if 200 < (e77.length : Int) then 200 else (e77.length : Int))))), (5, .int .i64 i75), (6, .int .i64 k91)], [], 312, []⟩ from ?_)
         refine awp_seq ?_
         refine awp_sr2 368 [0, 4, 5, 6, 65] (fun _ => none) rfl (fun _ _ => rS (rA he77a (rA he77b he77c))) ?_
         refine awp_if rfl (fun hb92 => ?_) (fun hb92 => ?_)
         ·
          replace h2 := iteT h2 hb92
          refine awp_skip ?_
          refine kn_then ?_
          refine awp_seq ?_
          refine awp_block ?_
          obtain ⟨e93, he93, h2⟩ := bindS h2
          obtain ⟨he93a, he93b, he93c⟩ := idxS he93
          obtain ⟨b94, hb94, h2⟩ := bindS h2
          refine awp_sr3 (fr' := [(0, .psl 1 (List.map (encSl 4 TApiEntry.enc) runs1)), (4, .int .i64 (IntKind.i64.wrap (many74 + (if 200 < (e77.length : Int) then 200 else (e77.length : Int))))), (5, .int .i64 i75), (6, .int .i64 k91), (89, .bool b94)]) (hp' := []) [] 544 [0, 4, 5, 6, 89] (fun _ => none) rfl (fun Kt hK => by
            cases hg95 : (decide (200 < (e93.Key.length : Int))) with
            | false =>
             replace hb94 := iteF hb94 hg95
             have hqb94 := Option.some.inj hb94
             subst hqb94
             simp (maxSteps := 1000000) only [↓reduceIte, reduceCtorEq, Nat.reduceEqDiff, Nat.reduceLT, Nat.reduceLeDiff, Nat.reduceAdd, Nat.reduceMul, Int.reduceToNat, push_cast, he77a, he77b, he77c, he93a, he93b, he93c, ↓hg95]
             try simp only [↓hg95] at hK
             all_goals exact rU
            | true =>
             replace hb94 := iteT hb94 hg95
             have hqb94 := Option.some.inj hb94
             subst hqb94
             simp (maxSteps := 1000000) only [↓reduceIte, reduceCtorEq, Nat.reduceEqDiff, Nat.reduceLT, Nat.reduceLeDiff, Nat.reduceAdd, Nat.reduceMul, Int.reduceToNat, push_cast, he77a, he77b, he77c, he93a, he93b, he93c, ↓hg95]
             try simp only [↓hg95] at hK
             all_goals exact rU) ?_
          refine awp_if rfl (fun hb96 => ?_) (fun hb96 => ?_)
          ·
           replace h2 := iteT h2 hb96
           refine awp_sr2 552 [2] (fun _ => none) rfl (fun _ _ => rS (rA he77a (rA he77b (rA he77c (rA he93a (rA he93b he93c)))))) ?_
           refine awp_ret ?_
           obtain rfl := Option.some.inj h2
           obtain rfl := Option.some.inj h1
           refine kr_block ?_
           refine kr_then ?_
           refine kr_then ?_
           refine kr_loop ?_
           refine kr_block ?_
           refine kr_then ?_
           refine kr_then ?_
           refine kr_loop ?_
           refine kr_then ?_
           obtain rfl := Option.some.inj h0
           refine leave_retG [] ?_
           simp (maxSteps := 1000000) only [↓reduceIte, reduceCtorEq, Nat.reduceEqDiff, Nat.reduceLT, Nat.reduceLeDiff, Nat.reduceAdd, Nat.reduceMul, Int.reduceToNat, push_cast, Gives, he77a, he77b, he77c, he93a, he93b, he93c]
           all_goals exact rH
          ·
           replace h2 := iteF h2 hb96
           refine awp_skip ?_
           refine kn_block ?_
           refine kn_then ?_
           refine awp_r2 568 [0, 4, 5, 6] (fun _ => none) rfl (fun _ _ => rS (rA he77a (rA he77b (rA he77c (rA he93a (rA he93b he93c)))))) ?_
           refine kn_then ?_
           exact ⟨⟨(fu, (IntKind.i64.wrap (k91 + 1))), h2⟩, ⟨rF, rE, rfl, rfl, trivial, trivial⟩, Nat.lt_succ_self _⟩
         ·
          replace h2 := iteF h2 hb92
          refine awp_exit ?_
          refine kx_then ?_
          refine kx_then ?_
          refine kx_done ?_
          obtain rfl := Option.some.inj h2
          exact ⟨_, rfl, Nat.le_of_ble_eq_true rfl, ⟨rF, rE, rfl, rfl, trivial, trivial⟩⟩
     ·
      replace h1 := iteF h1 hb76
      refine awp_exit ?_
      refine kx_then ?_
      refine kx_then ?_
      refine kx_done ?_
      obtain rfl := Option.some.inj h1
      exact ⟨_, rfl, Nat.le_of_ble_eq_true rfl, ⟨rF, rE, rfl, rfl, trivial, trivial⟩⟩
end Go.T
end
section
namespace Go.T
open Go Go.AM Go.Proofs
set_option maxRecDepth 100000
set_option maxHeartbeats 4000000
set_option linter.unusedVariables false
theorem c_keys_Check {fu : Nat} {k1 : List UInt8} {r : Int} (h0 : keys_Check fu k1 = some r) : PCall Try.prog 93 [.str k1] (.int .i64 r) [] := by
 refine awp_pcall Try.func93 rfl (by decide) (Nat.le_of_ble_eq_true rfl) ?_
 dsimp only [Try.f93]
 rw [keys_Check] at h0
 refine (show AWP _ _ _ _ ⟨enumFr 0 _, [], 0, []⟩ from ?_)
 refine awp_sr2 8 [0] (fun _ => none) rfl (fun _ _ => rT) ?_
 refine awp_seq ?_
 refine awp_sr2 32 [5] (fun _ => none) rfl (fun _ _ => rT) ?_
 refine awp_if rfl (fun hb2 => ?_) (fun hb2 => ?_)
 ·
  replace h0 := iteT h0 hb2
  refine awp_sr2 40 [2] (fun _ => none) rfl (fun _ _ => rT) ?_
  refine awp_ret ?_
  refine kr_then ?_
  obtain rfl := Option.some.inj h0
  refine leave_retG [] ?_
  exact rG
 ·
  replace h0 := iteF h0 hb2
  refine awp_skip ?_
  refine kn_then ?_
  refine awp_sr2 40 [2] (fun _ => none) rfl (fun _ _ => rT) ?_
  refine awp_ret ?_
  obtain rfl := Option.some.inj h0
  refine leave_retG [] ?_
  exact rG
end Go.T
end
section
namespace Go.T
open Go Go.AM Go.Proofs
set_option maxRecDepth 100000
set_option maxHeartbeats 4000000
set_option linter.unusedVariables false
theorem c_entries_Check {fu : Nat} {vx1 : TApiEntry} {r : Int} (h0 : entries_Check fu vx1 = some r) : PCall Try.prog 84 [.agg (TApiEntry.enc vx1)] (.int .i64 r) [] := by
 refine awp_pcall Try.func84 rfl (by decide) (Nat.le_of_ble_eq_true rfl) ?_
 dsimp only [Try.f84]
 rw [entries_Check] at h0
 refine (show AWP _ _ _ _ ⟨enumFr 0 _, [], 0, []⟩ from ?_)
 refine awp_sr2 16 [1] (fun _ => none) rfl (fun _ _ => rT) ?_
 refine awp_seq ?_
 refine awp_block ?_
 obtain ⟨vr2, hvr2, h0⟩ := bindS h0
 obtain ⟨b3, hb3, h0⟩ := bindS h0
 refine awp_sr3 (fr' := [(1, .ref 0 0 0 0), (3, .bool b3)]) (hp' := [(0, ⟨0, true, true, 4, [[.str vx1.Key, .str vx1.Val, .bool vx1.Dead, .int .i64 vx1.Seq]]⟩)]) [0] 104 [1, 3] (fun | 2 => some (.int .i64 vr2, []) | _ => none) rfl (fun Kt hK => by
   cases hg4 : (!(decide (vr2 = 0))) with
   | false =>
    replace hb3 := iteF hb3 hg4
    have hqb3 := Option.some.inj hb3
    subst hqb3
    simp (maxSteps := 1000000) only [↓reduceIte, reduceCtorEq, Nat.reduceEqDiff, Nat.reduceLT, Nat.reduceLeDiff, Nat.reduceAdd, Nat.reduceMul, Int.reduceToNat, push_cast, ↓hg4]
    try simp only [↓hg4] at hK
    try have q0 := c_keys_Check hvr2
    all_goals exact rU
   | true =>
    replace hb3 := iteT hb3 hg4
    have hqb3 := Option.some.inj hb3
    subst hqb3
    simp (maxSteps := 1000000) only [↓reduceIte, reduceCtorEq, Nat.reduceEqDiff, Nat.reduceLT, Nat.reduceLeDiff, Nat.reduceAdd, Nat.reduceMul, Int.reduceToNat, push_cast, ↓hg4]
    try simp only [↓hg4] at hK
    try have q0 := c_keys_Check hvr2
    all_goals exact rU) ?_
 refine awp_if rfl (fun hb5 => ?_) (fun hb5 => ?_)
 ·
  replace h0 := iteT h0 hb5
  refine awp_sr2 112 [2] (fun _ => none) rfl (fun _ _ => rT) ?_
  refine awp_ret ?_
  refine kr_block ?_
  refine kr_then ?_
  obtain rfl := Option.some.inj h0
  refine leave_retG [] ?_
  exact rG
 ·
  replace h0 := iteF h0 hb5
  obtain ⟨b6, hb6, h0⟩ := bindS h0
  refine awp_sr3 (fr' := [(1, .ref 0 0 0 0), (14, .bool b6)]) (hp' := [(0, ⟨0, true, true, 4, [[.str vx1.Key, .str vx1.Val, .bool vx1.Dead, .int .i64 vx1.Seq]]⟩)]) [0] 168 [1, 14] (fun _ => none) rfl (fun Kt hK => by
    cases hg7 : vx1.Dead with
    | false =>
     replace hb6 := iteF hb6 hg7
     have hqb6 := Option.some.inj hb6
     subst hqb6
     simp (maxSteps := 1000000) only [↓reduceIte, reduceCtorEq, Nat.reduceEqDiff, Nat.reduceLT, Nat.reduceLeDiff, Nat.reduceAdd, Nat.reduceMul, Int.reduceToNat, push_cast, ↓hg7]
     try simp only [↓hg7] at hK
     all_goals exact rU
    | true =>
     replace hb6 := iteT hb6 hg7
     have hqb6 := Option.some.inj hb6
     subst hqb6
     simp (maxSteps := 1000000) only [↓reduceIte, reduceCtorEq, Nat.reduceEqDiff, Nat.reduceLT, Nat.reduceLeDiff, Nat.reduceAdd, Nat.reduceMul, Int.reduceToNat, push_cast, ↓hg7]
     try simp only [↓hg7] at hK
     all_goals exact rU) ?_
  refine awp_if rfl (fun hb8 => ?_) (fun hb8 => ?_)
  ·
   replace h0 := iteT h0 hb8
   refine awp_sr2 176 [2] (fun _ => none) rfl (fun _ _ => rT) ?_
   refine awp_ret ?_
   refine kr_block ?_
   refine kr_then ?_
   obtain rfl := Option.some.inj h0
   refine leave_retG [] ?_
   exact rG
  ·
   replace h0 := iteF h0 hb8
   obtain ⟨b9, hb9, h0⟩ := bindS h0
   refine awp_sr3 (fr' := [(22, .bool b9)]) (hp' := [(0, ⟨0, true, true, 4, [[.str vx1.Key, .str vx1.Val, .bool vx1.Dead, .int .i64 vx1.Seq]]⟩)]) [0] 240 [22] (fun _ => none) rfl (fun Kt hK => by
     cases hg10 : (decide (vx1.Seq < 1)) with
     | false =>
      replace hb9 := iteF hb9 hg10
      have hqb9 := Option.some.inj hb9
      subst hqb9
      simp (maxSteps := 1000000) only [↓reduceIte, reduceCtorEq, Nat.reduceEqDiff, Nat.reduceLT, Nat.reduceLeDiff, Nat.reduceAdd, Nat.reduceMul, Int.reduceToNat, push_cast, ↓hg10]
      try simp only [↓hg10] at hK
      all_goals exact rU
     | true =>
      replace hb9 := iteT hb9 hg10
      have hqb9 := Option.some.inj hb9
      subst hqb9
      simp (maxSteps := 1000000) only [↓reduceIte, reduceCtorEq, Nat.reduceEqDiff, Nat.reduceLT, Nat.reduceLeDiff, Nat.reduceAdd, Nat.reduceMul, Int.reduceToNat, push_cast, ↓hg10]
      try simp only [↓hg10] at hK
      all_goals exact rU) ?_
   refine awp_if rfl (fun hb11 => ?_) (fun hb11 => ?_)
   ·
    replace h0 := iteT h0 hb11
    refine awp_sr2 248 [2] (fun _ => none) rfl (fun _ _ => rT) ?_
    refine awp_ret ?_
    refine kr_block ?_
    refine kr_then ?_
    obtain rfl := Option.some.inj h0
    refine leave_retG [] ?_
    exact rG
   ·
    replace h0 := iteF h0 hb11
    refine awp_skip ?_
    refine kn_block ?_
    refine kn_then ?_
    refine awp_sr2 248 [2] (fun _ => none) rfl (fun _ _ => rT) ?_
    refine awp_ret ?_
    obtain rfl := Option.some.inj h0
    refine leave_retG [] ?_
    exact rG
end Go.T
end
section
namespace Go.T
open Go Go.AM Go.Proofs
set_option maxRecDepth 100000
set_option maxHeartbeats 4000000
set_option linter.unusedVariables false
theorem c_entries_CheckList {fu : Nat} {l1 : List TApiEntry} {r : Int × Int} (h0 : entries_CheckList fu l1 = some r) : PCall Try.prog 70 [.psl 4 (l1.map TApiEntry.enc)] (.tup [.int .i64 r.1, .int .i64 r.2]) [] := by
 refine awp_pcall Try.func70 rfl (by decide) (Nat.le_of_ble_eq_true rfl) ?_
 dsimp only [Try.f70]
 rw [entries_CheckList] at h0
 refine (show AWP _ _ _ _ ⟨enumFr 0 _, [], 0, []⟩ from ?_)
 refine awp_sr2 16 [0] (fun _ => none) rfl (fun _ _ => rT) ?_
 refine awp_seq ?_
 refine awp_sr2 40 [0, 9] (fun _ => none) rfl (fun _ _ => rT) ?_
 refine awp_if rfl (fun hb2 => ?_) (fun hb2 => ?_)
 ·
  replace h0 := iteT h0 hb2
  refine awp_sr2 56 [2, 3] (fun _ => none) rfl (fun _ _ => rT) ?_
  refine awp_ret ?_
  refine kr_then ?_
  obtain rfl := Option.some.inj h0
  refine leave_retG [] ?_
  exact rG
 ·
  replace h0 := iteF h0 hb2
  refine awp_skip ?_
  refine kn_then ?_
  refine awp_seq ?_
  refine awp_sr2 64 [0, 10, 11, 12] (fun _ => none) rfl (fun _ _ => rT) ?_
  obtain ⟨x16, hxx16, h0⟩ := bindS h0
  refine awp_bloop (fun s' => ∃ o26 : Unit, x16 = .inl o26 ∧ s'.nx ≤ 72 ∧ LeN [] s' ⟨[], [], 72, []⟩) ?_ ?_
  ·
   intro s' hs
   obtain ⟨o26, rfl, hn, hs⟩ := hs
   refine kn_then ?_
   refine awp_re [] hn hs ?_
   refine awp_sr2 88 [2, 3] (fun _ => none) rfl (fun _ _ => rT) ?_
   refine awp_ret ?_
   obtain rfl := Option.some.inj h0
   refine leave_retG [] ?_
   exact rG
  ·
   refine awp_loopF (ι := { p : Nat × Int // entries_CheckList_l1 l1 p.1 p.2 = some x16 }) (fun p => ⟨[(0, .psl 4 (List.map TApiEntry.enc l1)), (10, .psl 4 (List.map TApiEntry.enc l1)), (11, .int .i64 (l1.length : Int)), (12, .int .i64 p.1.2)], [], 64, []⟩) (fun p => p.1.1) ⟨(fu, 0), hxx16⟩ ⟨rF, rE, rfl, rfl, trivial, trivial⟩ (fun _ => Nat.le_refl _) ?_
   rintro ⟨⟨fu, v17⟩, h1⟩
   cases fu with
   | zero =>
   replace h1 : entries_CheckList_l1 l1 0 v17 = some x16 := h1
   rw [entries_CheckList_l1] at h1; cases h1
   | succ fu =>
    replace h1 : entries_CheckList_l1 l1 (fu + 1) v17 = some x16 := h1
    rw [entries_CheckList_l1] at h1
    refine (show AWP _ _ _ _ ⟨[(0, .psl 4 (List.map TApiEntry.enc l1)), (10, .psl 4 (List.map TApiEntry.enc l1)), (11, .int .i64 (l1.length : Int)), (12, .int .i64 v17)], [], 64, []⟩ from ?_)
    refine awp_sr2 72 [0, 10, 11, 12, 13] (fun _ => none) rfl (fun _ _ => rT) ?_
    refine awp_seq ?_
    refine awp_if rfl (fun hb18 => ?_) (fun hb18 => ?_)
    ·
     replace h1 := iteT h1 hb18
     refine awp_skip ?_
     refine kn_then ?_
     refine awp_seq ?_
     refine awp_block ?_
     obtain ⟨e19, he19, h1⟩ := bindS h1
     obtain ⟨he19a, he19b, he19c⟩ := idxS he19
     refine awp_sr2 120 [0, 4, 5, 10, 11, 12] (fun _ => none) rfl (fun _ _ => rS (rA he19a (rA he19b he19c))) ?_
     refine awp_seq ?_
     obtain ⟨vr20, hvr20, h1⟩ := bindS h1
     refine awp_sr2 144 [0, 4, 5, 6, 10, 11, 12] (fun | 1 => some (.int .i64 vr20, []) | _ => none) rfl (fun _ _ => rB (rA he19a (rA he19b he19c)) (c_entries_Check hvr20)) ?_
     refine awp_sr2 160 [0, 4, 5, 6, 10, 11, 12, 20] (fun _ => none) rfl (fun _ _ => rS (rA he19a (rA he19b he19c))) ?_
     refine awp_if rfl (fun hb21 => ?_) (fun hb21 => ?_)
     ·
      replace h1 := iteT h1 hb21
      refine awp_sr2 192 [2, 3] (fun _ => none) rfl (fun _ _ => rS (rA he19a (rA he19b he19c))) ?_
      refine awp_ret ?_
      obtain rfl := Option.some.inj h1
      refine kr_then ?_
      refine kr_block ?_
      refine kr_then ?_
      refine kr_then ?_
      refine kr_loop ?_
      refine kr_then ?_
      obtain rfl := Option.some.inj h0
      refine leave_retG [] ?_
      simp (maxSteps := 1000000) only [↓reduceIte, reduceCtorEq, Nat.reduceEqDiff, Nat.reduceLT, Nat.reduceLeDiff, Nat.reduceAdd, Nat.reduceMul, Int.reduceToNat, push_cast, Gives, he19a, he19b, he19c]
      all_goals exact rH
     ·
      replace h1 := iteF h1 hb21
      refine awp_skip ?_
      refine kn_then ?_
      obtain ⟨b23, hb23, h1⟩ := bindS h1
      refine awp_sd3 (fr' := [(0, .psl 4 (List.map TApiEntry.enc l1)), (4, .int .i64 v17), (10, .psl 4 (List.map TApiEntry.enc l1)), (11, .int .i64 (l1.length : Int)), (12, .int .i64 v17), (35, .bool b23)]) (hp' := [(96, ⟨0, true, true, 4, [[.str e19.Key, .str e19.Val, .bool e19.Dead, .int .i64 e19.Seq]]⟩)]) [96] 264 [0, 4, 10, 11, 12, 35] (fun _ => none) rfl rfl rfl (fun Kt hK => by
        cases hg24 : (decide (0 < v17)) with
        | false =>
         replace hb23 := iteF hb23 hg24
         have hqb23 := Option.some.inj hb23
         subst hqb23
         simp (maxSteps := 1000000) only [↓reduceIte, reduceCtorEq, Nat.reduceEqDiff, Nat.reduceLT, Nat.reduceLeDiff, Nat.reduceAdd, Nat.reduceMul, Int.reduceToNat, push_cast, he19a, he19b, he19c, ↓hg24]
         try simp only [↓hg24] at hK
         all_goals exact rUd
        | true =>
         replace hb23 := iteT hb23 hg24
         obtain ⟨e22, he22, hb23⟩ := bindS hb23
         obtain ⟨he22a, he22b, he22c⟩ := idxS he22
         have hqb23 := Option.some.inj hb23
         subst hqb23
         simp (maxSteps := 1000000) only [↓reduceIte, reduceCtorEq, Nat.reduceEqDiff, Nat.reduceLT, Nat.reduceLeDiff, Nat.reduceAdd, Nat.reduceMul, Int.reduceToNat, push_cast, he19a, he19b, he19c, ↓hg24, he22a, he22b, he22c, he22]
         try simp only [↓hg24] at hK
         all_goals exact rUd) ?_
      refine awp_if rfl (fun hb25 => ?_) (fun hb25 => ?_)
      ·
       replace h1 := iteT h1 hb25
       refine awp_sr2 288 [2, 3] (fun _ => none) rfl (fun _ _ => rS (rA he19a (rA he19b he19c))) ?_
       refine awp_ret ?_
       obtain rfl := Option.some.inj h1
       refine kr_block ?_
       refine kr_then ?_
       refine kr_then ?_
       refine kr_loop ?_
       refine kr_then ?_
       obtain rfl := Option.some.inj h0
       refine leave_retG [] ?_
       simp (maxSteps := 1000000) only [↓reduceIte, reduceCtorEq, Nat.reduceEqDiff, Nat.reduceLT, Nat.reduceLeDiff, Nat.reduceAdd, Nat.reduceMul, Int.reduceToNat, push_cast, Gives, he19a, he19b, he19c]
       all_goals exact rH
      ·
       replace h1 := iteF h1 hb25
       refine awp_skip ?_
       refine kn_block ?_
       refine kn_then ?_
       refine awp_r2 280 [0, 10, 11, 12] (fun _ => none) rfl (fun _ _ => rS (rA he19a (rA he19b he19c))) ?_
       refine kn_then ?_
       exact ⟨⟨(fu, (IntKind.i64.wrap (v17 + 1))), h1⟩, ⟨rF, rE, rfl, rfl, trivial, trivial⟩, Nat.lt_succ_self _⟩
    ·
     replace h1 := iteF h1 hb18
     refine awp_exit ?_
     refine kx_then ?_
     refine kx_then ?_
     refine kx_done ?_
     obtain rfl := Option.some.inj h1
     exact ⟨_, rfl, Nat.le_of_ble_eq_true rfl, ⟨rF, rE, rfl, rfl, trivial, trivial⟩⟩
end Go.T
end
section
namespace Go.T
open Go Go.AM Go.Proofs
set_option maxRecDepth 100000
set_option maxHeartbeats 4000000
set_option linter.unusedVariables false
theorem c_merge_check {fu : Nat} {runs1 : List (List TApiEntry)} {r : Int × Int} (h0 : merge_check fu runs1 = some r) : PCall Try.prog 52 [.psl 1 (runs1.map (encSl 4 TApiEntry.enc))] (.tup [.int .i64 r.1, .int .i64 r.2]) [] := by
 refine awp_pcall Try.func52 rfl (by decide) (Nat.le_of_ble_eq_true rfl) ?_
 dsimp only [Try.f52]
 rw [merge_check] at h0
 refine (show AWP _ _ _ _ ⟨enumFr 0 _, [], 0, []⟩ from ?_)
 refine awp_sr2 16 [0] (fun _ => none) rfl (fun _ _ => rT) ?_
 refine awp_seq ?_
 refine awp_block ?_
 refine awp_sr2 48 [0, 8] (fun _ => none) rfl (fun _ _ => rT) ?_
 refine awp_if rfl (fun hb2 => ?_) (fun hb2 => ?_)
 ·
  replace h0 := iteT h0 hb2
  refine awp_sr2 64 [2, 3] (fun _ => none) rfl (fun _ _ => rT) ?_
  refine awp_ret ?_
  refine kr_block ?_
  refine kr_then ?_
  obtain rfl := Option.some.inj h0
  refine leave_retG [] ?_
  exact rG
 ·
  replace h0 := iteF h0 hb2
  refine awp_sr2 80 [0, 12] (fun _ => none) rfl (fun _ _ => rT) ?_
  refine awp_if rfl (fun hb3 => ?_) (fun hb3 => ?_)
  ·
   replace h0 := iteT h0 hb3
   refine awp_sr2 96 [2, 3] (fun _ => none) rfl (fun _ _ => rT) ?_
   refine awp_ret ?_
   refine kr_block ?_
   refine kr_then ?_
   obtain rfl := Option.some.inj h0
   refine leave_retG [] ?_
   exact rG
  ·
   replace h0 := iteF h0 hb3
   refine awp_skip ?_
   refine kn_block ?_
   refine kn_then ?_
   refine awp_seq ?_
   refine awp_sr2 104 [16, 17, 18] (fun _ => none) rfl (fun _ _ => rT) ?_
   obtain ⟨x13, hxx13, h0⟩ := bindS h0
   refine awp_bloop (fun s' => ∃ o19 : Unit, x13 = .inl o19 ∧ s'.nx ≤ 112 ∧ LeN [] s' ⟨[], [], 112, []⟩) ?_ ?_
   ·
    intro s' hs
    obtain ⟨o19, rfl, hn, hs⟩ := hs
    refine kn_then ?_
    refine awp_re [] hn hs ?_
    refine awp_sr2 128 [2, 3] (fun _ => none) rfl (fun _ _ => rT) ?_
    refine awp_ret ?_
    obtain rfl := Option.some.inj h0
    refine leave_retG [] ?_
    exact rG
   ·
    refine awp_loopF (ι := { p : Nat × Int // merge_check_l1 runs1 p.1 p.2 = some x13 }) (fun p => ⟨[(16, .psl 1 (List.map (encSl 4 TApiEntry.enc) runs1)), (17, .int .i64 (runs1.length : Int)), (18, .int .i64 p.1.2)], [], 104, []⟩) (fun p => p.1.1) ⟨(fu, 0), hxx13⟩ ⟨rF, rE, rfl, rfl, trivial, trivial⟩ (fun _ => Nat.le_refl _) ?_
    rintro ⟨⟨fu, v14⟩, h1⟩
    cases fu with
    | zero =>
   replace h1 : merge_check_l1 runs1 0 v14 = some x13 := h1
   rw [merge_check_l1] at h1; cases h1
    | succ fu =>
     replace h1 : merge_check_l1 runs1 (fu + 1) v14 = some x13 := h1
     rw [merge_check_l1] at h1
     refine (show AWP _ _ _ _ ⟨[(16, .psl 1 (List.map (encSl 4 TApiEntry.enc) runs1)), (17, .int .i64 (runs1.length : Int)), (18, .int .i64 v14)], [], 104, []⟩ from ?_)
     refine awp_sr2 112 [16, 17, 18, 19] (fun _ => none) rfl (fun _ _ => rT) ?_
     refine awp_seq ?_
     refine awp_if rfl (fun hb15 => ?_) (fun hb15 => ?_)
     ·
      replace h1 := iteT h1 hb15
      refine awp_skip ?_
      refine kn_then ?_
      refine awp_seq ?_
      refine awp_block ?_
      obtain ⟨e16, he16, h1⟩ := bindS h1
      obtain ⟨he16a, he16b, he16c⟩ := idxS he16
      refine awp_sr2 152 [4, 5, 16, 17, 18] (fun _ => none) rfl (fun _ _ => rS (rA he16a (rA he16b he16c))) ?_
      obtain ⟨vr17, hvr17, h1⟩ := bindS h1
      refine awp_sr2 208 [4, 7, 16, 17, 18] (fun | 1 => some (.tup [.int .i64 vr17.1, .int .i64 vr17.2], []) | _ => none) rfl (fun _ _ => rB (rA he16a (rA he16b he16c)) (c_entries_CheckList hvr17)) ?_
      refine awp_sr2 224 [4, 7, 16, 17, 18, 29] (fun _ => none) rfl (fun _ _ => rS (rA he16a (rA he16b he16c))) ?_
      refine awp_if rfl (fun hb18 => ?_) (fun hb18 => ?_)
      ·
       replace h1 := iteT h1 hb18
       refine awp_sr2 256 [2, 3] (fun _ => none) rfl (fun _ _ => rS (rA he16a (rA he16b he16c))) ?_
       refine awp_ret ?_
       obtain rfl := Option.some.inj h1
       refine kr_block ?_
       refine kr_then ?_
       refine kr_then ?_
       refine kr_loop ?_
       refine kr_then ?_
       obtain rfl := Option.some.inj h0
       refine leave_retG [] ?_
       simp (maxSteps := 1000000) only [↓reduceIte, reduceCtorEq, Nat.reduceEqDiff, Nat.reduceLT, Nat.reduceLeDiff, Nat.reduceAdd, Nat.reduceMul, Int.reduceToNat, push_cast, Gives, he16a, he16b, he16c]
       all_goals exact rH
      ·
       replace h1 := iteF h1 hb18
       refine awp_skip ?_
       refine kn_block ?_
       refine kn_then ?_
       refine awp_r2 240 [16, 17, 18] (fun _ => none) rfl (fun _ _ => rS (rA he16a (rA he16b he16c))) ?_
       refine kn_then ?_
       exact ⟨⟨(fu, (IntKind.i64.wrap (v14 + 1))), h1⟩, ⟨rF, rE, rfl, rfl, trivial, trivial⟩, Nat.lt_succ_self _⟩
     ·
      replace h1 := iteF h1 hb15
      refine awp_exit ?_
      refine kx_then ?_
      refine kx_then ?_
      refine kx_done ?_
      obtain rfl := Option.some.inj h1
      exact ⟨_, rfl, Nat.le_of_ble_eq_true rfl, ⟨rF, rE, rfl, rfl, trivial, trivial⟩⟩
end Go.T
end
