/- Events of calls and answers are counted by the package as a reader does it, for all lists of calls and answers (law 31, StatsEvents); the closed example at its end returns true; the package variables hold at the start what the program's text lays into them. -/
import Derived.Test.YtbjmeobodbgdbaaGreatDoorKGp
import Derived.Laws.BitsLemmas
import Derived.Test.YtbjmeobodbgdbaaGreatDoorKDo
import Derived.Test.YtbjmeobodbgdbaaGreatDoorKCo
import Derived.Test.YtbjmeobodbgdbaaGreatDoorK1
set_option linter.unusedSimpArgs false
set_option linter.unusedVariables false
section
set_option linter.unusedSimpArgs false
set_option linter.unusedVariables false
namespace Go.T
open Go Go.AM
def Ev {α : Type} (g : Nat → Option α) (r : α) : Prop := ∃ N, ∀ fu, N ≤ fu → g fu = some r
theorem Ev.ret {α : Type} (r : α) : Ev (fun _ => some r) r := ⟨0, fun _ _ => rfl⟩
theorem Ev.bind {α β : Type} {g : Nat → Option α} {a : α} {k : Nat → α → Option β} {r : β} (h : Ev g a) (h2 : Ev (fun fu => k fu a) r) : Ev (fun fu => (g fu).bind (k fu)) r := by
  obtain ⟨n, h⟩ := h
  obtain ⟨m, h2⟩ := h2
  exact ⟨n + m, fun fu hfu => by show (g fu).bind (k fu) = _; rw [h fu (by omega)]; exact h2 fu (by omega)⟩
theorem Ev.succ {α : Type} {g : Nat → Option α} {r : α} (h : Ev (fun fu => g (fu + 1)) r) : Ev g r := by
  obtain ⟨n, h⟩ := h
  exact ⟨n + 1, fun fu hfu => by obtain ⟨m, rfl⟩ : ∃ m, fu = m + 1 := ⟨fu - 1, by omega⟩; exact h m (by omega)⟩
theorem Ev.of {α : Type} {g g' : Nat → Option α} {r : α} (e : ∀ fu, g fu = g' fu) (h : Ev g' r) : Ev g r := by
  obtain ⟨n, h⟩ := h
  exact ⟨n, fun fu hfu => (e fu).trans (h fu hfu)⟩
theorem Ev.one {α : Type} {g : Nat → Option α} {r : α} (h : Ev g r) : ∃ fu, g fu = some r := by
  obtain ⟨n, h⟩ := h; exact ⟨n, h n (Nat.le_refl n)⟩
theorem wr {n : Int} (h1 : -9223372036854775808 ≤ n) (h2 : n ≤ 9223372036854775807) : IntKind.i64.wrap n = n := by
  rw [IntKind.wrap_i64]; omega
theorem ix_get {α : Type} (l : List α) (n : Nat) (h : n < l.length) : ix l (n : Int) = some l[n] := by simp [ix, h]
theorem nx {v n : Nat} (h : v < n) (hn : n ≤ 9223372036854775807) : IntKind.i64.wrap ((v : Int) + 1) = ((v + 1 : Nat) : Int) := by rw [wr (by omega) (by omega)]; omega
abbrev big : Nat := 9223372036854775807
theorem far1_ev (a : TApiOpAnswer) (hl : a.Items.length ≤ big) : ∀ (m v : Nat), v + m = a.Items.length → ∃ r, Ev (fun fu => bookendlaw04_FarAnswer_l1 a fu v) r
  | 0, v, hv => by
    have hn : ¬ ((v : Int) < (a.Items.length : Int)) := by omega
    exact ⟨.inl (), Ev.succ (Ev.of (fun fu => by simp only [bookendlaw04_FarAnswer_l1, hn, decide_false, Bool.false_eq_true, if_false]) (Ev.ret _))⟩
  | m + 1, v, hv => by
    have hn : (v : Int) < (a.Items.length : Int) := by omega
    have hlt : v < a.Items.length := by omega
    obtain ⟨e, he⟩ : ∃ e, e = a.Items[v] := ⟨_, rfl⟩
    have hx : ix a.Items (v : Int) = some e := by rw [he]; exact ix_get _ v hlt
    obtain ⟨r, hr⟩ := far1_ev a hl m (v + 1) (by omega)
    have hb : ∃ b : Bool, ((if (decide (900 < (IntKind.i64.wrap ((IntKind.i64.wrap ((e.Key.length : Int) + (e.Old.length : Int))) + (e.New.length : Int))))) then some true else (if (decide (30 < (a.Items.length : Int))) then some (decide (0 < (IntKind.i64.wrap ((IntKind.i64.wrap ((e.Key.length : Int) + (e.Old.length : Int))) + (e.New.length : Int))))) else some false).bind fun b34 => some b34) : Option Bool) = some b := by
      split
      · exact ⟨_, rfl⟩
      · split
        · exact ⟨_, rfl⟩
        · exact ⟨_, rfl⟩
    obtain ⟨b, hb⟩ := hb
    cases b with
    | true => exact ⟨.inr true, Ev.succ (Ev.of (fun fu => by simp only [bookendlaw04_FarAnswer_l1, hn, decide_true, if_true, hx, Option.bind_some, hb]) (Ev.ret _))⟩
    | false =>
      refine ⟨r, Ev.succ (Ev.of (fun fu => ?_) hr)⟩
      simp only [bookendlaw04_FarAnswer_l1, hn, decide_true, if_true, hx, Option.bind_some, hb, Bool.false_eq_true, if_false, nx hlt hl]
theorem far_ev (a : TApiOpAnswer) (hl : a.Items.length ≤ big) : ∃ r, Ev (fun fu => bookendlaw04_FarAnswer fu a) r := by
  obtain ⟨r, hr⟩ := far1_ev a hl a.Items.length 0 (by omega)
  have hb : ∃ b : Bool, (((if (decide (300 < (a.Key.length : Int))) then some true else some (decide (300 < (a.Val.length : Int)))).bind fun b2 => (if b2 then some true else (if (decide (30 < (a.Items.length : Int))) then some (decide ((a.Items.length : Int) ≤ 2000)) else some false).bind fun b3 => some b3).bind fun b4 => (if b4 then some true else some (decide (2005 < (a.Items.length : Int))))) : Option Bool) = some b := by
    by_cases h1 : 300 < (a.Key.length : Int) <;> by_cases h2 : 30 < (a.Items.length : Int) <;> by_cases h3 : 300 < (a.Val.length : Int) <;> by_cases h4 : (a.Items.length : Int) ≤ 2000 <;> simp [h1, h2, h3, h4]
  obtain ⟨b, hb⟩ := hb
  have e : ∀ fu, bookendlaw04_FarAnswer fu a = if b then some true else (bookendlaw04_FarAnswer_l1 a fu ((0 : Nat) : Int)).bind fun x => match x with | .inl _ => some false | .inr y => some y := by
    intro fu
    have : bookendlaw04_FarAnswer fu a = (some b).bind fun b5 => if b5 then some true else (bookendlaw04_FarAnswer_l1 a fu ((0 : Nat) : Int)).bind fun x => match x with | .inl _ => some false | .inr y => some y := by
      rw [← hb]
      unfold bookendlaw04_FarAnswer
      simp only [Option.bind_assoc]
      rfl
    rw [this]; rfl
  cases b with
  | true => exact ⟨true, Ev.of (fun fu => by rw [e]; rfl) (Ev.ret _)⟩
  | false =>
    refine ⟨match r with | .inl _ => false | .inr y => y, Ev.of (fun fu => by rw [e]; rfl) (Ev.bind (k := fun _ x => match x with | .inl _ => some false | .inr y => some y) hr ?_)⟩
    cases r <;> exact Ev.ret _
theorem fc1_ev (c : TApiOpCall) (hl : c.Writes.length ≤ big) : ∀ (m v : Nat), v + m = c.Writes.length → ∃ r, Ev (fun fu => bookendlaw04_FarCall_l1 c fu v) r
  | 0, v, hv => by
    have hn : ¬ ((v : Int) < (c.Writes.length : Int)) := by omega
    exact ⟨.inl (), Ev.succ (Ev.of (fun fu => by simp only [bookendlaw04_FarCall_l1, hn, decide_false, Bool.false_eq_true, if_false]) (Ev.ret _))⟩
  | m + 1, v, hv => by
    have hn : (v : Int) < (c.Writes.length : Int) := by omega
    have hlt : v < c.Writes.length := by omega
    obtain ⟨e, he⟩ : ∃ e, e = c.Writes[v] := ⟨_, rfl⟩
    have hx : ix c.Writes (v : Int) = some e := by rw [he]; exact ix_get _ v hlt
    obtain ⟨r, hr⟩ := fc1_ev c hl m (v + 1) (by omega)
    have hb : ∃ b : Bool, ((if (decide (300 < (e.Key.length : Int))) then some true else some (decide (300 < (e.Val.length : Int)))) : Option Bool) = some b := by
      split <;> exact ⟨_, rfl⟩
    obtain ⟨b, hb⟩ := hb
    cases b with
    | true => exact ⟨.inr true, Ev.succ (Ev.of (fun fu => by simp only [bookendlaw04_FarCall_l1, hn, decide_true, if_true, hx, Option.bind_some, hb]) (Ev.ret _))⟩
    | false =>
      refine ⟨r, Ev.succ (Ev.of (fun fu => ?_) hr)⟩
      simp only [bookendlaw04_FarCall_l1, hn, decide_true, if_true, hx, Option.bind_some, hb, Bool.false_eq_true, if_false, nx hlt hl]
theorem fc_ev (c : TApiOpCall) (hl : c.Writes.length ≤ big) : ∃ r, Ev (fun fu => bookendlaw04_FarCall fu c) r ∧ (r = false → c.Key.length ≤ 300 ∧ c.Val.length ≤ 300) := by
  obtain ⟨r, hr⟩ := fc1_ev c hl c.Writes.length 0 (by omega)
  have hb : ∃ b : Bool, (((if (decide (300 < (c.Key.length : Int))) then some true else some (decide (300 < (c.Val.length : Int)))).bind fun b2 => (if b2 then some true else some (decide (300 < (c.Range.Low.length : Int)))).bind fun b3 => (if b3 then some true else some (decide (300 < (c.Range.High.length : Int)))).bind fun b4 => (if b4 then some true else some (decide (20 < (c.Writes.length : Int))))) : Option Bool) = some b ∧ (b = false → c.Key.length ≤ 300 ∧ c.Val.length ≤ 300) := by
    by_cases h1 : 300 < (c.Key.length : Int)
    · exact ⟨true, by simp [h1], by simp⟩
    · by_cases h2 : 300 < (c.Val.length : Int)
      · exact ⟨true, by simp [h1, h2], by simp⟩
      · by_cases h3 : 300 < (c.Range.Low.length : Int) <;> by_cases h4 : 300 < (c.Range.High.length : Int) <;> by_cases h5 : 20 < (c.Writes.length : Int)
        all_goals first
          | (refine ⟨false, ?_, fun _ => ⟨by omega, by omega⟩⟩; simp [h1, h2, h3, h4, h5]; done)
          | (refine ⟨true, ?_, by simp⟩; simp [h1, h2, h3, h4, h5]; done)
  obtain ⟨b, hb, hs⟩ := hb
  have e : ∀ fu, bookendlaw04_FarCall fu c = if b then some true else (bookendlaw04_FarCall_l1 c fu ((0 : Nat) : Int)).bind fun x => match x with | .inl _ => some false | .inr y => some y := by
    intro fu
    have : bookendlaw04_FarCall fu c = (some b).bind fun b5 => if b5 then some true else (bookendlaw04_FarCall_l1 c fu ((0 : Nat) : Int)).bind fun x => match x with | .inl _ => some false | .inr y => some y := by
      rw [← hb]
      unfold bookendlaw04_FarCall
      simp only [Option.bind_assoc]
      rfl
    rw [this]; rfl
  cases b with
  | true => exact ⟨true, Ev.of (fun fu => by rw [e]; rfl) (Ev.ret _), by simp⟩
  | false =>
    refine ⟨match r with | .inl _ => false | .inr y => y, Ev.of (fun fu => by rw [e]; rfl) (Ev.bind (k := fun _ x => match x with | .inl _ => some false | .inr y => some y) hr ?_), fun _ => hs rfl⟩
    cases r <;> exact Ev.ret _
def Small (c : TApiOpCall) : Prop := c.Key.length ≤ 300 ∧ c.Val.length ≤ 300
theorem fs1_ev (l : List TApiOpCall) (hl : l.length ≤ big) (hw : ∀ c ∈ l, c.Writes.length ≤ big) : ∀ (m v : Nat), v + m = l.length → ∃ r, Ev (fun fu => bookendlaw04_FarScript_l1 l fu v) r ∧ (r = .inl () → ∀ c ∈ l.drop v, Small c) ∧ r ≠ .inr false
  | 0, v, hv => by
    have hn : ¬ ((v : Int) < (l.length : Int)) := by omega
    exact ⟨.inl (), Ev.succ (Ev.of (fun fu => by simp only [bookendlaw04_FarScript_l1, hn, decide_false, Bool.false_eq_true, if_false]) (Ev.ret _)), fun _ c hc => (by rw [List.drop_of_length_le (by omega)] at hc; cases hc), by simp⟩
  | m + 1, v, hv => by
    have hn : (v : Int) < (l.length : Int) := by omega
    have hlt : v < l.length := by omega
    have hx : ix l (v : Int) = some l[v] := ix_get _ v hlt
    obtain ⟨r, hr, hs, hne⟩ := fs1_ev l hl hw m (v + 1) (by omega)
    obtain ⟨b, hb, hbs⟩ := fc_ev l[v] (hw _ (List.getElem_mem _))
    refine ⟨if b then .inr true else r, Ev.succ (Ev.of (g' := fun fu => (bookendlaw04_FarCall fu l[v]).bind fun vr => if vr then some (.inr true) else bookendlaw04_FarScript_l1 l fu ((v + 1 : Nat) : Int)) (fun fu => ?_) (Ev.bind hb ?_)), ?_, ?_⟩
    · simp only [bookendlaw04_FarScript_l1, hn, decide_true, if_true, hx, Option.bind_some, nx hlt hl]
    · cases b
      · simpa using hr
      · exact Ev.ret _
    · cases b with
      | true => intro h; simp at h
      | false =>
        intro h c hc
        rw [List.drop_eq_getElem_cons hlt] at hc
        rcases List.mem_cons.1 hc with rfl | hc
        · exact hbs rfl
        · exact hs (by simpa using h) c hc
    · cases b
      · simpa using hne
      · simp
theorem fs_ev (l : List TApiOpCall) (hl : l.length ≤ big) (hw : ∀ c ∈ l, c.Writes.length ≤ big) : ∃ r, Ev (fun fu => bookendlaw04_FarScript fu l) r ∧ (r = false → ∀ c ∈ l, Small c) := by
  obtain ⟨r, hr, hs, hne⟩ := fs1_ev l hl hw l.length 0 (by omega)
  have hb : ∃ b : Bool, (((if (decide (30 < (l.length : Int))) then some (decide ((l.length : Int) ≤ 200)) else some false).bind fun b2 => (if b2 then some true else some (decide (205 < (l.length : Int))))) : Option Bool) = some b := by
    by_cases h1 : 30 < (l.length : Int) <;> by_cases h2 : (l.length : Int) ≤ 200 <;> simp [h1, h2]
  obtain ⟨b, hb⟩ := hb
  have e : ∀ fu, bookendlaw04_FarScript fu l = if b then some true else (bookendlaw04_FarScript_l1 l fu ((0 : Nat) : Int)).bind fun x => match x with | .inl _ => some false | .inr y => some y := by
    intro fu
    have : bookendlaw04_FarScript fu l = (some b).bind fun b5 => if b5 then some true else (bookendlaw04_FarScript_l1 l fu ((0 : Nat) : Int)).bind fun x => match x with | .inl _ => some false | .inr y => some y := by
      rw [← hb]
      unfold bookendlaw04_FarScript
      simp only [Option.bind_assoc]
      rfl
    rw [this]; rfl
  cases b with
  | true => exact ⟨true, Ev.of (fun fu => by rw [e]; rfl) (Ev.ret _), by simp⟩
  | false =>
    cases r with
    | inl u => exact ⟨false, Ev.of (fun fu => by rw [e]; rfl) (Ev.bind (k := fun _ x => match x with | .inl _ => some false | .inr y => some y) hr (Ev.ret _)), fun _ => hs rfl⟩
    | inr y =>
      refine ⟨true, ?_, by simp⟩
      have hy : y = true := by
        cases y with
        | true => rfl
        | false => exact absurd rfl hne
      rw [hy] at hr
      exact Ev.of (fun fu => by rw [e]; rfl) (Ev.bind (k := fun _ x => match x with | .inl _ => some false | .inr y => some y) hr (Ev.ret _))
theorem one1_ev (l : List Int) (k : Int) (hl : l.length ≤ big) : ∀ (m v : Nat), v + m = l.length → Ev (fun fu => bookendref04_one_l1 l k fu v) (if (l.drop v).contains k then .inr true else .inl ())
  | 0, v, hv => by
    have hn : ¬ ((v : Int) < (l.length : Int)) := by omega
    rw [List.drop_of_length_le (by omega)]
    exact Ev.succ (Ev.of (fun fu => by simp only [bookendref04_one_l1, hn, decide_false, Bool.false_eq_true, if_false, List.contains_nil]) (Ev.ret _))
  | m + 1, v, hv => by
    have hn : (v : Int) < (l.length : Int) := by omega
    have hlt : v < l.length := by omega
    have hx : ix l (v : Int) = some l[v] := ix_get _ v hlt
    have ih := one1_ev l k hl m (v + 1) (by omega)
    rw [List.drop_eq_getElem_cons hlt, List.contains_cons]
    by_cases h : l[v] = k
    · refine Ev.succ (Ev.of (fun fu => ?_) (Ev.ret _))
      simp [bookendref04_one_l1, hlt, hx, h]
    · refine Ev.succ (Ev.of (fun fu => ?_) (r := _) (g' := fun fu => bookendref04_one_l1 l k fu ((v + 1 : Nat) : Int)) ?_)
      · simp only [bookendref04_one_l1, hn, decide_true, if_true, hx, Option.bind_some, h, decide_false, Bool.false_eq_true, if_false, nx hlt hl]
      · have hk : (k == l[v]) = false := by simp; exact fun e => h e.symm
        rw [hk, Bool.false_or]
        exact ih
theorem one_ev (l : List Int) (k : Int) (hl : l.length ≤ big) : Ev (fun fu => bookendref04_one fu k l) (l.contains k) := by
  have h := one1_ev l k hl l.length 0 (by omega)
  refine Ev.of (g' := fun fu => (bookendref04_one_l1 l k fu ((0 : Nat) : Int)).bind fun x => match x with | .inl _ => some false | .inr y => some y) (fun fu => rfl) (Ev.bind h ?_)
  rw [List.drop_zero]
  cases l.contains k <;> exact Ev.ret _
def lg (s : List UInt8) : Bool := decide (100 < (s.length : Int))
theorem long1_ev (l : List (List UInt8)) (hl : l.length ≤ big) : ∀ (m v : Nat), v + m = l.length → Ev (fun fu => ops_long_l1 l fu v) (if (l.drop v).any lg then .inr true else .inl ())
  | 0, v, hv => by
    have hn : ¬ ((v : Int) < (l.length : Int)) := by omega
    rw [List.drop_of_length_le (by omega)]
    exact Ev.succ (Ev.of (fun fu => by simp only [ops_long_l1, hn, decide_false, Bool.false_eq_true, if_false, List.any_nil]) (Ev.ret _))
  | m + 1, v, hv => by
    have hn : (v : Int) < (l.length : Int) := by omega
    have hlt : v < l.length := by omega
    have hx : ix l (v : Int) = some l[v] := ix_get _ v hlt
    have ih := long1_ev l hl m (v + 1) (by omega)
    rw [List.drop_eq_getElem_cons hlt, List.any_cons]
    cases h : lg l[v] with
    | true =>
      refine Ev.succ (Ev.of (fun fu => ?_) (Ev.ret _))
      have h' : decide (100 < (l[v].length : Int)) = true := h
      simp only [ops_long_l1, hn, decide_true, if_true, hx, Option.bind_some, h', Bool.true_or]
    | false =>
      refine Ev.succ (Ev.of (g' := fun fu => ops_long_l1 l fu ((v + 1 : Nat) : Int)) (fun fu => ?_) ?_)
      · have h' : decide (100 < (l[v].length : Int)) = false := h
        simp only [ops_long_l1, hn, decide_true, if_true, hx, Option.bind_some, h', Bool.false_eq_true, if_false, nx hlt hl]
      · rw [Bool.false_or]
        exact ih
theorem long_ev (l : List (List UInt8)) (hl : l.length ≤ big) : Ev (fun fu => ops_long fu l) (l.any lg) := by
  have h := long1_ev l hl l.length 0 (by omega)
  refine Ev.of (g' := fun fu => (ops_long_l1 l fu ((0 : Nat) : Int)).bind fun x => match x with | .inl _ => some false | .inr y => some y) (fun fu => rfl) (Ev.bind h ?_)
  rw [List.drop_zero]
  cases l.any lg <;> exact Ev.ret _
def chk : List TApiOpWrite → Bool → Sum Bool Int
  | [], f => .inl f
  | w :: ws, f => if lg w.Key || lg w.Val then .inr 3 else chk ws (f || (w.Dead && !(w.Val == [])))
theorem and_step (p q : Bool) : (if p then some q else some false) = some (p && q) := by cases p <;> rfl
theorem or_step (p q : Bool) : (if p then some true else some q) = some (p || q) := by cases p <;> rfl
theorem chkA_ev (c : TApiOpCall) (hl : c.Writes.length ≤ big) : ∀ (m v : Nat) (f : Bool), v + m = c.Writes.length → Ev (fun fu => ops_Check_l1 c fu f v) (chk (c.Writes.drop v) f)
  | 0, v, f, hv => by
    have hn : ¬ ((v : Int) < (c.Writes.length : Int)) := by omega
    rw [List.drop_of_length_le (by omega)]
    exact Ev.succ (Ev.of (fun fu => by simp only [ops_Check_l1, hn, decide_false, Bool.false_eq_true, if_false, chk]) (Ev.ret _))
  | m + 1, v, f, hv => by
    have hn : (v : Int) < (c.Writes.length : Int) := by omega
    have hlt : v < c.Writes.length := by omega
    have hx : ix c.Writes (v : Int) = some c.Writes[v] := ix_get _ v hlt
    generalize c.Writes[v] = e at hx
    rw [show c.Writes.drop v = c.Writes[v] :: c.Writes.drop (v + 1) from List.drop_eq_getElem_cons hlt]
    have he : c.Writes[v] = e := by
      have := ix_get c.Writes v hlt
      rw [hx] at this
      exact (Option.some.inj this).symm
    rw [he]
    have hlo := long_ev [e.Key, e.Val] (by show 2 ≤ _; decide)
    have hany : [e.Key, e.Val].any lg = (lg e.Key || lg e.Val) := by simp
    rw [hany] at hlo
    refine Ev.succ (Ev.of (g' := fun fu => (ops_long fu [e.Key, e.Val]).bind fun vr => if vr then some (.inr 3) else ops_Check_l1 c fu (f || (e.Dead && !(e.Val == []))) ((v + 1 : Nat) : Int)) (fun fu => ?_) (Ev.bind hlo ?_))
    · simp only [ops_Check_l1, hn, decide_true, if_true, hx, Option.bind_some, and_step, or_step, nx hlt hl]
    · rw [chk]
      cases lg e.Key || lg e.Val
      · simpa using chkA_ev c hl m (v + 1) _ (by omega)
      · exact Ev.ret _
theorem chkB_ev (c : TApiOpCall) (hl : c.Writes.length ≤ big) : ∀ (m v : Nat) (f : Bool), v + m = c.Writes.length → Ev (fun fu => bookendref04_Check_l1 c fu f v) (chk (c.Writes.drop v) f)
  | 0, v, f, hv => by
    have hn : ¬ ((v : Int) < (c.Writes.length : Int)) := by omega
    rw [List.drop_of_length_le (by omega)]
    exact Ev.succ (Ev.of (fun fu => by simp only [bookendref04_Check_l1, hn, decide_false, Bool.false_eq_true, if_false, chk]) (Ev.ret _))
  | m + 1, v, f, hv => by
    have hn : (v : Int) < (c.Writes.length : Int) := by omega
    have hlt : v < c.Writes.length := by omega
    have hx : ix c.Writes (v : Int) = some c.Writes[v] := ix_get _ v hlt
    rw [show c.Writes.drop v = c.Writes[v] :: c.Writes.drop (v + 1) from List.drop_eq_getElem_cons hlt]
    generalize c.Writes[v] = e at hx ⊢
    have ih := chkB_ev c hl m (v + 1) (f || (e.Dead && !(e.Val == []))) (by omega)
    have hl1 : ∀ fu s, bookendref04_long fu s = some (lg s) := fun _ _ => rfl
    rw [chk]
    cases hb : lg e.Key || lg e.Val with
    | false =>
      refine Ev.succ (Ev.of (g' := fun fu => bookendref04_Check_l1 c fu (f || (e.Dead && !(e.Val == []))) ((v + 1 : Nat) : Int)) (fun fu => ?_) (by simpa using ih))
      simp only [bookendref04_Check_l1, hn, decide_true, if_true, hx, Option.bind_some, hl1, and_step, or_step, hb, Bool.false_eq_true, if_false, nx hlt hl]
    | true =>
      refine Ev.succ (Ev.of (fun fu => ?_) (Ev.ret _))
      simp only [bookendref04_Check_l1, hn, decide_true, if_true, hx, Option.bind_some, hl1, and_step, or_step, hb]
def extraF (c : TApiOpCall) : Bool :=
  ((((((!([1, 2, 4, 5, 6] : List Int).contains c.Kind) && !(c.Key == [])) || ((!decide (c.Kind = 1)) && !(c.Val == []))) || ((!(decide (c.Kind = 7) || decide (c.Kind = 10))) && !(TApiKeRange.eqb c.Range (TApiKeRange.mk [] [] false)))) || ((!([4, 5, 6, 7, 10, 9, 11, 12, 13, 14] : List Int).contains c.Kind) && !(TApiHandle.eqb c.Handle (TApiHandle.mk 0 0)))) || ((!decide (c.Kind = 14)) && !(TApiHandle.eqb c.Other (TApiHandle.mk 0 0)))) || ((!decide (c.Kind = 3)) && decide (0 < (c.Writes.length : Int)))
theorem extra_ev (c : TApiOpCall) : Ev (fun fu => bookendref04_extra fu c) (extraF c) := by
  obtain ⟨n, hn⟩ := one_ev [1, 2, 4, 5, 6] c.Kind (by show 5 ≤ _; decide)
  obtain ⟨m, hm⟩ := one_ev [4, 5, 6, 7, 10, 9, 11, 12, 13, 14] c.Kind (by show 10 ≤ _; decide)
  refine ⟨n + m, fun fu hfu => ?_⟩
  have h1 := hn fu (by omega)
  have h2 := hm fu (by omega)
  simp only [bookendref04_extra, bookendref04_hasKey, bookendref04_hasHandle, bookendref04_hasRange, h1, h2, Option.bind_some, and_step, or_step]
  rfl
theorem beq_nil {α : Type} [BEq α] (l : List α) : (l == []) = l.isEmpty := by cases l <;> rfl
theorem wr_nil {α : Type} (l : List α) : decide (0 < (l.length : Int)) = !l.isEmpty := by cases l <;> simp <;> omega
theorem extra_bare (c : TApiOpCall) (h1 : 1 ≤ c.Kind) (h2 : c.Kind ≤ 17) : extraF c = !bareF c := by
  have hr : TApiKeRange.eqb c.Range (TApiKeRange.mk [] [] false) = (c.Range.Low.isEmpty && c.Range.High.isEmpty && !c.Range.Bound) := by
    simp only [TApiKeRange.eqb, beq_nil, Bool.and_true]
    cases c.Range.Low.isEmpty <;> cases c.Range.High.isEmpty <;> cases c.Range.Bound <;> rfl
  have hh : ∀ h : TApiHandle, TApiHandle.eqb h (TApiHandle.mk 0 0) = (decide (h.Index = 0) && decide (h.Gen = 0)) := fun h => by
    simp only [TApiHandle.eqb, Bool.and_true]
    rfl
  unfold extraF bareF bareB
  rw [hr, hh, hh]
  simp only [beq_nil, wr_nil]
  generalize c.Key.isEmpty = a1
  generalize c.Val.isEmpty = a2
  generalize (c.Range.Low.isEmpty && c.Range.High.isEmpty && !c.Range.Bound) = a3
  generalize (decide (c.Handle.Index = 0) && decide (c.Handle.Gen = 0)) = a4
  generalize (decide (c.Other.Index = 0) && decide (c.Other.Gen = 0)) = a5
  generalize c.Writes.isEmpty = a6
  have h : c.Kind = 1 ∨ c.Kind = 2 ∨ c.Kind = 3 ∨ c.Kind = 4 ∨ c.Kind = 5 ∨ c.Kind = 6 ∨ c.Kind = 7 ∨ c.Kind = 8 ∨ c.Kind = 9 ∨ c.Kind = 10 ∨ c.Kind = 11 ∨ c.Kind = 12 ∨ c.Kind = 13 ∨ c.Kind = 14 ∨ c.Kind = 15 ∨ c.Kind = 16 ∨ c.Kind = 17 := by omega
  rcases h with h | h | h | h | h | h | h | h | h | h | h | h | h | h | h | h | h <;> rw [h] <;> revert a1 a2 a3 a4 a5 a6 <;> decide
def nm (h : TApiHandle) : Bool := (decide (0 ≤ h.Index) && decide (h.Index ≤ 1000000000)) && (decide (0 ≤ h.Gen) && decide (h.Gen ≤ 1000000000))
theorem named_eq (fu : Nat) (h : TApiHandle) : ops_named fu h = some (nm h) := by
  simp only [ops_named, ops_inside, Option.bind_some, and_step]
  rfl
theorem handle_eq (fu : Nat) (h : TApiHandle) : bookendref04_handle fu h = some (nm h) := by
  simp only [bookendref04_handle, bookendref04_number, Option.bind_some, and_step]
  rfl
theorem word_ok (k : Int) (h1 : 1 ≤ k) (h2 : k ≤ 17) (fu : Nat) : ∃ w, bookendref04_word fu k = some w ∧ (w == []) = false := by
  have h : k = 1 ∨ k = 2 ∨ k = 3 ∨ k = 4 ∨ k = 5 ∨ k = 6 ∨ k = 7 ∨ k = 8 ∨ k = 9 ∨ k = 10 ∨ k = 11 ∨ k = 12 ∨ k = 13 ∨ k = 14 ∨ k = 15 ∨ k = 16 ∨ k = 17 := by omega
  rcases h with h | h | h | h | h | h | h | h | h | h | h | h | h | h | h | h | h <;> subst h <;> exact ⟨_, rfl, rfl⟩
theorem bare_eq (fu : Nat) (c : TApiOpCall) (h1 : 1 ≤ c.Kind) (h2 : c.Kind ≤ 17) (hK : c.Key.length ≤ bN) (hV : c.Val.length ≤ bN) : ops_bare fu c = some (bareF c) := by
  simp only [ops_bare]
  rw [if_pos ⟨h1, h2, hK, hV⟩]
def gr (c : TApiOpCall) : Bool := decide (c.Grant < 0) || decide (1000000 < c.Grant)
def fm (c : TApiOpCall) : Bool := (!c.Range.Bound) && !(c.Range.High == [])
def res (c : TApiOpCall) : Int :=
  if gr c then 7 else if !bareF c then 6 else if !nm c.Handle || !nm c.Other then 7 else
  if (((lg c.Key || lg c.Val) || lg c.Range.Low) || lg c.Range.High) || decide (8 < (c.Writes.length : Int)) then 3 else
  match chk c.Writes (fm c) with
  | .inl o => if decide (c.Kind = 3) && decide ((c.Writes.length : Int) = 0) then 4 else if o then 6 else 0
  | .inr y => y
theorem checkA_ev (c : TApiOpCall) (h1 : 1 ≤ c.Kind) (h2 : c.Kind ≤ 17) (hs : Small c) (hl : c.Writes.length ≤ big) : Ev (fun fu => ops_Check fu c) (res c) := by
  obtain ⟨n, hn⟩ := long_ev [c.Key, c.Val, c.Range.Low, c.Range.High] (by show 4 ≤ _; decide)
  obtain ⟨m, hm⟩ := chkA_ev c hl c.Writes.length 0 (fm c) (by omega)
  have hany : [c.Key, c.Val, c.Range.Low, c.Range.High].any lg = (((lg c.Key || lg c.Val) || lg c.Range.Low) || lg c.Range.High) := by simp [Bool.or_assoc]
  rw [List.drop_zero] at hm
  refine ⟨n + m, fun fu hfu => ?_⟩
  have e1 := hn fu (by omega)
  have e2 : ops_Check_l1 c fu (fm c) 0 = some (chk c.Writes (fm c)) := hm fu (by omega)
  rw [hany] at e1
  have hb := bare_eq fu c h1 h2 (by have := hs.1; show _ ≤ 4611686018427387903; omega) (by have := hs.2; show _ ≤ 4611686018427387903; omega)
  have hk : (decide (1 ≤ c.Kind) && decide (c.Kind ≤ 17)) = true := by simp [h1, h2]
  simp only [ops_Check, ops_known, hb, named_eq, e1, Option.bind_some, and_step, or_step, hk, Bool.not_true, Bool.false_eq_true, if_false]
  unfold res
  show (if gr c = true then some 7 else _) = _
  cases hg : gr c
  · simp only [Bool.false_eq_true, if_false]
    cases hbb : bareF c
    · simp only [Bool.not_false, if_true]
    · simp only [Bool.not_true, Bool.false_eq_true, if_false]
      cases hh : (!nm c.Handle || !nm c.Other)
      · simp only [Bool.false_eq_true, if_false]
        cases hlg : ((((lg c.Key || lg c.Val) || lg c.Range.Low) || lg c.Range.High) || decide (8 < (c.Writes.length : Int)))
        · simp only [Bool.false_eq_true, if_false]
          show ((ops_Check_l1 c fu (fm c) 0).bind _) = _
          rw [e2]
          simp only [Option.bind_some]
          cases chk c.Writes (fm c) with
          | inl o =>
            simp only
            cases (decide (c.Kind = 3) && decide ((c.Writes.length : Int) = 0)) <;> cases o <;> rfl
          | inr y => rfl
        · simp only [if_true]
      · simp only [if_true]
  · simp only [if_true]
theorem checkB_ev (c : TApiOpCall) (h1 : 1 ≤ c.Kind) (h2 : c.Kind ≤ 17) (hl : c.Writes.length ≤ big) : Ev (fun fu => bookendref04_Check fu c) (res c) := by
  obtain ⟨n, hn⟩ := extra_ev c
  obtain ⟨m, hm⟩ := chkB_ev c hl c.Writes.length 0 (fm c) (by omega)
  rw [List.drop_zero] at hm
  rw [extra_bare c h1 h2] at hn
  refine ⟨n + m, fun fu hfu => ?_⟩
  have e1 := hn fu (by omega)
  have e2 : bookendref04_Check_l1 c fu (fm c) 0 = some (chk c.Writes (fm c)) := hm fu (by omega)
  have hl1 : ∀ fu s, bookendref04_long fu s = some (lg s) := fun _ _ => rfl
  obtain ⟨w, hw, hw2⟩ := word_ok c.Kind h1 h2 fu
  simp only [bookendref04_Check, hw, hw2, e1, handle_eq, hl1, Option.bind_some, and_step, or_step, Bool.false_eq_true, if_false]
  unfold res
  show (if gr c = true then some 7 else _) = _
  cases hg : gr c
  · simp only [Bool.false_eq_true, if_false]
    cases hbb : bareF c
    · simp only [Bool.not_false, if_true]
    · simp only [Bool.not_true, Bool.false_eq_true, if_false]
      cases hh : (!nm c.Handle || !nm c.Other)
      · simp only [Bool.false_eq_true, if_false]
        cases hlg : ((((lg c.Key || lg c.Val) || lg c.Range.Low) || lg c.Range.High) || decide (8 < (c.Writes.length : Int)))
        · simp only [Bool.false_eq_true, if_false]
          show ((bookendref04_Check_l1 c fu (fm c) 0).bind _) = _
          rw [e2]
          simp only [Option.bind_some]
          cases chk c.Writes (fm c) with
          | inl o =>
            simp only
            cases (decide (c.Kind = 3) && decide ((c.Writes.length : Int) = 0)) <;> cases o <;> rfl
          | inr y => rfl
        · simp only [if_true]
      · simp only [if_true]
  · simp only [if_true]
theorem check_ev (c : TApiOpCall) (hs : Small c) (hl : c.Writes.length ≤ big) : ∃ r, Ev (fun fu => ops_Check fu c) r ∧ Ev (fun fu => bookendref04_Check fu c) r := by
  by_cases hk : 1 ≤ c.Kind ∧ c.Kind ≤ 17
  · exact ⟨res c, checkA_ev c hk.1 hk.2 hs hl, checkB_ev c hk.1 hk.2 hl⟩
  · refine ⟨2, Ev.of (fun fu => ?_) (Ev.ret _), Ev.of (fun fu => ?_) (Ev.ret _)⟩
    · have hk' : (decide (1 ≤ c.Kind) && decide (c.Kind ≤ 17)) = false := by
        rw [← Bool.decide_and]; exact decide_eq_false hk
      simp only [ops_Check, ops_known, Option.bind_some, and_step, hk', Bool.not_false, if_true]
    · have hk' : (decide (c.Kind < 1) || decide (17 < c.Kind)) = true := by
        rw [← Bool.decide_or]; exact decide_eq_true (by omega)
      simp only [bookendref04_Check, bookendref04_word, Option.bind_some, or_step, hk', if_true]
      rfl
abbrev w64 (n : Int) : Int := IntKind.i64.wrap n
def stE (k n e w b p c : Int) : Int × Int × Int × Int :=
  if e = 10 then (if 1 ≤ k ∧ k ≤ 3 then (w, w64 (b + 1), p, c) else (w, b, p, c))
  else if e = 0 then (if k = 1 then (w64 (w + 1), b, p, c) else if k = 2 then (w64 (w + 1), b, p, c) else if k = 3 then (w64 (w + n), b, p, c) else
    if k = 8 then (w, b, w64 (p + 1), c) else if k = 9 then (w, b, w64 (p - 1), c) else if k = 10 then (w, b, p, w64 (c + 1)) else if k = 13 then (w, b, p, w64 (c - 1)) else (w, b, p, c))
  else (w, b, p, c)
theorem wrA (fu : Nat) (c : TApiOpCall) : ops_Write fu c = some (decide (1 ≤ c.Kind ∧ c.Kind ≤ 3)) := by
  simp only [ops_Write, Option.bind_some, or_step]
  rw [← Bool.decide_or, ← Bool.decide_or]
  congr 1
  exact decide_eq_decide.2 (by omega)
theorem wrB (fu : Nat) (c : TApiOpCall) : bookendref04_Write fu c = some (decide (1 ≤ c.Kind ∧ c.Kind ≤ 3)) := by
  simp only [bookendref04_Write, Option.bind_some, and_step]
  rw [← Bool.decide_and]
theorem stepA (l : List TApiOpCall) (a : List TApiOpAnswer) (fu v : Nat) (w b p c : Int) (x : TApiOpCall) (y : TApiOpAnswer) (hn : (v : Int) < (l.length : Int)) (hl : l.length ≤ big) (hx : ix l (v : Int) = some x) (hy : ix a (v : Int) = some y) (hk : ops_Check fu x = some 0) :
    stats_Events_l1 l a (fu + 1) v b w p c = (match stE x.Kind x.Writes.length y.E w b p c with | (w', b', p', c') => stats_Events_l1 l a fu ((v + 1 : Nat) : Int) b' w' p' c') := by
  have hlt : v < l.length := by omega
  simp only [stats_Events_l1, hn, decide_true, if_true, hx, hy, hk, Option.bind_some, Bool.not_true, Bool.false_eq_true, if_false, wrA, nx hlt hl, decide_eq_true_eq]
  unfold stE
  by_cases h10 : y.E = 10
  · by_cases hw : 1 ≤ x.Kind ∧ x.Kind ≤ 3
    · simp only [h10, if_true, if_pos hw, w64]
    · simp only [h10, if_true, if_neg hw]
  · simp only [h10, if_false]
    by_cases h0 : y.E = 0
    · simp only [h0, if_true]
      by_cases k1 : x.Kind = 1
      · simp only [if_pos k1, w64]
      · simp only [if_neg k1]
        by_cases k2 : x.Kind = 2
        · simp only [if_pos k2, w64]
        · simp only [if_neg k2]
          by_cases k3 : x.Kind = 3
          · simp only [if_pos k3, w64]
          · simp only [if_neg k3]
            by_cases k8 : x.Kind = 8
            · simp only [if_pos k8, w64]
            · simp only [if_neg k8]
              by_cases k9 : x.Kind = 9
              · simp only [if_pos k9, w64]
              · simp only [if_neg k9]
                by_cases k10 : x.Kind = 10
                · simp only [if_pos k10, w64]
                · simp only [if_neg k10]
                  by_cases k13 : x.Kind = 13
                  · simp only [if_pos k13, w64]
                  · simp only [if_neg k13]
    · simp only [h0, if_false]
theorem stepB (l : List TApiOpCall) (a : List TApiOpAnswer) (fu v : Nat) (w b p c : Int) (x : TApiOpCall) (y : TApiOpAnswer) (hn : (v : Int) < (l.length : Int)) (hl : l.length ≤ big) (hx : ix l (v : Int) = some x) (hy : ix a (v : Int) = some y) (hk : bookendref04_Check fu x = some 0) :
    bookendref31_Events_l1 l a (fu + 1) v w b p c = (match stE x.Kind x.Writes.length y.E w b p c with | (w', b', p', c') => bookendref31_Events_l1 l a fu ((v + 1 : Nat) : Int) w' b' p' c') := by
  have hlt : v < l.length := by omega
  simp only [bookendref31_Events_l1, hn, decide_true, if_true, hx, hy, hk, Option.bind_some, Bool.not_true, Bool.false_eq_true, if_false, wrB, nx hlt hl, and_step, bookendref31_many, Bool.and_eq_true, decide_eq_true_eq]
  unfold stE
  by_cases h10 : y.E = 10
  · have h0 : ¬ y.E = 0 := by omega
    by_cases hw : 1 ≤ x.Kind ∧ x.Kind ≤ 3
    · simp [h10, hw]
    · simp [h10, hw]
  · by_cases h0 : y.E = 0
    · by_cases k1 : x.Kind = 1
      · simp [h0, k1]
      · by_cases k2 : x.Kind = 2
        · simp [h0, k2]
        · by_cases k3 : x.Kind = 3
          · simp [h0, k3]
          · have hw : ¬ (1 ≤ x.Kind ∧ x.Kind ≤ 3) := by omega
            by_cases k8 : x.Kind = 8
            · simp [h0, k8]
            · by_cases k9 : x.Kind = 9
              · simp [h0, k9]
              · by_cases k10 : x.Kind = 10
                · simp [h0, k10]
                · by_cases k13 : x.Kind = 13
                  · simp [h0, k13]
                  · simp [h0, hw, k1, k2, k3, k8, k9, k10, k13]
    · simp [h0, h10]
theorem loop_ev (l : List TApiOpCall) (a : List TApiOpAnswer) (hla : l.length = a.length) (hl : l.length ≤ big) (hs : ∀ c ∈ l, Small c) (hw : ∀ c ∈ l, c.Writes.length ≤ big) : ∀ (m v : Nat), v + m = l.length → ∀ (w b p c : Int),
    ∃ r, Ev (fun fu => stats_Events_l1 l a fu v b w p c) r ∧ Ev (fun fu => bookendref31_Events_l1 l a fu v w b p c) r
  | 0, v, hv, w, b, p, c => by
    have hn : ¬ ((v : Int) < (l.length : Int)) := by omega
    refine ⟨.inl (w, b, p, c), Ev.succ (Ev.of (fun fu => ?_) (Ev.ret _)), Ev.succ (Ev.of (fun fu => ?_) (Ev.ret _))⟩
    · simp only [stats_Events_l1, hn, decide_false, Bool.false_eq_true, if_false]
    · simp only [bookendref31_Events_l1, hn, decide_false, Bool.false_eq_true, if_false]
  | m + 1, v, hv, w, b, p, c => by
    have hn : (v : Int) < (l.length : Int) := by omega
    have hlt : v < l.length := by omega
    have hx : ix l (v : Int) = some l[v] := ix_get _ v hlt
    have hy : ix a (v : Int) = some (a[v]'(by omega)) := ix_get _ v (by omega)
    obtain ⟨k, ⟨n1, hk1⟩, ⟨n2, hk2⟩⟩ := check_ev l[v] (hs _ (List.getElem_mem _)) (hw _ (List.getElem_mem _))
    by_cases h0 : k = 0
    · subst h0
      obtain ⟨r, ⟨q1, hr1⟩, ⟨q2, hr2⟩⟩ := loop_ev l a hla hl hs hw m (v + 1) (by omega) (stE l[v].Kind l[v].Writes.length (a[v]'(by omega)).E w b p c).1 (stE l[v].Kind l[v].Writes.length (a[v]'(by omega)).E w b p c).2.1 (stE l[v].Kind l[v].Writes.length (a[v]'(by omega)).E w b p c).2.2.1 (stE l[v].Kind l[v].Writes.length (a[v]'(by omega)).E w b p c).2.2.2
      refine ⟨r, Ev.succ ⟨n1 + q1, fun fu hfu => ?_⟩, Ev.succ ⟨n2 + q2, fun fu hfu => ?_⟩⟩
      · show stats_Events_l1 l a (fu + 1) v b w p c = some r
        rw [stepA l a fu v w b p c _ _ hn hl hx hy (hk1 fu (by omega))]
        exact hr1 fu (by omega)
      · show bookendref31_Events_l1 l a (fu + 1) v w b p c = some r
        rw [stepB l a fu v w b p c _ _ hn hl hx hy (hk2 fu (by omega))]
        exact hr2 fu (by omega)
    · refine ⟨.inr (TApiStEvents.mk 0 0 0 0, v, k), Ev.succ ⟨n1, fun fu hfu => ?_⟩, Ev.succ ⟨n2, fun fu hfu => ?_⟩⟩
      · simp only [stats_Events_l1, hn, decide_true, if_true, hx, hk1 fu hfu, Option.bind_some, h0, decide_false, Bool.not_false]
      · simp only [bookendref31_Events_l1, hn, decide_true, if_true, hx, hk2 fu hfu, Option.bind_some, h0, decide_false, Bool.not_false]
theorem events_ev (l : List TApiOpCall) (a : List TApiOpAnswer) (hl : l.length ≤ big) (hs : ∀ c ∈ l, Small c) (hw : ∀ c ∈ l, c.Writes.length ≤ big) : ∃ r, Ev (fun fu => stats_Events fu l a) r ∧ Ev (fun fu => bookendref31_Events fu l a) r := by
  by_cases h : 200 < (l.length : Int)
  · exact ⟨(TApiStEvents.mk 0 0 0 0, -1, 3), Ev.of (fun fu => by simp only [stats_Events, h, decide_true, if_true]) (Ev.ret _), Ev.of (fun fu => by simp only [bookendref31_Events, h, decide_true, if_true]) (Ev.ret _)⟩
  · by_cases h2 : (l.length : Int) = (a.length : Int)
    · have hd : decide ((l.length : Int) = (a.length : Int)) = true := decide_eq_true h2
      have hh : decide (200 < (l.length : Int)) = false := decide_eq_false h
      obtain ⟨r, hr1, hr2⟩ := loop_ev l a (by omega) hl hs hw l.length 0 (by omega) 0 0 0 0
      refine ⟨match r with | .inl o => (TApiStEvents.mk o.1 o.2.1 o.2.2.1 o.2.2.2, 0, 0) | .inr y => y, ?_, ?_⟩
      · refine Ev.of (g' := fun fu => (stats_Events_l1 l a fu ((0 : Nat) : Int) 0 0 0 0).bind fun x => match x with | .inl o => some (TApiStEvents.mk o.1 o.2.1 o.2.2.1 o.2.2.2, 0, 0) | .inr y => some y) (fun fu => ?_) (Ev.bind hr1 ?_)
        · simp only [stats_Events, hh, hd, Bool.not_true, Bool.false_eq_true, if_false]; rfl
        · cases r <;> exact Ev.ret _
      · refine Ev.of (g' := fun fu => (bookendref31_Events_l1 l a fu ((0 : Nat) : Int) 0 0 0 0).bind fun x => match x with | .inl o => some (TApiStEvents.mk o.1 o.2.1 o.2.2.1 o.2.2.2, 0, 0) | .inr y => some y) (fun fu => ?_) (Ev.bind hr2 ?_)
        · simp only [bookendref31_Events, hh, hd, Bool.not_true, Bool.false_eq_true, if_false]; rfl
        · cases r <;> exact Ev.ret _
    · have hd : decide ((l.length : Int) = (a.length : Int)) = false := decide_eq_false h2
      have hh : decide (200 < (l.length : Int)) = false := decide_eq_false h
      exact ⟨(TApiStEvents.mk 0 0 0 0, -1, 6), Ev.of (fun fu => by simp only [stats_Events, hh, hd, Bool.false_eq_true, if_false, Bool.not_false, if_true]) (Ev.ret _), Ev.of (fun fu => by simp only [bookendref31_Events, hh, hd, Bool.false_eq_true, if_false, Bool.not_false, if_true]) (Ev.ret _)⟩
theorem fas1_ev (l : List TApiOpAnswer) (hl : l.length ≤ big) (hi : ∀ a ∈ l, a.Items.length ≤ big) : ∀ (m v : Nat), v + m = l.length → ∃ r, Ev (fun fu => bookendlaw31_StatsEvents_l1 l fu v) r ∧ (r = .inl () ∨ r = .inr true)
  | 0, v, hv => by
    have hn : ¬ ((v : Int) < (l.length : Int)) := by omega
    exact ⟨.inl (), Ev.succ (Ev.of (fun fu => by simp only [bookendlaw31_StatsEvents_l1, hn, decide_false, Bool.false_eq_true, if_false]) (Ev.ret _)), .inl rfl⟩
  | m + 1, v, hv => by
    have hn : (v : Int) < (l.length : Int) := by omega
    have hlt : v < l.length := by omega
    have hx : ix l (v : Int) = some l[v] := ix_get _ v hlt
    obtain ⟨r, hr, hr2⟩ := fas1_ev l hl hi m (v + 1) (by omega)
    obtain ⟨b, hb⟩ := far_ev l[v] (hi _ (List.getElem_mem _))
    refine ⟨if b then .inr true else r, Ev.succ (Ev.of (g' := fun fu => (bookendlaw04_FarAnswer fu l[v]).bind fun vr => if vr then some (.inr true) else bookendlaw31_StatsEvents_l1 l fu ((v + 1 : Nat) : Int)) (fun fu => ?_) (Ev.bind hb ?_)), ?_⟩
    · simp only [bookendlaw31_StatsEvents_l1, hn, decide_true, if_true, hx, Option.bind_some, bookendlaw31_shown, nx hlt hl]
    · cases b
      · simpa using hr
      · exact Ev.ret _
    · cases b
      · simpa using hr2
      · exact .inr rfl
theorem eqb_refl (x : TApiStEvents) : TApiStEvents.eqb x x = true := by simp [TApiStEvents.eqb]
theorem statsEvents_ev (l : List TApiOpCall) (a : List TApiOpAnswer) (hl : l.length ≤ big) (ha : a.length ≤ big) (hw : ∀ c ∈ l, c.Writes.length ≤ big) (hi : ∀ x ∈ a, x.Items.length ≤ big) : Ev (fun fu => bookendlaw31_StatsEvents fu l a) true := by
  obtain ⟨f, ⟨n1, hf⟩, hs⟩ := fs_ev l hl hw
  cases f with
  | true => exact ⟨n1, fun fu hfu => by simp only [bookendlaw31_StatsEvents, hf fu hfu, Option.bind_some, if_true, bookendlaw31_shown]⟩
  | false =>
    by_cases h205 : 205 < (a.length : Int)
    · exact ⟨n1, fun fu hfu => by simp only [bookendlaw31_StatsEvents, hf fu hfu, Option.bind_some, Bool.false_eq_true, if_false, h205, decide_true, if_true, bookendlaw31_shown]⟩
    · obtain ⟨r, ⟨n2, hr⟩, hr2⟩ := fas1_ev a ha hi a.length 0 (by omega)
      have hr0 : ∀ fu, n2 ≤ fu → bookendlaw31_StatsEvents_l1 a fu 0 = some r := fun fu h => hr fu h
      obtain ⟨y, ⟨n3, h1⟩, ⟨n4, h2⟩⟩ := events_ev l a hl (hs rfl) hw
      refine ⟨n1 + n2 + n3 + n4, fun fu hfu => ?_⟩
      simp only [bookendlaw31_StatsEvents, hf fu (by omega), Option.bind_some, Bool.false_eq_true, if_false, h205, decide_false, hr0 fu (by omega)]
      rcases hr2 with rfl | rfl
      · simp only [h1 fu (by omega), h2 fu (by omega), Option.bind_some, eqb_refl, if_true, decide_true, bookendlaw31_shown]
      · rfl
end Go.T
end
section
namespace Go.Proofs.YtbjmeobodbgdbaaGreatDoor
open Go Go.AM Go.T
theorem statsEvents : Rows.StatsEventsCardSaid :=
  statsEvents_card (fun ad off h1 h2 x0 x1 w0 w1 => by
    letI : Adr := adrOf ad off
    haveI : ShownOk := ⟨ranAll ad off pok (base0_ok ad off h1 h2)⟩
    haveI : BareOk := ⟨fun c a b k v => bare_ok ad off pok (base0_ok ad off h1 h2) c a b k v⟩
    have hb : maxLen ≤ big := by decide
    obtain ⟨fu, hfu⟩ := (statsEvents_ev x0 x1 (Nat.le_trans w0.1 hb) (Nat.le_trans w1.1 hb) (fun c hc => Nat.le_trans (w0.2 c hc).2.2.2.2.2.2.2.1 hb) (fun x hx => Nat.le_trans (w1.2 x hx).2.2.2.2.2.1.1 hb)).one
    exact ⟨_, c_bookendlaw31_StatsEvents hfu⟩)
end Go.Proofs.YtbjmeobodbgdbaaGreatDoor
end
