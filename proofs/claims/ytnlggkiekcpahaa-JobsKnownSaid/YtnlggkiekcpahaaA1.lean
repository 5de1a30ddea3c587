/- The job of a small level is as the document says; no condition. -/
import Derived.Test.YtnlggkiekcpahaaAGp
import Derived.Test.YtnlggkiekcpahaaAGm
import Derived.Laws.BitsLemmas
import Derived.Test.YtnlggkiekcpahaaAGt
set_option linter.unusedSimpArgs false
set_option linter.unusedVariables false
section
namespace Go.T
open Go Go.AM
def Ev {α : Type} (g : Nat → Option α) (r : α) : Prop := ∃ N, ∀ fu, N ≤ fu → g fu = some r
theorem Ev.ret {α : Type} (r : α) : Ev (fun _ => some r) r := ⟨0, fun _ _ => rfl⟩
theorem Ev.bind {α β : Type} {g : Nat → Option α} {a : α} {k : Nat → α → Option β} {r : β} (h : Ev g a) (h2 : Ev (fun fu => k fu a) r) : Ev (fun fu => (g fu).bind (k fu)) r := by
  obtain ⟨n, h⟩ := h
  obtain ⟨m, h2⟩ := h2
  exact ⟨n + m, fun fu hfu => by show (g fu).bind (k fu) = _; rw [h fu (by omega)]; exact h2 fu (by omega)⟩
theorem Ev.succ {α : Type} {g : Nat → Option α} {r : α} (h : Ev (fun fu => g (fu + 1)) r) : Ev g r := by
  obtain ⟨n, h⟩ := h
  exact ⟨n + 1, fun fu hfu => by obtain ⟨m, rfl⟩ : ∃ m, fu = m + 1 := ⟨fu - 1, by omega⟩; exact h m (by omega)⟩
theorem Ev.of {α : Type} {g g' : Nat → Option α} {r : α} (e : ∀ fu, g fu = g' fu) (h : Ev g' r) : Ev g r := by
  obtain ⟨n, h⟩ := h
  exact ⟨n, fun fu hfu => (e fu).trans (h fu hfu)⟩
theorem Ev.mono {α : Type} {g : Nat → Option α} {r : α} {n : Nat} (m : ∀ fu, Le1 (g fu) (g (fu + 1))) (h : g n = some r) : Ev g r := by
  refine ⟨n, fun fu hfu => ?_⟩
  induction fu with
  | zero => rw [show n = 0 by omega] at h; exact h
  | succ fu ih =>
    by_cases e : n = fu + 1
    · rw [← e]; exact h
    · exact m fu r (ih (by omega))
theorem Ev.one {α : Type} {g : Nat → Option α} {r : α} (h : Ev g r) : ∃ fu, g fu = some r := by
  obtain ⟨n, h⟩ := h; exact ⟨n, h n (Nat.le_refl n)⟩
theorem wr {n : Int} (h1 : -9223372036854775808 ≤ n) (h2 : n ≤ 9223372036854775807) : IntKind.i64.wrap n = n := by
  rw [IntKind.wrap_i64]; omega
abbrev bl := Op.bytesLess
def chk (e : TApiEntry) : Int := if 32 < e.Key.length ∨ 64 < e.Val.length then 3 else if e.Dead = true ∧ e.Val ≠ [] then 6 else if e.Seq < 1 ∨ 1000000000 < e.Seq then 7 else 0
end Go.T
end
section
namespace Go.T
open Go Go.AM
theorem shown_val : bookendlaw16_shown 40 = some true := by kernel_rfl
theorem shown_ev : Ev (fun fu => bookendlaw16_shown fu) true := Ev.mono (n := 40) (fun fu => m_bookendlaw16_shown fu) shown_val
theorem jobsKnown_ev : Ev (fun fu => bookendlaw16_JobsKnown fu) true := by
  unfold bookendlaw16_JobsKnown
  exact Ev.bind shown_ev (Ev.ret _)
end Go.T
end
section
namespace Go.T
open Go Go.AM Go.Proofs
set_option maxRecDepth 100000
set_option maxHeartbeats 4000000
set_option linter.unusedVariables false
theorem c_bookendlaw16_of {fu : Nat} {id1 : Int} {dead2 : Bool} {keys3 : List UInt8} {r : TApiRun} (h0 : bookendlaw16_of fu id1 dead2 keys3 = some r) : PCall Try.prog 39 [.int .i64 id1, .bool dead2, .str keys3] (.agg (TApiRun.enc r)) [] := by
 refine awp_pcall Try.func39 rfl (by decide) (Nat.le_of_ble_eq_true rfl) ?_
 dsimp only [Try.f39]
 rw [bookendlaw16_of] at h0
 refine (show AWP _ _ _ _ ⟨enumFr 0 _, [], 0, []⟩ from ?_)
 refine awp_sr2 8 [0, 1, 2, 6] (fun _ => none) rfl (fun _ _ => rT) ?_
 refine awp_sr2 40 [0, 1, 2, 6, 7] (fun _ => none) rfl (fun _ _ => rT) ?_
 refine awp_seq ?_
 refine awp_sr2 48 [0, 1, 2, 6, 7, 8] (fun _ => none) rfl (fun _ _ => rT) ?_
 refine awp_re (s2 := ⟨[(0, .int .i64 id1), (1, .bool dead2), (2, .str keys3), (6, .ref 0 0 0 0), (7, .ref 24 0 0 0), (8, .int .i64 0)], [(0, ⟨0, true, true, 2, [[.int .i64 0, .nils]]⟩), (24, ⟨0, true, false, 2, [[.int .i64 id1, .sl 48 0 4 0 0]]⟩), (48, ⟨0, true, true, 4, List.map TApiEntry.enc []⟩)], 49, []⟩) [(48, 4)] (Nat.le_of_ble_eq_true rfl) ⟨rF, rE, rfl, rfl, trivial, rN⟩ ?_
 obtain ⟨x14, hxx14, h0⟩ := bindS h0
 refine awp_bloop (fun s' => ∃ g21 : Nat, s'.nx ≤ 81 ∧ LeN [] s' ⟨[(6, .ref 0 0 0 0), (7, .ref 24 0 0 0)], [(0, ⟨0, true, true, 2, [[.int .i64 0, .nils]]⟩), (24, ⟨0, true, false, 2, [[.int .i64 id1, .sl 48 g21 4 0 x14.length]]⟩), (48, ⟨g21, true, true, 4, List.map TApiEntry.enc x14⟩)], 81, []⟩) ?_ ?_
 ·
  intro s' hs
  obtain ⟨g21, hn, hs⟩ := hs
  refine kn_then ?_
  refine awp_re [] hn hs ?_
  refine awp_sr2 97 [6] (fun _ => none) rfl (fun _ _ => rT) ?_
  refine awp_ret ?_
  obtain rfl := Option.some.inj h0
  refine leave_retG [] ?_
  exact rG
 ·
  refine awp_loopF (ι := { p : Nat × Int × List TApiEntry × Nat // bookendlaw16_of_l1 keys3 dead2 id1 p.1 p.2.1 p.2.2.1 = some x14 }) (fun p => ⟨[(0, .int .i64 id1), (1, .bool dead2), (2, .str keys3), (6, .ref 0 0 0 0), (7, .ref 24 0 0 0), (8, .int .i64 p.1.2.1)], [(0, ⟨0, true, true, 2, [[.int .i64 0, .nils]]⟩), (24, ⟨0, true, false, 2, [[.int .i64 id1, .sl 48 p.1.2.2.2 4 0 p.1.2.2.1.length]]⟩), (48, ⟨p.1.2.2.2, true, true, 4, List.map TApiEntry.enc p.1.2.2.1⟩)], 49, []⟩) (fun p => p.1.1) ⟨(fu, 0, [], 0), hxx14⟩ ⟨rF, rE, rfl, rfl, trivial, trivial⟩ (fun _ => Nat.le_refl _) ?_
  rintro ⟨⟨fu, i15, v16, g17⟩, h1⟩
  cases fu with
  | zero =>
   replace h1 : bookendlaw16_of_l1 keys3 dead2 id1 0 i15 v16 = some x14 := h1
   rw [bookendlaw16_of_l1] at h1; cases h1
  | succ fu =>
   replace h1 : bookendlaw16_of_l1 keys3 dead2 id1 (fu + 1) i15 v16 = some x14 := h1
   rw [bookendlaw16_of_l1] at h1
   refine (show AWP _ _ _ _ ⟨[(0, .int .i64 id1), (1, .bool dead2), (2, .str keys3), (6, .ref 0 0 0 0), (7, .ref 24 0 0 0), (8, .int .i64 i15)], [(0, ⟨0, true, true, 2, [[.int .i64 0, .nils]]⟩), (24, ⟨0, true, false, 2, [[.int .i64 id1, .sl 48 g17 4 0 v16.length]]⟩), (48, ⟨g17, true, true, 4, List.map TApiEntry.enc v16⟩)], 49, []⟩ from ?_)
   refine awp_seq ?_
   refine awp_sr2 81 [0, 1, 2, 6, 7, 8, 14] (fun _ => none) rfl (fun _ _ => rT) ?_
   refine awp_if rfl (fun hb18 => ?_) (fun hb18 => ?_)
   ·
    replace h1 := iteT h1 hb18
    refine awp_skip ?_
    refine kn_then ?_
    refine awp_seq ?_
    refine awp_block ?_
    obtain ⟨hc19, h1⟩ := guS h1
    obtain ⟨hc20, h1⟩ := guS h1
    refine awp_d2 225 [0, 1, 2, 6, 7, 8] (fun _ => none) rfl rfl rfl (fun _ _ => rTd) ?_
    refine kn_block ?_
    refine kn_then ?_
    refine awp_re (s2 := ⟨[(0, .int .i64 id1), (1, .bool dead2), (2, .str keys3), (6, .ref 0 0 0 0), (7, .ref 24 0 0 0), (8, .int .i64 i15)], [(0, ⟨0, true, true, 2, [[.int .i64 0, .nils]]⟩), (24, ⟨0, true, false, 2, [[.int .i64 id1, .sl 48 (g17 + 1) 4 0 ((v16 ++ [(TApiEntry.mk ((keys3.drop i15.toNat).take ((IntKind.i64.wrap (i15 + 1)).toNat - i15.toNat)) [] dead2 (IntKind.i64.wrap ((IntKind.i64.wrap ((IntKind.i64.wrap (10 * id1)) + i15)) + 1)))]).length)]]⟩), (48, ⟨(g17 + 1), true, true, 4, List.map TApiEntry.enc (v16 ++ [(TApiEntry.mk ((keys3.drop i15.toNat).take ((IntKind.i64.wrap (i15 + 1)).toNat - i15.toNat)) [] dead2 (IntKind.i64.wrap ((IntKind.i64.wrap ((IntKind.i64.wrap (10 * id1)) + i15)) + 1)))])⟩), (193, ⟨0, true, true, 4, List.map TApiEntry.enc [(TApiEntry.mk ((keys3.drop i15.toNat).take ((IntKind.i64.wrap (i15 + 1)).toNat - i15.toNat)) [] dead2 (IntKind.i64.wrap ((IntKind.i64.wrap ((IntKind.i64.wrap (10 * id1)) + i15)) + 1)))]⟩)], 225, []⟩) [] (Nat.le_of_ble_eq_true rfl) ⟨rF, rE, rfl, rfl, trivial, trivial⟩ ?_
    refine awp_r2 249 [0, 1, 2, 6, 7, 8] (fun _ => none) rfl (fun _ _ => rT) ?_
    refine kn_then ?_
    exact ⟨⟨(fu, (IntKind.i64.wrap (i15 + 1)), (v16 ++ [(TApiEntry.mk ((keys3.drop i15.toNat).take ((IntKind.i64.wrap (i15 + 1)).toNat - i15.toNat)) [] dead2 (IntKind.i64.wrap ((IntKind.i64.wrap ((IntKind.i64.wrap (10 * id1)) + i15)) + 1)))]), (g17 + 1)), h1⟩, ⟨rF, rE, rfl, rfl, trivial, trivial⟩, Nat.lt_succ_self _⟩
   ·
    replace h1 := iteF h1 hb18
    refine awp_exit ?_
    refine kx_then ?_
    refine kx_then ?_
    refine kx_done ?_
    obtain rfl := Option.some.inj h1
    exact ⟨g17, Nat.le_of_ble_eq_true rfl, ⟨rF, rE, rfl, rfl, trivial, trivial⟩⟩
end Go.T
end
section
namespace Go.T
open Go Go.AM Go.Proofs
set_option maxRecDepth 100000
set_option maxHeartbeats 4000000
set_option linter.unusedVariables false
theorem c_bookendlaw16_Example {fu : Nat} {r : TApiLvLevels} (h0 : bookendlaw16_Example fu = some r) : PCall Try.prog 19 [] (.agg (TApiLvLevels.enc r)) [] := by
 refine awp_pcall Try.func19 rfl (by decide) (Nat.le_of_ble_eq_true rfl) ?_
 dsimp only [Try.f19]
 rw [bookendlaw16_Example] at h0
 refine (show AWP _ _ _ _ ⟨enumFr 0 _, [], 0, []⟩ from ?_)
 refine awp_sr2 8 [0] (fun _ => none) rfl (fun _ _ => rT) ?_
 obtain ⟨vr1, hvr1, h0⟩ := bindS h0
 obtain ⟨vr2, hvr2, h0⟩ := bindS h0
 refine awp_sr2 64 [0] (fun | 0 => some (.agg (TApiRun.enc vr1), []) | 1 => some (.agg (TApiRun.enc vr2), []) | _ => none) rfl (fun Kt hK => by
   try have q0 := c_bookendlaw16_of hvr1
   try have q1 := c_bookendlaw16_of hvr2
   exact rT) ?_
 refine awp_frz2 [24] (fun Kt hK => by simp only [↓reduceIte, reduceCtorEq, Nat.reduceEqDiff, Nat.reduceLT, Nat.reduceLeDiff, Nat.reduceAdd, Nat.reduceMul, Int.reduceToNat, Nat.reduceBEq, push_cast]; exact hK) ?_
 refine awp_re (s2 := ⟨[(0, .ref 0 0 0 0)], [(0, ⟨0, true, false, 2, [[.int .i64 2, .sl 40 0 1 0 1]]⟩), (24, ⟨0, false, true, 2, List.map TApiRun.enc [vr1, vr2]⟩), (40, ⟨0, true, true, 1, List.map TApiLvLevel.enc [(TApiLvLevel.mk [vr1, vr2])]⟩)], 64, []⟩) [] (Nat.le_of_ble_eq_true rfl) ⟨rF, rE, rfl, rfl, trivial, trivial⟩ ?_
 refine awp_ret ?_
 obtain rfl := Option.some.inj h0
 refine leave_retG [] ?_
 exact rG
end Go.T
end
section
namespace Go.T
open Go Go.AM Go.Proofs
set_option maxRecDepth 100000
set_option maxHeartbeats 4000000
set_option linter.unusedVariables false
theorem c_keys_Check {fu : Nat} {k1 : List UInt8} {r : Int} (h0 : keys_Check fu k1 = some r) : PCall Try.prog 102 [.str k1] (.int .i64 r) [] := by
 refine awp_pcall Try.func102 rfl (by decide) (Nat.le_of_ble_eq_true rfl) ?_
 dsimp only [Try.f102]
 rw [keys_Check] at h0
 refine (show AWP _ _ _ _ ⟨enumFr 0 _, [], 0, []⟩ from ?_)
 refine awp_sr2 8 [0] (fun _ => none) rfl (fun _ _ => rT) ?_
 refine awp_seq ?_
 refine awp_sr2 32 [5] (fun _ => none) rfl (fun _ _ => rT) ?_
 refine awp_if rfl (fun hb2 => ?_) (fun hb2 => ?_)
 ·
  replace h0 := iteT h0 hb2
  refine awp_sr2 40 [2] (fun _ => none) rfl (fun _ _ => rT) ?_
  refine awp_ret ?_
  refine kr_then ?_
  obtain rfl := Option.some.inj h0
  refine leave_retG [] ?_
  exact rG
 ·
  replace h0 := iteF h0 hb2
  refine awp_skip ?_
  refine kn_then ?_
  refine awp_sr2 40 [2] (fun _ => none) rfl (fun _ _ => rT) ?_
  refine awp_ret ?_
  obtain rfl := Option.some.inj h0
  refine leave_retG [] ?_
  exact rG
end Go.T
end
section
namespace Go.T
open Go Go.AM Go.Proofs
set_option maxRecDepth 100000
set_option maxHeartbeats 4000000
set_option linter.unusedVariables false
theorem c_entries_Check {fu : Nat} {vx1 : TApiEntry} {r : Int} (h0 : entries_Check fu vx1 = some r) : PCall Try.prog 92 [.agg (TApiEntry.enc vx1)] (.int .i64 r) [] := by
 refine awp_pcall Try.func92 rfl (by decide) (Nat.le_of_ble_eq_true rfl) ?_
 dsimp only [Try.f92]
 rw [entries_Check] at h0
 refine (show AWP _ _ _ _ ⟨enumFr 0 _, [], 0, []⟩ from ?_)
 refine awp_sr2 16 [1] (fun _ => none) rfl (fun _ _ => rT) ?_
 refine awp_seq ?_
 refine awp_block ?_
 obtain ⟨vr2, hvr2, h0⟩ := bindS h0
 obtain ⟨b3, hb3, h0⟩ := bindS h0
 refine awp_sr3 (fr' := [(1, .ref 0 0 0 0), (3, .bool b3)]) (hp' := [(0, ⟨0, true, true, 4, [[.str vx1.Key, .str vx1.Val, .bool vx1.Dead, .int .i64 vx1.Seq]]⟩)]) [0] 104 [1, 3] (fun | 2 => some (.int .i64 vr2, []) | _ => none) rfl (fun Kt hK => by
   cases hg4 : (!(decide (vr2 = 0))) with
   | false =>
    replace hb3 := iteF hb3 hg4
    have hqb3 := Option.some.inj hb3
    subst hqb3
    simp (maxSteps := 1000000) only [↓reduceIte, reduceCtorEq, Nat.reduceEqDiff, Nat.reduceLT, Nat.reduceLeDiff, Nat.reduceAdd, Nat.reduceMul, Int.reduceToNat, push_cast, ↓hg4]
    try simp only [↓hg4] at hK
    try have q0 := c_keys_Check hvr2
    all_goals exact rU
   | true =>
    replace hb3 := iteT hb3 hg4
    have hqb3 := Option.some.inj hb3
    subst hqb3
    simp (maxSteps := 1000000) only [↓reduceIte, reduceCtorEq, Nat.reduceEqDiff, Nat.reduceLT, Nat.reduceLeDiff, Nat.reduceAdd, Nat.reduceMul, Int.reduceToNat, push_cast, ↓hg4]
    try simp only [↓hg4] at hK
    try have q0 := c_keys_Check hvr2
    all_goals exact rU) ?_
 refine awp_if rfl (fun hb5 => ?_) (fun hb5 => ?_)
 ·
  replace h0 := iteT h0 hb5
  refine awp_sr2 112 [2] (fun _ => none) rfl (fun _ _ => rT) ?_
  refine awp_ret ?_
  refine kr_block ?_
  refine kr_then ?_
  obtain rfl := Option.some.inj h0
  refine leave_retG [] ?_
  exact rG
 ·
  replace h0 := iteF h0 hb5
  obtain ⟨b6, hb6, h0⟩ := bindS h0
  refine awp_sr3 (fr' := [(1, .ref 0 0 0 0), (14, .bool b6)]) (hp' := [(0, ⟨0, true, true, 4, [[.str vx1.Key, .str vx1.Val, .bool vx1.Dead, .int .i64 vx1.Seq]]⟩)]) [0] 168 [1, 14] (fun _ => none) rfl (fun Kt hK => by
    cases hg7 : vx1.Dead with
    | false =>
     replace hb6 := iteF hb6 hg7
     have hqb6 := Option.some.inj hb6
     subst hqb6
     simp (maxSteps := 1000000) only [↓reduceIte, reduceCtorEq, Nat.reduceEqDiff, Nat.reduceLT, Nat.reduceLeDiff, Nat.reduceAdd, Nat.reduceMul, Int.reduceToNat, push_cast, ↓hg7]
     try simp only [↓hg7] at hK
     all_goals exact rU
    | true =>
     replace hb6 := iteT hb6 hg7
     have hqb6 := Option.some.inj hb6
     subst hqb6
     simp (maxSteps := 1000000) only [↓reduceIte, reduceCtorEq, Nat.reduceEqDiff, Nat.reduceLT, Nat.reduceLeDiff, Nat.reduceAdd, Nat.reduceMul, Int.reduceToNat, push_cast, ↓hg7]
     try simp only [↓hg7] at hK
     all_goals exact rU) ?_
  refine awp_if rfl (fun hb8 => ?_) (fun hb8 => ?_)
  ·
   replace h0 := iteT h0 hb8
   refine awp_sr2 176 [2] (fun _ => none) rfl (fun _ _ => rT) ?_
   refine awp_ret ?_
   refine kr_block ?_
   refine kr_then ?_
   obtain rfl := Option.some.inj h0
   refine leave_retG [] ?_
   exact rG
  ·
   replace h0 := iteF h0 hb8
   obtain ⟨b9, hb9, h0⟩ := bindS h0
   refine awp_sr3 (fr' := [(22, .bool b9)]) (hp' := [(0, ⟨0, true, true, 4, [[.str vx1.Key, .str vx1.Val, .bool vx1.Dead, .int .i64 vx1.Seq]]⟩)]) [0] 240 [22] (fun _ => none) rfl (fun Kt hK => by
     cases hg10 : (decide (vx1.Seq < 1)) with
     | false =>
      replace hb9 := iteF hb9 hg10
      have hqb9 := Option.some.inj hb9
      subst hqb9
      simp (maxSteps := 1000000) only [↓reduceIte, reduceCtorEq, Nat.reduceEqDiff, Nat.reduceLT, Nat.reduceLeDiff, Nat.reduceAdd, Nat.reduceMul, Int.reduceToNat, push_cast, ↓hg10]
      try simp only [↓hg10] at hK
      all_goals exact rU
     | true =>
      replace hb9 := iteT hb9 hg10
      have hqb9 := Option.some.inj hb9
      subst hqb9
      simp (maxSteps := 1000000) only [↓reduceIte, reduceCtorEq, Nat.reduceEqDiff, Nat.reduceLT, Nat.reduceLeDiff, Nat.reduceAdd, Nat.reduceMul, Int.reduceToNat, push_cast, ↓hg10]
      try simp only [↓hg10] at hK
      all_goals exact rU) ?_
   refine awp_if rfl (fun hb11 => ?_) (fun hb11 => ?_)
   ·
    replace h0 := iteT h0 hb11
    refine awp_sr2 248 [2] (fun _ => none) rfl (fun _ _ => rT) ?_
    refine awp_ret ?_
    refine kr_block ?_
    refine kr_then ?_
    obtain rfl := Option.some.inj h0
    refine leave_retG [] ?_
    exact rG
   ·
    replace h0 := iteF h0 hb11
    refine awp_skip ?_
    refine kn_block ?_
    refine kn_then ?_
    refine awp_sr2 248 [2] (fun _ => none) rfl (fun _ _ => rT) ?_
    refine awp_ret ?_
    obtain rfl := Option.some.inj h0
    refine leave_retG [] ?_
    exact rG
end Go.T
end
section
namespace Go.T
open Go Go.AM Go.Proofs
set_option maxRecDepth 100000
set_option maxHeartbeats 4000000
set_option linter.unusedVariables false
theorem c_entries_CheckList {fu : Nat} {l1 : List TApiEntry} {r : Int × Int} (h0 : entries_CheckList fu l1 = some r) : PCall Try.prog 74 [.psl 4 (l1.map TApiEntry.enc)] (.tup [.int .i64 r.1, .int .i64 r.2]) [] := by
 refine awp_pcall Try.func74 rfl (by decide) (Nat.le_of_ble_eq_true rfl) ?_
 dsimp only [Try.f74]
 rw [entries_CheckList] at h0
 refine (show AWP _ _ _ _ ⟨enumFr 0 _, [], 0, []⟩ from ?_)
 refine awp_sr2 16 [0] (fun _ => none) rfl (fun _ _ => rT) ?_
 refine awp_seq ?_
 refine awp_sr2 40 [0, 9] (fun _ => none) rfl (fun _ _ => rT) ?_
 refine awp_if rfl (fun hb2 => ?_) (fun hb2 => ?_)
 ·
  replace h0 := iteT h0 hb2
  refine awp_sr2 56 [2, 3] (fun _ => none) rfl (fun _ _ => rT) ?_
  refine awp_ret ?_
  refine kr_then ?_
  obtain rfl := Option.some.inj h0
  refine leave_retG [] ?_
  exact rG
 ·
  replace h0 := iteF h0 hb2
  refine awp_skip ?_
  refine kn_then ?_
  refine awp_seq ?_
  refine awp_sr2 64 [0, 10, 11, 12] (fun _ => none) rfl (fun _ _ => rT) ?_
  obtain ⟨x16, hxx16, h0⟩ := bindS h0
  refine awp_bloop (fun s' => ∃ o26 : Unit, x16 = .inl o26 ∧ s'.nx ≤ 72 ∧ LeN [] s' ⟨[], [], 72, []⟩) ?_ ?_
  ·
   intro s' hs
   obtain ⟨o26, rfl, hn, hs⟩ := hs
   refine kn_then ?_
   refine awp_re [] hn hs ?_
   refine awp_sr2 88 [2, 3] (fun _ => none) rfl (fun _ _ => rT) ?_
   refine awp_ret ?_
   obtain rfl := Option.some.inj h0
   refine leave_retG [] ?_
   exact rG
  ·
   refine awp_loopF (ι := { p : Nat × Int // entries_CheckList_l1 l1 p.1 p.2 = some x16 }) (fun p => ⟨[(0, .psl 4 (List.map TApiEntry.enc l1)), (10, .psl 4 (List.map TApiEntry.enc l1)), (11, .int .i64 (l1.length : Int)), (12, .int .i64 p.1.2)], [], 64, []⟩) (fun p => p.1.1) ⟨(fu, 0), hxx16⟩ ⟨rF, rE, rfl, rfl, trivial, trivial⟩ (fun _ => Nat.le_refl _) ?_
   rintro ⟨⟨fu, v17⟩, h1⟩
   cases fu with
   | zero =>
   replace h1 : entries_CheckList_l1 l1 0 v17 = some x16 := h1
   rw [entries_CheckList_l1] at h1; cases h1
   | succ fu =>
    replace h1 : entries_CheckList_l1 l1 (fu + 1) v17 = some x16 := h1
    rw [entries_CheckList_l1] at h1
    refine (show AWP _ _ _ _ ⟨[(0, .psl 4 (List.map TApiEntry.enc l1)), (10, .psl 4 (List.map TApiEntry.enc l1)), (11, .int .i64 (l1.length : Int)), (12, .int .i64 v17)], [], 64, []⟩ from ?_)
    refine awp_sr2 72 [0, 10, 11, 12, 13] (fun _ => none) rfl (fun _ _ => rT) ?_
    refine awp_seq ?_
    refine awp_if rfl (fun hb18 => ?_) (fun hb18 => ?_)
    ·
     replace h1 := iteT h1 hb18
     refine awp_skip ?_
     refine kn_then ?_
     refine awp_seq ?_
     refine awp_block ?_
     obtain ⟨e19, he19, h1⟩ := bindS h1
     obtain ⟨he19a, he19b, he19c⟩ := idxS he19
     refine awp_sr2 120 [0, 4, 5, 10, 11, 12] (fun _ => none) rfl (fun _ _ => rS (rA he19a (rA he19b he19c))) ?_
     refine awp_seq ?_
     obtain ⟨vr20, hvr20, h1⟩ := bindS h1
     refine awp_sr2 144 [0, 4, 5, 6, 10, 11, 12] (fun | 1 => some (.int .i64 vr20, []) | _ => none) rfl (fun _ _ => rB (rA he19a (rA he19b he19c)) (c_entries_Check hvr20)) ?_
     refine awp_sr2 160 [0, 4, 5, 6, 10, 11, 12, 20] (fun _ => none) rfl (fun _ _ => rS (rA he19a (rA he19b he19c))) ?_
     refine awp_if rfl (fun hb21 => ?_) (fun hb21 => ?_)
     ·
      replace h1 := iteT h1 hb21
      refine awp_sr2 192 [2, 3] (fun _ => none) rfl (fun _ _ => rS (rA he19a (rA he19b he19c))) ?_
      refine awp_ret ?_
      obtain rfl := Option.some.inj h1
      refine kr_then ?_
      refine kr_block ?_
      refine kr_then ?_
      refine kr_then ?_
      refine kr_loop ?_
      refine kr_then ?_
      obtain rfl := Option.some.inj h0
      refine leave_retG [] ?_
      simp (maxSteps := 1000000) only [↓reduceIte, reduceCtorEq, Nat.reduceEqDiff, Nat.reduceLT, Nat.reduceLeDiff, Nat.reduceAdd, Nat.reduceMul, Int.reduceToNat, push_cast, Gives, he19a, he19b, he19c]
      all_goals exact rH
     ·
      replace h1 := iteF h1 hb21
      refine awp_skip ?_
      refine kn_then ?_
      obtain ⟨b23, hb23, h1⟩ := bindS h1
      refine awp_sd3 (fr' := [(0, .psl 4 (List.map TApiEntry.enc l1)), (4, .int .i64 v17), (10, .psl 4 (List.map TApiEntry.enc l1)), (11, .int .i64 (l1.length : Int)), (12, .int .i64 v17), (35, .bool b23)]) (hp' := [(96, ⟨0, true, true, 4, [[.str e19.Key, .str e19.Val, .bool e19.Dead, .int .i64 e19.Seq]]⟩)]) [96] 264 [0, 4, 10, 11, 12, 35] (fun _ => none) rfl rfl rfl (fun Kt hK => by
        cases hg24 : (decide (0 < v17)) with
        | false =>
         replace hb23 := iteF hb23 hg24
         have hqb23 := Option.some.inj hb23
         subst hqb23
         simp (maxSteps := 1000000) only [↓reduceIte, reduceCtorEq, Nat.reduceEqDiff, Nat.reduceLT, Nat.reduceLeDiff, Nat.reduceAdd, Nat.reduceMul, Int.reduceToNat, push_cast, he19a, he19b, he19c, ↓hg24]
         try simp only [↓hg24] at hK
         all_goals exact rUd
        | true =>
         replace hb23 := iteT hb23 hg24
         obtain ⟨e22, he22, hb23⟩ := bindS hb23
         obtain ⟨he22a, he22b, he22c⟩ := idxS he22
         have hqb23 := Option.some.inj hb23
         subst hqb23
         simp (maxSteps := 1000000) only [↓reduceIte, reduceCtorEq, Nat.reduceEqDiff, Nat.reduceLT, Nat.reduceLeDiff, Nat.reduceAdd, Nat.reduceMul, Int.reduceToNat, push_cast, he19a, he19b, he19c, ↓hg24, he22a, he22b, he22c, he22]
         try simp only [↓hg24] at hK
         all_goals exact rUd) ?_
      refine awp_if rfl (fun hb25 => ?_) (fun hb25 => ?_)
      ·
       replace h1 := iteT h1 hb25
       refine awp_sr2 288 [2, 3] (fun _ => none) rfl (fun _ _ => rS (rA he19a (rA he19b he19c))) ?_
       refine awp_ret ?_
       obtain rfl := Option.some.inj h1
       refine kr_block ?_
       refine kr_then ?_
       refine kr_then ?_
       refine kr_loop ?_
       refine kr_then ?_
       obtain rfl := Option.some.inj h0
       refine leave_retG [] ?_
       simp (maxSteps := 1000000) only [↓reduceIte, reduceCtorEq, Nat.reduceEqDiff, Nat.reduceLT, Nat.reduceLeDiff, Nat.reduceAdd, Nat.reduceMul, Int.reduceToNat, push_cast, Gives, he19a, he19b, he19c]
       all_goals exact rH
      ·
       replace h1 := iteF h1 hb25
       refine awp_skip ?_
       refine kn_block ?_
       refine kn_then ?_
       refine awp_r2 280 [0, 10, 11, 12] (fun _ => none) rfl (fun _ _ => rS (rA he19a (rA he19b he19c))) ?_
       refine kn_then ?_
       exact ⟨⟨(fu, (IntKind.i64.wrap (v17 + 1))), h1⟩, ⟨rF, rE, rfl, rfl, trivial, trivial⟩, Nat.lt_succ_self _⟩
    ·
     replace h1 := iteF h1 hb18
     refine awp_exit ?_
     refine kx_then ?_
     refine kx_then ?_
     refine kx_done ?_
     obtain rfl := Option.some.inj h1
     exact ⟨_, rfl, Nat.le_of_ble_eq_true rfl, ⟨rF, rE, rfl, rfl, trivial, trivial⟩⟩
end Go.T
end
section
namespace Go.T
open Go Go.AM Go.Proofs
set_option maxRecDepth 100000
set_option maxHeartbeats 4000000
set_option linter.unusedVariables false
theorem c_runs_Check {fu : Nat} {vr1 : TApiRun} {r : Int × Int} (h0 : runs_Check fu vr1 = some r) : PCall Try.prog 56 [.agg (TApiRun.enc vr1)] (.tup [.int .i64 r.1, .int .i64 r.2]) [] := by
 refine awp_pcall Try.func56 rfl (by decide) (Nat.le_of_ble_eq_true rfl) ?_
 dsimp only [Try.f56]
 rw [runs_Check] at h0
 refine (show AWP _ _ _ _ ⟨enumFr 0 _, [], 0, []⟩ from ?_)
 refine awp_sr2 24 [1] (fun _ => none) rfl (fun _ _ => rT) ?_
 refine awp_seq ?_
 obtain ⟨b2, hb2, h0⟩ := bindS h0
 refine awp_sr3 (fr' := [(1, .ref 0 0 0 0), (11, .bool b2)]) (hp' := [(0, ⟨0, true, true, 2, [[.int .i64 vr1.Id, .psl 4 (List.map TApiEntry.enc vr1.Entries)]]⟩)]) [0] 88 [1, 11] (fun _ => none) rfl (fun Kt hK => by
   cases hg3 : (decide (vr1.Id < 1)) with
   | false =>
    replace hb2 := iteF hb2 hg3
    have hqb2 := Option.some.inj hb2
    subst hqb2
    simp (maxSteps := 1000000) only [↓reduceIte, reduceCtorEq, Nat.reduceEqDiff, Nat.reduceLT, Nat.reduceLeDiff, Nat.reduceAdd, Nat.reduceMul, Int.reduceToNat, push_cast, ↓hg3]
    try simp only [↓hg3] at hK
    all_goals exact rU
   | true =>
    replace hb2 := iteT hb2 hg3
    have hqb2 := Option.some.inj hb2
    subst hqb2
    simp (maxSteps := 1000000) only [↓reduceIte, reduceCtorEq, Nat.reduceEqDiff, Nat.reduceLT, Nat.reduceLeDiff, Nat.reduceAdd, Nat.reduceMul, Int.reduceToNat, push_cast, ↓hg3]
    try simp only [↓hg3] at hK
    all_goals exact rU) ?_
 refine awp_if rfl (fun hb4 => ?_) (fun hb4 => ?_)
 ·
  replace h0 := iteT h0 hb4
  refine awp_sr2 104 [2, 3] (fun _ => none) rfl (fun _ _ => rT) ?_
  refine awp_ret ?_
  refine kr_then ?_
  obtain rfl := Option.some.inj h0
  refine leave_retG [] ?_
  exact rG
 ·
  replace h0 := iteF h0 hb4
  refine awp_skip ?_
  refine kn_then ?_
  obtain ⟨vr5, hvr5, h0⟩ := bindS h0
  refine awp_sr2 144 [2, 3] (fun | 2 => some (.tup [.int .i64 vr5.1, .int .i64 vr5.2], []) | _ => none) rfl (fun _ _ => rC (c_entries_CheckList hvr5)) ?_
  refine awp_ret ?_
  obtain rfl := Option.some.inj h0
  refine leave_retG [] ?_
  exact rG
end Go.T
end
section
namespace Go.T
open Go Go.AM Go.Proofs
set_option maxRecDepth 100000
set_option maxHeartbeats 4000000
set_option linter.unusedVariables false
theorem c_levels_fits {fu : Nat} {vr1 : TApiRun} {most2 : Int} {r : Int} (h0 : levels_fits fu vr1 most2 = some r) : PCall Try.prog 40 [.agg (TApiRun.enc vr1), .int .i64 most2] (.int .i64 r) [] := by
 refine awp_pcall Try.func40 rfl (by decide) (Nat.le_of_ble_eq_true rfl) ?_
 dsimp only [Try.f40]
 rw [levels_fits] at h0
 refine (show AWP _ _ _ _ ⟨enumFr 0 _, [], 0, []⟩ from ?_)
 refine awp_sr2 16 [1, 2] (fun _ => none) rfl (fun _ _ => rT) ?_
 refine awp_seq ?_
 obtain ⟨vr3, hvr3, h0⟩ := bindS h0
 refine awp_sr2 72 [1, 2, 6] (fun | 1 => some (.tup [.int .i64 vr3.1, .int .i64 vr3.2], []) | _ => none) rfl (fun _ _ => rC (c_runs_Check hvr3)) ?_
 refine awp_sr2 88 [1, 2, 6, 14] (fun _ => none) rfl (fun _ _ => rT) ?_
 refine awp_if rfl (fun hb4 => ?_) (fun hb4 => ?_)
 ·
  replace h0 := iteT h0 hb4
  refine awp_sr2 104 [4] (fun _ => none) rfl (fun _ _ => rT) ?_
  refine awp_ret ?_
  refine kr_then ?_
  obtain rfl := Option.some.inj h0
  refine leave_retG [] ?_
  exact rG
 ·
  replace h0 := iteF h0 hb4
  refine awp_skip ?_
  refine kn_then ?_
  refine awp_seq ?_
  refine awp_sr2 120 [1, 7] (fun _ => none) rfl (fun _ _ => rT) ?_
  refine awp_block ?_
  refine awp_sr2 144 [1, 7, 19] (fun _ => none) rfl (fun _ _ => rT) ?_
  refine awp_if rfl (fun hb5 => ?_) (fun hb5 => ?_)
  ·
   replace h0 := iteT h0 hb5
   refine awp_sr2 152 [4] (fun _ => none) rfl (fun _ _ => rT) ?_
   refine awp_ret ?_
   refine kr_block ?_
   refine kr_then ?_
   obtain rfl := Option.some.inj h0
   refine leave_retG [] ?_
   exact rG
  ·
   replace h0 := iteF h0 hb5
   refine awp_sr2 176 [22] (fun _ => none) rfl (fun _ _ => rT) ?_
   refine awp_if rfl (fun hb6 => ?_) (fun hb6 => ?_)
   ·
    replace h0 := iteT h0 hb6
    refine awp_sr2 184 [4] (fun _ => none) rfl (fun _ _ => rT) ?_
    refine awp_ret ?_
    refine kr_block ?_
    refine kr_then ?_
    obtain rfl := Option.some.inj h0
    refine leave_retG [] ?_
    exact rG
   ·
    replace h0 := iteF h0 hb6
    refine awp_skip ?_
    refine kn_block ?_
    refine kn_then ?_
    refine awp_sr2 184 [4] (fun _ => none) rfl (fun _ _ => rT) ?_
    refine awp_ret ?_
    obtain rfl := Option.some.inj h0
    refine leave_retG [] ?_
    exact rG
end Go.T
end
section
namespace Go.T
open Go Go.AM Go.Proofs
set_option maxRecDepth 100000
set_option maxHeartbeats 4000000
set_option linter.unusedVariables false
theorem c_levels_Check {fu : Nat} {l1 : TApiLvLevels} {r : Int × Int × Int} (h0 : levels_Check fu l1 = some r) : PCall Try.prog 20 [.agg (TApiLvLevels.enc l1)] (.tup [.int .i64 r.1, .int .i64 r.2.1, .int .i64 r.2.2]) [] := by
 refine fwp_pcall Try.func20 rfl (by decide) (Nat.le_of_ble_eq_true rfl) ?_
 dsimp only [Try.f20]
 rw [levels_Check] at h0
 refine (show FWP _ _ _ _ ⟨enumFr 0 _, [], 0, []⟩ from ?_)
 refine fwp_seq ?_
 refine awp_r2 32 [1, 2, 3, 4] (fun _ => none) rfl (fun _ _ => rT) ?_
 refine kn_then ?_
 refine fwp_scope ?_
 refine fwp_seq ?_
 refine awp_block ?_
 obtain ⟨b2, hb2, h0⟩ := bindS h0
 refine awp_sr3 (fr' := [(1, .ref 0 0 0 0), (2, .int .i64 0), (3, .int .i64 0), (4, .int .i64 0), (11, .bool b2)]) (hp' := [(0, ⟨0, true, true, 2, [[.int .i64 l1.B, .psl 1 (List.map TApiLvLevel.enc l1.Levels)]]⟩)]) [0] 104 [1, 2, 3, 4, 11] (fun _ => none) rfl (fun Kt hK => by
   cases hg3 : (decide (l1.B < 1)) with
   | false =>
    replace hb2 := iteF hb2 hg3
    have hqb2 := Option.some.inj hb2
    subst hqb2
    simp (maxSteps := 1000000) only [↓reduceIte, reduceCtorEq, Nat.reduceEqDiff, Nat.reduceLT, Nat.reduceLeDiff, Nat.reduceAdd, Nat.reduceMul, Int.reduceToNat, push_cast, ↓hg3]
    try simp only [↓hg3] at hK
    all_goals exact rU
   | true =>
    replace hb2 := iteT hb2 hg3
    have hqb2 := Option.some.inj hb2
    subst hqb2
    simp (maxSteps := 1000000) only [↓reduceIte, reduceCtorEq, Nat.reduceEqDiff, Nat.reduceLT, Nat.reduceLeDiff, Nat.reduceAdd, Nat.reduceMul, Int.reduceToNat, push_cast, ↓hg3]
    try simp only [↓hg3] at hK
    all_goals exact rU) ?_
 refine awp_if rfl (fun hb4 => ?_) (fun hb4 => ?_)
 ·
  replace h0 := iteT h0 hb4
  refine awp_sr2 128 [2, 3, 4] (fun _ => none) rfl (fun _ _ => rT) ?_
  refine awp_ret ?_
  refine kr_block ?_
  refine kr_then ?_
  obtain rfl := Option.some.inj h0
  refine leave_retG [] ?_
  exact rG
 ·
  replace h0 := iteF h0 hb4
  refine awp_sr2 144 [1, 2, 3, 4, 20] (fun _ => none) rfl (fun _ _ => rT) ?_
  refine awp_if rfl (fun hb5 => ?_) (fun hb5 => ?_)
  ·
   replace h0 := iteT h0 hb5
   refine awp_sr2 168 [2, 3, 4] (fun _ => none) rfl (fun _ _ => rT) ?_
   refine awp_ret ?_
   refine kr_block ?_
   refine kr_then ?_
   obtain rfl := Option.some.inj h0
   refine leave_retG [] ?_
   exact rG
  ·
   replace h0 := iteF h0 hb5
   refine awp_skip ?_
   refine kn_block ?_
   refine kn_then ?_
   refine fwp_seq ?_
   refine awp_ops2 2 rfl ?_
   refine awpo_cut (l' := 0 :: (List.range' 1 1 ++ [])) rfl ?_
   refine awpo_mkmap rfl rfl rfl rfl ?_
   refine awpo_re (s2 := ⟨[(1, .ref 0 0 0 0), (2, .int .i64 0), (3, .int .i64 0), (4, .int .i64 0), (20, .bool (decide (12 < (l1.Levels.length : Int)))), (25, .mp 144)], [(0, ⟨0, true, true, 2, [[.int .i64 l1.B, .psl 1 (List.map TApiLvLevel.enc l1.Levels)]]⟩)], 152, [(144, (mpRec (mpE (fun n : Int => AV.int .i64 n) AV.bool ([] : List (Int × Bool)))))]⟩) [] (Nat.le_of_ble_eq_true rfl) ⟨rF, rE, rfl, rfl, (LpLe.consM (Nat.le_of_ble_eq_true rfl) rfl trivial), trivial⟩ ?_
   refine awpo_cut (l' := List.range' 1 1 ++ []) rfl ?_
   refine awpo_seg 1 1 160 [] (fun _ => none) rfl rfl rfl (fun _ _ => rT) ?_
   refine awpo_nil ?_
   refine kn_then ?_
   refine fwp_re (s2 := ⟨[(1, .ref 0 0 0 0), (2, .int .i64 0), (3, .int .i64 0), (4, .int .i64 0), (5, .mp 144)], [(0, ⟨0, true, true, 2, [[.int .i64 l1.B, .psl 1 (List.map TApiLvLevel.enc l1.Levels)]]⟩)], 160, [(144, (mpRec (mpE (fun n : Int => AV.int .i64 n) AV.bool ([] : List (Int × Bool)))))]⟩) [] (Nat.le_of_ble_eq_true rfl) ⟨rF, rE, rfl, rfl, (LpLe.consM (Nat.le_of_ble_eq_true rfl) rfl trivial), trivial⟩ ?_
   refine fwp_clear (l := 144) rfl rfl rfl rfl rfl rfl rfl rfl (Nat.le_of_ble_eq_true rfl) rfl rfl rfl rfl rfl tMap96 ?_
   refine awp_re (s2 := ⟨[(1, .ref 0 0 0 0), (2, .int .i64 0), (3, .int .i64 0), (4, .int .i64 0), (5, .mp 144)], [(0, ⟨0, true, true, 2, [[.int .i64 l1.B, .psl 1 (List.map TApiLvLevel.enc l1.Levels)]]⟩)], 160, [(144, (mpRec (mpE (fun n : Int => AV.int .i64 n) AV.bool ([] : List (Int × Bool)))))]⟩) [] (Nat.le_of_ble_eq_true rfl) ⟨rF, rE, rfl, rfl, (LpLe.consM (Nat.le_of_ble_eq_true rfl) rfl trivial), trivial⟩ ?_
   refine awp_seq ?_
   refine awp_label ?_
   refine kn_then ?_
   refine awp_seq ?_
   refine awp_sr2 192 [1, 2, 3, 4, 5, 28, 29, 30] (fun _ => none) rfl (fun _ _ => rT) ?_
   obtain ⟨x162, hxx162, h0⟩ := bindS h0
   refine awp_bloop (fun s' => s'.nx ≤ 552 ∧ LeN [] s' ⟨[(1, .ref 0 0 0 0), (2, .int .i64 x162.1), (3, .int .i64 x162.2.1), (4, .int .i64 x162.2.2.1)], [(0, ⟨0, true, true, 2, [[.int .i64 l1.B, .psl 1 (List.map TApiLvLevel.enc l1.Levels)]]⟩)], 552, [(144, (mpRec (mpE (fun n : Int => AV.int .i64 n) AV.bool x162.2.2.2)))]⟩) ?_ ?_
   ·
    intro s' hs
    obtain ⟨hn, hs⟩ := hs
    refine kn_then ?_
    refine awp_re [] hn hs ?_
    refine awp_seq ?_
    refine awp_sr2 568 [1, 2, 3, 4, 71] (fun _ => none) rfl (fun _ _ => rT) ?_
    refine awp_if rfl (fun hb217 => ?_) (fun hb217 => ?_)
    ·
     replace h0 := iteT h0 hb217
     refine awp_sr2 616 [2, 3, 4] (fun _ => none) rfl (fun _ _ => rT) ?_
     refine awp_ret ?_
     refine kr_then ?_
     refine k_clr rfl rfl ?_
     obtain rfl := Option.some.inj h0
     refine leave_retG [] ?_
     exact rG
    ·
     replace h0 := iteF h0 hb217
     refine awp_skip ?_
     refine kn_then ?_
     refine awp_seq ?_
     refine awp_sr2 600 [1, 10] (fun _ => none) rfl (fun _ _ => rT) ?_
     obtain ⟨b219, hb219, h0⟩ := bindS h0
     refine awp_sr3 (fr' := [(10, .int .i64 (l1.Levels.length : Int)), (90, .bool b219)]) (hp' := [(0, ⟨0, true, true, 2, [[.int .i64 l1.B, .psl 1 (List.map TApiLvLevel.enc l1.Levels)]]⟩)]) [0, 144] 704 [10, 90] (fun _ => none) rfl (fun Kt hK => by
       cases hg220 : (decide (0 < (l1.Levels.length : Int))) with
       | false =>
        replace hb219 := iteF hb219 hg220
        have hqb219 := Option.some.inj hb219
        subst hqb219
        simp (maxSteps := 1000000) only [↓reduceIte, reduceCtorEq, Nat.reduceEqDiff, Nat.reduceLT, Nat.reduceLeDiff, Nat.reduceAdd, Nat.reduceMul, Int.reduceToNat, push_cast, ↓hg220]
        try simp only [↓hg220] at hK
        all_goals exact rU
       | true =>
        replace hb219 := iteT hb219 hg220
        obtain ⟨e218, he218, hb219⟩ := bindS hb219
        obtain ⟨he218a, he218b, he218c⟩ := idxS he218
        have hqb219 := Option.some.inj hb219
        subst hqb219
        simp (maxSteps := 1000000) only [↓reduceIte, reduceCtorEq, Nat.reduceEqDiff, Nat.reduceLT, Nat.reduceLeDiff, Nat.reduceAdd, Nat.reduceMul, Int.reduceToNat, push_cast, ↓hg220, he218a, he218b, he218c, he218]
        try simp only [↓hg220] at hK
        all_goals exact rU) ?_
     refine awp_if rfl (fun hb221 => ?_) (fun hb221 => ?_)
     ·
      replace h0 := iteT h0 hb221
      refine awp_sr2 744 [2, 3, 4] (fun _ => none) rfl (fun _ _ => rT) ?_
      refine awp_ret ?_
      refine kr_then ?_
      refine k_clr rfl rfl ?_
      obtain rfl := Option.some.inj h0
      refine leave_retG [] ?_
      exact rG
     ·
      replace h0 := iteF h0 hb221
      refine awp_skip ?_
      refine kn_then ?_
      refine awp_sr2 728 [2, 3, 4] (fun _ => none) rfl (fun _ _ => rT) ?_
      refine awp_ret ?_
      refine k_clr rfl rfl ?_
      obtain rfl := Option.some.inj h0
      refine leave_retG [] ?_
      exact rG
   ·
    refine awp_loopF (ι := { p : Nat × Int × Int × Int × (List (Int × Bool)) × Int // levels_Check_l4 l1 p.1 p.2.1 p.2.2.1 p.2.2.2.1 p.2.2.2.2.1 p.2.2.2.2.2 = some x162 }) (fun p => ⟨[(1, .ref 0 0 0 0), (2, .int .i64 p.1.2.2.2.2.2), (3, .int .i64 p.1.2.1), (4, .int .i64 p.1.2.2.1), (5, .mp 144), (28, .psl 1 (List.map TApiLvLevel.enc l1.Levels)), (29, .int .i64 (l1.Levels.length : Int)), (30, .int .i64 p.1.2.2.2.1)], [(0, ⟨0, true, true, 2, [[.int .i64 l1.B, .psl 1 (List.map TApiLvLevel.enc l1.Levels)]]⟩)], 192, [(144, (mpRec (mpE (fun n : Int => AV.int .i64 n) AV.bool p.1.2.2.2.2.1)))]⟩) (fun p => p.1.1) ⟨(fu, 0, 0, 0, ([] : List (Int × Bool)), 0), hxx162⟩ ⟨rF, rE, rfl, rfl, (LpLe.consM (Nat.le_of_ble_eq_true rfl) rfl trivial), trivial⟩ (fun _ => Nat.le_refl _) ?_
    rintro ⟨⟨fu, run163, e164, v165, v166, level167⟩, h1⟩
    cases fu with
    | zero =>
   replace h1 : levels_Check_l4 l1 0 run163 e164 v165 v166 level167 = some x162 := h1
   rw [levels_Check_l4] at h1; cases h1
    | succ fu =>
     replace h1 : levels_Check_l4 l1 (fu + 1) run163 e164 v165 v166 level167 = some x162 := h1
     rw [levels_Check_l4] at h1
     refine (show AWP _ _ _ _ ⟨[(1, .ref 0 0 0 0), (2, .int .i64 level167), (3, .int .i64 run163), (4, .int .i64 e164), (5, .mp 144), (28, .psl 1 (List.map TApiLvLevel.enc l1.Levels)), (29, .int .i64 (l1.Levels.length : Int)), (30, .int .i64 v165)], [(0, ⟨0, true, true, 2, [[.int .i64 l1.B, .psl 1 (List.map TApiLvLevel.enc l1.Levels)]]⟩)], 192, [(144, (mpRec (mpE (fun n : Int => AV.int .i64 n) AV.bool v166)))]⟩ from ?_)
     refine awp_sr2 200 [1, 2, 3, 4, 5, 28, 29, 30, 31] (fun _ => none) rfl (fun _ _ => rT) ?_
     refine awp_seq ?_
     refine awp_if rfl (fun hb168 => ?_) (fun hb168 => ?_)
     ·
      replace h1 := iteT h1 hb168
      refine awp_skip ?_
      refine kn_then ?_
      refine awp_seq ?_
      refine awp_block ?_
      obtain ⟨e169, he169, h1⟩ := bindS h1
      obtain ⟨he169a, he169b, he169c⟩ := idxS he169
      refine awp_sr2 248 [1, 4, 5, 6, 7, 28, 29, 30] (fun _ => none) rfl (fun _ _ => rS (rA he169a (rA he169b he169c))) ?_
      refine awp_sr2 272 [1, 2, 3, 4, 5, 6, 7, 28, 29, 30] (fun _ => none) rfl (fun _ _ => rS (rA he169a (rA he169b he169c))) ?_
      refine awp_seq ?_
      refine awp_sr2 304 [1, 2, 3, 4, 5, 6, 7, 28, 29, 30, 39] (fun _ => none) rfl (fun _ _ => rS (rA he169a (rA he169b he169c))) ?_
      refine awp_if rfl (fun hb170 => ?_) (fun hb170 => ?_)
      ·
       replace h1 := iteT h1 hb170
       refine awp_sr2 312 [1, 2, 3, 4] (fun _ => none) rfl (fun _ _ => rS (rA he169a (rA he169b he169c))) ?_
       refine awp_exit ?_
       refine kx_then ?_
       refine kx_other (by decide) ?_
       refine kx_then ?_
       refine kx_then ?_
       refine kx_done ?_
       obtain rfl := Option.some.inj h1
       exact ⟨Nat.le_of_ble_eq_true rfl, ⟨rF, rE, rfl, rfl, (LpLe.consM (Nat.le_of_ble_eq_true rfl) rfl trivial), trivial⟩⟩
      ·
       replace h1 := iteF h1 hb170
       refine awp_skip ?_
       refine kn_then ?_
       refine awp_sr2 336 [1, 2, 3, 4, 5, 6, 28, 29, 30, 41, 42, 43] (fun _ => none) rfl (fun _ _ => rS (rA he169a (rA he169b he169c))) ?_
       obtain ⟨x202, hxx202, h1⟩ := bindS h1
       refine awp_bloop (fun s' => ∃ o215 : Int × Int × (List (Int × Bool)), x202 = .inl o215 ∧ s'.nx ≤ 344 ∧ LeN [] s' ⟨[(1, .ref 0 0 0 0), (2, .int .i64 v165), (3, .int .i64 o215.1), (4, .int .i64 o215.2.1), (5, .mp 144), (28, .psl 1 (List.map TApiLvLevel.enc l1.Levels)), (29, .int .i64 (l1.Levels.length : Int)), (30, .int .i64 v165)], [(0, ⟨0, true, true, 2, [[.int .i64 l1.B, .psl 1 (List.map TApiLvLevel.enc l1.Levels)]]⟩), (224, ⟨0, true, true, 1, [[.psl 2 (List.map TApiRun.enc e169.Runs)]]⟩)], 344, [(144, (mpRec (mpE (fun n : Int => AV.int .i64 n) AV.bool o215.2.2)))]⟩) ?_ ?_
       ·
        intro s' hs
        obtain ⟨o215, rfl, hn, hs⟩ := hs
        refine kn_block ?_
        refine kn_then ?_
        refine awp_re [] hn hs ?_
        refine awp_r2 360 [1, 2, 3, 4, 5, 28, 29, 30] (fun _ => none) rfl (fun _ _ => rS (rA he169a (rA he169b he169c))) ?_
        refine kn_then ?_
        exact ⟨⟨(fu, o215.1, o215.2.1, (IntKind.i64.wrap (v165 + 1)), o215.2.2, v165), h1⟩, ⟨rF, rE, rfl, rfl, (LpLe.consM (Nat.le_of_ble_eq_true rfl) rfl trivial), trivial⟩, Nat.lt_succ_self _⟩
       ·
        refine awp_loopF (ι := { p : Nat × Int × Int × (List (Int × Bool)) × Int // levels_Check_l5 e169 v165 l1 p.1 p.2.1 p.2.2.1 p.2.2.2.1 p.2.2.2.2 = some x202 }) (fun p => ⟨[(1, .ref 0 0 0 0), (2, .int .i64 v165), (3, .int .i64 p.1.2.2.2.2), (4, .int .i64 p.1.2.1), (5, .mp 144), (6, .int .i64 v165), (28, .psl 1 (List.map TApiLvLevel.enc l1.Levels)), (29, .int .i64 (l1.Levels.length : Int)), (30, .int .i64 v165), (41, .psl 2 (List.map TApiRun.enc e169.Runs)), (42, .int .i64 (e169.Runs.length : Int)), (43, .int .i64 p.1.2.2.1)], [(0, ⟨0, true, true, 2, [[.int .i64 l1.B, .psl 1 (List.map TApiLvLevel.enc l1.Levels)]]⟩), (224, ⟨0, true, true, 1, [[.psl 2 (List.map TApiRun.enc e169.Runs)]]⟩)], 336, [(144, (mpRec (mpE (fun n : Int => AV.int .i64 n) AV.bool p.1.2.2.2.1)))]⟩) (fun p => p.1.1) ⟨(fu, e164, 0, v166, 0), hxx202⟩ ⟨rF, rE, rfl, rfl, (LpLe.consM (Nat.le_of_ble_eq_true rfl) rfl trivial), trivial⟩ (fun _ => Nat.le_refl _) ?_
        rintro ⟨⟨fu, e203, v204, v205, run206⟩, h2⟩
        cases fu with
        | zero =>
   replace h2 : levels_Check_l5 e169 v165 l1 0 e203 v204 v205 run206 = some x202 := h2
   rw [levels_Check_l5] at h2; cases h2
        | succ fu =>
         replace h2 : levels_Check_l5 e169 v165 l1 (fu + 1) e203 v204 v205 run206 = some x202 := h2
         rw [levels_Check_l5] at h2
         refine (show AWP _ _ _ _ ⟨[(1, .ref 0 0 0 0), (2, .int .i64 v165), (3, .int .i64 run206), (4, .int .i64 e203), (5, .mp 144), (6, .int .i64 v165), (28, .psl 1 (List.map TApiLvLevel.enc l1.Levels)), (29, .int .i64 (l1.Levels.length : Int)), (30, .int .i64 v165), (41, .psl 2 (List.map TApiRun.enc e169.Runs)), (42, .int .i64 (e169.Runs.length : Int)), (43, .int .i64 v204)], [(0, ⟨0, true, true, 2, [[.int .i64 l1.B, .psl 1 (List.map TApiLvLevel.enc l1.Levels)]]⟩), (224, ⟨0, true, true, 1, [[.psl 2 (List.map TApiRun.enc e169.Runs)]]⟩)], 336, [(144, (mpRec (mpE (fun n : Int => AV.int .i64 n) AV.bool v205)))]⟩ from ?_)
         refine awp_sr2 344 [1, 2, 3, 4, 5, 6, 28, 29, 30, 41, 42, 43, 44] (fun _ => none) rfl (fun _ _ => rS (rA he169a (rA he169b he169c))) ?_
         refine awp_seq ?_
         refine awp_if rfl (fun hb207 => ?_) (fun hb207 => ?_)
         ·
          replace h2 := iteT h2 hb207
          refine awp_skip ?_
          refine kn_then ?_
          refine awp_seq ?_
          refine awp_block ?_
          obtain ⟨e208, he208, h2⟩ := bindS h2
          obtain ⟨he208a, he208b, he208c⟩ := idxS he208
          refine awp_sr2 392 [1, 2, 5, 6, 8, 9, 28, 29, 30, 41, 42, 43] (fun _ => none) rfl (fun _ _ => rS (rA he169a (rA he169b (rA he169c (rA he208a (rA he208b he208c)))))) ?_
          refine awp_sr2 408 [1, 2, 3, 5, 6, 9, 28, 29, 30, 41, 42, 43] (fun _ => none) rfl (fun _ _ => rS (rA he169a (rA he169b (rA he169c (rA he208a (rA he208b he208c)))))) ?_
          refine awp_seq ?_
          obtain ⟨hc209, h2⟩ := guS h2
          obtain ⟨vr210, hvr210, h2⟩ := bindS h2
          refine awp_sd2 464 [1, 2, 3, 4, 5, 6, 9, 28, 29, 30, 41, 42, 43] (fun | 5 => some (.int .i64 vr210, []) | _ => none) rfl rfl rfl (fun _ _ => rBd (rA he169a (rA he169b (rA he169c (rA he208a (rA he208b he208c))))) (c_levels_fits hvr210)) ?_
          refine awp_sops2 8 rfl ?_
          refine awpo_cut (l' := List.range' 0 3 ++ (List.range' 3 5 ++ [])) rfl ?_
          refine awpo_seg 0 3 488 (List.range' 3 5 ++ []) (fun _ => none) rfl rfl rfl (fun _ _ => rS (rA he169a (rA he169b (rA he169c (rA he208a (rA he208b he208c)))))) ?_
          refine awpo_re (s2 := ⟨[(1, .ref 0 0 0 0), (2, .int .i64 v165), (3, .int .i64 v204), (4, .int .i64 vr210), (5, .mp 144), (6, .int .i64 v165), (9, .ref 368 0 0 0), (28, .psl 1 (List.map TApiLvLevel.enc l1.Levels)), (29, .int .i64 (l1.Levels.length : Int)), (30, .int .i64 v165), (41, .psl 2 (List.map TApiRun.enc e169.Runs)), (42, .int .i64 (e169.Runs.length : Int)), (43, .int .i64 v204), (55, .int .i64 vr210), (56, .bool (decide (vr210 = 0))), (57, .bool (decide (vr210 = 0)))], [(0, ⟨0, true, true, 2, [[.int .i64 l1.B, .psl 1 (List.map TApiLvLevel.enc l1.Levels)]]⟩), (224, ⟨0, true, true, 1, [[.psl 2 (List.map TApiRun.enc e169.Runs)]]⟩), (368, ⟨0, true, true, 2, [[.int .i64 e208.Id, .psl 4 (List.map TApiEntry.enc e208.Entries)]]⟩)], 488, [(144, (mpRec (mpE (fun n : Int => AV.int .i64 n) AV.bool v205)))]⟩) [] (Nat.le_of_ble_eq_true rfl) ⟨rF, rE, rfl, rfl, (LpLe.consM (Nat.le_of_ble_eq_true rfl) rfl trivial), trivial⟩ ?_
          generalize hg211 : (decide (vr210 = 0)) = b211
          cases b211 with
          | true =>
           replace h2 := iteT h2 hg211
           refine awpo_cut (l' := List.range' 3 3 ++ (6 :: (List.range' 7 1 ++ []))) rfl ?_
           refine awpo_seg 3 3 512 (6 :: (List.range' 7 1 ++ [])) (fun _ => none) rfl rfl rfl (fun _ _ => rS (rA he169a (rA he169b (rA he169c (rA he208a (rA he208b he208c)))))) ?_
           refine awpo_lookup (l := 144) (ek := (fun n : Int => AV.int .i64 n)) (ev := AV.bool) (m := v205) (n := e208.Id) (z := false) rfl rfl rfl rfl tMap96 tKey3 tZeroV4 (fun _ => rfl) rfl rfl rfl ?_
           refine awpo_re (s2 := ⟨[(1, .ref 0 0 0 0), (2, .int .i64 v165), (3, .int .i64 v204), (4, .int .i64 vr210), (5, .mp 144), (6, .int .i64 v165), (9, .ref 368 0 0 0), (28, .psl 1 (List.map TApiLvLevel.enc l1.Levels)), (29, .int .i64 (l1.Levels.length : Int)), (30, .int .i64 v165), (41, .psl 2 (List.map TApiRun.enc e169.Runs)), (42, .int .i64 (e169.Runs.length : Int)), (43, .int .i64 v204), (55, .int .i64 vr210), (56, .bool true), (57, .bool true), (58, .mp 144), (59, .ref 368 0 0 0), (60, .int .i64 e208.Id), (61, .bool ((mget v205 e208.Id).getD false))], [(0, ⟨0, true, true, 2, [[.int .i64 l1.B, .psl 1 (List.map TApiLvLevel.enc l1.Levels)]]⟩), (224, ⟨0, true, true, 1, [[.psl 2 (List.map TApiRun.enc e169.Runs)]]⟩), (368, ⟨0, true, true, 2, [[.int .i64 e208.Id, .psl 4 (List.map TApiEntry.enc e208.Entries)]]⟩)], 520, [(144, (mpRec (mpE (fun n : Int => AV.int .i64 n) AV.bool v205)))]⟩) [] (Nat.le_of_ble_eq_true rfl) ⟨rF, rE, rfl, rfl, (LpLe.consM (Nat.le_of_ble_eq_true rfl) rfl trivial), trivial⟩ ?_
           refine awpo_cut (l' := List.range' 7 1 ++ []) rfl ?_
           refine awpo_seg 7 1 528 [] (fun _ => none) rfl rfl rfl (fun _ _ => rS (rA he169a (rA he169b (rA he169c (rA he208a (rA he208b he208c)))))) ?_
           refine awpo_nil ?_
           refine kn_then ?_
           refine awp_re (s2 := ⟨[(1, .ref 0 0 0 0), (2, .int .i64 v165), (3, .int .i64 v204), (4, .int .i64 vr210), (5, .mp 144), (6, .int .i64 v165), (9, .ref 368 0 0 0), (28, .psl 1 (List.map TApiLvLevel.enc l1.Levels)), (29, .int .i64 (l1.Levels.length : Int)), (30, .int .i64 v165), (41, .psl 2 (List.map TApiRun.enc e169.Runs)), (42, .int .i64 (e169.Runs.length : Int)), (43, .int .i64 v204), (58, .mp 144), (59, .ref 368 0 0 0), (60, .int .i64 e208.Id), (61, .bool ((mget v205 e208.Id).getD false)), (62, .bool ((mget v205 e208.Id).getD false))], [(0, ⟨0, true, true, 2, [[.int .i64 l1.B, .psl 1 (List.map TApiLvLevel.enc l1.Levels)]]⟩), (224, ⟨0, true, true, 1, [[.psl 2 (List.map TApiRun.enc e169.Runs)]]⟩), (368, ⟨0, true, true, 2, [[.int .i64 e208.Id, .psl 4 (List.map TApiEntry.enc e208.Entries)]]⟩)], 528, [(144, (mpRec (mpE (fun n : Int => AV.int .i64 n) AV.bool v205)))]⟩) [] (Nat.le_of_ble_eq_true rfl) ⟨rF, rE, rfl, rfl, (LpLe.consM (Nat.le_of_ble_eq_true rfl) rfl trivial), trivial⟩ ?_
           refine awp_if rfl (fun hb212 => ?_) (fun hb212 => ?_)
           ·
            replace h2 := iteT h2 hb212
            refine awp_r2 536 [1, 2, 3, 4, 5, 6, 9, 28, 29, 30, 41, 42, 43, 58, 59, 60, 61] (fun _ => none) rfl (fun _ _ => rS (rA he169a (rA he169b (rA he169c (rA he208a (rA he208b he208c)))))) ?_
            refine kn_then ?_
            refine awp_seq ?_
            refine awp_sr2 552 [1, 2, 3, 4, 5, 6, 9, 28, 29, 30, 41, 42, 43, 58, 59, 60, 61, 64] (fun _ => none) rfl (fun _ _ => rS (rA he169a (rA he169b (rA he169c (rA he208a (rA he208b he208c)))))) ?_
            refine awp_condT rfl ?_
            refine awp_exit ?_
            obtain rfl := Option.some.inj h2
            refine kx_then ?_
            refine kx_other (by decide) ?_
            refine kx_then ?_
            refine kx_then ?_
            refine kx_loop (by decide) ?_
            refine kx_other (by decide) ?_
            refine kx_then ?_
            refine kx_then ?_
            refine kx_done ?_
            obtain rfl := Option.some.inj h1
            exact ⟨Nat.le_of_ble_eq_true rfl, ⟨rF, rE, rfl, rfl, (LpLe.consM (Nat.le_of_ble_eq_true rfl) rfl trivial), trivial⟩⟩
           ·
            replace h2 := iteF h2 hb212
            refine awp_skip ?_
            refine kn_then ?_
            refine awp_seq ?_
            refine awp_sr2 544 [1, 2, 3, 4, 5, 6, 9, 28, 29, 30, 41, 42, 43, 58, 59, 60, 61, 64] (fun _ => none) rfl (fun _ _ => rS (rA he169a (rA he169b (rA he169c (rA he208a (rA he208b he208c)))))) ?_
            refine awp_if rfl (fun hb213 => ?_) (fun hb213 => ?_)
            ·
             replace h2 := iteT h2 hb213
             refine awp_exit ?_
             obtain rfl := Option.some.inj h2
             refine kx_then ?_
             refine kx_other (by decide) ?_
             refine kx_then ?_
             refine kx_then ?_
             refine kx_loop (by decide) ?_
             refine kx_other (by decide) ?_
             refine kx_then ?_
             refine kx_then ?_
             refine kx_done ?_
             obtain rfl := Option.some.inj h1
             exact ⟨Nat.le_of_ble_eq_true rfl, ⟨rF, rE, rfl, rfl, (LpLe.consM (Nat.le_of_ble_eq_true rfl) rfl trivial), trivial⟩⟩
            ·
             replace h2 := iteF h2 hb213
             refine awp_skip ?_
             refine kn_then ?_
             refine awp_ops2 4 rfl ?_
             refine awpo_cut (l' := List.range' 0 3 ++ (3 :: (List.range' 4 0 ++ []))) rfl ?_
             refine awpo_seg 0 3 568 (3 :: (List.range' 4 0 ++ [])) (fun _ => none) rfl rfl rfl (fun _ _ => rS (rA he169a (rA he169b (rA he169c (rA he208a (rA he208b he208c)))))) ?_
             refine awpo_mapupd (l := 144) (ek := (fun n : Int => AV.int .i64 n)) (ev := AV.bool) (m := v205) (n := e208.Id) (y := true) rfl rfl rfl rfl tMap96 tKey3 (fun _ => rfl) rfl rfl rfl rfl ?_
             refine awpo_re (s2 := ⟨[(1, .ref 0 0 0 0), (2, .int .i64 v165), (3, .int .i64 v204), (4, .int .i64 vr210), (5, .mp 144), (6, .int .i64 v165), (9, .ref 368 0 0 0), (28, .psl 1 (List.map TApiLvLevel.enc l1.Levels)), (29, .int .i64 (l1.Levels.length : Int)), (30, .int .i64 v165), (41, .psl 2 (List.map TApiRun.enc e169.Runs)), (42, .int .i64 (e169.Runs.length : Int)), (43, .int .i64 v204), (58, .mp 144), (59, .ref 368 0 0 0), (60, .int .i64 e208.Id), (61, .bool ((mget v205 e208.Id).getD false)), (64, .bool (!(decide (vr210 = 0)))), (65, .mp 144), (66, .ref 368 0 0 0), (67, .int .i64 e208.Id)], [(0, ⟨0, true, true, 2, [[.int .i64 l1.B, .psl 1 (List.map TApiLvLevel.enc l1.Levels)]]⟩), (224, ⟨0, true, true, 1, [[.psl 2 (List.map TApiRun.enc e169.Runs)]]⟩), (368, ⟨0, true, true, 2, [[.int .i64 e208.Id, .psl 4 (List.map TApiEntry.enc e208.Entries)]]⟩)], 576, [(144, (mpRec (mpE (fun n : Int => AV.int .i64 n) AV.bool (mset v205 e208.Id true))))]⟩) [] (Nat.le_of_ble_eq_true rfl) ⟨rF, rE, rfl, rfl, (LpLe.consM (Nat.le_of_ble_eq_true rfl) rfl trivial), trivial⟩ ?_
             refine awpo_cut (l' := []) rfl ?_
             refine awpo_nil ?_
             refine kn_block ?_
             refine kn_then ?_
             refine awp_re (s2 := ⟨[(1, .ref 0 0 0 0), (2, .int .i64 v165), (3, .int .i64 v204), (4, .int .i64 vr210), (5, .mp 144), (6, .int .i64 v165), (28, .psl 1 (List.map TApiLvLevel.enc l1.Levels)), (29, .int .i64 (l1.Levels.length : Int)), (30, .int .i64 v165), (41, .psl 2 (List.map TApiRun.enc e169.Runs)), (42, .int .i64 (e169.Runs.length : Int)), (43, .int .i64 v204), (58, .mp 144), (59, .ref 368 0 0 0), (60, .int .i64 e208.Id), (61, .bool ((mget v205 e208.Id).getD false))], [(0, ⟨0, true, true, 2, [[.int .i64 l1.B, .psl 1 (List.map TApiLvLevel.enc l1.Levels)]]⟩), (224, ⟨0, true, true, 1, [[.psl 2 (List.map TApiRun.enc e169.Runs)]]⟩), (368, ⟨0, true, true, 2, [[.int .i64 e208.Id, .psl 4 (List.map TApiEntry.enc e208.Entries)]]⟩)], 576, [(144, (mpRec (mpE (fun n : Int => AV.int .i64 n) AV.bool (mset v205 e208.Id true))))]⟩) [] (Nat.le_of_ble_eq_true rfl) ⟨rF, rE, rfl, rfl, (LpLe.consM (Nat.le_of_ble_eq_true rfl) rfl trivial), trivial⟩ ?_
             refine awp_r2 592 [1, 2, 3, 4, 5, 6, 28, 29, 30, 41, 42, 43, 58, 59, 60, 61] (fun _ => none) rfl (fun _ _ => rS (rA he169a (rA he169b (rA he169c (rA he208a (rA he208b he208c)))))) ?_
             refine kn_then ?_
             exact ⟨⟨(fu, vr210, (IntKind.i64.wrap (v204 + 1)), (mset v205 e208.Id true), v204), h2⟩, ⟨rF, rE, rfl, rfl, (LpLe.consM (Nat.le_of_ble_eq_true rfl) rfl trivial), trivial⟩, Nat.lt_succ_self _⟩
          | false =>
           replace h2 := iteF h2 hg211
           refine awpo_cut (l' := List.range' 3 5 ++ []) rfl ?_
           refine awpo_seg 3 5 528 [] (fun _ => none) rfl rfl rfl (fun _ _ => rS (rA he169a (rA he169b (rA he169c (rA he208a (rA he208b he208c)))))) ?_
           refine awpo_nil ?_
           refine kn_then ?_
           refine awp_re (s2 := ⟨[(1, .ref 0 0 0 0), (2, .int .i64 v165), (3, .int .i64 v204), (4, .int .i64 vr210), (5, .mp 144), (6, .int .i64 v165), (9, .ref 368 0 0 0), (28, .psl 1 (List.map TApiLvLevel.enc l1.Levels)), (29, .int .i64 (l1.Levels.length : Int)), (30, .int .i64 v165), (41, .psl 2 (List.map TApiRun.enc e169.Runs)), (42, .int .i64 (e169.Runs.length : Int)), (43, .int .i64 v204), (62, .bool false)], [(0, ⟨0, true, true, 2, [[.int .i64 l1.B, .psl 1 (List.map TApiLvLevel.enc l1.Levels)]]⟩), (224, ⟨0, true, true, 1, [[.psl 2 (List.map TApiRun.enc e169.Runs)]]⟩), (368, ⟨0, true, true, 2, [[.int .i64 e208.Id, .psl 4 (List.map TApiEntry.enc e208.Entries)]]⟩)], 528, [(144, (mpRec (mpE (fun n : Int => AV.int .i64 n) AV.bool v205)))]⟩) [] (Nat.le_of_ble_eq_true rfl) ⟨rF, rE, rfl, rfl, (LpLe.consM (Nat.le_of_ble_eq_true rfl) rfl trivial), trivial⟩ ?_
           refine awp_condF rfl ?_
           refine awp_skip ?_
           refine kn_then ?_
           refine awp_seq ?_
           refine awp_sr2 544 [1, 2, 3, 4, 5, 6, 9, 28, 29, 30, 41, 42, 43, 64] (fun _ => none) rfl (fun _ _ => rS (rA he169a (rA he169b (rA he169c (rA he208a (rA he208b he208c)))))) ?_
           refine awp_if rfl (fun hb214 => ?_) (fun hb214 => ?_)
           ·
            replace h2 := iteT h2 hb214
            refine awp_exit ?_
            obtain rfl := Option.some.inj h2
            refine kx_then ?_
            refine kx_other (by decide) ?_
            refine kx_then ?_
            refine kx_then ?_
            refine kx_loop (by decide) ?_
            refine kx_other (by decide) ?_
            refine kx_then ?_
            refine kx_then ?_
            refine kx_done ?_
            obtain rfl := Option.some.inj h1
            exact ⟨Nat.le_of_ble_eq_true rfl, ⟨rF, rE, rfl, rfl, (LpLe.consM (Nat.le_of_ble_eq_true rfl) rfl trivial), trivial⟩⟩
           ·
            replace h2 := iteF h2 hb214
            refine awp_skip ?_
            refine kn_then ?_
            refine awp_ops2 4 rfl ?_
            refine awpo_cut (l' := List.range' 0 3 ++ (3 :: (List.range' 4 0 ++ []))) rfl ?_
            refine awpo_seg 0 3 568 (3 :: (List.range' 4 0 ++ [])) (fun _ => none) rfl rfl rfl (fun _ _ => rS (rA he169a (rA he169b (rA he169c (rA he208a (rA he208b he208c)))))) ?_
            refine awpo_mapupd (l := 144) (ek := (fun n : Int => AV.int .i64 n)) (ev := AV.bool) (m := v205) (n := e208.Id) (y := true) rfl rfl rfl rfl tMap96 tKey3 (fun _ => rfl) rfl rfl rfl rfl ?_
            refine awpo_re (s2 := ⟨[(1, .ref 0 0 0 0), (2, .int .i64 v165), (3, .int .i64 v204), (4, .int .i64 vr210), (5, .mp 144), (6, .int .i64 v165), (9, .ref 368 0 0 0), (28, .psl 1 (List.map TApiLvLevel.enc l1.Levels)), (29, .int .i64 (l1.Levels.length : Int)), (30, .int .i64 v165), (41, .psl 2 (List.map TApiRun.enc e169.Runs)), (42, .int .i64 (e169.Runs.length : Int)), (43, .int .i64 v204), (64, .bool (!(decide (vr210 = 0)))), (65, .mp 144), (66, .ref 368 0 0 0), (67, .int .i64 e208.Id)], [(0, ⟨0, true, true, 2, [[.int .i64 l1.B, .psl 1 (List.map TApiLvLevel.enc l1.Levels)]]⟩), (224, ⟨0, true, true, 1, [[.psl 2 (List.map TApiRun.enc e169.Runs)]]⟩), (368, ⟨0, true, true, 2, [[.int .i64 e208.Id, .psl 4 (List.map TApiEntry.enc e208.Entries)]]⟩)], 576, [(144, (mpRec (mpE (fun n : Int => AV.int .i64 n) AV.bool (mset v205 e208.Id true))))]⟩) [] (Nat.le_of_ble_eq_true rfl) ⟨rF, rE, rfl, rfl, (LpLe.consM (Nat.le_of_ble_eq_true rfl) rfl trivial), trivial⟩ ?_
            refine awpo_cut (l' := []) rfl ?_
            refine awpo_nil ?_
            refine kn_block ?_
            refine kn_then ?_
            refine awp_re (s2 := ⟨[(1, .ref 0 0 0 0), (2, .int .i64 v165), (3, .int .i64 v204), (4, .int .i64 vr210), (5, .mp 144), (6, .int .i64 v165), (28, .psl 1 (List.map TApiLvLevel.enc l1.Levels)), (29, .int .i64 (l1.Levels.length : Int)), (30, .int .i64 v165), (41, .psl 2 (List.map TApiRun.enc e169.Runs)), (42, .int .i64 (e169.Runs.length : Int)), (43, .int .i64 v204)], [(0, ⟨0, true, true, 2, [[.int .i64 l1.B, .psl 1 (List.map TApiLvLevel.enc l1.Levels)]]⟩), (224, ⟨0, true, true, 1, [[.psl 2 (List.map TApiRun.enc e169.Runs)]]⟩), (368, ⟨0, true, true, 2, [[.int .i64 e208.Id, .psl 4 (List.map TApiEntry.enc e208.Entries)]]⟩)], 576, [(144, (mpRec (mpE (fun n : Int => AV.int .i64 n) AV.bool (mset v205 e208.Id true))))]⟩) [] (Nat.le_of_ble_eq_true rfl) ⟨rF, rE, rfl, rfl, (LpLe.consM (Nat.le_of_ble_eq_true rfl) rfl trivial), trivial⟩ ?_
            refine awp_r2 592 [1, 2, 3, 4, 5, 6, 28, 29, 30, 41, 42, 43] (fun _ => none) rfl (fun _ _ => rS (rA he169a (rA he169b (rA he169c (rA he208a (rA he208b he208c)))))) ?_
            refine kn_then ?_
            exact ⟨⟨(fu, vr210, (IntKind.i64.wrap (v204 + 1)), (mset v205 e208.Id true), v204), h2⟩, ⟨rF, rE, rfl, rfl, (LpLe.consM (Nat.le_of_ble_eq_true rfl) rfl trivial), trivial⟩, Nat.lt_succ_self _⟩
         ·
          replace h2 := iteF h2 hb207
          refine awp_exit ?_
          refine kx_then ?_
          refine kx_then ?_
          refine kx_done ?_
          obtain rfl := Option.some.inj h2
          exact ⟨_, rfl, Nat.le_of_ble_eq_true rfl, ⟨rF, rE, rfl, rfl, (LpLe.consM (Nat.le_of_ble_eq_true rfl) rfl trivial), trivial⟩⟩
     ·
      replace h1 := iteF h1 hb168
      refine awp_exit ?_
      refine kx_then ?_
      refine kx_then ?_
      refine kx_done ?_
      obtain rfl := Option.some.inj h1
      exact ⟨Nat.le_of_ble_eq_true rfl, ⟨rF, rE, rfl, rfl, (LpLe.consM (Nat.le_of_ble_eq_true rfl) rfl trivial), trivial⟩⟩
end Go.T
end
section
namespace Go.T
open Go Go.AM Go.Proofs
set_option maxRecDepth 100000
set_option maxHeartbeats 4000000
set_option linter.unusedVariables false
theorem c_jobs_greatest {fu : Nat} {l1 : TApiLvLevels} {r : Int} (h0 : jobs_greatest fu l1 = some r) : PCall Try.prog 21 [.agg (TApiLvLevels.enc l1)] (.int .i64 r) [] := by
 refine awp_pcall Try.func21 rfl (by decide) (Nat.le_of_ble_eq_true rfl) ?_
 dsimp only [Try.f21]
 rw [jobs_greatest] at h0
 refine (show AWP _ _ _ _ ⟨enumFr 0 _, [], 0, []⟩ from ?_)
 refine awp_sr2 16 [1, 2] (fun _ => none) rfl (fun _ _ => rT) ?_
 refine awp_seq ?_
 refine awp_sr2 48 [2, 8, 9, 10] (fun _ => none) rfl (fun _ _ => rT) ?_
 obtain ⟨x30, hxx30, h0⟩ := bindS h0
 refine awp_bloop (fun s' => s'.nx ≤ 56 ∧ LeN [] s' ⟨[(2, .int .i64 x30)], [(0, ⟨0, true, true, 2, [[.int .i64 l1.B, .psl 1 (List.map TApiLvLevel.enc l1.Levels)]]⟩)], 56, []⟩) ?_ ?_
 ·
  intro s' hs
  obtain ⟨hn, hs⟩ := hs
  refine kn_then ?_
  refine awp_re [] hn hs ?_
  refine awp_sr2 72 [2] (fun _ => none) rfl (fun _ _ => rT) ?_
  refine awp_ret ?_
  obtain rfl := Option.some.inj h0
  refine leave_retG [] ?_
  exact rG
 ·
  refine awp_loopF (ι := { p : Nat × Int × Int // jobs_greatest_l3 l1 p.1 p.2.1 p.2.2 = some x30 }) (fun p => ⟨[(2, .int .i64 p.1.2.1), (8, .psl 1 (List.map TApiLvLevel.enc l1.Levels)), (9, .int .i64 (l1.Levels.length : Int)), (10, .int .i64 p.1.2.2)], [(0, ⟨0, true, true, 2, [[.int .i64 l1.B, .psl 1 (List.map TApiLvLevel.enc l1.Levels)]]⟩)], 48, []⟩) (fun p => p.1.1) ⟨(fu, 0, 0), hxx30⟩ ⟨rF, rE, rfl, rfl, trivial, trivial⟩ (fun _ => Nat.le_refl _) ?_
  rintro ⟨⟨fu, best31, v32⟩, h1⟩
  cases fu with
  | zero =>
   replace h1 : jobs_greatest_l3 l1 0 best31 v32 = some x30 := h1
   rw [jobs_greatest_l3] at h1; cases h1
  | succ fu =>
   replace h1 : jobs_greatest_l3 l1 (fu + 1) best31 v32 = some x30 := h1
   rw [jobs_greatest_l3] at h1
   refine (show AWP _ _ _ _ ⟨[(2, .int .i64 best31), (8, .psl 1 (List.map TApiLvLevel.enc l1.Levels)), (9, .int .i64 (l1.Levels.length : Int)), (10, .int .i64 v32)], [(0, ⟨0, true, true, 2, [[.int .i64 l1.B, .psl 1 (List.map TApiLvLevel.enc l1.Levels)]]⟩)], 48, []⟩ from ?_)
   refine awp_sr2 56 [2, 8, 9, 10, 11] (fun _ => none) rfl (fun _ _ => rT) ?_
   refine awp_seq ?_
   refine awp_if rfl (fun hb33 => ?_) (fun hb33 => ?_)
   ·
    replace h1 := iteT h1 hb33
    refine awp_skip ?_
    refine kn_then ?_
    refine awp_seq ?_
    refine awp_block ?_
    obtain ⟨e34, he34, h1⟩ := bindS h1
    obtain ⟨he34a, he34b, he34c⟩ := idxS he34
    refine awp_sr2 88 [2, 4, 8, 9, 10] (fun _ => none) rfl (fun _ _ => rS (rA he34a (rA he34b he34c))) ?_
    refine awp_sr2 120 [2, 8, 9, 10, 15, 16, 17] (fun _ => none) rfl (fun _ _ => rS (rA he34a (rA he34b he34c))) ?_
    obtain ⟨x41, hxx41, h1⟩ := bindS h1
    refine awp_bloop (fun s' => s'.nx ≤ 128 ∧ LeN [] s' ⟨[(2, .int .i64 x41), (8, .psl 1 (List.map TApiLvLevel.enc l1.Levels)), (9, .int .i64 (l1.Levels.length : Int)), (10, .int .i64 v32)], [(0, ⟨0, true, true, 2, [[.int .i64 l1.B, .psl 1 (List.map TApiLvLevel.enc l1.Levels)]]⟩), (72, ⟨0, true, true, 1, [[.psl 2 (List.map TApiRun.enc e34.Runs)]]⟩)], 128, []⟩) ?_ ?_
    ·
     intro s' hs
     obtain ⟨hn, hs⟩ := hs
     refine kn_block ?_
     refine kn_then ?_
     refine awp_re [] hn hs ?_
     refine awp_r2 144 [2, 8, 9, 10] (fun _ => none) rfl (fun _ _ => rS (rA he34a (rA he34b he34c))) ?_
     refine kn_then ?_
     exact ⟨⟨(fu, x41, (IntKind.i64.wrap (v32 + 1))), h1⟩, ⟨rF, rE, rfl, rfl, trivial, trivial⟩, Nat.lt_succ_self _⟩
    ·
     refine awp_loopF (ι := { p : Nat × Int × Int // jobs_greatest_l4 e34 p.1 p.2.1 p.2.2 = some x41 }) (fun p => ⟨[(2, .int .i64 p.1.2.1), (8, .psl 1 (List.map TApiLvLevel.enc l1.Levels)), (9, .int .i64 (l1.Levels.length : Int)), (10, .int .i64 v32), (15, .psl 2 (List.map TApiRun.enc e34.Runs)), (16, .int .i64 (e34.Runs.length : Int)), (17, .int .i64 p.1.2.2)], [(0, ⟨0, true, true, 2, [[.int .i64 l1.B, .psl 1 (List.map TApiLvLevel.enc l1.Levels)]]⟩), (72, ⟨0, true, true, 1, [[.psl 2 (List.map TApiRun.enc e34.Runs)]]⟩)], 120, []⟩) (fun p => p.1.1) ⟨(fu, best31, 0), hxx41⟩ ⟨rF, rE, rfl, rfl, trivial, trivial⟩ (fun _ => Nat.le_refl _) ?_
     rintro ⟨⟨fu, best42, v43⟩, h2⟩
     cases fu with
     | zero =>
   replace h2 : jobs_greatest_l4 e34 0 best42 v43 = some x41 := h2
   rw [jobs_greatest_l4] at h2; cases h2
     | succ fu =>
      replace h2 : jobs_greatest_l4 e34 (fu + 1) best42 v43 = some x41 := h2
      rw [jobs_greatest_l4] at h2
      refine (show AWP _ _ _ _ ⟨[(2, .int .i64 best42), (8, .psl 1 (List.map TApiLvLevel.enc l1.Levels)), (9, .int .i64 (l1.Levels.length : Int)), (10, .int .i64 v32), (15, .psl 2 (List.map TApiRun.enc e34.Runs)), (16, .int .i64 (e34.Runs.length : Int)), (17, .int .i64 v43)], [(0, ⟨0, true, true, 2, [[.int .i64 l1.B, .psl 1 (List.map TApiLvLevel.enc l1.Levels)]]⟩), (72, ⟨0, true, true, 1, [[.psl 2 (List.map TApiRun.enc e34.Runs)]]⟩)], 120, []⟩ from ?_)
      refine awp_sr2 128 [2, 8, 9, 10, 15, 16, 17, 18] (fun _ => none) rfl (fun _ _ => rS (rA he34a (rA he34b he34c))) ?_
      refine awp_seq ?_
      refine awp_if rfl (fun hb44 => ?_) (fun hb44 => ?_)
      ·
       replace h2 := iteT h2 hb44
       refine awp_skip ?_
       refine kn_then ?_
       refine awp_seq ?_
       refine awp_block ?_
       obtain ⟨e45, he45, h2⟩ := bindS h2
       obtain ⟨he45a, he45b, he45c⟩ := idxS he45
       refine awp_sr2 160 [2, 6, 8, 9, 10, 15, 16, 17] (fun _ => none) rfl (fun _ _ => rS (rA he34a (rA he34b (rA he34c (rA he45a (rA he45b he45c)))))) ?_
       refine awp_r2 200 [2, 8, 9, 10, 15, 16, 17] (fun _ => none) rfl (fun _ _ => rS (rA he34a (rA he34b (rA he34c (rA he45a (rA he45b he45c)))))) ?_
       refine kn_block ?_
       refine kn_then ?_
       refine awp_r2 216 [2, 8, 9, 10, 15, 16, 17] (fun _ => none) rfl (fun _ _ => rS (rA he34a (rA he34b (rA he34c (rA he45a (rA he45b he45c)))))) ?_
       refine kn_then ?_
       exact ⟨⟨(fu, (if best42 < e45.Id then e45.Id else best42), (IntKind.i64.wrap (v43 + 1))), h2⟩, ⟨rF, rE, rfl, rfl, trivial, trivial⟩, Nat.lt_succ_self _⟩
      ·
       replace h2 := iteF h2 hb44
       refine awp_exit ?_
       refine kx_then ?_
       refine kx_then ?_
       refine kx_done ?_
       obtain rfl := Option.some.inj h2
       exact ⟨Nat.le_of_ble_eq_true rfl, ⟨rF, rE, rfl, rfl, trivial, trivial⟩⟩
   ·
    replace h1 := iteF h1 hb33
    refine awp_exit ?_
    refine kx_then ?_
    refine kx_then ?_
    refine kx_done ?_
    obtain rfl := Option.some.inj h1
    exact ⟨Nat.le_of_ble_eq_true rfl, ⟨rF, rE, rfl, rfl, trivial, trivial⟩⟩
end Go.T
end
section
namespace Go.T
open Go Go.AM Go.Proofs
set_option maxRecDepth 100000
set_option maxHeartbeats 4000000
set_option linter.unusedVariables false
theorem c_jobs_due {fu : Nat} {l1 : TApiLvLevels} {r : Int × List TApiLvLevel} (h0 : jobs_due fu l1 = some r) : PCall Try.prog 22 [.agg (TApiLvLevels.enc l1)] (.fn 41 [] [.pp [.int .i64 r.1, .psl 1 (r.2.map TApiLvLevel.enc)]]) [] := by
 refine awp_pcall Try.func22 rfl (by decide) (Nat.le_of_ble_eq_true rfl) ?_
 dsimp only [Try.f22]
 rw [jobs_due] at h0
 refine (show AWP _ _ _ _ ⟨enumFr 0 _, [], 0, []⟩ from ?_)
 refine awp_sr2 16 [1] (fun _ => none) rfl (fun _ _ => rT) ?_
 refine awp_sr2 32 [2] (fun _ => none) rfl (fun _ _ => rT) ?_
 refine awp_ret ?_
 obtain rfl := Option.some.inj h0
 refine leave_retG [] ?_
 exact rG
end Go.T
end
section
namespace Go.T
open Go Go.AM Go.Proofs
set_option maxRecDepth 100000
set_option maxHeartbeats 4000000
set_option linter.unusedVariables false
theorem c_jobs_lowest {fu : Nat} {l1 : TApiLvLevels} {level2 : Int} {r : Bool} (h0 : jobs_lowest fu l1 level2 = some r) : PCall Try.prog 24 [.agg (TApiLvLevels.enc l1), .int .i64 level2] (.bool r) [] := by
 refine awp_pcall Try.func24 rfl (by decide) (Nat.le_of_ble_eq_true rfl) ?_
 dsimp only [Try.f24]
 rw [jobs_lowest] at h0
 refine (show AWP _ _ _ _ ⟨enumFr 0 _, [], 0, []⟩ from ?_)
 refine awp_sr2 16 [1, 2] (fun _ => none) rfl (fun _ _ => rT) ?_
 refine awp_sr2 72 [4] (fun _ => none) rfl (fun _ _ => rT) ?_
 refine awp_ret ?_
 obtain rfl := Option.some.inj h0
 refine leave_retG [] ?_
 exact rG
end Go.T
end
section
namespace Go.T
open Go Go.AM Go.Proofs
set_option maxRecDepth 100000
set_option maxHeartbeats 4000000
set_option linter.unusedVariables false
theorem c_merge_check {fu : Nat} {runs1 : List (List TApiEntry)} {r : Int × Int} (h0 : merge_check fu runs1 = some r) : PCall Try.prog 75 [.psl 1 (runs1.map (encSl 4 TApiEntry.enc))] (.tup [.int .i64 r.1, .int .i64 r.2]) [] := by
 refine awp_pcall Try.func75 rfl (by decide) (Nat.le_of_ble_eq_true rfl) ?_
 dsimp only [Try.f75]
 rw [merge_check] at h0
 refine (show AWP _ _ _ _ ⟨enumFr 0 _, [], 0, []⟩ from ?_)
 refine awp_sr2 16 [0] (fun _ => none) rfl (fun _ _ => rT) ?_
 refine awp_seq ?_
 refine awp_block ?_
 refine awp_sr2 48 [0, 8] (fun _ => none) rfl (fun _ _ => rT) ?_
 refine awp_if rfl (fun hb2 => ?_) (fun hb2 => ?_)
 ·
  replace h0 := iteT h0 hb2
  refine awp_sr2 64 [2, 3] (fun _ => none) rfl (fun _ _ => rT) ?_
  refine awp_ret ?_
  refine kr_block ?_
  refine kr_then ?_
  obtain rfl := Option.some.inj h0
  refine leave_retG [] ?_
  exact rG
 ·
  replace h0 := iteF h0 hb2
  refine awp_sr2 80 [0, 12] (fun _ => none) rfl (fun _ _ => rT) ?_
  refine awp_if rfl (fun hb3 => ?_) (fun hb3 => ?_)
  ·
   replace h0 := iteT h0 hb3
   refine awp_sr2 96 [2, 3] (fun _ => none) rfl (fun _ _ => rT) ?_
   refine awp_ret ?_
   refine kr_block ?_
   refine kr_then ?_
   obtain rfl := Option.some.inj h0
   refine leave_retG [] ?_
   exact rG
  ·
   replace h0 := iteF h0 hb3
   refine awp_skip ?_
   refine kn_block ?_
   refine kn_then ?_
   refine awp_seq ?_
   refine awp_sr2 104 [16, 17, 18] (fun _ => none) rfl (fun _ _ => rT) ?_
   obtain ⟨x13, hxx13, h0⟩ := bindS h0
   refine awp_bloop (fun s' => ∃ o19 : Unit, x13 = .inl o19 ∧ s'.nx ≤ 112 ∧ LeN [] s' ⟨[], [], 112, []⟩) ?_ ?_
   ·
    intro s' hs
    obtain ⟨o19, rfl, hn, hs⟩ := hs
    refine kn_then ?_
    refine awp_re [] hn hs ?_
    refine awp_sr2 128 [2, 3] (fun _ => none) rfl (fun _ _ => rT) ?_
    refine awp_ret ?_
    obtain rfl := Option.some.inj h0
    refine leave_retG [] ?_
    exact rG
   ·
    refine awp_loopF (ι := { p : Nat × Int // merge_check_l1 runs1 p.1 p.2 = some x13 }) (fun p => ⟨[(16, .psl 1 (List.map (encSl 4 TApiEntry.enc) runs1)), (17, .int .i64 (runs1.length : Int)), (18, .int .i64 p.1.2)], [], 104, []⟩) (fun p => p.1.1) ⟨(fu, 0), hxx13⟩ ⟨rF, rE, rfl, rfl, trivial, trivial⟩ (fun _ => Nat.le_refl _) ?_
    rintro ⟨⟨fu, v14⟩, h1⟩
    cases fu with
    | zero =>
   replace h1 : merge_check_l1 runs1 0 v14 = some x13 := h1
   rw [merge_check_l1] at h1; cases h1
    | succ fu =>
     replace h1 : merge_check_l1 runs1 (fu + 1) v14 = some x13 := h1
     rw [merge_check_l1] at h1
     refine (show AWP _ _ _ _ ⟨[(16, .psl 1 (List.map (encSl 4 TApiEntry.enc) runs1)), (17, .int .i64 (runs1.length : Int)), (18, .int .i64 v14)], [], 104, []⟩ from ?_)
     refine awp_sr2 112 [16, 17, 18, 19] (fun _ => none) rfl (fun _ _ => rT) ?_
     refine awp_seq ?_
     refine awp_if rfl (fun hb15 => ?_) (fun hb15 => ?_)
     ·
      replace h1 := iteT h1 hb15
      refine awp_skip ?_
      refine kn_then ?_
      refine awp_seq ?_
      refine awp_block ?_
      obtain ⟨e16, he16, h1⟩ := bindS h1
      obtain ⟨he16a, he16b, he16c⟩ := idxS he16
      refine awp_sr2 152 [4, 5, 16, 17, 18] (fun _ => none) rfl (fun _ _ => rS (rA he16a (rA he16b he16c))) ?_
      obtain ⟨vr17, hvr17, h1⟩ := bindS h1
      refine awp_sr2 208 [4, 7, 16, 17, 18] (fun | 1 => some (.tup [.int .i64 vr17.1, .int .i64 vr17.2], []) | _ => none) rfl (fun _ _ => rB (rA he16a (rA he16b he16c)) (c_entries_CheckList hvr17)) ?_
      refine awp_sr2 224 [4, 7, 16, 17, 18, 29] (fun _ => none) rfl (fun _ _ => rS (rA he16a (rA he16b he16c))) ?_
      refine awp_if rfl (fun hb18 => ?_) (fun hb18 => ?_)
      ·
       replace h1 := iteT h1 hb18
       refine awp_sr2 256 [2, 3] (fun _ => none) rfl (fun _ _ => rS (rA he16a (rA he16b he16c))) ?_
       refine awp_ret ?_
       obtain rfl := Option.some.inj h1
       refine kr_block ?_
       refine kr_then ?_
       refine kr_then ?_
       refine kr_loop ?_
       refine kr_then ?_
       obtain rfl := Option.some.inj h0
       refine leave_retG [] ?_
       simp (maxSteps := 1000000) only [↓reduceIte, reduceCtorEq, Nat.reduceEqDiff, Nat.reduceLT, Nat.reduceLeDiff, Nat.reduceAdd, Nat.reduceMul, Int.reduceToNat, push_cast, Gives, he16a, he16b, he16c]
       all_goals exact rH
      ·
       replace h1 := iteF h1 hb18
       refine awp_skip ?_
       refine kn_block ?_
       refine kn_then ?_
       refine awp_r2 240 [16, 17, 18] (fun _ => none) rfl (fun _ _ => rS (rA he16a (rA he16b he16c))) ?_
       refine kn_then ?_
       exact ⟨⟨(fu, (IntKind.i64.wrap (v14 + 1))), h1⟩, ⟨rF, rE, rfl, rfl, trivial, trivial⟩, Nat.lt_succ_self _⟩
     ·
      replace h1 := iteF h1 hb15
      refine awp_exit ?_
      refine kx_then ?_
      refine kx_then ?_
      refine kx_done ?_
      obtain rfl := Option.some.inj h1
      exact ⟨_, rfl, Nat.le_of_ble_eq_true rfl, ⟨rF, rE, rfl, rfl, trivial, trivial⟩⟩
end Go.T
end
section
namespace Go.T
open Go Go.AM Go.Proofs
set_option maxRecDepth 100000
set_option maxHeartbeats 4000000
set_option linter.unusedVariables false
theorem c_slices_Clone_apiEntry {fu : Nat} {vs1 : List (List TApiEntry)} {r : List (List TApiEntry)} (h0 : slices_Clone_apiEntry fu vs1 = some r) : PCall Try.prog 76 [.psl 1 (vs1.map (encSl 4 TApiEntry.enc))] (.psl 1 (r.map (encSl 4 TApiEntry.enc))) [] := by
 refine awp_pcall Try.func76 rfl (by decide) (Nat.le_of_ble_eq_true rfl) ?_
 dsimp only [Try.f76]
 rw [slices_Clone_apiEntry] at h0
 refine (show AWP _ _ _ _ ⟨enumFr 0 _, [], 0, []⟩ from ?_)
 refine awp_sr2 8 [0] (fun _ => none) rfl (fun _ _ => rT) ?_
 refine awp_seq ?_
 cases hb2 : vs1.isEmpty with
 | true =>
  replace h0 := iteT h0 hb2
  obtain rfl : vs1 = [] := List.isEmpty_iff.1 hb2
  refine awp_sr2 24 [0, 4] (fun _ => none) rfl (fun _ _ => rT) ?_
  refine awp_cond_any rfl ?_ ?_
  ·
   skip
   refine awp_sr2 32 [2] (fun _ => none) rfl (fun _ _ => rT) ?_
   refine awp_ret ?_
   refine kr_then ?_
   obtain rfl := Option.some.inj h0
   refine leave_retG [] ?_
   exact rG
  ·
   skip
   refine awp_skip ?_
   refine kn_then ?_
   refine awp_sr2 56 [2] (fun _ => none) rfl (fun _ _ => rT) ?_
   refine awp_re (s2 := ⟨[(2, .sl 24 1 1 0 0)], [(24, ⟨1, true, true, 1, List.map (encSl 4 TApiEntry.enc) []⟩)], 56, []⟩) [] (Nat.le_of_ble_eq_true rfl) ⟨rF, rE, rfl, rfl, trivial, trivial⟩ ?_
   refine awp_ret ?_
   obtain rfl := Option.some.inj h0
   refine leave_retG [] ?_
   exact rG
 | false =>
  replace h0 := iteF h0 hb2
  refine awp_sr2 24 [0, 4] (fun _ => none) rfl (fun _ _ => rS hb2) ?_
  refine awp_condF rfl ?_
  refine awp_skip ?_
  refine kn_then ?_
  obtain ⟨hc3, h0⟩ := guS h0
  refine awp_sr2 56 [2] (fun _ => none) rfl (fun _ _ => rS hb2) ?_
  refine awp_re (s2 := ⟨[(2, .sl 24 1 1 0 vs1.length)], [(24, ⟨1, true, true, 1, List.map (encSl 4 TApiEntry.enc) vs1⟩)], 56, []⟩) [] (Nat.le_of_ble_eq_true rfl) ⟨rF, rE, rfl, rfl, trivial, trivial⟩ ?_
  refine awp_ret ?_
  obtain rfl := Option.some.inj h0
  refine leave_retG [] ?_
  simp (maxSteps := 1000000) only [↓reduceIte, reduceCtorEq, Nat.reduceEqDiff, Nat.reduceLT, Nat.reduceLeDiff, Nat.reduceAdd, Nat.reduceMul, Int.reduceToNat, push_cast, Gives, hb2]
  all_goals exact rH
end Go.T
end
section
namespace Go.T
open Go Go.AM Go.Proofs
set_option maxRecDepth 100000
set_option maxHeartbeats 4000000
set_option linter.unusedVariables false
theorem c_merge_next {fu : Nat} {l1 : List TApiEntry} {vat2 : Int} {r : TApiLsKey} (h0 : merge_next fu l1 vat2 = some r) : PCall Try.prog 93 [.psl 4 (l1.map TApiEntry.enc), .int .i64 vat2] (.agg (TApiLsKey.enc r)) [] := by
 refine awp_pcall Try.func93 rfl (by decide) (Nat.le_of_ble_eq_true rfl) ?_
 dsimp only [Try.f93]
 rw [merge_next] at h0
 refine (show AWP _ _ _ _ ⟨enumFr 0 _, [], 0, []⟩ from ?_)
 refine awp_sr2 8 [0, 1, 4] (fun _ => none) rfl (fun _ _ => rT) ?_
 refine awp_seq ?_
 refine awp_sr2 40 [0, 1, 4, 8] (fun _ => none) rfl (fun _ _ => rT) ?_
 refine awp_if rfl (fun hb3 => ?_) (fun hb3 => ?_)
 ·
  replace h0 := iteT h0 hb3
  refine awp_sr2 56 [4] (fun _ => none) rfl (fun _ _ => rT) ?_
  refine awp_ret ?_
  refine kr_then ?_
  obtain rfl := Option.some.inj h0
  refine leave_retG [] ?_
  exact rG
 ·
  replace h0 := iteF h0 hb3
  refine awp_skip ?_
  refine kn_then ?_
  obtain ⟨e4, he4, h0⟩ := bindS h0
  obtain ⟨he4a, he4b, he4c⟩ := idxS he4
  refine awp_sr2 96 [4] (fun _ => none) rfl (fun _ _ => rS (rA he4a (rA he4b he4c))) ?_
  refine awp_ret ?_
  obtain rfl := Option.some.inj h0
  refine leave_retG [] ?_
  simp (maxSteps := 1000000) only [↓reduceIte, reduceCtorEq, Nat.reduceEqDiff, Nat.reduceLT, Nat.reduceLeDiff, Nat.reduceAdd, Nat.reduceMul, Int.reduceToNat, push_cast, Gives, he4a, he4b, he4c]
  all_goals exact rH
end Go.T
end
section
namespace Go.T
open Go Go.AM Go.Proofs
set_option maxRecDepth 100000
set_option maxHeartbeats 4000000
set_option linter.unusedVariables false
theorem c_loser_check_1 {fu : Nat} {k1 : TApiLsKey} {r : Bool} (h0 : loser_check_1 fu k1 = some r) : PCall Try.prog 109 [.agg (TApiLsKey.enc k1)] (.bool r) [] := by
 refine awp_pcall Try.func109 rfl (by decide) (Nat.le_of_ble_eq_true rfl) ?_
 dsimp only [Try.f109]
 rw [loser_check_1] at h0
 refine (show AWP _ _ _ _ ⟨enumFr 0 _, [], 0, []⟩ from ?_)
 refine awp_sr2 16 [1] (fun _ => none) rfl (fun _ _ => rT) ?_
 obtain ⟨b2, hb2, h0⟩ := bindS h0
 refine awp_sr3 (fr' := [(2, .bool b2)]) (hp' := [(0, ⟨0, true, true, 2, [[.str k1.Key, .bool k1.Done]]⟩)]) [0] 80 [2] (fun _ => none) rfl (fun Kt hK => by
   cases hg3 : k1.Done with
   | false =>
    replace hb2 := iteF hb2 hg3
    have hqb2 := Option.some.inj hb2
    subst hqb2
    simp (maxSteps := 1000000) only [↓reduceIte, reduceCtorEq, Nat.reduceEqDiff, Nat.reduceLT, Nat.reduceLeDiff, Nat.reduceAdd, Nat.reduceMul, Int.reduceToNat, push_cast, ↓hg3]
    try simp only [↓hg3] at hK
    all_goals exact rU
   | true =>
    replace hb2 := iteT hb2 hg3
    have hqb2 := Option.some.inj hb2
    subst hqb2
    simp (maxSteps := 1000000) only [↓reduceIte, reduceCtorEq, Nat.reduceEqDiff, Nat.reduceLT, Nat.reduceLeDiff, Nat.reduceAdd, Nat.reduceMul, Int.reduceToNat, push_cast, ↓hg3]
    try simp only [↓hg3] at hK
    all_goals exact rU) ?_
 refine awp_ret ?_
 obtain rfl := Option.some.inj h0
 refine leave_retG [] ?_
 exact rG
end Go.T
end
section
namespace Go.T
open Go Go.AM Go.Proofs
set_option maxRecDepth 100000
set_option maxHeartbeats 4000000
set_option linter.unusedVariables false
theorem c_slices_IndexFunc_apiLsKey {fu : Nat} {vs1 : List TApiLsKey} {r : Int} (h0 : slices_IndexFunc_apiLsKey fu vs1 = some r) : PCall Try.prog 111 [.psl 2 (vs1.map TApiLsKey.enc), .fn 109 [] []] (.int .i64 r) [] := by
 refine awp_pcall Try.func111 rfl (by decide) (Nat.le_of_ble_eq_true rfl) ?_
 dsimp only [Try.f111]
 rw [slices_IndexFunc_apiLsKey] at h0
 refine (show AWP _ _ _ _ ⟨enumFr 0 _, [], 0, []⟩ from ?_)
 refine awp_sr2 8 [0, 1] (fun _ => none) rfl (fun _ _ => rT) ?_
 refine awp_seq ?_
 refine awp_sr2 32 [0, 1, 7, 8] (fun _ => none) rfl (fun _ _ => rT) ?_
 obtain ⟨x11, hxx11, h0⟩ := bindS h0
 refine awp_bloop (fun s' => ∃ o17 : Unit, x11 = .inl o17 ∧ s'.nx ≤ 40 ∧ LeN [] s' ⟨[], [], 40, []⟩) ?_ ?_
 ·
  intro s' hs
  obtain ⟨o17, rfl, hn, hs⟩ := hs
  refine kn_then ?_
  refine awp_re [] hn hs ?_
  refine awp_sr2 48 [4] (fun _ => none) rfl (fun _ _ => rT) ?_
  refine awp_ret ?_
  obtain rfl := Option.some.inj h0
  refine leave_retG [] ?_
  exact rG
 ·
  refine awp_loopF (ι := { p : Nat × Int // slices_IndexFunc_apiLsKey_l1 vs1 p.1 p.2 = some x11 }) (fun p => ⟨[(0, .psl 2 (List.map TApiLsKey.enc vs1)), (1, .fn 109 [] []), (7, .int .i64 (vs1.length : Int)), (8, .int .i64 p.1.2)], [], 32, []⟩) (fun p => p.1.1) ⟨(fu, 0), hxx11⟩ ⟨rF, rE, rfl, rfl, trivial, trivial⟩ (fun _ => Nat.le_refl _) ?_
  rintro ⟨⟨fu, v12⟩, h1⟩
  cases fu with
  | zero =>
   replace h1 : slices_IndexFunc_apiLsKey_l1 vs1 0 v12 = some x11 := h1
   rw [slices_IndexFunc_apiLsKey_l1] at h1; cases h1
  | succ fu =>
   replace h1 : slices_IndexFunc_apiLsKey_l1 vs1 (fu + 1) v12 = some x11 := h1
   rw [slices_IndexFunc_apiLsKey_l1] at h1
   refine (show AWP _ _ _ _ ⟨[(0, .psl 2 (List.map TApiLsKey.enc vs1)), (1, .fn 109 [] []), (7, .int .i64 (vs1.length : Int)), (8, .int .i64 v12)], [], 32, []⟩ from ?_)
   refine awp_sr2 40 [0, 1, 7, 8, 9] (fun _ => none) rfl (fun _ _ => rT) ?_
   refine awp_seq ?_
   refine awp_if rfl (fun hb13 => ?_) (fun hb13 => ?_)
   ·
    replace h1 := iteT h1 hb13
    refine awp_skip ?_
    refine kn_then ?_
    refine awp_seq ?_
    refine awp_block ?_
    refine awp_sr2 56 [0, 1, 5, 7, 8] (fun _ => none) rfl (fun _ _ => rT) ?_
    obtain ⟨e14, he14, h1⟩ := bindS h1
    obtain ⟨he14a, he14b, he14c⟩ := idxS he14
    obtain ⟨vr15, hvr15, h1⟩ := bindS h1
    refine awp_sr2 104 [0, 1, 5, 7, 8, 16] (fun | 5 => some (.bool vr15, []) | _ => none) rfl (fun _ _ => rB (rA he14a (rA he14b he14c)) (c_loser_check_1 hvr15)) ?_
    refine awp_if rfl (fun hb16 => ?_) (fun hb16 => ?_)
    ·
     replace h1 := iteT h1 hb16
     refine awp_sr2 120 [4] (fun _ => none) rfl (fun _ _ => rS (rA he14a (rA he14b he14c))) ?_
     refine awp_ret ?_
     obtain rfl := Option.some.inj h1
     refine kr_block ?_
     refine kr_then ?_
     refine kr_then ?_
     refine kr_loop ?_
     refine kr_then ?_
     obtain rfl := Option.some.inj h0
     refine leave_retG [] ?_
     simp (maxSteps := 1000000) only [↓reduceIte, reduceCtorEq, Nat.reduceEqDiff, Nat.reduceLT, Nat.reduceLeDiff, Nat.reduceAdd, Nat.reduceMul, Int.reduceToNat, push_cast, Gives, he14a, he14b, he14c]
     all_goals exact rH
    ·
     replace h1 := iteF h1 hb16
     refine awp_skip ?_
     refine kn_block ?_
     refine kn_then ?_
     refine awp_r2 120 [0, 1, 7, 8] (fun _ => none) rfl (fun _ _ => rS (rA he14a (rA he14b he14c))) ?_
     refine kn_then ?_
     exact ⟨⟨(fu, (IntKind.i64.wrap (v12 + 1))), h1⟩, ⟨rF, rE, rfl, rfl, trivial, trivial⟩, Nat.lt_succ_self _⟩
   ·
    replace h1 := iteF h1 hb13
    refine awp_exit ?_
    refine kx_then ?_
    refine kx_then ?_
    refine kx_done ?_
    obtain rfl := Option.some.inj h1
    exact ⟨_, rfl, Nat.le_of_ble_eq_true rfl, ⟨rF, rE, rfl, rfl, trivial, trivial⟩⟩
end Go.T
end
section
namespace Go.T
open Go Go.AM Go.Proofs
set_option maxRecDepth 100000
set_option maxHeartbeats 4000000
set_option linter.unusedVariables false
theorem c_slices_ContainsFunc_apiLsKey {fu : Nat} {vs1 : List TApiLsKey} {r : Bool} (h0 : slices_ContainsFunc_apiLsKey fu vs1 = some r) : PCall Try.prog 108 [.psl 2 (vs1.map TApiLsKey.enc), .fn 109 [] []] (.bool r) [] := by
 refine awp_pcall Try.func108 rfl (by decide) (Nat.le_of_ble_eq_true rfl) ?_
 dsimp only [Try.f108]
 rw [slices_ContainsFunc_apiLsKey] at h0
 refine (show AWP _ _ _ _ ⟨enumFr 0 _, [], 0, []⟩ from ?_)
 refine awp_sr2 8 [0, 1] (fun _ => none) rfl (fun _ _ => rT) ?_
 obtain ⟨vr2, hvr2, h0⟩ := bindS h0
 refine awp_sr2 48 [4] (fun | 2 => some (.int .i64 vr2, []) | _ => none) rfl (fun _ _ => rC (c_slices_IndexFunc_apiLsKey hvr2)) ?_
 refine awp_ret ?_
 obtain rfl := Option.some.inj h0
 refine leave_retG [] ?_
 exact rG
end Go.T
end
section
namespace Go.T
open Go Go.AM Go.Proofs
set_option maxRecDepth 100000
set_option maxHeartbeats 4000000
set_option linter.unusedVariables false
theorem c_loser_check {fu : Nat} {keys1 : List TApiLsKey} {r : Int} (h0 : loser_check fu keys1 = some r) : PCall Try.prog 103 [.psl 2 (keys1.map TApiLsKey.enc)] (.int .i64 r) [] := by
 refine awp_pcall Try.func103 rfl (by decide) (Nat.le_of_ble_eq_true rfl) ?_
 dsimp only [Try.f103]
 rw [loser_check] at h0
 refine (show AWP _ _ _ _ ⟨enumFr 0 _, [], 0, []⟩ from ?_)
 refine awp_sr2 8 [0] (fun _ => none) rfl (fun _ _ => rT) ?_
 refine awp_seq ?_
 refine awp_block ?_
 refine awp_sr2 40 [0, 3] (fun _ => none) rfl (fun _ _ => rT) ?_
 refine awp_if rfl (fun hb2 => ?_) (fun hb2 => ?_)
 ·
  replace h0 := iteT h0 hb2
  refine awp_sr2 48 [2] (fun _ => none) rfl (fun _ _ => rT) ?_
  refine awp_ret ?_
  refine kr_block ?_
  refine kr_then ?_
  obtain rfl := Option.some.inj h0
  refine leave_retG [] ?_
  exact rG
 ·
  replace h0 := iteF h0 hb2
  refine awp_sr2 72 [0, 7] (fun _ => none) rfl (fun _ _ => rT) ?_
  refine awp_if rfl (fun hb3 => ?_) (fun hb3 => ?_)
  ·
   replace h0 := iteT h0 hb3
   refine awp_sr2 80 [2] (fun _ => none) rfl (fun _ _ => rT) ?_
   refine awp_ret ?_
   refine kr_block ?_
   refine kr_then ?_
   obtain rfl := Option.some.inj h0
   refine leave_retG [] ?_
   exact rG
  ·
   replace h0 := iteF h0 hb3
   obtain ⟨vr4, hvr4, h0⟩ := bindS h0
   refine awp_sr2 96 [11] (fun | 1 => some (.bool vr4, []) | _ => none) rfl (fun _ _ => rC (c_slices_ContainsFunc_apiLsKey hvr4)) ?_
   refine awp_if rfl (fun hb5 => ?_) (fun hb5 => ?_)
   ·
    replace h0 := iteT h0 hb5
    refine awp_sr2 104 [2] (fun _ => none) rfl (fun _ _ => rT) ?_
    refine awp_ret ?_
    refine kr_block ?_
    refine kr_then ?_
    obtain rfl := Option.some.inj h0
    refine leave_retG [] ?_
    exact rG
   ·
    replace h0 := iteF h0 hb5
    refine awp_skip ?_
    refine kn_block ?_
    refine kn_then ?_
    refine awp_sr2 104 [2] (fun _ => none) rfl (fun _ _ => rT) ?_
    refine awp_ret ?_
    obtain rfl := Option.some.inj h0
    refine leave_retG [] ?_
    exact rG
end Go.T
end
section
namespace Go.T
open Go Go.AM Go.Proofs
set_option maxRecDepth 100000
set_option maxHeartbeats 4000000
set_option linter.unusedVariables false
theorem c_loser_judge {fu : Nat} {keys1 : List TApiLsKey} {r : List TApiLsKey} (h0 : loser_judge fu keys1 = some r) : PCall Try.prog 107 [.psl 2 (keys1.map TApiLsKey.enc)] (.fn 110 [] [.pp [.psl 2 (r.map TApiLsKey.enc)]]) [] := by
 refine awp_pcall Try.func107 rfl (by decide) (Nat.le_of_ble_eq_true rfl) ?_
 dsimp only [Try.f107]
 rw [loser_judge] at h0
 refine (show AWP _ _ _ _ ⟨enumFr 0 _, [], 0, []⟩ from ?_)
 refine awp_sr2 16 [1] (fun _ => none) rfl (fun _ _ => rT) ?_
 refine awp_sr2 32 [2] (fun _ => none) rfl (fun _ _ => rT) ?_
 refine awp_ret ?_
 obtain rfl := Option.some.inj h0
 refine leave_retG [] ?_
 exact rG
end Go.T
end
section
namespace Go.T
open Go Go.AM Go.Proofs
set_option maxRecDepth 100000
set_option maxHeartbeats 4000000
set_option linter.unusedVariables false
theorem c_slices_Clone_apiLsKey {fu : Nat} {vs1 : List TApiLsKey} {r : List TApiLsKey} (h0 : slices_Clone_apiLsKey fu vs1 = some r) : PCall Try.prog 106 [.psl 2 (vs1.map TApiLsKey.enc)] (.psl 2 (r.map TApiLsKey.enc)) [] := by
 refine awp_pcall Try.func106 rfl (by decide) (Nat.le_of_ble_eq_true rfl) ?_
 dsimp only [Try.f106]
 rw [slices_Clone_apiLsKey] at h0
 refine (show AWP _ _ _ _ ⟨enumFr 0 _, [], 0, []⟩ from ?_)
 refine awp_sr2 8 [0] (fun _ => none) rfl (fun _ _ => rT) ?_
 refine awp_seq ?_
 cases hb2 : vs1.isEmpty with
 | true =>
  replace h0 := iteT h0 hb2
  obtain rfl : vs1 = [] := List.isEmpty_iff.1 hb2
  refine awp_sr2 24 [0, 4] (fun _ => none) rfl (fun _ _ => rT) ?_
  refine awp_cond_any rfl ?_ ?_
  ·
   skip
   refine awp_sr2 32 [2] (fun _ => none) rfl (fun _ _ => rT) ?_
   refine awp_ret ?_
   refine kr_then ?_
   obtain rfl := Option.some.inj h0
   refine leave_retG [] ?_
   exact rG
  ·
   skip
   refine awp_skip ?_
   refine kn_then ?_
   refine awp_sr2 56 [2] (fun _ => none) rfl (fun _ _ => rT) ?_
   refine awp_re (s2 := ⟨[(2, .sl 24 1 2 0 0)], [(24, ⟨1, true, true, 2, List.map TApiLsKey.enc []⟩)], 56, []⟩) [] (Nat.le_of_ble_eq_true rfl) ⟨rF, rE, rfl, rfl, trivial, trivial⟩ ?_
   refine awp_ret ?_
   obtain rfl := Option.some.inj h0
   refine leave_retG [] ?_
   exact rG
 | false =>
  replace h0 := iteF h0 hb2
  refine awp_sr2 24 [0, 4] (fun _ => none) rfl (fun _ _ => rS hb2) ?_
  refine awp_condF rfl ?_
  refine awp_skip ?_
  refine kn_then ?_
  obtain ⟨hc3, h0⟩ := guS h0
  refine awp_sr2 56 [2] (fun _ => none) rfl (fun _ _ => rS hb2) ?_
  refine awp_re (s2 := ⟨[(2, .sl 24 1 2 0 vs1.length)], [(24, ⟨1, true, true, 2, List.map TApiLsKey.enc vs1⟩)], 56, []⟩) [] (Nat.le_of_ble_eq_true rfl) ⟨rF, rE, rfl, rfl, trivial, trivial⟩ ?_
  refine awp_ret ?_
  obtain rfl := Option.some.inj h0
  refine leave_retG [] ?_
  simp (maxSteps := 1000000) only [↓reduceIte, reduceCtorEq, Nat.reduceEqDiff, Nat.reduceLT, Nat.reduceLeDiff, Nat.reduceAdd, Nat.reduceMul, Int.reduceToNat, push_cast, Gives, hb2]
  all_goals exact rH
end Go.T
end
section
namespace Go.T
open Go Go.AM Go.Proofs
set_option maxRecDepth 100000
set_option maxHeartbeats 4000000
set_option linter.unusedVariables false
theorem c_loser_judge_1 {fu : Nat} {p1 : Int} {q2 : Int} {p3 : List TApiLsKey} {r : Bool} (h0 : loser_judge_1 fu p1 q2 p3 = some r) : PCall Try.prog 110 [.int .i64 p1, .int .i64 q2, .pp [.psl 2 (p3.map TApiLsKey.enc)]] (.bool r) [] := by
 refine awp_pcall Try.func110 rfl (by decide) (Nat.le_of_ble_eq_true rfl) ?_
 dsimp only [Try.f110]
 rw [loser_judge_1] at h0
 refine (show AWP _ _ _ _ ⟨enumFr 0 _, [], 0, []⟩ from ?_)
 refine awp_sr2 8 [0, 1, 2] (fun _ => none) rfl (fun _ _ => rT) ?_
 obtain ⟨e4, he4, h0⟩ := bindS h0
 obtain ⟨he4a, he4b, he4c⟩ := idxS he4
 obtain ⟨e5, he5, h0⟩ := bindS h0
 obtain ⟨he5a, he5b, he5c⟩ := idxS he5
 refine awp_sd2 104 [0, 1, 6, 7] (fun _ => none) rfl rfl rfl (fun _ _ => rSd (rA he4a (rA he4b (rA he4c (rA he5a (rA he5b he5c)))))) ?_
 refine awp_seq ?_
 refine awp_block ?_
 refine awp_sr2 152 [0, 1, 6, 7, 16] (fun _ => none) rfl (fun _ _ => rS (rA he4a (rA he4b (rA he4c (rA he5a (rA he5b he5c)))))) ?_
 refine awp_if rfl (fun hb6 => ?_) (fun hb6 => ?_)
 ·
  replace h0 := iteT h0 hb6
  refine awp_sr2 176 [5] (fun _ => none) rfl (fun _ _ => rS (rA he4a (rA he4b (rA he4c (rA he5a (rA he5b he5c)))))) ?_
  refine awp_ret ?_
  refine kr_block ?_
  refine kr_then ?_
  obtain rfl := Option.some.inj h0
  refine leave_retG [] ?_
  simp (maxSteps := 1000000) only [↓reduceIte, reduceCtorEq, Nat.reduceEqDiff, Nat.reduceLT, Nat.reduceLeDiff, Nat.reduceAdd, Nat.reduceMul, Int.reduceToNat, push_cast, Gives, he4a, he4b, he4c, he5a, he5b, he5c]
  all_goals exact rH
 ·
  replace h0 := iteF h0 hb6
  refine awp_sr2 200 [0, 1, 6, 7, 24] (fun _ => none) rfl (fun _ _ => rS (rA he4a (rA he4b (rA he4c (rA he5a (rA he5b he5c)))))) ?_
  refine awp_if rfl (fun hb7 => ?_) (fun hb7 => ?_)
  ·
   replace h0 := iteT h0 hb7
   refine awp_sr2 248 [5] (fun _ => none) rfl (fun _ _ => rS (rA he4a (rA he4b (rA he4c (rA he5a (rA he5b he5c)))))) ?_
   refine awp_ret ?_
   refine kr_block ?_
   refine kr_then ?_
   obtain rfl := Option.some.inj h0
   refine leave_retG [] ?_
   simp (maxSteps := 1000000) only [↓reduceIte, reduceCtorEq, Nat.reduceEqDiff, Nat.reduceLT, Nat.reduceLeDiff, Nat.reduceAdd, Nat.reduceMul, Int.reduceToNat, push_cast, Gives, he4a, he4b, he4c, he5a, he5b, he5c]
   all_goals exact rH
  ·
   replace h0 := iteF h0 hb7
   refine awp_skip ?_
   refine kn_block ?_
   refine kn_then ?_
   refine awp_sr2 232 [5] (fun _ => none) rfl (fun _ _ => rS (rA he4a (rA he4b (rA he4c (rA he5a (rA he5b he5c)))))) ?_
   refine awp_ret ?_
   obtain rfl := Option.some.inj h0
   refine leave_retG [] ?_
   simp (maxSteps := 1000000) only [↓reduceIte, reduceCtorEq, Nat.reduceEqDiff, Nat.reduceLT, Nat.reduceLeDiff, Nat.reduceAdd, Nat.reduceMul, Int.reduceToNat, push_cast, Gives, he4a, he4b, he4c, he5a, he5b, he5c]
   all_goals exact rH
end Go.T
end
section
namespace Go.T
open Go Go.AM Go.Proofs
set_option maxRecDepth 100000
set_option maxHeartbeats 4000000
set_option linter.unusedVariables false
theorem c_loser_play {fu : Nat} {keys1 : List TApiLsKey} {r : TApiLsTree} (h0 : loser_play fu keys1 = some r) : PCall Try.prog 104 [.psl 2 (keys1.map TApiLsKey.enc)] (.agg (TApiLsTree.enc r)) [] := by
 refine awp_pcall Try.func104 rfl (by decide) (Nat.le_of_ble_eq_true rfl) ?_
 dsimp only [Try.f104]
 rw [loser_play] at h0
 refine (show AWP _ _ _ _ ⟨enumFr 0 _, [], 0, []⟩ from ?_)
 refine awp_sr2 8 [0, 2] (fun _ => none) rfl (fun _ _ => rT) ?_
 refine awp_sr2 32 [0, 2, 3] (fun _ => none) rfl (fun _ _ => rT) ?_
 obtain ⟨vr2, hvr2, h0⟩ := bindS h0
 refine awp_sr2 56 [0, 2, 3, 4] (fun | 1 => some (.fn 110 [] [.pp [.psl 2 (vr2.map TApiLsKey.enc)]], []) | _ => none) rfl (fun _ _ => rC (c_loser_judge hvr2)) ?_
 obtain ⟨hc3, h0⟩ := guS h0
 refine awp_sr2 88 [0, 2, 3, 4, 5] (fun _ => none) rfl (fun _ _ => rT) ?_
 refine awp_re (s2 := ⟨[(0, .psl 2 (List.map TApiLsKey.enc keys1)), (2, .ref 0 0 0 0), (3, .int .i64 (keys1.length : Int)), (4, .fn 110 [] [.pp [.psl 2 (List.map TApiLsKey.enc vr2)]]), (5, .sl 72 0 1 0 ((List.replicate (IntKind.i64.wrap (2 * (keys1.length : Int))).toNat 0 : List Int).length))], [(0, ⟨0, true, true, 3, [[.nils, .nils, .int .i64 0]]⟩), (72, ⟨0, true, true, 1, List.map (encInt .i64) (List.replicate (IntKind.i64.wrap (2 * (keys1.length : Int))).toNat 0 : List Int)⟩)], 88, []⟩) [] (Nat.le_of_ble_eq_true rfl) ⟨rF, rE, rfl, rfl, trivial, trivial⟩ ?_
 obtain ⟨vr4, hvr4, h0⟩ := bindS h0
 obtain ⟨hc5, h0⟩ := guS h0
 refine awp_sd2 144 [2, 3, 4, 5, 6] (fun | 1 => some (.psl 2 (vr4.map TApiLsKey.enc), []) | _ => none) rfl rfl rfl (fun _ _ => rCd (c_slices_Clone_apiLsKey hvr4)) ?_
 refine awp_re (s2 := ⟨[(2, .ref 0 0 0 0), (3, .int .i64 (keys1.length : Int)), (4, .fn 110 [] [.pp [.psl 2 (List.map TApiLsKey.enc vr2)]]), (5, .sl 72 0 1 0 ((List.replicate (IntKind.i64.wrap (2 * (keys1.length : Int))).toNat 0 : List Int).length)), (6, .ref 128 0 0 0)], [(0, ⟨0, true, true, 3, [[.nils, .nils, .int .i64 0]]⟩), (72, ⟨0, true, true, 1, List.map (encInt .i64) (List.replicate (IntKind.i64.wrap (2 * (keys1.length : Int))).toNat 0 : List Int)⟩), (112, ⟨0, true, true, 1, List.map (encInt .i64) (List.replicate keys1.length 0 : List Int)⟩), (128, ⟨0, true, false, 3, [[.psl 2 (List.map TApiLsKey.enc vr4), .sl 112 0 1 0 ((List.replicate keys1.length 0 : List Int).length), .int .i64 0]]⟩)], 144, []⟩) [] (Nat.le_of_ble_eq_true rfl) ⟨rF, rE, rfl, rfl, trivial, trivial⟩ ?_
 refine awp_seq ?_
 refine awp_sr2 176 [2, 3, 4, 5, 6, 7] (fun _ => none) rfl (fun _ _ => rT) ?_
 obtain ⟨x33, hxx33, h0⟩ := bindS h0
 refine awp_bloop (fun s' => ∃ g50 : Nat, ∃ g51 : Nat, s'.nx ≤ 192 ∧ LeN [] s' ⟨[(2, .ref 0 0 0 0), (5, .sl 72 g50 1 0 x33.1.length), (6, .ref 128 0 0 0)], [(0, ⟨0, true, true, 3, [[.nils, .nils, .int .i64 0]]⟩), (72, ⟨g50, true, true, 1, List.map (encInt .i64) x33.1⟩), (112, ⟨g51, true, true, 1, List.map (encInt .i64) x33.2⟩), (128, ⟨0, true, false, 3, [[.psl 2 (List.map TApiLsKey.enc vr4), .sl 112 g51 1 0 x33.2.length, .int .i64 0]]⟩)], 192, []⟩) ?_ ?_
 ·
  intro s' hs
  obtain ⟨g50, g51, hn, hs⟩ := hs
  refine kn_then ?_
  refine awp_re [] hn hs ?_
  obtain ⟨e52, he52, h0⟩ := bindS h0
  have he52b := (idxS he52).2.1
  have he52c := (idxL 1 he52 rfl).1
  have he52a := (idxL 1 he52 rfl).2
  refine awp_sr2 232 [2, 6] (fun _ => none) rfl (fun _ _ => rS (rA he52a (rA he52b he52c))) ?_
  refine awp_sr2 248 [2] (fun _ => none) rfl (fun _ _ => rS (rA he52a (rA he52b he52c))) ?_
  refine awp_ret ?_
  obtain rfl := Option.some.inj h0
  refine leave_retG [] ?_
  simp (maxSteps := 1000000) only [↓reduceIte, reduceCtorEq, Nat.reduceEqDiff, Nat.reduceLT, Nat.reduceLeDiff, Nat.reduceAdd, Nat.reduceMul, Int.reduceToNat, push_cast, Gives, he52a, he52b, he52c]
  all_goals exact rH
 ·
  refine awp_loopF (ι := { p : Nat × Int × List Int × List Int × Nat × Nat // loser_play_l1 keys1 vr2 p.1 p.2.1 p.2.2.1 p.2.2.2.1 = some x33 }) (fun p => ⟨[(2, .ref 0 0 0 0), (3, .int .i64 (keys1.length : Int)), (4, .fn 110 [] [.pp [.psl 2 (List.map TApiLsKey.enc vr2)]]), (5, .sl 72 p.1.2.2.2.2.1 1 0 p.1.2.2.1.length), (6, .ref 128 0 0 0), (7, .int .i64 p.1.2.1)], [(0, ⟨0, true, true, 3, [[.nils, .nils, .int .i64 0]]⟩), (72, ⟨p.1.2.2.2.2.1, true, true, 1, List.map (encInt .i64) p.1.2.2.1⟩), (112, ⟨p.1.2.2.2.2.2, true, true, 1, List.map (encInt .i64) p.1.2.2.2.1⟩), (128, ⟨0, true, false, 3, [[.psl 2 (List.map TApiLsKey.enc vr4), .sl 112 p.1.2.2.2.2.2 1 0 p.1.2.2.2.1.length, .int .i64 0]]⟩)], 176, []⟩) (fun p => p.1.1) ⟨(fu, (IntKind.i64.wrap ((IntKind.i64.wrap (2 * (keys1.length : Int))) - 1)), (List.replicate (IntKind.i64.wrap (2 * (keys1.length : Int))).toNat 0 : List Int), (List.replicate keys1.length 0 : List Int), 0, 0), hxx33⟩ ⟨rF, rE, rfl, rfl, trivial, trivial⟩ (fun _ => Nat.le_refl _) ?_
  rintro ⟨⟨fu, i34, players35, v36, g37, g38⟩, h1⟩
  cases fu with
  | zero =>
   replace h1 : loser_play_l1 keys1 vr2 0 i34 players35 v36 = some x33 := h1
   rw [loser_play_l1] at h1; cases h1
  | succ fu =>
   replace h1 : loser_play_l1 keys1 vr2 (fu + 1) i34 players35 v36 = some x33 := h1
   rw [loser_play_l1] at h1
   refine (show AWP _ _ _ _ ⟨[(2, .ref 0 0 0 0), (3, .int .i64 (keys1.length : Int)), (4, .fn 110 [] [.pp [.psl 2 (List.map TApiLsKey.enc vr2)]]), (5, .sl 72 g37 1 0 players35.length), (6, .ref 128 0 0 0), (7, .int .i64 i34)], [(0, ⟨0, true, true, 3, [[.nils, .nils, .int .i64 0]]⟩), (72, ⟨g37, true, true, 1, List.map (encInt .i64) players35⟩), (112, ⟨g38, true, true, 1, List.map (encInt .i64) v36⟩), (128, ⟨0, true, false, 3, [[.psl 2 (List.map TApiLsKey.enc vr4), .sl 112 g38 1 0 v36.length, .int .i64 0]]⟩)], 176, []⟩ from ?_)
   refine awp_seq ?_
   refine awp_sr2 192 [2, 3, 4, 5, 6, 7, 26] (fun _ => none) rfl (fun _ _ => rT) ?_
   refine awp_if rfl (fun hb39 => ?_) (fun hb39 => ?_)
   ·
    replace h1 := iteT h1 hb39
    refine awp_skip ?_
    refine kn_then ?_
    refine awp_seq ?_
    refine awp_block ?_
    refine awp_seq ?_
    refine awp_sr2 216 [2, 3, 4, 5, 6, 7, 31] (fun _ => none) rfl (fun _ _ => rT) ?_
    refine awp_if rfl (fun hb40 => ?_) (fun hb40 => ?_)
    ·
     replace h1 := iteT h1 hb40
     obtain ⟨e41, he41, h1⟩ := bindS h1
     obtain ⟨he41a, he41b, he41c⟩ := idxS he41
     refine awp_sr2 272 [2, 3, 4, 5, 6, 7] (fun _ => none) rfl (fun _ _ => rS (rA he41a (rA he41b he41c))) ?_
     refine awp_re (s2 := ⟨[(2, .ref 0 0 0 0), (3, .int .i64 (keys1.length : Int)), (4, .fn 110 [] [.pp [.psl 2 (List.map TApiLsKey.enc vr2)]]), (5, .sl 72 g37 1 0 ((players35.set i34.toNat (IntKind.i64.wrap (i34 - (keys1.length : Int)))).length)), (6, .ref 128 0 0 0), (7, .int .i64 i34)], [(0, ⟨0, true, true, 3, [[.nils, .nils, .int .i64 0]]⟩), (72, ⟨g37, true, true, 1, List.map (encInt .i64) (players35.set i34.toNat (IntKind.i64.wrap (i34 - (keys1.length : Int))))⟩), (112, ⟨g38, true, true, 1, List.map (encInt .i64) v36⟩), (128, ⟨0, true, false, 3, [[.psl 2 (List.map TApiLsKey.enc vr4), .sl 112 g38 1 0 v36.length, .int .i64 0]]⟩)], 272, []⟩) [] (Nat.le_of_ble_eq_true rfl) ⟨rF, rE, rfl, rfl, trivial, trivial⟩ ?_
     refine awp_exit ?_
     refine kx_then ?_
     refine kx_same ?_
     refine kn_then ?_
     refine awp_r2 296 [2, 3, 4, 5, 6, 7] (fun _ => none) rfl (fun _ _ => rS (rA he41a (rA he41b he41c))) ?_
     refine kn_then ?_
     exact ⟨⟨(fu, (IntKind.i64.wrap (i34 - 1)), (players35.set i34.toNat (IntKind.i64.wrap (i34 - (keys1.length : Int)))), v36, g37, g38), h1⟩, ⟨rF, rE, rfl, rfl, trivial, trivial⟩, Nat.lt_succ_self _⟩
    ·
     replace h1 := iteF h1 hb40
     refine awp_skip ?_
     refine kn_then ?_
     obtain ⟨e42, he42, h1⟩ := bindS h1
     obtain ⟨he42a, he42b, he42c⟩ := idxS he42
     obtain ⟨e43, he43, h1⟩ := bindS h1
     obtain ⟨he43a, he43b, he43c⟩ := idxS he43
     refine awp_sd2 320 [2, 3, 4, 5, 6, 7, 8, 9] (fun _ => none) rfl rfl rfl (fun _ _ => rSd (rA he42a (rA he42b (rA he42c (rA he43a (rA he43b he43c)))))) ?_
     refine awp_seq ?_
     obtain ⟨vr44, hvr44, h1⟩ := bindS h1
     refine awp_sr2 360 [2, 3, 4, 5, 6, 7, 8, 9, 53] (fun | 3 => some (.bool vr44, []) | _ => none) rfl (fun _ _ => rB (rA he42a (rA he42b (rA he42c (rA he43a (rA he43b he43c))))) (c_loser_judge_1 hvr44)) ?_
     refine awp_if rfl (fun hb45 => ?_) (fun hb45 => ?_)
     ·
      replace h1 := iteT h1 hb45
      refine awp_r2 392 [2, 3, 4, 5, 6, 7, 8, 9] (fun _ => none) rfl (fun _ _ => rS (rA he42a (rA he42b (rA he42c (rA he43a (rA he43b he43c)))))) ?_
      refine kn_then ?_
      obtain ⟨e46, he46, h1⟩ := bindS h1
      obtain ⟨he46a, he46b, he46c⟩ := idxS he46
      obtain ⟨e47, he47, h1⟩ := bindS h1
      obtain ⟨he47a, he47b, he47c⟩ := idxS he47
      refine awp_d2 480 [2, 3, 4, 5, 6, 7] (fun _ => none) rfl rfl rfl (fun _ _ => rSd (rA he42a (rA he42b (rA he42c (rA he43a (rA he43b (rA he43c (rA he46a (rA he46b (rA he46c (rA he47a (rA he47b he47c)))))))))))) ?_
      refine kn_block ?_
      refine kn_then ?_
      refine awp_re (s2 := ⟨[(2, .ref 0 0 0 0), (3, .int .i64 (keys1.length : Int)), (4, .fn 110 [] [.pp [.psl 2 (List.map TApiLsKey.enc vr2)]]), (5, .sl 72 g37 1 0 ((players35.set i34.toNat e43).length)), (6, .ref 128 0 0 0), (7, .int .i64 i34)], [(0, ⟨0, true, true, 3, [[.nils, .nils, .int .i64 0]]⟩), (72, ⟨g37, true, true, 1, List.map (encInt .i64) (players35.set i34.toNat e43)⟩), (112, ⟨g38, true, true, 1, List.map (encInt .i64) (v36.set i34.toNat e42)⟩), (128, ⟨0, true, false, 3, [[.psl 2 (List.map TApiLsKey.enc vr4), .sl 112 g38 1 0 ((v36.set i34.toNat e42).length), .int .i64 0]]⟩)], 480, []⟩) [] (Nat.le_of_ble_eq_true rfl) ⟨rF, rE, rfl, rfl, trivial, trivial⟩ ?_
      refine awp_r2 504 [2, 3, 4, 5, 6, 7] (fun _ => none) rfl (fun _ _ => rS (rA he42a (rA he42b (rA he42c (rA he43a (rA he43b (rA he43c (rA he46a (rA he46b (rA he46c (rA he47a (rA he47b he47c)))))))))))) ?_
      refine kn_then ?_
      exact ⟨⟨(fu, (IntKind.i64.wrap (i34 - 1)), (players35.set i34.toNat e43), (v36.set i34.toNat e42), g37, g38), h1⟩, ⟨rF, rE, rfl, rfl, trivial, trivial⟩, Nat.lt_succ_self _⟩
     ·
      replace h1 := iteF h1 hb45
      refine awp_skip ?_
      refine kn_then ?_
      obtain ⟨e48, he48, h1⟩ := bindS h1
      obtain ⟨he48a, he48b, he48c⟩ := idxS he48
      obtain ⟨e49, he49, h1⟩ := bindS h1
      obtain ⟨he49a, he49b, he49c⟩ := idxS he49
      refine awp_d2 448 [2, 3, 4, 5, 6, 7] (fun _ => none) rfl rfl rfl (fun _ _ => rSd (rA he42a (rA he42b (rA he42c (rA he43a (rA he43b (rA he43c (rA he48a (rA he48b (rA he48c (rA he49a (rA he49b he49c)))))))))))) ?_
      refine kn_block ?_
      refine kn_then ?_
      refine awp_re (s2 := ⟨[(2, .ref 0 0 0 0), (3, .int .i64 (keys1.length : Int)), (4, .fn 110 [] [.pp [.psl 2 (List.map TApiLsKey.enc vr2)]]), (5, .sl 72 g37 1 0 ((players35.set i34.toNat e42).length)), (6, .ref 128 0 0 0), (7, .int .i64 i34)], [(0, ⟨0, true, true, 3, [[.nils, .nils, .int .i64 0]]⟩), (72, ⟨g37, true, true, 1, List.map (encInt .i64) (players35.set i34.toNat e42)⟩), (112, ⟨g38, true, true, 1, List.map (encInt .i64) (v36.set i34.toNat e43)⟩), (128, ⟨0, true, false, 3, [[.psl 2 (List.map TApiLsKey.enc vr4), .sl 112 g38 1 0 ((v36.set i34.toNat e43).length), .int .i64 0]]⟩)], 448, []⟩) [] (Nat.le_of_ble_eq_true rfl) ⟨rF, rE, rfl, rfl, trivial, trivial⟩ ?_
      refine awp_r2 472 [2, 3, 4, 5, 6, 7] (fun _ => none) rfl (fun _ _ => rS (rA he42a (rA he42b (rA he42c (rA he43a (rA he43b (rA he43c (rA he48a (rA he48b (rA he48c (rA he49a (rA he49b he49c)))))))))))) ?_
      refine kn_then ?_
      exact ⟨⟨(fu, (IntKind.i64.wrap (i34 - 1)), (players35.set i34.toNat e42), (v36.set i34.toNat e43), g37, g38), h1⟩, ⟨rF, rE, rfl, rfl, trivial, trivial⟩, Nat.lt_succ_self _⟩
   ·
    replace h1 := iteF h1 hb39
    refine awp_exit ?_
    refine kx_then ?_
    refine kx_then ?_
    refine kx_done ?_
    obtain rfl := Option.some.inj h1
    exact ⟨g37, g38, Nat.le_of_ble_eq_true rfl, ⟨rF, rE, rfl, rfl, trivial, trivial⟩⟩
end Go.T
end
section
namespace Go.T
open Go Go.AM Go.Proofs
set_option maxRecDepth 100000
set_option maxHeartbeats 4000000
set_option linter.unusedVariables false
theorem c_loser_Build {fu : Nat} {keys1 : List TApiLsKey} {r : TApiLsTree × Int} (h0 : loser_Build fu keys1 = some r) : PCall Try.prog 94 [.psl 2 (keys1.map TApiLsKey.enc)] (.tup [.agg (TApiLsTree.enc r.1), .int .i64 r.2]) [] := by
 refine awp_pcall Try.func94 rfl (by decide) (Nat.le_of_ble_eq_true rfl) ?_
 dsimp only [Try.f94]
 rw [loser_Build] at h0
 refine (show AWP _ _ _ _ ⟨enumFr 0 _, [], 0, []⟩ from ?_)
 refine awp_sr2 16 [0, 2] (fun _ => none) rfl (fun _ _ => rT) ?_
 refine awp_seq ?_
 obtain ⟨vr2, hvr2, h0⟩ := bindS h0
 refine awp_sr2 40 [0, 2, 4] (fun | 1 => some (.int .i64 vr2, []) | _ => none) rfl (fun _ _ => rC (c_loser_check hvr2)) ?_
 refine awp_sr2 56 [0, 2, 4, 8] (fun _ => none) rfl (fun _ _ => rT) ?_
 refine awp_if rfl (fun hb3 => ?_) (fun hb3 => ?_)
 ·
  replace h0 := iteT h0 hb3
  refine awp_sr2 88 [2, 3] (fun _ => none) rfl (fun _ _ => rT) ?_
  refine awp_ret ?_
  refine kr_then ?_
  obtain rfl := Option.some.inj h0
  refine leave_retG [] ?_
  exact rG
 ·
  replace h0 := iteF h0 hb3
  refine awp_skip ?_
  refine kn_then ?_
  obtain ⟨vr4, hvr4, h0⟩ := bindS h0
  refine awp_sr2 88 [2, 3] (fun | 1 => some (.agg (TApiLsTree.enc vr4), []) | _ => none) rfl (fun _ _ => rC (c_loser_play hvr4)) ?_
  refine awp_ret ?_
  obtain rfl := Option.some.inj h0
  refine leave_retG [] ?_
  exact rG
end Go.T
end
section
namespace Go.T
open Go Go.AM Go.Proofs
set_option maxRecDepth 100000
set_option maxHeartbeats 4000000
set_option linter.unusedVariables false
theorem c_merge_tree {fu : Nat} {runs1 : List (List TApiEntry)} {vat2 : List Int} {r : TApiLsTree} (h0 : merge_tree fu runs1 vat2 = some r) : PCall Try.prog 77 [.psl 1 (runs1.map (encSl 4 TApiEntry.enc)), .psl 1 (vat2.map (encInt .i64))] (.agg (TApiLsTree.enc r)) [] := by
 refine awp_pcall Try.func77 rfl (by decide) (Nat.le_of_ble_eq_true rfl) ?_
 dsimp only [Try.f77]
 rw [merge_tree] at h0
 refine (show AWP _ _ _ _ ⟨enumFr 0 _, [], 0, []⟩ from ?_)
 refine awp_sr2 8 [0, 1, 4] (fun _ => none) rfl (fun _ _ => rT) ?_
 obtain ⟨hc3, h0⟩ := guS h0
 refine awp_sr2 40 [0, 1, 4, 5] (fun _ => none) rfl (fun _ _ => rT) ?_
 refine awp_re (s2 := ⟨[(0, .psl 1 (List.map (encSl 4 TApiEntry.enc) runs1)), (1, .psl 1 (List.map (encInt .i64) vat2)), (4, .ref 0 0 0 0), (5, .sl 24 0 2 0 ((List.replicate runs1.length (TApiLsKey.mk [] false) : List TApiLsKey).length))], [(0, ⟨0, true, true, 3, [[.nils, .nils, .int .i64 0]]⟩), (24, ⟨0, true, true, 2, List.map TApiLsKey.enc (List.replicate runs1.length (TApiLsKey.mk [] false) : List TApiLsKey)⟩)], 40, []⟩) [] (Nat.le_of_ble_eq_true rfl) ⟨rF, rE, rfl, rfl, trivial, trivial⟩ ?_
 refine awp_seq ?_
 refine awp_sr2 64 [1, 4, 5, 13, 14, 15] (fun _ => none) rfl (fun _ _ => rT) ?_
 obtain ⟨x17, hxx17, h0⟩ := bindS h0
 refine awp_bloop (fun s' => ∃ g26 : Nat, s'.nx ≤ 72 ∧ LeN [] s' ⟨[(4, .ref 0 0 0 0), (5, .sl 24 g26 2 0 x17.length)], [(0, ⟨0, true, true, 3, [[.nils, .nils, .int .i64 0]]⟩), (24, ⟨g26, true, true, 2, List.map TApiLsKey.enc x17⟩)], 72, []⟩) ?_ ?_
 ·
  intro s' hs
  obtain ⟨g26, hn, hs⟩ := hs
  refine kn_then ?_
  refine awp_re [] hn hs ?_
  obtain ⟨vr27, hvr27, h0⟩ := bindS h0
  refine awp_sr2 136 [4, 8] (fun | 1 => some (.tup [.agg (TApiLsTree.enc vr27.1), .int .i64 vr27.2], []) | _ => none) rfl (fun _ _ => rC (c_loser_Build hvr27)) ?_
  refine awp_sr2 152 [4] (fun _ => none) rfl (fun _ _ => rT) ?_
  refine awp_ret ?_
  obtain rfl := Option.some.inj h0
  refine leave_retG [] ?_
  exact rG
 ·
  refine awp_loopF (ι := { p : Nat × Int × List TApiLsKey × Nat // merge_tree_l1 runs1 vat2 p.1 p.2.1 p.2.2.1 = some x17 }) (fun p => ⟨[(1, .psl 1 (List.map (encInt .i64) vat2)), (4, .ref 0 0 0 0), (5, .sl 24 p.1.2.2.2 2 0 p.1.2.2.1.length), (13, .psl 1 (List.map (encSl 4 TApiEntry.enc) runs1)), (14, .int .i64 (runs1.length : Int)), (15, .int .i64 p.1.2.1)], [(0, ⟨0, true, true, 3, [[.nils, .nils, .int .i64 0]]⟩), (24, ⟨p.1.2.2.2, true, true, 2, List.map TApiLsKey.enc p.1.2.2.1⟩)], 64, []⟩) (fun p => p.1.1) ⟨(fu, 0, (List.replicate runs1.length (TApiLsKey.mk [] false) : List TApiLsKey), 0), hxx17⟩ ⟨rF, rE, rfl, rfl, trivial, trivial⟩ (fun _ => Nat.le_refl _) ?_
  rintro ⟨⟨fu, v18, keys19, g20⟩, h1⟩
  cases fu with
  | zero =>
   replace h1 : merge_tree_l1 runs1 vat2 0 v18 keys19 = some x17 := h1
   rw [merge_tree_l1] at h1; cases h1
  | succ fu =>
   replace h1 : merge_tree_l1 runs1 vat2 (fu + 1) v18 keys19 = some x17 := h1
   rw [merge_tree_l1] at h1
   refine (show AWP _ _ _ _ ⟨[(1, .psl 1 (List.map (encInt .i64) vat2)), (4, .ref 0 0 0 0), (5, .sl 24 g20 2 0 keys19.length), (13, .psl 1 (List.map (encSl 4 TApiEntry.enc) runs1)), (14, .int .i64 (runs1.length : Int)), (15, .int .i64 v18)], [(0, ⟨0, true, true, 3, [[.nils, .nils, .int .i64 0]]⟩), (24, ⟨g20, true, true, 2, List.map TApiLsKey.enc keys19⟩)], 64, []⟩ from ?_)
   refine awp_sr2 72 [1, 4, 5, 13, 14, 15, 16] (fun _ => none) rfl (fun _ _ => rT) ?_
   refine awp_seq ?_
   refine awp_if rfl (fun hb21 => ?_) (fun hb21 => ?_)
   ·
    replace h1 := iteT h1 hb21
    refine awp_skip ?_
    refine kn_then ?_
    refine awp_seq ?_
    refine awp_block ?_
    obtain ⟨e22, he22, h1⟩ := bindS h1
    obtain ⟨he22a, he22b, he22c⟩ := idxS he22
    refine awp_sr2 112 [1, 4, 5, 6, 7, 13, 14, 15] (fun _ => none) rfl (fun _ _ => rS (rA he22a (rA he22b he22c))) ?_
    obtain ⟨e23, he23, h1⟩ := bindS h1
    obtain ⟨he23a, he23b, he23c⟩ := idxS he23
    obtain ⟨vr24, hvr24, h1⟩ := bindS h1
    obtain ⟨e25, he25, h1⟩ := bindS h1
    obtain ⟨he25a, he25b, he25c⟩ := idxS he25
    refine awp_r2 192 [1, 4, 5, 13, 14, 15] (fun | 7 => some (.agg (TApiLsKey.enc vr24), []) | _ => none) rfl (fun _ _ => rB (rA he22a (rA he22b (rA he22c (rA he23a (rA he23b (rA he23c (rA he25a (rA he25b he25c)))))))) (c_merge_next hvr24)) ?_
    refine kn_block ?_
    refine kn_then ?_
    refine awp_re (s2 := ⟨[(1, .psl 1 (List.map (encInt .i64) vat2)), (4, .ref 0 0 0 0), (5, .sl 24 g20 2 0 ((keys19.set v18.toNat vr24).length)), (13, .psl 1 (List.map (encSl 4 TApiEntry.enc) runs1)), (14, .int .i64 (runs1.length : Int)), (15, .int .i64 v18)], [(0, ⟨0, true, true, 3, [[.nils, .nils, .int .i64 0]]⟩), (24, ⟨g20, true, true, 2, List.map TApiLsKey.enc (keys19.set v18.toNat vr24)⟩)], 192, []⟩) [] (Nat.le_of_ble_eq_true rfl) ⟨rF, rE, rfl, rfl, trivial, trivial⟩ ?_
    refine awp_r2 208 [1, 4, 5, 13, 14, 15] (fun _ => none) rfl (fun _ _ => rS (rA he22a (rA he22b (rA he22c (rA he23a (rA he23b (rA he23c (rA he25a (rA he25b he25c))))))))) ?_
    refine kn_then ?_
    exact ⟨⟨(fu, (IntKind.i64.wrap (v18 + 1)), (keys19.set v18.toNat vr24), g20), h1⟩, ⟨rF, rE, rfl, rfl, trivial, trivial⟩, Nat.lt_succ_self _⟩
   ·
    replace h1 := iteF h1 hb21
    refine awp_exit ?_
    refine kx_then ?_
    refine kx_then ?_
    refine kx_done ?_
    obtain rfl := Option.some.inj h1
    exact ⟨g20, Nat.le_of_ble_eq_true rfl, ⟨rF, rE, rfl, rfl, trivial, trivial⟩⟩
end Go.T
end
section
namespace Go.T
open Go Go.AM Go.Proofs
set_option maxRecDepth 100000
set_option maxHeartbeats 4000000
set_option linter.unusedVariables false
theorem c_merge_Begin {fu : Nat} {runs1 : List (List TApiEntry)} {r : TApiMgState × Int × Int} (h0 : merge_Begin fu runs1 = some r) : PCall Try.prog 57 [.psl 1 (runs1.map (encSl 4 TApiEntry.enc))] (.tup [.agg (TApiMgState.enc r.1), .int .i64 r.2.1, .int .i64 r.2.2]) [] := by
 refine awp_pcall Try.func57 rfl (by decide) (Nat.le_of_ble_eq_true rfl) ?_
 dsimp only [Try.f57]
 rw [merge_Begin] at h0
 refine (show AWP _ _ _ _ ⟨enumFr 0 _, [], 0, []⟩ from ?_)
 refine awp_sr2 24 [0, 2] (fun _ => none) rfl (fun _ _ => rT) ?_
 refine awp_seq ?_
 obtain ⟨vr2, hvr2, h0⟩ := bindS h0
 refine awp_sr2 80 [0, 2, 5, 6] (fun | 1 => some (.tup [.int .i64 vr2.1, .int .i64 vr2.2], []) | _ => none) rfl (fun _ _ => rC (c_merge_check hvr2)) ?_
 refine awp_sr2 96 [0, 2, 5, 6, 14] (fun _ => none) rfl (fun _ _ => rT) ?_
 refine awp_if rfl (fun hb3 => ?_) (fun hb3 => ?_)
 ·
  replace h0 := iteT h0 hb3
  refine awp_sr2 144 [2, 3, 4] (fun _ => none) rfl (fun _ _ => rT) ?_
  refine awp_ret ?_
  refine kr_then ?_
  obtain rfl := Option.some.inj h0
  refine leave_retG [] ?_
  exact rG
 ·
  replace h0 := iteF h0 hb3
  refine awp_skip ?_
  refine kn_then ?_
  obtain ⟨hc4, h0⟩ := guS h0
  refine awp_sr2 128 [0, 2, 7] (fun _ => none) rfl (fun _ _ => rT) ?_
  refine awp_re (s2 := ⟨[(0, .psl 1 (List.map (encSl 4 TApiEntry.enc) runs1)), (2, .ref 0 0 0 0), (7, .sl 112 0 1 0 ((List.replicate runs1.length 0 : List Int).length))], [(0, ⟨0, true, true, 5, [[.nils, .nils, .nils, .nils, .int .i64 0]]⟩), (112, ⟨0, true, true, 1, List.map (encInt .i64) (List.replicate runs1.length 0 : List Int)⟩)], 128, []⟩) [] (Nat.le_of_ble_eq_true rfl) ⟨rF, rE, rfl, rfl, trivial, trivial⟩ ?_
  obtain ⟨vr5, hvr5, h0⟩ := bindS h0
  obtain ⟨vr6, hvr6, h0⟩ := bindS h0
  refine awp_sr2 208 [2, 3, 4] (fun | 1 => some (.psl 1 (vr5.map (encSl 4 TApiEntry.enc)), []) | 5 => some (.agg (TApiLsTree.enc vr6), []) | _ => none) rfl (fun Kt hK => by
    try have q0 := c_slices_Clone_apiEntry hvr5
    try have q1 := c_merge_tree hvr6
    exact rT) ?_
  refine awp_ret ?_
  obtain rfl := Option.some.inj h0
  refine leave_retG [] ?_
  exact rG
end Go.T
end
section
namespace Go.T
open Go Go.AM Go.Proofs
set_option maxRecDepth 100000
set_option maxHeartbeats 4000000
set_option linter.unusedVariables false
theorem c_shadow_Begin {fu : Nat} {bottom1 : Bool} {r : TApiShState} (h0 : shadow_Begin fu bottom1 = some r) : PCall Try.prog 58 [.bool bottom1] (.agg (TApiShState.enc r)) [] := by
 refine awp_pcall Try.func58 rfl (by decide) (Nat.le_of_ble_eq_true rfl) ?_
 dsimp only [Try.f58]
 rw [shadow_Begin] at h0
 refine (show AWP _ _ _ _ ⟨enumFr 0 _, [], 0, []⟩ from ?_)
 refine awp_sr2 8 [0, 2] (fun _ => none) rfl (fun _ _ => rT) ?_
 refine awp_sr2 32 [2] (fun _ => none) rfl (fun _ _ => rT) ?_
 refine awp_ret ?_
 obtain rfl := Option.some.inj h0
 refine leave_retG [] ?_
 exact rG
end Go.T
end
section
namespace Go.T
open Go Go.AM Go.Proofs
set_option maxRecDepth 100000
set_option maxHeartbeats 4000000
set_option linter.unusedVariables false
theorem c_slices_Begin {fu : Nat} {runs1 : List (List TApiEntry)} {bottom2 : Bool} {r : TApiSlState × Int × Int} (h0 : slices_Begin fu runs1 bottom2 = some r) : PCall Try.prog 42 [.psl 1 (runs1.map (encSl 4 TApiEntry.enc)), .bool bottom2] (.tup [.agg (TApiSlState.enc r.1), .int .i64 r.2.1, .int .i64 r.2.2]) [] := by
 refine awp_pcall Try.func42 rfl (by decide) (Nat.le_of_ble_eq_true rfl) ?_
 dsimp only [Try.f42]
 rw [slices_Begin] at h0
 refine (show AWP _ _ _ _ ⟨enumFr 0 _, [], 0, []⟩ from ?_)
 refine awp_sr2 24 [0, 1, 4] (fun _ => none) rfl (fun _ _ => rT) ?_
 obtain ⟨vr3, hvr3, h0⟩ := bindS h0
 refine awp_sr2 104 [1, 4, 5, 6, 7] (fun | 1 => some (.tup [.agg (TApiMgState.enc vr3.1), .int .i64 vr3.2.1, .int .i64 vr3.2.2], []) | _ => none) rfl (fun _ _ => rC (c_merge_Begin hvr3)) ?_
 refine awp_seq ?_
 refine awp_sr2 120 [1, 4, 5, 6, 7, 15] (fun _ => none) rfl (fun _ _ => rT) ?_
 refine awp_if rfl (fun hb4 => ?_) (fun hb4 => ?_)
 ·
  replace h0 := iteT h0 hb4
  refine awp_sr2 168 [4, 5, 6] (fun _ => none) rfl (fun _ _ => rT) ?_
  refine awp_ret ?_
  refine kr_then ?_
  obtain rfl := Option.some.inj h0
  refine leave_retG [] ?_
  exact rG
 ·
  replace h0 := iteF h0 hb4
  refine awp_skip ?_
  refine kn_then ?_
  obtain ⟨vr5, hvr5, h0⟩ := bindS h0
  refine awp_sd2 176 [4, 5, 6] (fun | 2 => some (.agg (TApiShState.enc vr5), []) | _ => none) rfl rfl rfl (fun _ _ => rCd (c_shadow_Begin hvr5)) ?_
  refine awp_ret ?_
  obtain rfl := Option.some.inj h0
  refine leave_retG [] ?_
  exact rG
end Go.T
end
section
namespace Go.T
open Go Go.AM Go.Proofs
set_option maxRecDepth 100000
set_option maxHeartbeats 4000000
set_option linter.unusedVariables false
theorem c_jobs_begun {fu : Nat} {l1 : TApiLvLevels} {level2 : Int} {bottom3 : Bool} {r : TApiJbJob} (h0 : jobs_begun fu l1 level2 bottom3 = some r) : PCall Try.prog 23 [.agg (TApiLvLevels.enc l1), .int .i64 level2, .bool bottom3] (.agg (TApiJbJob.enc r)) [] := by
 refine awp_pcall Try.func23 rfl (by decide) (Nat.le_of_ble_eq_true rfl) ?_
 dsimp only [Try.f23]
 rw [jobs_begun] at h0
 refine (show AWP _ _ _ _ ⟨enumFr 0 _, [], 0, []⟩ from ?_)
 refine awp_sr2 16 [1, 2, 3, 6] (fun _ => none) rfl (fun _ _ => rT) ?_
 obtain ⟨e4, he4, h0⟩ := bindS h0
 obtain ⟨he4a, he4b, he4c⟩ := idxS he4
 refine awp_sr2 72 [1, 2, 6, 7] (fun _ => none) rfl (fun _ _ => rS (rA he4a (rA he4b he4c))) ?_
 obtain ⟨e5, he5, h0⟩ := bindS h0
 have he5b := (idxS he5).2.1
 have he5c := (idxL 1 he5 rfl).1
 have he5a := (idxL 1 he5 rfl).2
 obtain ⟨e6, he6, h0⟩ := bindS h0
 have he6b := (idxS he6).2.1
 have he6c := (idxL 0 he6 rfl).1
 have he6a := (idxL 0 he6 rfl).2
 obtain ⟨vr7, hvr7, h0⟩ := bindS h0
 refine awp_sd2 224 [1, 6, 8] (fun | 10 => some (.tup [.agg (TApiSlState.enc vr7.1), .int .i64 vr7.2.1, .int .i64 vr7.2.2], []) | _ => none) rfl rfl rfl (fun _ _ => rBd (rA he4a (rA he4b (rA he4c (rA he5a (rA he5b (rA he5c (rA he6a (rA he6b he6c)))))))) (c_slices_Begin hvr7)) ?_
 refine awp_re (s2 := ⟨[(1, .int .i64 level2), (6, .ref 8 0 0 0), (8, .ref 192 0 0 0)], [(0, ⟨0, true, true, 2, [[.int .i64 l1.B, .psl 1 (List.map TApiLvLevel.enc l1.Levels)]]⟩), (8, ⟨0, true, true, 11, [[.int .i64 0, .nils, .nils, .nils, .nils, .int .i64 0, .bool false, .str [], .bool false, .nils, .int .i64 0]]⟩), (136, ⟨0, false, true, 1, List.map (encSl 4 TApiEntry.enc) [e5.Entries, e6.Entries]⟩), (192, ⟨0, true, true, 10, [[.psl 1 (List.map (encSl 4 TApiEntry.enc) vr7.1.Merge.Runs), .psl 1 (List.map (encInt .i64) vr7.1.Merge.At), .psl 2 (List.map TApiLsKey.enc vr7.1.Merge.Tree.Keys), .psl 1 (List.map (encInt .i64) vr7.1.Merge.Tree.Lose), .int .i64 vr7.1.Merge.Tree.Win, .bool vr7.1.Shadow.Some, .str vr7.1.Shadow.Last, .bool vr7.1.Shadow.Bottom, .psl 4 (List.map TApiEntry.enc vr7.1.Out), .int .i64 vr7.1.Steps]]⟩)], 224, []⟩) [] (Nat.le_of_ble_eq_true rfl) ⟨rF, rE, rfl, rfl, trivial, trivial⟩ ?_
 refine awp_sr2 256 [6] (fun _ => none) rfl (fun _ _ => rS (rA he4a (rA he4b (rA he4c (rA he5a (rA he5b (rA he5c (rA he6a (rA he6b he6c))))))))) ?_
 refine awp_ret ?_
 obtain rfl := Option.some.inj h0
 refine leave_retG [] ?_
 simp (maxSteps := 1000000) only [↓reduceIte, reduceCtorEq, Nat.reduceEqDiff, Nat.reduceLT, Nat.reduceLeDiff, Nat.reduceAdd, Nat.reduceMul, Int.reduceToNat, push_cast, Gives, he4a, he4b, he4c, he5a, he5b, he5c, he6a, he6b, he6c]
 all_goals exact rH
end Go.T
end
section
namespace Go.T
open Go Go.AM Go.Proofs
set_option maxRecDepth 100000
set_option maxHeartbeats 4000000
set_option linter.unusedVariables false
theorem c_jobs_Of {fu : Nat} {l1 : TApiLvLevels} {r : TApiJbState × Int} (h0 : jobs_Of fu l1 = some r) : PCall Try.prog 8 [.agg (TApiLvLevels.enc l1)] (.tup [.agg (TApiJbState.enc r.1), .int .i64 r.2]) [] := by
 refine awp_pcall Try.func8 rfl (by decide) (Nat.le_of_ble_eq_true rfl) ?_
 dsimp only [Try.f8]
 rw [jobs_Of] at h0
 refine (show AWP _ _ _ _ ⟨enumFr 0 _, [], 0, []⟩ from ?_)
 refine awp_sr2 24 [1, 2, 3] (fun _ => none) rfl (fun _ _ => rT) ?_
 refine awp_seq ?_
 obtain ⟨vr2, hvr2, h0⟩ := bindS h0
 refine awp_sr2 96 [1, 2, 3, 6] (fun | 1 => some (.tup [.int .i64 vr2.1, .int .i64 vr2.2.1, .int .i64 vr2.2.2], []) | _ => none) rfl (fun _ _ => rC (c_levels_Check hvr2)) ?_
 refine awp_sr2 112 [1, 2, 3, 6, 16] (fun _ => none) rfl (fun _ _ => rT) ?_
 refine awp_if rfl (fun hb3 => ?_) (fun hb3 => ?_)
 ·
  replace h0 := iteT h0 hb3
  refine awp_sr2 144 [2, 3] (fun _ => none) rfl (fun _ _ => rT) ?_
  refine awp_ret ?_
  refine kr_then ?_
  obtain rfl := Option.some.inj h0
  refine leave_retG [] ?_
  exact rG
 ·
  replace h0 := iteF h0 hb3
  refine awp_skip ?_
  refine kn_then ?_
  obtain ⟨vr4, hvr4, h0⟩ := bindS h0
  refine awp_sd2 168 [1, 2, 3, 7] (fun | 2 => some (.int .i64 vr4, []) | _ => none) rfl rfl rfl (fun _ _ => rCd (c_jobs_greatest hvr4)) ?_
  refine awp_seq ?_
  obtain ⟨vr5, hvr5, h0⟩ := bindS h0
  refine awp_sr2 184 [1, 2, 3, 7, 25] (fun | 1 => some (.fn 41 [] [.pp [.int .i64 vr5.1, .psl 1 (vr5.2.map TApiLvLevel.enc)]], []) | _ => none) rfl (fun _ _ => rC (c_jobs_due hvr5)) ?_
  refine awp_block ?_
  refine awp_rangeV rfl Try.func41 rfl (by decide) (Nat.le_of_ble_eq_true rfl) ?_
  intro RC6 hRC6
  have stRC6 : RC6.st = .ready ∧ RC6.pend = none := by rw [hRC6]; exact ⟨rfl, rfl⟩
  have okRC6 : RCok 184 RC6 := by rw [hRC6]; exact And.intro (rR) rfl
  dsimp only [Try.f41]
  refine awp_re (s2 := ⟨[(0, .yld 184), (1, .pp [.int .i64 vr5.1, .psl 1 (List.map TApiLvLevel.enc vr5.2)])], [(0, ⟨0, true, true, 2, [[.int .i64 l1.B, .psl 1 (List.map TApiLvLevel.enc l1.Levels)]]⟩), (8, ⟨0, true, true, 4, [[.int .i64 0, .nils, .nils, .int .i64 0]]⟩), (152, ⟨0, true, true, 4, [[.int .i64 l1.B, .psl 1 (List.map TApiLvLevel.enc l1.Levels), .nils, .int .i64 (IntKind.i64.wrap (vr4 + 1))]]⟩)], 185, [(184, RC6)]⟩) [] (Nat.le_of_ble_eq_true rfl) ⟨rF, rE, rfl, rfl, (LpLe.consR (Nat.le_of_ble_eq_true rfl) rfl okRC6 (Nat.le_of_ble_eq_true rfl) trivial), trivial⟩ ?_
  refine awp_sr2 217 [0, 6, 7, 8] (fun _ => none) rfl (fun _ _ => rT) ?_
  refine awp_post ?_
  refine awp_re (s2 := ⟨[(0, .yld 184), (6, .psl 1 (List.map TApiLvLevel.enc vr5.2)), (7, .int .i64 (vr5.2.length : Int)), (8, .int .i64 0)], [(0, ⟨0, true, true, 2, [[.int .i64 l1.B, .psl 1 (List.map TApiLvLevel.enc l1.Levels)]]⟩), (8, ⟨0, true, true, 4, [[.int .i64 0, .nils, .nils, .int .i64 0]]⟩), (152, ⟨0, true, false, 4, [[.int .i64 l1.B, .psl 1 (List.map TApiLvLevel.enc l1.Levels), .sl 217 0 11 0 0, .int .i64 (IntKind.i64.wrap (vr4 + 1))]]⟩), (217, ⟨0, true, true, 11, List.map TApiJbJob.enc []⟩)], 218, [(184, RC6)]⟩) [(217, 11)] (Nat.le_of_ble_eq_true rfl) ⟨rF, rE, rfl, rfl, (LpLe.consR (Nat.le_of_ble_eq_true rfl) rfl okRC6 (Nat.le_of_ble_eq_true rfl) trivial), rN⟩ ?_
  obtain ⟨x26, hxx26, h0⟩ := bindS h0
  refine awp_bloop (fun s' => ∃ g36 : Nat, s'.nx ≤ 226 ∧ LeN [] s' ⟨[], [(0, ⟨0, true, true, 2, [[.int .i64 l1.B, .psl 1 (List.map TApiLvLevel.enc l1.Levels)]]⟩), (8, ⟨0, true, true, 4, [[.int .i64 0, .nils, .nils, .int .i64 0]]⟩), (152, ⟨0, true, false, 4, [[.int .i64 l1.B, .psl 1 (List.map TApiLvLevel.enc l1.Levels), .sl 217 g36 11 0 x26.length, .int .i64 (IntKind.i64.wrap (vr4 + 1))]]⟩), (217, ⟨g36, true, true, 11, List.map TApiJbJob.enc x26⟩)], 226, [(184, RC6)]⟩) ?_ ?_
  ·
   intro s' hs
   obtain ⟨g36, hn, hs⟩ := hs
   refine ⟨_, hn, hs, ?_⟩
   refine leave_endK (fun _ _ => rT) ?_
   refine behind_ok stRC6 rfl ?_
   refine kn_block ?_
   refine kn_then ?_
   refine awp_re (s2 := ⟨[(1, .ref 0 0 0 0), (2, .ref 8 0 0 0), (3, .int .i64 0), (7, .ref 152 0 0 0), (25, .fn 41 [] [.pp [.int .i64 vr5.1, .psl 1 (List.map TApiLvLevel.enc vr5.2)]])], [(0, ⟨0, true, true, 2, [[.int .i64 l1.B, .psl 1 (List.map TApiLvLevel.enc l1.Levels)]]⟩), (8, ⟨0, true, true, 4, [[.int .i64 0, .nils, .nils, .int .i64 0]]⟩), (152, ⟨0, true, false, 4, [[.int .i64 l1.B, .psl 1 (List.map TApiLvLevel.enc l1.Levels), .sl 217 g36 11 0 x26.length, .int .i64 (IntKind.i64.wrap (vr4 + 1))]]⟩), (217, ⟨g36, true, true, 11, List.map TApiJbJob.enc x26⟩)], 226, []⟩) [] (Nat.le_of_ble_eq_true rfl) ⟨rF, rE, rfl, rfl, trivial, trivial⟩ ?_
   refine awp_sr2 250 [2, 3] (fun _ => none) rfl (fun _ _ => rT) ?_
   refine awp_ret ?_
   obtain rfl := Option.some.inj h0
   refine leave_retG [] ?_
   exact rG
  ·
   refine awp_loopF (ι := { p : Nat × Int × List TApiJbJob × Nat // jobs_Of_l1 vr5 l1 p.1 p.2.1 p.2.2.1 = some x26 }) (fun p => ⟨[(0, .yld 184), (6, .psl 1 (List.map TApiLvLevel.enc vr5.2)), (7, .int .i64 (vr5.2.length : Int)), (8, .int .i64 p.1.2.1)], [(0, ⟨0, true, true, 2, [[.int .i64 l1.B, .psl 1 (List.map TApiLvLevel.enc l1.Levels)]]⟩), (8, ⟨0, true, true, 4, [[.int .i64 0, .nils, .nils, .int .i64 0]]⟩), (152, ⟨0, true, false, 4, [[.int .i64 l1.B, .psl 1 (List.map TApiLvLevel.enc l1.Levels), .sl 217 p.1.2.2.2 11 0 p.1.2.2.1.length, .int .i64 (IntKind.i64.wrap (vr4 + 1))]]⟩), (217, ⟨p.1.2.2.2, true, true, 11, List.map TApiJbJob.enc p.1.2.2.1⟩)], 218, [(184, RC6)]⟩) (fun p => p.1.1) ⟨(fu, 0, [], 0), hxx26⟩ ⟨rF, rE, rfl, rfl, (LpLe.consR (Nat.le_of_ble_eq_true rfl) rfl okRC6 (Nat.le_of_ble_eq_true rfl) trivial), trivial⟩ (fun _ => Nat.le_refl _) ?_
   rintro ⟨⟨fu, level27, v28, g29⟩, h1⟩
   cases fu with
   | zero =>
   replace h1 : jobs_Of_l1 vr5 l1 0 level27 v28 = some x26 := h1
   rw [jobs_Of_l1] at h1; cases h1
   | succ fu =>
    replace h1 : jobs_Of_l1 vr5 l1 (fu + 1) level27 v28 = some x26 := h1
    rw [jobs_Of_l1] at h1
    refine (show AWP _ _ _ _ ⟨[(0, .yld 184), (6, .psl 1 (List.map TApiLvLevel.enc vr5.2)), (7, .int .i64 (vr5.2.length : Int)), (8, .int .i64 level27)], [(0, ⟨0, true, true, 2, [[.int .i64 l1.B, .psl 1 (List.map TApiLvLevel.enc l1.Levels)]]⟩), (8, ⟨0, true, true, 4, [[.int .i64 0, .nils, .nils, .int .i64 0]]⟩), (152, ⟨0, true, false, 4, [[.int .i64 l1.B, .psl 1 (List.map TApiLvLevel.enc l1.Levels), .sl 217 g29 11 0 v28.length, .int .i64 (IntKind.i64.wrap (vr4 + 1))]]⟩), (217, ⟨g29, true, true, 11, List.map TApiJbJob.enc v28⟩)], 218, [(184, RC6)]⟩ from ?_)
    refine awp_sr2 226 [0, 6, 7, 8, 9] (fun _ => none) rfl (fun _ _ => rT) ?_
    refine awp_seq ?_
    refine awp_if rfl (fun hb30 => ?_) (fun hb30 => ?_)
    ·
     replace h1 := iteT h1 hb30
     refine awp_skip ?_
     refine kn_then ?_
     refine awp_seq ?_
     refine awp_block ?_
     obtain ⟨e31, he31, h1⟩ := bindS h1
     obtain ⟨he31a, he31b, he31c⟩ := idxS he31
     refine awp_sr2 274 [0, 3, 4, 6, 7, 8] (fun _ => none) rfl (fun _ _ => rS (rA he31a (rA he31b he31c))) ?_
     refine awp_sops2 10 rfl ?_
     refine awpo_cut (l' := List.range' 0 5 ++ (List.range' 5 5 ++ [])) rfl ?_
     refine awpo_seg 0 5 314 (List.range' 5 5 ++ []) (fun _ => none) rfl rfl rfl (fun _ _ => rS (rA he31a (rA he31b he31c))) ?_
     refine awpo_re (s2 := ⟨[(0, .yld 184), (3, .int .i64 level27), (4, .ref 250 0 0 0), (6, .psl 1 (List.map TApiLvLevel.enc vr5.2)), (7, .int .i64 (vr5.2.length : Int)), (8, .int .i64 level27), (13, .ref 250 0 0 0), (14, .psl 2 (List.map TApiRun.enc e31.Runs)), (15, .int .i64 (e31.Runs.length : Int)), (16, .bool (decide ((e31.Runs.length : Int) = 2))), (17, .bool (decide ((e31.Runs.length : Int) = 2)))], [(0, ⟨0, true, true, 2, [[.int .i64 l1.B, .psl 1 (List.map TApiLvLevel.enc l1.Levels)]]⟩), (8, ⟨0, true, true, 4, [[.int .i64 0, .nils, .nils, .int .i64 0]]⟩), (152, ⟨0, true, false, 4, [[.int .i64 l1.B, .psl 1 (List.map TApiLvLevel.enc l1.Levels), .sl 217 g29 11 0 v28.length, .int .i64 (IntKind.i64.wrap (vr4 + 1))]]⟩), (217, ⟨g29, true, true, 11, List.map TApiJbJob.enc v28⟩), (250, ⟨0, true, true, 1, [[.psl 2 (List.map TApiRun.enc e31.Runs)]]⟩)], 314, [(184, RC6)]⟩) [] (Nat.le_of_ble_eq_true rfl) ⟨rF, rE, rfl, rfl, (LpLe.consR (Nat.le_of_ble_eq_true rfl) rfl okRC6 (Nat.le_of_ble_eq_true rfl) trivial), trivial⟩ ?_
     generalize hg32 : (decide ((e31.Runs.length : Int) = 2)) = b32
     cases b32 with
     | true =>
      replace h1 := iteT h1 hg32
      refine awpo_cut (l' := List.range' 5 2 ++ (7 :: (List.range' 8 2 ++ []))) rfl ?_
      refine awpo_seg 5 2 330 (7 :: (List.range' 8 2 ++ [])) (fun _ => none) rfl rfl rfl (fun _ _ => rS (rA he31a (rA he31b he31c))) ?_
      refine awpo_yieldV hRC6 rfl rfl rfl rfl rfl rfl rfl rfl rfl ?_
      refine awp_re (s2 := ⟨[(1, .ref 0 0 0 0), (2, .ref 8 0 0 0), (3, .int .i64 0), (7, .ref 152 0 0 0), (25, .fn 41 [] [.pp [.int .i64 vr5.1, .psl 1 (List.map TApiLvLevel.enc vr5.2)]]), (26, .int .i64 level27)], [(0, ⟨0, true, true, 2, [[.int .i64 l1.B, .psl 1 (List.map TApiLvLevel.enc l1.Levels)]]⟩), (8, ⟨0, true, true, 4, [[.int .i64 0, .nils, .nils, .int .i64 0]]⟩), (152, ⟨0, true, false, 4, [[.int .i64 l1.B, .psl 1 (List.map TApiLvLevel.enc l1.Levels), .sl 217 g29 11 0 v28.length, .int .i64 (IntKind.i64.wrap (vr4 + 1))]]⟩), (217, ⟨g29, true, true, 11, List.map TApiJbJob.enc v28⟩), (250, ⟨0, true, true, 1, [[.psl 2 (List.map TApiRun.enc e31.Runs)]]⟩)], 330, [(184, RC6)]⟩) [] (Nat.le_of_ble_eq_true rfl) ⟨rF, rE, rfl, rfl, (LpLe.consR (Nat.le_of_ble_eq_true rfl) rfl okRC6 (Nat.le_of_ble_eq_true rfl) trivial), trivial⟩ ?_
      refine awp_r2 338 [1, 2, 3, 7, 8] (fun _ => none) rfl (fun _ _ => rS (rA he31a (rA he31b he31c))) ?_
      refine kn_then ?_
      refine ⟨RC6, rfl, stRC6.1, ?_⟩
      refine awp_re (s2 := ⟨[(1, .ref 0 0 0 0), (2, .ref 8 0 0 0), (3, .int .i64 0), (7, .ref 152 0 0 0), (8, .int .i64 level27)], [(0, ⟨0, true, true, 2, [[.int .i64 l1.B, .psl 1 (List.map TApiLvLevel.enc l1.Levels)]]⟩), (8, ⟨0, true, true, 4, [[.int .i64 0, .nils, .nils, .int .i64 0]]⟩), (152, ⟨0, true, false, 4, [[.int .i64 l1.B, .psl 1 (List.map TApiLvLevel.enc l1.Levels), .sl 217 g29 11 0 v28.length, .int .i64 (IntKind.i64.wrap (vr4 + 1))]]⟩), (217, ⟨g29, true, true, 11, List.map TApiJbJob.enc v28⟩), (250, ⟨0, true, true, 1, [[.psl 2 (List.map TApiRun.enc e31.Runs)]]⟩)], 338, [(184, { RC6 with st := .busy, pend := RC6.pend })]⟩) [] (Nat.le_of_ble_eq_true rfl) ⟨rF, rE, rfl, rfl, (LpLe.consR (Nat.le_of_ble_eq_true rfl) rfl okRC6 (Nat.le_of_ble_eq_true rfl) trivial), trivial⟩ ?_
      refine awp_block ?_
      obtain ⟨vr33, hvr33, h1⟩ := bindS h1
      obtain ⟨vr34, hvr34, h1⟩ := bindS h1
      obtain ⟨hc35, h1⟩ := guS h1
      refine awp_d2 434 [2, 3, 7] (fun | 6 => some (.bool vr33, []) | 7 => some (.agg (TApiJbJob.enc vr34), []) | _ => none) rfl rfl rfl (fun Kt hK => by
        try have q0 := c_jobs_lowest hvr33
        try have q1 := c_jobs_begun hvr34
        exact rSd (rA he31a (rA he31b he31c))) ?_
      refine kn_block ?_
      refine round_ok stRC6 rfl ?_
      refine awpo_re (s2 := ⟨[(0, .yld 184), (3, .int .i64 level27), (4, .ref 250 0 0 0), (6, .psl 1 (List.map TApiLvLevel.enc vr5.2)), (7, .int .i64 (vr5.2.length : Int)), (8, .int .i64 level27), (13, .ref 250 0 0 0), (14, .psl 2 (List.map TApiRun.enc e31.Runs)), (15, .int .i64 (e31.Runs.length : Int)), (16, .bool true), (17, .bool true), (18, .yld 184), (19, .int .i64 level27), (20, .bool true)], [(0, ⟨0, true, true, 2, [[.int .i64 l1.B, .psl 1 (List.map TApiLvLevel.enc l1.Levels)]]⟩), (8, ⟨0, true, true, 4, [[.int .i64 0, .nils, .nils, .int .i64 0]]⟩), (152, ⟨0, true, false, 4, [[.int .i64 l1.B, .psl 1 (List.map TApiLvLevel.enc l1.Levels), .sl 217 (g29 + 1) 11 0 ((v28 ++ [vr34]).length), .int .i64 (IntKind.i64.wrap (vr4 + 1))]]⟩), (217, ⟨(g29 + 1), true, true, 11, List.map TApiJbJob.enc (v28 ++ [vr34])⟩), (250, ⟨0, true, true, 1, [[.psl 2 (List.map TApiRun.enc e31.Runs)]]⟩), (402, ⟨0, true, true, 11, List.map TApiJbJob.enc [vr34]⟩)], 434, [(184, RC6)]⟩) [] (Nat.le_of_ble_eq_true rfl) ⟨rF, rE, rfl, rfl, (LpLe.consR (Nat.le_of_ble_eq_true rfl) rfl okRC6 (Nat.le_of_ble_eq_true rfl) trivial), trivial⟩ ?_
      refine awpo_cut (l' := List.range' 8 2 ++ []) rfl ?_
      refine awpo_seg 8 2 450 [] (fun _ => none) rfl rfl rfl (fun _ _ => rS (rA he31a (rA he31b he31c))) ?_
      refine awpo_nil ?_
      refine kn_then ?_
      refine awp_re (s2 := ⟨[(0, .yld 184), (6, .psl 1 (List.map TApiLvLevel.enc vr5.2)), (7, .int .i64 (vr5.2.length : Int)), (8, .int .i64 level27), (18, .yld 184), (19, .int .i64 level27), (20, .bool true), (21, .bool false), (22, .bool false)], [(0, ⟨0, true, true, 2, [[.int .i64 l1.B, .psl 1 (List.map TApiLvLevel.enc l1.Levels)]]⟩), (8, ⟨0, true, true, 4, [[.int .i64 0, .nils, .nils, .int .i64 0]]⟩), (152, ⟨0, true, false, 4, [[.int .i64 l1.B, .psl 1 (List.map TApiLvLevel.enc l1.Levels), .sl 217 (g29 + 1) 11 0 ((v28 ++ [vr34]).length), .int .i64 (IntKind.i64.wrap (vr4 + 1))]]⟩), (217, ⟨(g29 + 1), true, true, 11, List.map TApiJbJob.enc (v28 ++ [vr34])⟩), (250, ⟨0, true, true, 1, [[.psl 2 (List.map TApiRun.enc e31.Runs)]]⟩), (402, ⟨0, true, true, 11, List.map TApiJbJob.enc [vr34]⟩)], 450, [(184, RC6)]⟩) [] (Nat.le_of_ble_eq_true rfl) ⟨rF, rE, rfl, rfl, (LpLe.consR (Nat.le_of_ble_eq_true rfl) rfl okRC6 (Nat.le_of_ble_eq_true rfl) trivial), trivial⟩ ?_
      refine awp_condF rfl ?_
      refine awp_skip ?_
      refine kn_block ?_
      refine kn_then ?_
      refine awp_r2 466 [0, 6, 7, 8, 18, 19, 20, 21] (fun _ => none) rfl (fun _ _ => rS (rA he31a (rA he31b he31c))) ?_
      refine kn_then ?_
      exact ⟨⟨(fu, (IntKind.i64.wrap (level27 + 1)), (v28 ++ [vr34]), (g29 + 1)), h1⟩, ⟨rF, rE, rfl, rfl, (LpLe.consR (Nat.le_of_ble_eq_true rfl) rfl okRC6 (Nat.le_of_ble_eq_true rfl) trivial), trivial⟩, Nat.lt_succ_self _⟩
     | false =>
      replace h1 := iteF h1 hg32
      refine awpo_cut (l' := List.range' 5 5 ++ []) rfl ?_
      refine awpo_seg 5 5 354 [] (fun _ => none) rfl rfl rfl (fun _ _ => rS (rA he31a (rA he31b he31c))) ?_
      refine awpo_nil ?_
      refine kn_then ?_
      refine awp_re (s2 := ⟨[(0, .yld 184), (6, .psl 1 (List.map TApiLvLevel.enc vr5.2)), (7, .int .i64 (vr5.2.length : Int)), (8, .int .i64 level27), (22, .bool false)], [(0, ⟨0, true, true, 2, [[.int .i64 l1.B, .psl 1 (List.map TApiLvLevel.enc l1.Levels)]]⟩), (8, ⟨0, true, true, 4, [[.int .i64 0, .nils, .nils, .int .i64 0]]⟩), (152, ⟨0, true, false, 4, [[.int .i64 l1.B, .psl 1 (List.map TApiLvLevel.enc l1.Levels), .sl 217 g29 11 0 v28.length, .int .i64 (IntKind.i64.wrap (vr4 + 1))]]⟩), (217, ⟨g29, true, true, 11, List.map TApiJbJob.enc v28⟩), (250, ⟨0, true, true, 1, [[.psl 2 (List.map TApiRun.enc e31.Runs)]]⟩)], 354, [(184, RC6)]⟩) [] (Nat.le_of_ble_eq_true rfl) ⟨rF, rE, rfl, rfl, (LpLe.consR (Nat.le_of_ble_eq_true rfl) rfl okRC6 (Nat.le_of_ble_eq_true rfl) trivial), trivial⟩ ?_
      refine awp_condF rfl ?_
      refine awp_skip ?_
      refine kn_block ?_
      refine kn_then ?_
      refine awp_r2 370 [0, 6, 7, 8] (fun _ => none) rfl (fun _ _ => rS (rA he31a (rA he31b he31c))) ?_
      refine kn_then ?_
      exact ⟨⟨(fu, (IntKind.i64.wrap (level27 + 1)), v28, g29), h1⟩, ⟨rF, rE, rfl, rfl, (LpLe.consR (Nat.le_of_ble_eq_true rfl) rfl okRC6 (Nat.le_of_ble_eq_true rfl) trivial), trivial⟩, Nat.lt_succ_self _⟩
    ·
     replace h1 := iteF h1 hb30
     refine awp_exit ?_
     refine kx_then ?_
     refine kx_then ?_
     refine kx_done ?_
     obtain rfl := Option.some.inj h1
     exact ⟨g29, Nat.le_of_ble_eq_true rfl, ⟨rF, rE, rfl, rfl, (LpLe.consR (Nat.le_of_ble_eq_true rfl) rfl okRC6 (Nat.le_of_ble_eq_true rfl) trivial), trivial⟩⟩
end Go.T
end
section
namespace Go.T
open Go Go.AM Go.Proofs
set_option maxRecDepth 100000
set_option maxHeartbeats 4000000
set_option linter.unusedVariables false
theorem c_slices_Equal_apiLsKey {fu : Nat} {s11 : List TApiLsKey} {s22 : List TApiLsKey} {r : Bool} (h0 : slices_Equal_apiLsKey fu s11 s22 = some r) : PCall Try.prog 68 [.psl 2 (s11.map TApiLsKey.enc), .psl 2 (s22.map TApiLsKey.enc)] (.bool r) [] := by
 refine awp_pcall Try.func68 rfl (by decide) (Nat.le_of_ble_eq_true rfl) ?_
 dsimp only [Try.f68]
 rw [slices_Equal_apiLsKey] at h0
 refine (show AWP _ _ _ _ ⟨enumFr 0 _, [], 0, []⟩ from ?_)
 refine awp_sr2 8 [0, 1] (fun _ => none) rfl (fun _ _ => rT) ?_
 refine awp_seq ?_
 refine awp_sr2 48 [0, 1, 10] (fun _ => none) rfl (fun _ _ => rT) ?_
 refine awp_if rfl (fun hb3 => ?_) (fun hb3 => ?_)
 ·
  replace h0 := iteT h0 hb3
  refine awp_sr2 56 [4] (fun _ => none) rfl (fun _ _ => rT) ?_
  refine awp_ret ?_
  refine kr_then ?_
  obtain rfl := Option.some.inj h0
  refine leave_retG [] ?_
  exact rG
 ·
  replace h0 := iteF h0 hb3
  refine awp_skip ?_
  refine kn_then ?_
  refine awp_seq ?_
  refine awp_sr2 72 [0, 1, 12, 13] (fun _ => none) rfl (fun _ _ => rT) ?_
  obtain ⟨x13, hxx13, h0⟩ := bindS h0
  refine awp_bloop (fun s' => ∃ o19 : Unit, x13 = .inl o19 ∧ s'.nx ≤ 80 ∧ LeN [] s' ⟨[], [], 80, []⟩) ?_ ?_
  ·
   intro s' hs
   obtain ⟨o19, rfl, hn, hs⟩ := hs
   refine kn_then ?_
   refine awp_re [] hn hs ?_
   refine awp_sr2 88 [4] (fun _ => none) rfl (fun _ _ => rT) ?_
   refine awp_ret ?_
   obtain rfl := Option.some.inj h0
   refine leave_retG [] ?_
   exact rG
  ·
   refine awp_loopF (ι := { p : Nat × Int // slices_Equal_apiLsKey_l1 s11 s22 p.1 p.2 = some x13 }) (fun p => ⟨[(0, .psl 2 (List.map TApiLsKey.enc s11)), (1, .psl 2 (List.map TApiLsKey.enc s22)), (12, .int .i64 (s11.length : Int)), (13, .int .i64 p.1.2)], [], 72, []⟩) (fun p => p.1.1) ⟨(fu, 0), hxx13⟩ ⟨rF, rE, rfl, rfl, trivial, trivial⟩ (fun _ => Nat.le_refl _) ?_
   rintro ⟨⟨fu, v14⟩, h1⟩
   cases fu with
   | zero =>
   replace h1 : slices_Equal_apiLsKey_l1 s11 s22 0 v14 = some x13 := h1
   rw [slices_Equal_apiLsKey_l1] at h1; cases h1
   | succ fu =>
    replace h1 : slices_Equal_apiLsKey_l1 s11 s22 (fu + 1) v14 = some x13 := h1
    rw [slices_Equal_apiLsKey_l1] at h1
    refine (show AWP _ _ _ _ ⟨[(0, .psl 2 (List.map TApiLsKey.enc s11)), (1, .psl 2 (List.map TApiLsKey.enc s22)), (12, .int .i64 (s11.length : Int)), (13, .int .i64 v14)], [], 72, []⟩ from ?_)
    refine awp_sr2 80 [0, 1, 12, 13, 14] (fun _ => none) rfl (fun _ _ => rT) ?_
    refine awp_seq ?_
    refine awp_if rfl (fun hb15 => ?_) (fun hb15 => ?_)
    ·
     replace h1 := iteT h1 hb15
     refine awp_skip ?_
     refine kn_then ?_
     refine awp_seq ?_
     refine awp_block ?_
     refine awp_sr2 96 [0, 1, 5, 12, 13] (fun _ => none) rfl (fun _ _ => rT) ?_
     obtain ⟨e16, he16, h1⟩ := bindS h1
     obtain ⟨he16a, he16b, he16c⟩ := idxS he16
     obtain ⟨e17, he17, h1⟩ := bindS h1
     obtain ⟨he17a, he17b, he17c⟩ := idxS he17
     refine awp_sd2 168 [0, 1, 12, 13, 24] (fun _ => none) rfl rfl rfl (fun _ _ => rSd (rA he16a (rA he16b (rA he16c (rA he17a (rA he17b he17c)))))) ?_
     refine awp_if rfl (fun hb18 => ?_) (fun hb18 => ?_)
     ·
      replace h1 := iteT h1 hb18
      refine awp_sr2 176 [4] (fun _ => none) rfl (fun _ _ => rS (rA he16a (rA he16b (rA he16c (rA he17a (rA he17b he17c)))))) ?_
      refine awp_ret ?_
      obtain rfl := Option.some.inj h1
      refine kr_block ?_
      refine kr_then ?_
      refine kr_then ?_
      refine kr_loop ?_
      refine kr_then ?_
      obtain rfl := Option.some.inj h0
      refine leave_retG [] ?_
      simp (maxSteps := 1000000) only [↓reduceIte, reduceCtorEq, Nat.reduceEqDiff, Nat.reduceLT, Nat.reduceLeDiff, Nat.reduceAdd, Nat.reduceMul, Int.reduceToNat, push_cast, Gives, he16a, he16b, he16c, he17a, he17b, he17c]
      all_goals exact rH
     ·
      replace h1 := iteF h1 hb18
      refine awp_skip ?_
      refine kn_block ?_
      refine kn_then ?_
      refine awp_r2 184 [0, 1, 12, 13] (fun _ => none) rfl (fun _ _ => rS (rA he16a (rA he16b (rA he16c (rA he17a (rA he17b he17c)))))) ?_
      refine kn_then ?_
      exact ⟨⟨(fu, (IntKind.i64.wrap (v14 + 1))), h1⟩, ⟨rF, rE, rfl, rfl, trivial, trivial⟩, Nat.lt_succ_self _⟩
    ·
     replace h1 := iteF h1 hb15
     refine awp_exit ?_
     refine kx_then ?_
     refine kx_then ?_
     refine kx_done ?_
     obtain rfl := Option.some.inj h1
     exact ⟨_, rfl, Nat.le_of_ble_eq_true rfl, ⟨rF, rE, rfl, rfl, trivial, trivial⟩⟩
end Go.T
end
section
namespace Go.T
open Go Go.AM Go.Proofs
set_option maxRecDepth 100000
set_option maxHeartbeats 4000000
set_option linter.unusedVariables false
theorem c_slices_Equal_int {fu : Nat} {s11 : List Int} {s22 : List Int} {r : Bool} (h0 : slices_Equal_int fu s11 s22 = some r) : PCall Try.prog 67 [.psl 1 (s11.map (encInt .i64)), .psl 1 (s22.map (encInt .i64))] (.bool r) [] := by
 refine awp_pcall Try.func67 rfl (by decide) (Nat.le_of_ble_eq_true rfl) ?_
 dsimp only [Try.f67]
 rw [slices_Equal_int] at h0
 refine (show AWP _ _ _ _ ⟨enumFr 0 _, [], 0, []⟩ from ?_)
 refine awp_sr2 8 [0, 1] (fun _ => none) rfl (fun _ _ => rT) ?_
 refine awp_seq ?_
 refine awp_sr2 48 [0, 1, 10] (fun _ => none) rfl (fun _ _ => rT) ?_
 refine awp_if rfl (fun hb3 => ?_) (fun hb3 => ?_)
 ·
  replace h0 := iteT h0 hb3
  refine awp_sr2 56 [4] (fun _ => none) rfl (fun _ _ => rT) ?_
  refine awp_ret ?_
  refine kr_then ?_
  obtain rfl := Option.some.inj h0
  refine leave_retG [] ?_
  exact rG
 ·
  replace h0 := iteF h0 hb3
  refine awp_skip ?_
  refine kn_then ?_
  refine awp_seq ?_
  refine awp_sr2 72 [0, 1, 12, 13] (fun _ => none) rfl (fun _ _ => rT) ?_
  obtain ⟨x13, hxx13, h0⟩ := bindS h0
  refine awp_bloop (fun s' => ∃ o19 : Unit, x13 = .inl o19 ∧ s'.nx ≤ 80 ∧ LeN [] s' ⟨[], [], 80, []⟩) ?_ ?_
  ·
   intro s' hs
   obtain ⟨o19, rfl, hn, hs⟩ := hs
   refine kn_then ?_
   refine awp_re [] hn hs ?_
   refine awp_sr2 88 [4] (fun _ => none) rfl (fun _ _ => rT) ?_
   refine awp_ret ?_
   obtain rfl := Option.some.inj h0
   refine leave_retG [] ?_
   exact rG
  ·
   refine awp_loopF (ι := { p : Nat × Int // slices_Equal_int_l1 s11 s22 p.1 p.2 = some x13 }) (fun p => ⟨[(0, .psl 1 (List.map (encInt .i64) s11)), (1, .psl 1 (List.map (encInt .i64) s22)), (12, .int .i64 (s11.length : Int)), (13, .int .i64 p.1.2)], [], 72, []⟩) (fun p => p.1.1) ⟨(fu, 0), hxx13⟩ ⟨rF, rE, rfl, rfl, trivial, trivial⟩ (fun _ => Nat.le_refl _) ?_
   rintro ⟨⟨fu, v14⟩, h1⟩
   cases fu with
   | zero =>
   replace h1 : slices_Equal_int_l1 s11 s22 0 v14 = some x13 := h1
   rw [slices_Equal_int_l1] at h1; cases h1
   | succ fu =>
    replace h1 : slices_Equal_int_l1 s11 s22 (fu + 1) v14 = some x13 := h1
    rw [slices_Equal_int_l1] at h1
    refine (show AWP _ _ _ _ ⟨[(0, .psl 1 (List.map (encInt .i64) s11)), (1, .psl 1 (List.map (encInt .i64) s22)), (12, .int .i64 (s11.length : Int)), (13, .int .i64 v14)], [], 72, []⟩ from ?_)
    refine awp_sr2 80 [0, 1, 12, 13, 14] (fun _ => none) rfl (fun _ _ => rT) ?_
    refine awp_seq ?_
    refine awp_if rfl (fun hb15 => ?_) (fun hb15 => ?_)
    ·
     replace h1 := iteT h1 hb15
     refine awp_skip ?_
     refine kn_then ?_
     refine awp_seq ?_
     refine awp_block ?_
     refine awp_sr2 96 [0, 1, 5, 12, 13] (fun _ => none) rfl (fun _ _ => rT) ?_
     obtain ⟨e16, he16, h1⟩ := bindS h1
     obtain ⟨he16a, he16b, he16c⟩ := idxS he16
     obtain ⟨e17, he17, h1⟩ := bindS h1
     obtain ⟨he17a, he17b, he17c⟩ := idxS he17
     refine awp_sd2 168 [0, 1, 12, 13, 24] (fun _ => none) rfl rfl rfl (fun _ _ => rSd (rA he16a (rA he16b (rA he16c (rA he17a (rA he17b he17c)))))) ?_
     refine awp_if rfl (fun hb18 => ?_) (fun hb18 => ?_)
     ·
      replace h1 := iteT h1 hb18
      refine awp_sr2 176 [4] (fun _ => none) rfl (fun _ _ => rS (rA he16a (rA he16b (rA he16c (rA he17a (rA he17b he17c)))))) ?_
      refine awp_ret ?_
      obtain rfl := Option.some.inj h1
      refine kr_block ?_
      refine kr_then ?_
      refine kr_then ?_
      refine kr_loop ?_
      refine kr_then ?_
      obtain rfl := Option.some.inj h0
      refine leave_retG [] ?_
      simp (maxSteps := 1000000) only [↓reduceIte, reduceCtorEq, Nat.reduceEqDiff, Nat.reduceLT, Nat.reduceLeDiff, Nat.reduceAdd, Nat.reduceMul, Int.reduceToNat, push_cast, Gives, he16a, he16b, he16c, he17a, he17b, he17c]
      all_goals exact rH
     ·
      replace h1 := iteF h1 hb18
      refine awp_skip ?_
      refine kn_block ?_
      refine kn_then ?_
      refine awp_r2 184 [0, 1, 12, 13] (fun _ => none) rfl (fun _ _ => rS (rA he16a (rA he16b (rA he16c (rA he17a (rA he17b he17c)))))) ?_
      refine kn_then ?_
      exact ⟨⟨(fu, (IntKind.i64.wrap (v14 + 1))), h1⟩, ⟨rF, rE, rfl, rfl, trivial, trivial⟩, Nat.lt_succ_self _⟩
    ·
     replace h1 := iteF h1 hb15
     refine awp_exit ?_
     refine kx_then ?_
     refine kx_then ?_
     refine kx_done ?_
     obtain rfl := Option.some.inj h1
     exact ⟨_, rfl, Nat.le_of_ble_eq_true rfl, ⟨rF, rE, rfl, rfl, trivial, trivial⟩⟩
end Go.T
end
section
namespace Go.T
open Go Go.AM Go.Proofs
set_option maxRecDepth 100000
set_option maxHeartbeats 4000000
set_option linter.unusedVariables false
theorem c_merge_alike {fu : Nat} {a1 : TApiLsTree} {b2 : TApiLsTree} {r : Bool} (h0 : merge_alike fu a1 b2 = some r) : PCall Try.prog 78 [.agg (TApiLsTree.enc a1), .agg (TApiLsTree.enc b2)] (.bool r) [] := by
 refine awp_pcall Try.func78 rfl (by decide) (Nat.le_of_ble_eq_true rfl) ?_
 dsimp only [Try.f78]
 rw [merge_alike] at h0
 refine (show AWP _ _ _ _ ⟨enumFr 0 _, [], 0, []⟩ from ?_)
 refine awp_sr2 24 [2, 3] (fun _ => none) rfl (fun _ _ => rT) ?_
 obtain ⟨b4, hb4, h0⟩ := bindS h0
 obtain ⟨b6, hb6, h0⟩ := bindS h0
 refine awp_sr3 (fr' := [(4, .bool b6)]) (hp' := [(0, ⟨0, true, true, 3, [[.psl 2 (List.map TApiLsKey.enc a1.Keys), .psl 1 (List.map (encInt .i64) a1.Lose), .int .i64 a1.Win]]⟩), (8, ⟨0, true, true, 3, [[.psl 2 (List.map TApiLsKey.enc b2.Keys), .psl 1 (List.map (encInt .i64) b2.Lose), .int .i64 b2.Win]]⟩)]) [0, 8] 184 [4] (fun | 10 => (slices_Equal_apiLsKey fu a1.Keys b2.Keys).bind fun vr3 => some (.bool vr3, []) | 17 => (slices_Equal_int fu a1.Lose b2.Lose).bind fun vr5 => some (.bool vr5, []) | _ => none) rfl (fun Kt hK => by
   cases hg7 : (decide (a1.Win = b2.Win)) with
   | false =>
    replace hb4 := iteF hb4 hg7
    have hqb4 := Option.some.inj hb4
    cases b4 with
    | false =>
     replace hb6 := iteF hb6 rfl
     have hqb6 := Option.some.inj hb6
     subst hqb6
     simp (maxSteps := 1000000) only [↓reduceIte, reduceCtorEq, Nat.reduceEqDiff, Nat.reduceLT, Nat.reduceLeDiff, Nat.reduceAdd, Nat.reduceMul, Int.reduceToNat, push_cast, ↓hg7]
     try simp only [↓hg7] at hK
     try have q0 := c_slices_Equal_apiLsKey hvr3
     try have q1 := c_slices_Equal_int hvr5
     all_goals exact rU
    | true =>
     cases hqb4
   | true =>
    replace hb4 := iteT hb4 hg7
    obtain ⟨vr3, hvr3, hb4⟩ := bindS hb4
    have hqb4 := Option.some.inj hb4
    cases b4 with
    | false =>
     subst hqb4
     replace hb6 := iteF hb6 rfl
     have hqb6 := Option.some.inj hb6
     subst hqb6
     simp (maxSteps := 1000000) only [↓reduceIte, reduceCtorEq, Nat.reduceEqDiff, Nat.reduceLT, Nat.reduceLeDiff, Nat.reduceAdd, Nat.reduceMul, Int.reduceToNat, push_cast, ↓hg7, hvr3]
     try simp only [↓hg7] at hK
     try have q0 := c_slices_Equal_apiLsKey hvr3
     try have q1 := c_slices_Equal_int hvr5
     all_goals exact rU
    | true =>
     subst hqb4
     replace hb6 := iteT hb6 rfl
     obtain ⟨vr5, hvr5, hb6⟩ := bindS hb6
     have hqb6 := Option.some.inj hb6
     subst hqb6
     simp (maxSteps := 1000000) only [↓reduceIte, reduceCtorEq, Nat.reduceEqDiff, Nat.reduceLT, Nat.reduceLeDiff, Nat.reduceAdd, Nat.reduceMul, Int.reduceToNat, push_cast, ↓hg7, hvr3, hvr5]
     try simp only [↓hg7] at hK
     try have q0 := c_slices_Equal_apiLsKey hvr3
     try have q1 := c_slices_Equal_int hvr5
     all_goals exact rU) ?_
 refine awp_ret ?_
 obtain rfl := Option.some.inj h0
 refine leave_retG [] ?_
 exact rG
end Go.T
end
section
namespace Go.T
open Go Go.AM Go.Proofs
set_option maxRecDepth 100000
set_option maxHeartbeats 4000000
set_option linter.unusedVariables false
theorem c_loser_Check {fu : Nat} {t1 : TApiLsTree} {r : Int × Int} (h0 : loser_Check fu t1 = some r) : PCall Try.prog 105 [.agg (TApiLsTree.enc t1)] (.tup [.int .i64 r.1, .int .i64 r.2]) [] := by
 refine awp_pcall Try.func105 rfl (by decide) (Nat.le_of_ble_eq_true rfl) ?_
 dsimp only [Try.f105]
 rw [loser_Check] at h0
 refine (show AWP _ _ _ _ ⟨enumFr 0 _, [], 0, []⟩ from ?_)
 refine awp_sr2 24 [1] (fun _ => none) rfl (fun _ _ => rT) ?_
 refine awp_seq ?_
 obtain ⟨vr2, hvr2, h0⟩ := bindS h0
 refine awp_sr2 56 [1, 4] (fun | 2 => some (.int .i64 vr2, []) | _ => none) rfl (fun _ _ => rC (c_loser_check hvr2)) ?_
 refine awp_sr2 72 [1, 4, 12] (fun _ => none) rfl (fun _ _ => rT) ?_
 refine awp_if rfl (fun hb3 => ?_) (fun hb3 => ?_)
 ·
  replace h0 := iteT h0 hb3
  refine awp_sr2 96 [2, 3] (fun _ => none) rfl (fun _ _ => rT) ?_
  refine awp_ret ?_
  refine kr_then ?_
  obtain rfl := Option.some.inj h0
  refine leave_retG [] ?_
  exact rG
 ·
  replace h0 := iteF h0 hb3
  refine awp_skip ?_
  refine kn_then ?_
  refine awp_seq ?_
  refine awp_sr2 128 [1, 20] (fun _ => none) rfl (fun _ _ => rT) ?_
  refine awp_if rfl (fun hb4 => ?_) (fun hb4 => ?_)
  ·
   replace h0 := iteT h0 hb4
   refine awp_sr2 144 [2, 3] (fun _ => none) rfl (fun _ _ => rT) ?_
   refine awp_ret ?_
   refine kr_then ?_
   obtain rfl := Option.some.inj h0
   refine leave_retG [] ?_
   exact rG
  ·
   replace h0 := iteF h0 hb4
   refine awp_skip ?_
   refine kn_then ?_
   obtain ⟨vr5, hvr5, h0⟩ := bindS h0
   refine awp_sr2 168 [1, 5] (fun | 2 => some (.agg (TApiLsTree.enc vr5), []) | _ => none) rfl (fun _ _ => rC (c_loser_play hvr5)) ?_
   refine awp_seq ?_
   refine awp_sr2 200 [1, 5, 25, 26, 27] (fun _ => none) rfl (fun _ _ => rT) ?_
   obtain ⟨x15, hxx15, h0⟩ := bindS h0
   refine awp_bloop (fun s' => ∃ o21 : Unit, x15 = .inl o21 ∧ s'.nx ≤ 208 ∧ LeN [] s' ⟨[(1, .ref 0 0 0 0), (5, .ref 152 0 0 0)], [(0, ⟨0, true, true, 3, [[.psl 2 (List.map TApiLsKey.enc t1.Keys), .psl 1 (List.map (encInt .i64) t1.Lose), .int .i64 t1.Win]]⟩), (152, ⟨0, true, true, 3, [[.psl 2 (List.map TApiLsKey.enc vr5.Keys), .psl 1 (List.map (encInt .i64) vr5.Lose), .int .i64 vr5.Win]]⟩)], 208, []⟩) ?_ ?_
   ·
    intro s' hs
    obtain ⟨o21, rfl, hn, hs⟩ := hs
    refine kn_then ?_
    refine awp_re [] hn hs ?_
    refine awp_seq ?_
    refine awp_sr2 248 [45] (fun _ => none) rfl (fun _ _ => rT) ?_
    refine awp_if rfl (fun hb22 => ?_) (fun hb22 => ?_)
    ·
     replace h0 := iteT h0 hb22
     refine awp_sr2 264 [2, 3] (fun _ => none) rfl (fun _ _ => rT) ?_
     refine awp_ret ?_
     refine kr_then ?_
     obtain rfl := Option.some.inj h0
     refine leave_retG [] ?_
     exact rG
    ·
     replace h0 := iteF h0 hb22
     refine awp_skip ?_
     refine kn_then ?_
     refine awp_sr2 264 [2, 3] (fun _ => none) rfl (fun _ _ => rT) ?_
     refine awp_ret ?_
     obtain rfl := Option.some.inj h0
     refine leave_retG [] ?_
     exact rG
   ·
    refine awp_loopF (ι := { p : Nat × Int // loser_Check_l1 vr5 t1 p.1 p.2 = some x15 }) (fun p => ⟨[(1, .ref 0 0 0 0), (5, .ref 152 0 0 0), (25, .psl 1 (List.map (encInt .i64) vr5.Lose)), (26, .int .i64 (vr5.Lose.length : Int)), (27, .int .i64 p.1.2)], [(0, ⟨0, true, true, 3, [[.psl 2 (List.map TApiLsKey.enc t1.Keys), .psl 1 (List.map (encInt .i64) t1.Lose), .int .i64 t1.Win]]⟩), (152, ⟨0, true, true, 3, [[.psl 2 (List.map TApiLsKey.enc vr5.Keys), .psl 1 (List.map (encInt .i64) vr5.Lose), .int .i64 vr5.Win]]⟩)], 200, []⟩) (fun p => p.1.1) ⟨(fu, 0), hxx15⟩ ⟨rF, rE, rfl, rfl, trivial, trivial⟩ (fun _ => Nat.le_refl _) ?_
    rintro ⟨⟨fu, v16⟩, h1⟩
    cases fu with
    | zero =>
   replace h1 : loser_Check_l1 vr5 t1 0 v16 = some x15 := h1
   rw [loser_Check_l1] at h1; cases h1
    | succ fu =>
     replace h1 : loser_Check_l1 vr5 t1 (fu + 1) v16 = some x15 := h1
     rw [loser_Check_l1] at h1
     refine (show AWP _ _ _ _ ⟨[(1, .ref 0 0 0 0), (5, .ref 152 0 0 0), (25, .psl 1 (List.map (encInt .i64) vr5.Lose)), (26, .int .i64 (vr5.Lose.length : Int)), (27, .int .i64 v16)], [(0, ⟨0, true, true, 3, [[.psl 2 (List.map TApiLsKey.enc t1.Keys), .psl 1 (List.map (encInt .i64) t1.Lose), .int .i64 t1.Win]]⟩), (152, ⟨0, true, true, 3, [[.psl 2 (List.map TApiLsKey.enc vr5.Keys), .psl 1 (List.map (encInt .i64) vr5.Lose), .int .i64 vr5.Win]]⟩)], 200, []⟩ from ?_)
     refine awp_sr2 208 [1, 5, 25, 26, 27, 28] (fun _ => none) rfl (fun _ _ => rT) ?_
     refine awp_seq ?_
     refine awp_if rfl (fun hb17 => ?_) (fun hb17 => ?_)
     ·
      replace h1 := iteT h1 hb17
      refine awp_skip ?_
      refine kn_then ?_
      refine awp_seq ?_
      refine awp_block ?_
      obtain ⟨e18, he18, h1⟩ := bindS h1
      obtain ⟨he18a, he18b, he18c⟩ := idxS he18
      refine awp_sr2 248 [1, 5, 6, 7, 25, 26, 27] (fun _ => none) rfl (fun _ _ => rS (rA he18a (rA he18b he18c))) ?_
      obtain ⟨e19, he19, h1⟩ := bindS h1
      obtain ⟨he19a, he19b, he19c⟩ := idxS he19
      refine awp_sr2 304 [1, 5, 6, 25, 26, 27, 38] (fun _ => none) rfl (fun _ _ => rS (rA he18a (rA he18b (rA he18c (rA he19a (rA he19b he19c)))))) ?_
      refine awp_if rfl (fun hb20 => ?_) (fun hb20 => ?_)
      ·
       replace h1 := iteT h1 hb20
       refine awp_sr2 328 [2, 3] (fun _ => none) rfl (fun _ _ => rS (rA he18a (rA he18b (rA he18c (rA he19a (rA he19b he19c)))))) ?_
       refine awp_ret ?_
       obtain rfl := Option.some.inj h1
       refine kr_block ?_
       refine kr_then ?_
       refine kr_then ?_
       refine kr_loop ?_
       refine kr_then ?_
       obtain rfl := Option.some.inj h0
       refine leave_retG [] ?_
       simp (maxSteps := 1000000) only [↓reduceIte, reduceCtorEq, Nat.reduceEqDiff, Nat.reduceLT, Nat.reduceLeDiff, Nat.reduceAdd, Nat.reduceMul, Int.reduceToNat, push_cast, Gives, he18a, he18b, he18c, he19a, he19b, he19c]
       all_goals exact rH
      ·
       replace h1 := iteF h1 hb20
       refine awp_skip ?_
       refine kn_block ?_
       refine kn_then ?_
       refine awp_r2 320 [1, 5, 25, 26, 27] (fun _ => none) rfl (fun _ _ => rS (rA he18a (rA he18b (rA he18c (rA he19a (rA he19b he19c)))))) ?_
       refine kn_then ?_
       exact ⟨⟨(fu, (IntKind.i64.wrap (v16 + 1))), h1⟩, ⟨rF, rE, rfl, rfl, trivial, trivial⟩, Nat.lt_succ_self _⟩
     ·
      replace h1 := iteF h1 hb17
      refine awp_exit ?_
      refine kx_then ?_
      refine kx_then ?_
      refine kx_done ?_
      obtain rfl := Option.some.inj h1
      exact ⟨_, rfl, Nat.le_of_ble_eq_true rfl, ⟨rF, rE, rfl, rfl, trivial, trivial⟩⟩
end Go.T
end
section
namespace Go.T
open Go Go.AM Go.Proofs
set_option maxRecDepth 100000
set_option maxHeartbeats 4000000
set_option linter.unusedVariables false
theorem c_loser_open {fu : Nat} {t1 : TApiLsTree} {r : Int} (h0 : loser_open fu t1 = some r) : PCall Try.prog 95 [.agg (TApiLsTree.enc t1)] (.int .i64 r) [] := by
 refine awp_pcall Try.func95 rfl (by decide) (Nat.le_of_ble_eq_true rfl) ?_
 dsimp only [Try.f95]
 rw [loser_open] at h0
 refine (show AWP _ _ _ _ ⟨enumFr 0 _, [], 0, []⟩ from ?_)
 refine awp_sr2 16 [1] (fun _ => none) rfl (fun _ _ => rT) ?_
 refine awp_seq ?_
 obtain ⟨vr2, hvr2, h0⟩ := bindS h0
 refine awp_sr2 72 [1, 4] (fun | 1 => some (.tup [.int .i64 vr2.1, .int .i64 vr2.2], []) | _ => none) rfl (fun _ _ => rC (c_loser_Check hvr2)) ?_
 refine awp_sr2 88 [1, 4, 11] (fun _ => none) rfl (fun _ _ => rT) ?_
 refine awp_if rfl (fun hb3 => ?_) (fun hb3 => ?_)
 ·
  replace h0 := iteT h0 hb3
  refine awp_sr2 104 [2] (fun _ => none) rfl (fun _ _ => rT) ?_
  refine awp_ret ?_
  refine kr_then ?_
  obtain rfl := Option.some.inj h0
  refine leave_retG [] ?_
  exact rG
 ·
  replace h0 := iteF h0 hb3
  refine awp_skip ?_
  refine kn_then ?_
  refine awp_seq ?_
  obtain ⟨e4, he4, h0⟩ := bindS h0
  obtain ⟨he4a, he4b, he4c⟩ := idxS he4
  refine awp_sr2 144 [19] (fun _ => none) rfl (fun _ _ => rS (rA he4a (rA he4b he4c))) ?_
  refine awp_if rfl (fun hb5 => ?_) (fun hb5 => ?_)
  ·
   replace h0 := iteT h0 hb5
   refine awp_sr2 152 [2] (fun _ => none) rfl (fun _ _ => rS (rA he4a (rA he4b he4c))) ?_
   refine awp_ret ?_
   refine kr_then ?_
   obtain rfl := Option.some.inj h0
   refine leave_retG [] ?_
   simp (maxSteps := 1000000) only [↓reduceIte, reduceCtorEq, Nat.reduceEqDiff, Nat.reduceLT, Nat.reduceLeDiff, Nat.reduceAdd, Nat.reduceMul, Int.reduceToNat, push_cast, Gives, he4a, he4b, he4c]
   all_goals exact rH
  ·
   replace h0 := iteF h0 hb5
   refine awp_skip ?_
   refine kn_then ?_
   refine awp_sr2 152 [2] (fun _ => none) rfl (fun _ _ => rS (rA he4a (rA he4b he4c))) ?_
   refine awp_ret ?_
   obtain rfl := Option.some.inj h0
   refine leave_retG [] ?_
   simp (maxSteps := 1000000) only [↓reduceIte, reduceCtorEq, Nat.reduceEqDiff, Nat.reduceLT, Nat.reduceLeDiff, Nat.reduceAdd, Nat.reduceMul, Int.reduceToNat, push_cast, Gives, he4a, he4b, he4c]
   all_goals exact rH
end Go.T
end
section
namespace Go.T
open Go Go.AM Go.Proofs
set_option maxRecDepth 100000
set_option maxHeartbeats 4000000
set_option linter.unusedVariables false
theorem c_loser_Winner {fu : Nat} {t1 : TApiLsTree} {r : Int × List UInt8 × Int} (h0 : loser_Winner fu t1 = some r) : PCall Try.prog 79 [.agg (TApiLsTree.enc t1)] (.tup [.int .i64 r.1, .str r.2.1, .int .i64 r.2.2]) [] := by
 refine awp_pcall Try.func79 rfl (by decide) (Nat.le_of_ble_eq_true rfl) ?_
 dsimp only [Try.f79]
 rw [loser_Winner] at h0
 refine (show AWP _ _ _ _ ⟨enumFr 0 _, [], 0, []⟩ from ?_)
 refine awp_sr2 32 [1] (fun _ => none) rfl (fun _ _ => rT) ?_
 refine awp_seq ?_
 obtain ⟨vr2, hvr2, h0⟩ := bindS h0
 refine awp_sr2 56 [1, 5] (fun | 1 => some (.int .i64 vr2, []) | _ => none) rfl (fun _ _ => rC (c_loser_open hvr2)) ?_
 refine awp_sr2 72 [1, 5, 9] (fun _ => none) rfl (fun _ _ => rT) ?_
 refine awp_if rfl (fun hb3 => ?_) (fun hb3 => ?_)
 ·
  replace h0 := iteT h0 hb3
  refine awp_sr2 104 [2, 3, 4] (fun _ => none) rfl (fun _ _ => rT) ?_
  refine awp_ret ?_
  refine kr_then ?_
  obtain rfl := Option.some.inj h0
  refine leave_retG [] ?_
  exact rG
 ·
  replace h0 := iteF h0 hb3
  refine awp_skip ?_
  refine kn_then ?_
  obtain ⟨e4, he4, h0⟩ := bindS h0
  obtain ⟨he4a, he4b, he4c⟩ := idxS he4
  refine awp_sd2 168 [2, 3, 4] (fun _ => none) rfl rfl rfl (fun _ _ => rSd (rA he4a (rA he4b he4c))) ?_
  refine awp_ret ?_
  obtain rfl := Option.some.inj h0
  refine leave_retG [] ?_
  simp (maxSteps := 1000000) only [↓reduceIte, reduceCtorEq, Nat.reduceEqDiff, Nat.reduceLT, Nat.reduceLeDiff, Nat.reduceAdd, Nat.reduceMul, Int.reduceToNat, push_cast, Gives, he4a, he4b, he4c]
  all_goals exact rH
end Go.T
end
section
namespace Go.T
open Go Go.AM Go.Proofs
set_option maxRecDepth 100000
set_option maxHeartbeats 4000000
set_option linter.unusedVariables false
theorem c_cmp_isNaN_string {fu : Nat} {vx1 : List UInt8} {r : Bool} (h0 : cmp_isNaN_string fu vx1 = some r) : PCall Try.prog 96 [.str vx1] (.bool r) [] := by
 refine awp_pcall Try.func96 rfl (by decide) (Nat.le_of_ble_eq_true rfl) ?_
 dsimp only [Try.f96]
 rw [cmp_isNaN_string] at h0
 refine (show AWP _ _ _ _ ⟨enumFr 0 _, [], 0, []⟩ from ?_)
 refine awp_sr2 8 [0] (fun _ => none) rfl (fun _ _ => rT) ?_
 refine awp_sr2 40 [2] (fun _ => none) rfl (fun _ _ => rT) ?_
 refine awp_ret ?_
 obtain rfl := Option.some.inj h0
 refine leave_retG [] ?_
 exact rG
end Go.T
end
section
namespace Go.T
open Go Go.AM Go.Proofs
set_option maxRecDepth 100000
set_option maxHeartbeats 4000000
set_option linter.unusedVariables false
theorem c_cmp_Compare_string {fu : Nat} {vx1 : List UInt8} {y2 : List UInt8} {r : Int} (h0 : cmp_Compare_string fu vx1 y2 = some r) : PCall Try.prog 81 [.str vx1, .str y2] (.int .i64 r) [] := by
 refine awp_pcall Try.func81 rfl (by decide) (Nat.le_of_ble_eq_true rfl) ?_
 dsimp only [Try.f81]
 rw [cmp_Compare_string] at h0
 refine (show AWP _ _ _ _ ⟨enumFr 0 _, [], 0, []⟩ from ?_)
 refine awp_sr2 8 [0, 1] (fun _ => none) rfl (fun _ _ => rT) ?_
 obtain ⟨vr3, hvr3, h0⟩ := bindS h0
 refine awp_sr2 32 [0, 1, 5] (fun | 1 => some (.bool vr3, []) | _ => none) rfl (fun _ _ => rC (c_cmp_isNaN_string hvr3)) ?_
 obtain ⟨vr4, hvr4, h0⟩ := bindS h0
 refine awp_sr2 56 [0, 1, 5, 6] (fun | 1 => some (.bool vr4, []) | _ => none) rfl (fun _ _ => rC (c_cmp_isNaN_string hvr4)) ?_
 refine awp_seq ?_
 refine awp_sr2 64 [0, 1, 6, 11] (fun _ => none) rfl (fun _ _ => rT) ?_
 refine awp_if rfl (fun hb5 => ?_) (fun hb5 => ?_)
 ·
  replace h0 := iteT h0 hb5
  refine awp_seq ?_
  refine awp_sr2 72 [12] (fun _ => none) rfl (fun _ _ => rT) ?_
  refine awp_if rfl (fun hb6 => ?_) (fun hb6 => ?_)
  ·
   replace h0 := iteT h0 hb6
   refine awp_sr2 80 [4] (fun _ => none) rfl (fun _ _ => rT) ?_
   refine awp_ret ?_
   refine kr_then ?_
   refine kr_then ?_
   obtain rfl := Option.some.inj h0
   refine leave_retG [] ?_
   exact rG
  ·
   replace h0 := iteF h0 hb6
   refine awp_skip ?_
   refine kn_then ?_
   refine awp_sr2 80 [4] (fun _ => none) rfl (fun _ _ => rT) ?_
   refine awp_ret ?_
   refine kr_then ?_
   obtain rfl := Option.some.inj h0
   refine leave_retG [] ?_
   exact rG
 ·
  replace h0 := iteF h0 hb5
  refine awp_skip ?_
  refine kn_then ?_
  refine awp_seq ?_
  refine awp_sr2 72 [0, 1, 13] (fun _ => none) rfl (fun _ _ => rT) ?_
  refine awp_if rfl (fun hb7 => ?_) (fun hb7 => ?_)
  ·
   replace h0 := iteT h0 hb7
   refine awp_sr2 80 [4] (fun _ => none) rfl (fun _ _ => rT) ?_
   refine awp_ret ?_
   refine kr_then ?_
   obtain rfl := Option.some.inj h0
   refine leave_retG [] ?_
   exact rG
  ·
   replace h0 := iteF h0 hb7
   refine awp_skip ?_
   refine kn_then ?_
   refine awp_seq ?_
   refine awp_sr2 96 [0, 1, 16] (fun _ => none) rfl (fun _ _ => rT) ?_
   refine awp_if rfl (fun hb8 => ?_) (fun hb8 => ?_)
   ·
    replace h0 := iteT h0 hb8
    refine awp_sr2 104 [4] (fun _ => none) rfl (fun _ _ => rT) ?_
    refine awp_ret ?_
    refine kr_then ?_
    obtain rfl := Option.some.inj h0
    refine leave_retG [] ?_
    exact rG
   ·
    replace h0 := iteF h0 hb8
    refine awp_skip ?_
    refine kn_then ?_
    refine awp_seq ?_
    refine awp_sr2 120 [19] (fun _ => none) rfl (fun _ _ => rT) ?_
    refine awp_if rfl (fun hb9 => ?_) (fun hb9 => ?_)
    ·
     replace h0 := iteT h0 hb9
     refine awp_sr2 128 [4] (fun _ => none) rfl (fun _ _ => rT) ?_
     refine awp_ret ?_
     refine kr_then ?_
     obtain rfl := Option.some.inj h0
     refine leave_retG [] ?_
     exact rG
    ·
     replace h0 := iteF h0 hb9
     refine awp_skip ?_
     refine kn_then ?_
     refine awp_sr2 128 [4] (fun _ => none) rfl (fun _ _ => rT) ?_
     refine awp_ret ?_
     obtain rfl := Option.some.inj h0
     refine leave_retG [] ?_
     exact rG
end Go.T
end
section
namespace Go.T
open Go Go.AM Go.Proofs
set_option maxRecDepth 100000
set_option maxHeartbeats 4000000
set_option linter.unusedVariables false
theorem c_cmp_isNaN_int {fu : Nat} {vx1 : Int} {r : Bool} (h0 : cmp_isNaN_int fu vx1 = some r) : PCall Try.prog 97 [.int .i64 vx1] (.bool r) [] := by
 refine awp_pcall Try.func97 rfl (by decide) (Nat.le_of_ble_eq_true rfl) ?_
 dsimp only [Try.f97]
 rw [cmp_isNaN_int] at h0
 refine (show AWP _ _ _ _ ⟨enumFr 0 _, [], 0, []⟩ from ?_)
 refine awp_sr2 8 [0] (fun _ => none) rfl (fun _ _ => rT) ?_
 refine awp_sr2 40 [2] (fun _ => none) rfl (fun _ _ => rT) ?_
 refine awp_ret ?_
 obtain rfl := Option.some.inj h0
 refine leave_retG [] ?_
 exact rG
end Go.T
end
section
namespace Go.T
open Go Go.AM Go.Proofs
set_option maxRecDepth 100000
set_option maxHeartbeats 4000000
set_option linter.unusedVariables false
theorem c_cmp_Compare_int {fu : Nat} {vx1 : Int} {y2 : Int} {r : Int} (h0 : cmp_Compare_int fu vx1 y2 = some r) : PCall Try.prog 82 [.int .i64 vx1, .int .i64 y2] (.int .i64 r) [] := by
 refine awp_pcall Try.func82 rfl (by decide) (Nat.le_of_ble_eq_true rfl) ?_
 dsimp only [Try.f82]
 rw [cmp_Compare_int] at h0
 refine (show AWP _ _ _ _ ⟨enumFr 0 _, [], 0, []⟩ from ?_)
 refine awp_sr2 8 [0, 1] (fun _ => none) rfl (fun _ _ => rT) ?_
 obtain ⟨vr3, hvr3, h0⟩ := bindS h0
 refine awp_sr2 32 [0, 1, 5] (fun | 1 => some (.bool vr3, []) | _ => none) rfl (fun _ _ => rC (c_cmp_isNaN_int hvr3)) ?_
 obtain ⟨vr4, hvr4, h0⟩ := bindS h0
 refine awp_sr2 56 [0, 1, 5, 6] (fun | 1 => some (.bool vr4, []) | _ => none) rfl (fun _ _ => rC (c_cmp_isNaN_int hvr4)) ?_
 refine awp_seq ?_
 refine awp_sr2 64 [0, 1, 6, 11] (fun _ => none) rfl (fun _ _ => rT) ?_
 refine awp_if rfl (fun hb5 => ?_) (fun hb5 => ?_)
 ·
  replace h0 := iteT h0 hb5
  refine awp_seq ?_
  refine awp_sr2 72 [12] (fun _ => none) rfl (fun _ _ => rT) ?_
  refine awp_if rfl (fun hb6 => ?_) (fun hb6 => ?_)
  ·
   replace h0 := iteT h0 hb6
   refine awp_sr2 80 [4] (fun _ => none) rfl (fun _ _ => rT) ?_
   refine awp_ret ?_
   refine kr_then ?_
   refine kr_then ?_
   obtain rfl := Option.some.inj h0
   refine leave_retG [] ?_
   exact rG
  ·
   replace h0 := iteF h0 hb6
   refine awp_skip ?_
   refine kn_then ?_
   refine awp_sr2 80 [4] (fun _ => none) rfl (fun _ _ => rT) ?_
   refine awp_ret ?_
   refine kr_then ?_
   obtain rfl := Option.some.inj h0
   refine leave_retG [] ?_
   exact rG
 ·
  replace h0 := iteF h0 hb5
  refine awp_skip ?_
  refine kn_then ?_
  refine awp_seq ?_
  refine awp_sr2 72 [0, 1, 13] (fun _ => none) rfl (fun _ _ => rT) ?_
  refine awp_if rfl (fun hb7 => ?_) (fun hb7 => ?_)
  ·
   replace h0 := iteT h0 hb7
   refine awp_sr2 80 [4] (fun _ => none) rfl (fun _ _ => rT) ?_
   refine awp_ret ?_
   refine kr_then ?_
   obtain rfl := Option.some.inj h0
   refine leave_retG [] ?_
   exact rG
  ·
   replace h0 := iteF h0 hb7
   refine awp_skip ?_
   refine kn_then ?_
   refine awp_seq ?_
   refine awp_sr2 96 [0, 1, 16] (fun _ => none) rfl (fun _ _ => rT) ?_
   refine awp_if rfl (fun hb8 => ?_) (fun hb8 => ?_)
   ·
    replace h0 := iteT h0 hb8
    refine awp_sr2 104 [4] (fun _ => none) rfl (fun _ _ => rT) ?_
    refine awp_ret ?_
    refine kr_then ?_
    obtain rfl := Option.some.inj h0
    refine leave_retG [] ?_
    exact rG
   ·
    replace h0 := iteF h0 hb8
    refine awp_skip ?_
    refine kn_then ?_
    refine awp_seq ?_
    refine awp_sr2 120 [19] (fun _ => none) rfl (fun _ _ => rT) ?_
    refine awp_if rfl (fun hb9 => ?_) (fun hb9 => ?_)
    ·
     replace h0 := iteT h0 hb9
     refine awp_sr2 128 [4] (fun _ => none) rfl (fun _ _ => rT) ?_
     refine awp_ret ?_
     refine kr_then ?_
     obtain rfl := Option.some.inj h0
     refine leave_retG [] ?_
     exact rG
    ·
     replace h0 := iteF h0 hb9
     refine awp_skip ?_
     refine kn_then ?_
     refine awp_sr2 128 [4] (fun _ => none) rfl (fun _ _ => rT) ?_
     refine awp_ret ?_
     obtain rfl := Option.some.inj h0
     refine leave_retG [] ?_
     exact rG
end Go.T
end
section
namespace Go.T
open Go Go.AM Go.Proofs
set_option maxRecDepth 100000
set_option maxHeartbeats 4000000
set_option linter.unusedVariables false
theorem c_cmp_Or_int {fu : Nat} {vals1 : List Int} {r : Int} (h0 : cmp_Or_int fu vals1 = some r) : PCall Try.prog 80 [.psl 1 (vals1.map (encInt .i64))] (.int .i64 r) [] := by
 refine awp_pcall Try.func80 rfl (by decide) (Nat.le_of_ble_eq_true rfl) ?_
 dsimp only [Try.f80]
 rw [cmp_Or_int] at h0
 refine (show AWP _ _ _ _ ⟨enumFr 0 _, [], 0, []⟩ from ?_)
 refine awp_sr2 8 [0] (fun _ => none) rfl (fun _ _ => rT) ?_
 refine awp_sr2 16 [0, 3] (fun _ => none) rfl (fun _ _ => rT) ?_
 refine awp_seq ?_
 refine awp_sr2 40 [3, 6, 7, 8] (fun _ => none) rfl (fun _ _ => rT) ?_
 obtain ⟨x9, hxx9, h0⟩ := bindS h0
 refine awp_bloop (fun s' => ∃ o14 : Unit, x9 = .inl o14 ∧ s'.nx ≤ 48 ∧ LeN [] s' ⟨[(3, .int .i64 0)], [], 48, []⟩) ?_ ?_
 ·
  intro s' hs
  obtain ⟨o14, rfl, hn, hs⟩ := hs
  refine kn_then ?_
  refine awp_re [] hn hs ?_
  refine awp_sr2 64 [2] (fun _ => none) rfl (fun _ _ => rT) ?_
  refine awp_ret ?_
  obtain rfl := Option.some.inj h0
  refine leave_retG [] ?_
  exact rG
 ·
  refine awp_loopF (ι := { p : Nat × Int // cmp_Or_int_l1 vals1 p.1 p.2 = some x9 }) (fun p => ⟨[(3, .int .i64 0), (6, .psl 1 (List.map (encInt .i64) vals1)), (7, .int .i64 (vals1.length : Int)), (8, .int .i64 p.1.2)], [], 40, []⟩) (fun p => p.1.1) ⟨(fu, 0), hxx9⟩ ⟨rF, rE, rfl, rfl, trivial, trivial⟩ (fun _ => Nat.le_refl _) ?_
  rintro ⟨⟨fu, v10⟩, h1⟩
  cases fu with
  | zero =>
   replace h1 : cmp_Or_int_l1 vals1 0 v10 = some x9 := h1
   rw [cmp_Or_int_l1] at h1; cases h1
  | succ fu =>
   replace h1 : cmp_Or_int_l1 vals1 (fu + 1) v10 = some x9 := h1
   rw [cmp_Or_int_l1] at h1
   refine (show AWP _ _ _ _ ⟨[(3, .int .i64 0), (6, .psl 1 (List.map (encInt .i64) vals1)), (7, .int .i64 (vals1.length : Int)), (8, .int .i64 v10)], [], 40, []⟩ from ?_)
   refine awp_sr2 48 [3, 6, 7, 8, 9] (fun _ => none) rfl (fun _ _ => rT) ?_
   refine awp_seq ?_
   refine awp_if rfl (fun hb11 => ?_) (fun hb11 => ?_)
   ·
    replace h1 := iteT h1 hb11
    refine awp_skip ?_
    refine kn_then ?_
    refine awp_seq ?_
    refine awp_block ?_
    obtain ⟨e12, he12, h1⟩ := bindS h1
    obtain ⟨he12a, he12b, he12c⟩ := idxS he12
    refine awp_sr2 72 [3, 5, 6, 7, 8] (fun _ => none) rfl (fun _ _ => rS (rA he12a (rA he12b he12c))) ?_
    refine awp_sr2 96 [3, 5, 6, 7, 8, 14] (fun _ => none) rfl (fun _ _ => rS (rA he12a (rA he12b he12c))) ?_
    refine awp_if rfl (fun hb13 => ?_) (fun hb13 => ?_)
    ·
     replace h1 := iteT h1 hb13
     refine awp_sr2 112 [2] (fun _ => none) rfl (fun _ _ => rS (rA he12a (rA he12b he12c))) ?_
     refine awp_ret ?_
     obtain rfl := Option.some.inj h1
     refine kr_block ?_
     refine kr_then ?_
     refine kr_then ?_
     refine kr_loop ?_
     refine kr_then ?_
     obtain rfl := Option.some.inj h0
     refine leave_retG [] ?_
     simp (maxSteps := 1000000) only [↓reduceIte, reduceCtorEq, Nat.reduceEqDiff, Nat.reduceLT, Nat.reduceLeDiff, Nat.reduceAdd, Nat.reduceMul, Int.reduceToNat, push_cast, Gives, he12a, he12b, he12c]
     all_goals exact rH
    ·
     replace h1 := iteF h1 hb13
     refine awp_skip ?_
     refine kn_block ?_
     refine kn_then ?_
     refine awp_r2 112 [3, 6, 7, 8] (fun _ => none) rfl (fun _ _ => rS (rA he12a (rA he12b he12c))) ?_
     refine kn_then ?_
     exact ⟨⟨(fu, (IntKind.i64.wrap (v10 + 1))), h1⟩, ⟨rF, rE, rfl, rfl, trivial, trivial⟩, Nat.lt_succ_self _⟩
   ·
    replace h1 := iteF h1 hb11
    refine awp_exit ?_
    refine kx_then ?_
    refine kx_then ?_
    refine kx_done ?_
    obtain rfl := Option.some.inj h1
    exact ⟨_, rfl, Nat.le_of_ble_eq_true rfl, ⟨rF, rE, rfl, rfl, trivial, trivial⟩⟩
end Go.T
end
section
namespace Go.T
open Go Go.AM Go.Proofs
set_option maxRecDepth 100000
set_option maxHeartbeats 4000000
set_option linter.unusedVariables false
theorem c_merge_Check {fu : Nat} {vs1 : TApiMgState} {r : Int × Int} (h0 : merge_Check fu vs1 = some r) : PCall Try.prog 59 [.agg (TApiMgState.enc vs1)] (.tup [.int .i64 r.1, .int .i64 r.2]) [] := by
 refine awp_pcall Try.func59 rfl (by decide) (Nat.le_of_ble_eq_true rfl) ?_
 dsimp only [Try.f59]
 rw [merge_Check] at h0
 refine (show AWP _ _ _ _ ⟨enumFr 0 _, [], 0, []⟩ from ?_)
 refine awp_sr2 24 [1] (fun _ => none) rfl (fun _ _ => rT) ?_
 refine awp_seq ?_
 obtain ⟨vr2, hvr2, h0⟩ := bindS h0
 refine awp_sr2 88 [1, 4, 5] (fun | 2 => some (.tup [.int .i64 vr2.1, .int .i64 vr2.2], []) | _ => none) rfl (fun _ _ => rC (c_merge_check hvr2)) ?_
 refine awp_sr2 104 [1, 4, 5, 19] (fun _ => none) rfl (fun _ _ => rT) ?_
 refine awp_if rfl (fun hb3 => ?_) (fun hb3 => ?_)
 ·
  replace h0 := iteT h0 hb3
  refine awp_sr2 136 [2, 3] (fun _ => none) rfl (fun _ _ => rT) ?_
  refine awp_ret ?_
  refine kr_then ?_
  obtain rfl := Option.some.inj h0
  refine leave_retG [] ?_
  exact rG
 ·
  replace h0 := iteF h0 hb3
  refine awp_skip ?_
  refine kn_then ?_
  refine awp_seq ?_
  refine awp_sr2 160 [1, 28] (fun _ => none) rfl (fun _ _ => rT) ?_
  refine awp_if rfl (fun hb4 => ?_) (fun hb4 => ?_)
  ·
   replace h0 := iteT h0 hb4
   refine awp_sr2 176 [2, 3] (fun _ => none) rfl (fun _ _ => rT) ?_
   refine awp_ret ?_
   refine kr_then ?_
   obtain rfl := Option.some.inj h0
   refine leave_retG [] ?_
   exact rG
  ·
   replace h0 := iteF h0 hb4
   refine awp_skip ?_
   refine kn_then ?_
   refine awp_seq ?_
   refine awp_sr2 192 [1, 30, 31, 32] (fun _ => none) rfl (fun _ _ => rT) ?_
   obtain ⟨x18, hxx18, h0⟩ := bindS h0
   refine awp_bloop (fun s' => ∃ o26 : Unit, x18 = .inl o26 ∧ s'.nx ≤ 200 ∧ LeN [] s' ⟨[(1, .ref 0 0 0 0)], [(0, ⟨0, true, true, 5, [[.psl 1 (List.map (encSl 4 TApiEntry.enc) vs1.Runs), .psl 1 (List.map (encInt .i64) vs1.At), .psl 2 (List.map TApiLsKey.enc vs1.Tree.Keys), .psl 1 (List.map (encInt .i64) vs1.Tree.Lose), .int .i64 vs1.Tree.Win]]⟩)], 200, []⟩) ?_ ?_
   ·
    intro s' hs
    obtain ⟨o26, rfl, hn, hs⟩ := hs
    refine kn_then ?_
    refine awp_re [] hn hs ?_
    refine awp_seq ?_
    obtain ⟨vr27, hvr27, h0⟩ := bindS h0
    obtain ⟨vr28, hvr28, h0⟩ := bindS h0
    refine awp_sd2 272 [1, 59] (fun | 6 => some (.agg (TApiLsTree.enc vr27), []) | 7 => some (.bool vr28, []) | _ => none) rfl rfl rfl (fun Kt hK => by
      try have q0 := c_merge_tree hvr27
      try have q1 := c_merge_alike hvr28
      exact rTd) ?_
    refine awp_if rfl (fun hb29 => ?_) (fun hb29 => ?_)
    ·
     replace h0 := iteT h0 hb29
     refine awp_sr2 288 [2, 3] (fun _ => none) rfl (fun _ _ => rT) ?_
     refine awp_ret ?_
     refine kr_then ?_
     obtain rfl := Option.some.inj h0
     refine leave_retG [] ?_
     exact rG
    ·
     replace h0 := iteF h0 hb29
     refine awp_skip ?_
     refine kn_then ?_
     obtain ⟨vr30, hvr30, h0⟩ := bindS h0
     refine awp_sr2 352 [1, 3, 8, 9] (fun | 2 => some (.tup [.int .i64 vr30.1, .str vr30.2.1, .int .i64 vr30.2.2], []) | _ => none) rfl (fun _ _ => rC (c_loser_Winner hvr30)) ?_
     refine awp_seq ?_
     refine awp_sr2 368 [1, 8, 9, 68] (fun _ => none) rfl (fun _ _ => rT) ?_
     refine awp_if rfl (fun hb31 => ?_) (fun hb31 => ?_)
     ·
      replace h0 := iteT h0 hb31
      refine awp_sr2 384 [2, 3] (fun _ => none) rfl (fun _ _ => rT) ?_
      refine awp_ret ?_
      refine kr_then ?_
      obtain rfl := Option.some.inj h0
      refine leave_retG [] ?_
      exact rG
     ·
      replace h0 := iteF h0 hb31
      refine awp_skip ?_
      refine kn_then ?_
      refine awp_seq ?_
      refine awp_sr2 400 [1, 8, 9, 70, 71, 72] (fun _ => none) rfl (fun _ _ => rT) ?_
      obtain ⟨x53, hxx53, h0⟩ := bindS h0
      refine awp_bloop (fun s' => ∃ o65 : Unit, x53 = .inl o65 ∧ s'.nx ≤ 408 ∧ LeN [] s' ⟨[], [(0, ⟨0, true, true, 5, [[.psl 1 (List.map (encSl 4 TApiEntry.enc) vs1.Runs), .psl 1 (List.map (encInt .i64) vs1.At), .psl 2 (List.map TApiLsKey.enc vs1.Tree.Keys), .psl 1 (List.map (encInt .i64) vs1.Tree.Lose), .int .i64 vs1.Tree.Win]]⟩)], 408, []⟩) ?_ ?_
      ·
       intro s' hs
       obtain ⟨o65, rfl, hn, hs⟩ := hs
       refine kn_then ?_
       refine awp_re [] hn hs ?_
       refine awp_sr2 424 [2, 3] (fun _ => none) rfl (fun _ _ => rT) ?_
       refine awp_ret ?_
       obtain rfl := Option.some.inj h0
       refine leave_retG [] ?_
       exact rG
      ·
       refine awp_loopF (ι := { p : Nat × Int // merge_Check_l2 vs1 vr30 p.1 p.2 = some x53 }) (fun p => ⟨[(1, .ref 0 0 0 0), (8, .int .i64 vr30.1), (9, .str vr30.2.1), (70, .psl 1 (List.map (encInt .i64) vs1.At)), (71, .int .i64 (vs1.At.length : Int)), (72, .int .i64 p.1.2)], [(0, ⟨0, true, true, 5, [[.psl 1 (List.map (encSl 4 TApiEntry.enc) vs1.Runs), .psl 1 (List.map (encInt .i64) vs1.At), .psl 2 (List.map TApiLsKey.enc vs1.Tree.Keys), .psl 1 (List.map (encInt .i64) vs1.Tree.Lose), .int .i64 vs1.Tree.Win]]⟩)], 400, []⟩) (fun p => p.1.1) ⟨(fu, 0), hxx53⟩ ⟨rF, rE, rfl, rfl, trivial, trivial⟩ (fun _ => Nat.le_refl _) ?_
       rintro ⟨⟨fu, v54⟩, h1⟩
       cases fu with
       | zero =>
   replace h1 : merge_Check_l2 vs1 vr30 0 v54 = some x53 := h1
   rw [merge_Check_l2] at h1; cases h1
       | succ fu =>
        replace h1 : merge_Check_l2 vs1 vr30 (fu + 1) v54 = some x53 := h1
        rw [merge_Check_l2] at h1
        refine (show AWP _ _ _ _ ⟨[(1, .ref 0 0 0 0), (8, .int .i64 vr30.1), (9, .str vr30.2.1), (70, .psl 1 (List.map (encInt .i64) vs1.At)), (71, .int .i64 (vs1.At.length : Int)), (72, .int .i64 v54)], [(0, ⟨0, true, true, 5, [[.psl 1 (List.map (encSl 4 TApiEntry.enc) vs1.Runs), .psl 1 (List.map (encInt .i64) vs1.At), .psl 2 (List.map TApiLsKey.enc vs1.Tree.Keys), .psl 1 (List.map (encInt .i64) vs1.Tree.Lose), .int .i64 vs1.Tree.Win]]⟩)], 400, []⟩ from ?_)
        refine awp_sr2 408 [1, 8, 9, 70, 71, 72, 73] (fun _ => none) rfl (fun _ _ => rT) ?_
        refine awp_seq ?_
        refine awp_if rfl (fun hb55 => ?_) (fun hb55 => ?_)
        ·
         replace h1 := iteT h1 hb55
         refine awp_skip ?_
         refine kn_then ?_
         refine awp_seq ?_
         refine awp_block ?_
         obtain ⟨e56, he56, h1⟩ := bindS h1
         obtain ⟨he56a, he56b, he56c⟩ := idxS he56
         refine awp_sr2 448 [1, 8, 9, 10, 11, 70, 71, 72] (fun _ => none) rfl (fun _ _ => rS (rA he56a (rA he56b he56c))) ?_
         obtain ⟨b62, hb62, h1⟩ := bindS h1
         refine awp_sr3 (fr' := [(1, .ref 0 0 0 0), (8, .int .i64 vr30.1), (9, .str vr30.2.1), (70, .psl 1 (List.map (encInt .i64) vs1.At)), (71, .int .i64 (vs1.At.length : Int)), (72, .int .i64 v54), (98, .bool b62)]) (hp' := [(0, ⟨0, true, true, 5, [[.psl 1 (List.map (encSl 4 TApiEntry.enc) vs1.Runs), .psl 1 (List.map (encInt .i64) vs1.At), .psl 2 (List.map TApiLsKey.enc vs1.Tree.Keys), .psl 1 (List.map (encInt .i64) vs1.Tree.Lose), .int .i64 vs1.Tree.Win]]⟩)]) [0] 624 [1, 8, 9, 70, 71, 72, 98] (fun | 14 => (ix vs1.Runs v54).bind fun e57 => (ix e57 (IntKind.i64.wrap (e56 - 1))).bind fun e58 => (cmp_Compare_string fu e58.Key vr30.2.1).bind fun vr59 => some (.int .i64 vr59, []) | 17 => (ix vs1.Runs v54).bind fun e57 => (ix e57 (IntKind.i64.wrap (e56 - 1))).bind fun e58 => (cmp_Compare_string fu e58.Key vr30.2.1).bind fun vr59 => (cmp_Compare_int fu v54 vr30.1).bind fun vr60 => some (.int .i64 vr60, []) | 19 => (ix vs1.Runs v54).bind fun e57 => (ix e57 (IntKind.i64.wrap (e56 - 1))).bind fun e58 => (cmp_Compare_string fu e58.Key vr30.2.1).bind fun vr59 => (cmp_Compare_int fu v54 vr30.1).bind fun vr60 => (cmp_Or_int fu [vr59, vr60]).bind fun vr61 => some (.int .i64 vr61, []) | _ => none) rfl (fun Kt hK => by
           cases hg63 : (decide (0 < e56)) with
           | false =>
            replace hb62 := iteF hb62 hg63
            have hqb62 := Option.some.inj hb62
            subst hqb62
            simp (maxSteps := 1000000) only [↓reduceIte, reduceCtorEq, Nat.reduceEqDiff, Nat.reduceLT, Nat.reduceLeDiff, Nat.reduceAdd, Nat.reduceMul, Int.reduceToNat, push_cast, he56a, he56b, he56c, ↓hg63]
            try simp only [↓hg63] at hK
            try have q0 := c_cmp_Compare_string hvr59
            try have q1 := c_cmp_Compare_int hvr60
            try have q2 := c_cmp_Or_int hvr61
            all_goals exact rU
           | true =>
            replace hb62 := iteT hb62 hg63
            obtain ⟨e57, he57, hb62⟩ := bindS hb62
            obtain ⟨he57a, he57b, he57c⟩ := idxS he57
            obtain ⟨e58, he58, hb62⟩ := bindS hb62
            obtain ⟨he58a, he58b, he58c⟩ := idxS he58
            obtain ⟨vr59, hvr59, hb62⟩ := bindS hb62
            obtain ⟨vr60, hvr60, hb62⟩ := bindS hb62
            obtain ⟨vr61, hvr61, hb62⟩ := bindS hb62
            have hqb62 := Option.some.inj hb62
            subst hqb62
            simp (maxSteps := 1000000) only [↓reduceIte, reduceCtorEq, Nat.reduceEqDiff, Nat.reduceLT, Nat.reduceLeDiff, Nat.reduceAdd, Nat.reduceMul, Int.reduceToNat, push_cast, he56a, he56b, he56c, ↓hg63, he57a, he57b, he57c, he57, he58a, he58b, he58c, he58, hvr59, hvr60, hvr61]
            try simp only [↓hg63] at hK
            try have q0 := c_cmp_Compare_string hvr59
            try have q1 := c_cmp_Compare_int hvr60
            try have q2 := c_cmp_Or_int hvr61
            all_goals exact rU) ?_
         refine awp_re (s2 := ⟨[(1, .ref 0 0 0 0), (8, .int .i64 vr30.1), (9, .str vr30.2.1), (70, .psl 1 (List.map (encInt .i64) vs1.At)), (71, .int .i64 (vs1.At.length : Int)), (72, .int .i64 v54), (98, .bool b62)], [(0, ⟨0, true, true, 5, [[.psl 1 (List.map (encSl 4 TApiEntry.enc) vs1.Runs), .psl 1 (List.map (encInt .i64) vs1.At), .psl 2 (List.map TApiLsKey.enc vs1.Tree.Keys), .psl 1 (List.map (encInt .i64) vs1.Tree.Lose), .int .i64 vs1.Tree.Win]]⟩)], 624, []⟩) [] (Nat.le_of_ble_eq_true rfl) ⟨rF, rE, rfl, rfl, trivial, trivial⟩ ?_
         refine awp_if rfl (fun hb64 => ?_) (fun hb64 => ?_)
         ·
          replace h1 := iteT h1 hb64
          refine awp_sr2 648 [2, 3] (fun _ => none) rfl (fun _ _ => rS (rA he56a (rA he56b he56c))) ?_
          refine awp_ret ?_
          obtain rfl := Option.some.inj h1
          refine kr_block ?_
          refine kr_then ?_
          refine kr_then ?_
          refine kr_loop ?_
          refine kr_then ?_
          obtain rfl := Option.some.inj h0
          refine leave_retG [] ?_
          simp (maxSteps := 1000000) only [↓reduceIte, reduceCtorEq, Nat.reduceEqDiff, Nat.reduceLT, Nat.reduceLeDiff, Nat.reduceAdd, Nat.reduceMul, Int.reduceToNat, push_cast, Gives, he56a, he56b, he56c]
          all_goals exact rH
         ·
          replace h1 := iteF h1 hb64
          refine awp_skip ?_
          refine kn_block ?_
          refine kn_then ?_
          refine awp_r2 640 [1, 8, 9, 70, 71, 72] (fun _ => none) rfl (fun _ _ => rS (rA he56a (rA he56b he56c))) ?_
          refine kn_then ?_
          exact ⟨⟨(fu, (IntKind.i64.wrap (v54 + 1))), h1⟩, ⟨rF, rE, rfl, rfl, trivial, trivial⟩, Nat.lt_succ_self _⟩
        ·
         replace h1 := iteF h1 hb55
         refine awp_exit ?_
         refine kx_then ?_
         refine kx_then ?_
         refine kx_done ?_
         obtain rfl := Option.some.inj h1
         exact ⟨_, rfl, Nat.le_of_ble_eq_true rfl, ⟨rF, rE, rfl, rfl, trivial, trivial⟩⟩
   ·
    refine awp_loopF (ι := { p : Nat × Int // merge_Check_l1 vs1 p.1 p.2 = some x18 }) (fun p => ⟨[(1, .ref 0 0 0 0), (30, .psl 1 (List.map (encInt .i64) vs1.At)), (31, .int .i64 (vs1.At.length : Int)), (32, .int .i64 p.1.2)], [(0, ⟨0, true, true, 5, [[.psl 1 (List.map (encSl 4 TApiEntry.enc) vs1.Runs), .psl 1 (List.map (encInt .i64) vs1.At), .psl 2 (List.map TApiLsKey.enc vs1.Tree.Keys), .psl 1 (List.map (encInt .i64) vs1.Tree.Lose), .int .i64 vs1.Tree.Win]]⟩)], 192, []⟩) (fun p => p.1.1) ⟨(fu, 0), hxx18⟩ ⟨rF, rE, rfl, rfl, trivial, trivial⟩ (fun _ => Nat.le_refl _) ?_
    rintro ⟨⟨fu, v19⟩, h1⟩
    cases fu with
    | zero =>
   replace h1 : merge_Check_l1 vs1 0 v19 = some x18 := h1
   rw [merge_Check_l1] at h1; cases h1
    | succ fu =>
     replace h1 : merge_Check_l1 vs1 (fu + 1) v19 = some x18 := h1
     rw [merge_Check_l1] at h1
     refine (show AWP _ _ _ _ ⟨[(1, .ref 0 0 0 0), (30, .psl 1 (List.map (encInt .i64) vs1.At)), (31, .int .i64 (vs1.At.length : Int)), (32, .int .i64 v19)], [(0, ⟨0, true, true, 5, [[.psl 1 (List.map (encSl 4 TApiEntry.enc) vs1.Runs), .psl 1 (List.map (encInt .i64) vs1.At), .psl 2 (List.map TApiLsKey.enc vs1.Tree.Keys), .psl 1 (List.map (encInt .i64) vs1.Tree.Lose), .int .i64 vs1.Tree.Win]]⟩)], 192, []⟩ from ?_)
     refine awp_sr2 200 [1, 30, 31, 32, 33] (fun _ => none) rfl (fun _ _ => rT) ?_
     refine awp_seq ?_
     refine awp_if rfl (fun hb20 => ?_) (fun hb20 => ?_)
     ·
      replace h1 := iteT h1 hb20
      refine awp_skip ?_
      refine kn_then ?_
      refine awp_seq ?_
      refine awp_block ?_
      obtain ⟨e21, he21, h1⟩ := bindS h1
      obtain ⟨he21a, he21b, he21c⟩ := idxS he21
      refine awp_sr2 240 [1, 6, 7, 30, 31, 32] (fun _ => none) rfl (fun _ _ => rS (rA he21a (rA he21b he21c))) ?_
      obtain ⟨b23, hb23, h1⟩ := bindS h1
      refine awp_sr3 (fr' := [(1, .ref 0 0 0 0), (6, .int .i64 v19), (30, .psl 1 (List.map (encInt .i64) vs1.At)), (31, .int .i64 (vs1.At.length : Int)), (32, .int .i64 v19), (48, .bool b23)]) (hp' := [(0, ⟨0, true, true, 5, [[.psl 1 (List.map (encSl 4 TApiEntry.enc) vs1.Runs), .psl 1 (List.map (encInt .i64) vs1.At), .psl 2 (List.map TApiLsKey.enc vs1.Tree.Keys), .psl 1 (List.map (encInt .i64) vs1.Tree.Lose), .int .i64 vs1.Tree.Win]]⟩)]) [0] 336 [1, 6, 30, 31, 32, 48] (fun _ => none) rfl (fun Kt hK => by
        cases hg24 : (decide (e21 < 0)) with
        | false =>
         replace hb23 := iteF hb23 hg24
         obtain ⟨e22, he22, hb23⟩ := bindS hb23
         obtain ⟨he22a, he22b, he22c⟩ := idxS he22
         have hqb23 := Option.some.inj hb23
         subst hqb23
         simp (maxSteps := 1000000) only [↓reduceIte, reduceCtorEq, Nat.reduceEqDiff, Nat.reduceLT, Nat.reduceLeDiff, Nat.reduceAdd, Nat.reduceMul, Int.reduceToNat, push_cast, he21a, he21b, he21c, ↓hg24, he22a, he22b, he22c, he22]
         try simp only [↓hg24] at hK
         all_goals exact rU
        | true =>
         replace hb23 := iteT hb23 hg24
         have hqb23 := Option.some.inj hb23
         subst hqb23
         simp (maxSteps := 1000000) only [↓reduceIte, reduceCtorEq, Nat.reduceEqDiff, Nat.reduceLT, Nat.reduceLeDiff, Nat.reduceAdd, Nat.reduceMul, Int.reduceToNat, push_cast, he21a, he21b, he21c, ↓hg24]
         try simp only [↓hg24] at hK
         all_goals exact rU) ?_
      refine awp_if rfl (fun hb25 => ?_) (fun hb25 => ?_)
      ·
       replace h1 := iteT h1 hb25
       refine awp_sr2 360 [2, 3] (fun _ => none) rfl (fun _ _ => rS (rA he21a (rA he21b he21c))) ?_
       refine awp_ret ?_
       obtain rfl := Option.some.inj h1
       refine kr_block ?_
       refine kr_then ?_
       refine kr_then ?_
       refine kr_loop ?_
       refine kr_then ?_
       obtain rfl := Option.some.inj h0
       refine leave_retG [] ?_
       simp (maxSteps := 1000000) only [↓reduceIte, reduceCtorEq, Nat.reduceEqDiff, Nat.reduceLT, Nat.reduceLeDiff, Nat.reduceAdd, Nat.reduceMul, Int.reduceToNat, push_cast, Gives, he21a, he21b, he21c]
       all_goals exact rH
      ·
       replace h1 := iteF h1 hb25
       refine awp_skip ?_
       refine kn_block ?_
       refine kn_then ?_
       refine awp_r2 352 [1, 30, 31, 32] (fun _ => none) rfl (fun _ _ => rS (rA he21a (rA he21b he21c))) ?_
       refine kn_then ?_
       exact ⟨⟨(fu, (IntKind.i64.wrap (v19 + 1))), h1⟩, ⟨rF, rE, rfl, rfl, trivial, trivial⟩, Nat.lt_succ_self _⟩
     ·
      replace h1 := iteF h1 hb20
      refine awp_exit ?_
      refine kx_then ?_
      refine kx_then ?_
      refine kx_done ?_
      obtain rfl := Option.some.inj h1
      exact ⟨_, rfl, Nat.le_of_ble_eq_true rfl, ⟨rF, rE, rfl, rfl, trivial, trivial⟩⟩
end Go.T
end
section
namespace Go.T
open Go Go.AM Go.Proofs
set_option maxRecDepth 100000
set_option maxHeartbeats 4000000
set_option linter.unusedVariables false
theorem c_merge_reader_peek {fu : Nat} {vr1 : List (List TApiEntry)} {vr2 : List Int} {vr3 : List TApiLsKey} {vr4 : List Int} {vr5 : Int} {r : TApiEntry × Int × Int} (h0 : merge_reader_peek fu vr1 vr2 vr3 vr4 vr5 = some r) : PCall Try.prog 89 [.pp [.psl 1 (vr1.map (encSl 4 TApiEntry.enc)), .psl 1 (vr2.map (encInt .i64)), .psl 2 (vr3.map TApiLsKey.enc), .psl 1 (vr4.map (encInt .i64)), .int .i64 vr5]] (.tup [.agg (TApiEntry.enc r.1), .int .i64 r.2.1, .int .i64 r.2.2]) [] := by
 refine awp_pcall Try.func89 rfl (by decide) (Nat.le_of_ble_eq_true rfl) ?_
 dsimp only [Try.f89]
 rw [merge_reader_peek] at h0
 refine (show AWP _ _ _ _ ⟨enumFr 0 _, [], 0, []⟩ from ?_)
 refine awp_sr2 24 [0, 2] (fun _ => none) rfl (fun _ _ => rT) ?_
 obtain ⟨vr6, hvr6, h0⟩ := bindS h0
 refine awp_sr2 128 [0, 2, 5, 7] (fun | 5 => some (.tup [.int .i64 vr6.1, .str vr6.2.1, .int .i64 vr6.2.2], []) | _ => none) rfl (fun _ _ => rC (c_loser_Winner hvr6)) ?_
 refine awp_seq ?_
 refine awp_sr2 144 [0, 2, 5, 7, 19] (fun _ => none) rfl (fun _ _ => rT) ?_
 refine awp_if rfl (fun hb7 => ?_) (fun hb7 => ?_)
 ·
  replace h0 := iteT h0 hb7
  refine awp_sr2 184 [2, 3, 4] (fun _ => none) rfl (fun _ _ => rT) ?_
  refine awp_ret ?_
  refine kr_then ?_
  obtain rfl := Option.some.inj h0
  refine leave_retG [] ?_
  exact rG
 ·
  replace h0 := iteF h0 hb7
  refine awp_skip ?_
  refine kn_then ?_
  obtain ⟨e8, he8, h0⟩ := bindS h0
  obtain ⟨he8a, he8b, he8c⟩ := idxS he8
  obtain ⟨e9, he9, h0⟩ := bindS h0
  obtain ⟨he9a, he9b, he9c⟩ := idxS he9
  obtain ⟨e10, he10, h0⟩ := bindS h0
  obtain ⟨he10a, he10b, he10c⟩ := idxS he10
  refine awp_sd2 320 [2, 3, 4] (fun _ => none) rfl rfl rfl (fun _ _ => rSd (rA he8a (rA he8b (rA he8c (rA he9a (rA he9b (rA he9c (rA he10a (rA he10b he10c))))))))) ?_
  refine awp_ret ?_
  obtain rfl := Option.some.inj h0
  refine leave_retG [] ?_
  simp (maxSteps := 1000000) only [↓reduceIte, reduceCtorEq, Nat.reduceEqDiff, Nat.reduceLT, Nat.reduceLeDiff, Nat.reduceAdd, Nat.reduceMul, Int.reduceToNat, push_cast, Gives, he8a, he8b, he8c, he9a, he9b, he9c, he10a, he10b, he10c]
  all_goals exact rH
end Go.T
end
section
namespace Go.T
open Go Go.AM Go.Proofs
set_option maxRecDepth 100000
set_option maxHeartbeats 4000000
set_option linter.unusedVariables false
theorem c_slices_Clone_apiLsKey_2 {fu : Nat} {vs1 : List TApiLsKey} {r : List TApiLsKey} (h0 : slices_Clone_apiLsKey_2 fu vs1 = some r) : PCall Try.prog 106 [.psl 2 (vs1.map TApiLsKey.enc)] (.sl 0 0 2 0 r.length) [⟨0, true, true, 2, r.map TApiLsKey.enc⟩] := by
 refine awp_pcall Try.func106 rfl (by decide) (Nat.le_of_ble_eq_true rfl) ?_
 dsimp only [Try.f106]
 rw [slices_Clone_apiLsKey_2] at h0
 refine (show AWP _ _ _ _ ⟨enumFr 0 _, [], 0, []⟩ from ?_)
 refine awp_sr2 8 [0] (fun _ => none) rfl (fun _ _ => rT) ?_
 refine awp_seq ?_
 cases hb2 : vs1.isEmpty with
 | true =>
  replace h0 := iteT h0 hb2
  obtain rfl : vs1 = [] := List.isEmpty_iff.1 hb2
  refine awp_sr2 24 [0, 4] (fun _ => none) rfl (fun _ _ => rT) ?_
  refine awp_cond_any rfl ?_ ?_
  ·
   skip
   refine awp_sr2 32 [2] (fun _ => none) rfl (fun _ _ => rT) ?_
   refine awp_re (s2 := ⟨[(2, .sl 32 0 2 0 0)], [(32, ⟨0, true, true, 2, List.map TApiLsKey.enc []⟩)], 33, []⟩) [(32, 2)] (Nat.le_of_ble_eq_true rfl) ⟨rF, rE, rfl, rfl, trivial, rN⟩ ?_
   refine awp_ret ?_
   refine kr_then ?_
   obtain rfl := Option.some.inj h0
   refine leave_retG [32] ?_
   exact rG
  ·
   skip
   refine awp_skip ?_
   refine kn_then ?_
   refine awp_sr2 56 [2] (fun _ => none) rfl (fun _ _ => rT) ?_
   refine awp_re (s2 := ⟨[(2, .sl 24 1 2 0 0)], [(24, ⟨1, true, true, 2, List.map TApiLsKey.enc []⟩)], 56, []⟩) [] (Nat.le_of_ble_eq_true rfl) ⟨rF, rE, rfl, rfl, trivial, trivial⟩ ?_
   refine awp_ret ?_
   obtain rfl := Option.some.inj h0
   refine leave_retG [24] ?_
   exact rG
 | false =>
  replace h0 := iteF h0 hb2
  refine awp_sr2 24 [0, 4] (fun _ => none) rfl (fun _ _ => rS hb2) ?_
  refine awp_condF rfl ?_
  refine awp_skip ?_
  refine kn_then ?_
  obtain ⟨hc3, h0⟩ := guS h0
  refine awp_sr2 56 [2] (fun _ => none) rfl (fun _ _ => rS hb2) ?_
  refine awp_re (s2 := ⟨[(2, .sl 24 1 2 0 vs1.length)], [(24, ⟨1, true, true, 2, List.map TApiLsKey.enc vs1⟩)], 56, []⟩) [] (Nat.le_of_ble_eq_true rfl) ⟨rF, rE, rfl, rfl, trivial, trivial⟩ ?_
  refine awp_ret ?_
  obtain rfl := Option.some.inj h0
  refine leave_retG [24] ?_
  simp (maxSteps := 1000000) only [↓reduceIte, reduceCtorEq, Nat.reduceEqDiff, Nat.reduceLT, Nat.reduceLeDiff, Nat.reduceAdd, Nat.reduceMul, Int.reduceToNat, push_cast, Gives, hb2]
  all_goals exact rH
end Go.T
end
section
namespace Go.T
open Go Go.AM Go.Proofs
set_option maxRecDepth 100000
set_option maxHeartbeats 4000000
set_option linter.unusedVariables false
theorem c_loser_play_3 {fu : Nat} {keys1 : List TApiLsKey} {r : TApiLsTree} (h0 : loser_play_3 fu keys1 = some r) : PCall Try.prog 104 [.psl 2 (keys1.map TApiLsKey.enc)] (.agg [.sl 0 0 2 0 r.Keys.length, .sl 1 0 1 0 r.Lose.length, .int .i64 r.Win]) [⟨0, true, true, 2, r.Keys.map TApiLsKey.enc⟩, ⟨0, true, true, 1, r.Lose.map (encInt .i64)⟩] := by
 refine awp_pcall Try.func104 rfl (by decide) (Nat.le_of_ble_eq_true rfl) ?_
 dsimp only [Try.f104]
 rw [loser_play_3] at h0
 refine (show AWP _ _ _ _ ⟨enumFr 0 _, [], 0, []⟩ from ?_)
 refine awp_sr2 8 [0, 2] (fun _ => none) rfl (fun _ _ => rT) ?_
 refine awp_sr2 32 [0, 2, 3] (fun _ => none) rfl (fun _ _ => rT) ?_
 obtain ⟨vr2, hvr2, h0⟩ := bindS h0
 refine awp_sr2 56 [0, 2, 3, 4] (fun | 1 => some (.fn 110 [] [.pp [.psl 2 (vr2.map TApiLsKey.enc)]], []) | _ => none) rfl (fun _ _ => rC (c_loser_judge hvr2)) ?_
 obtain ⟨hc3, h0⟩ := guS h0
 refine awp_sr2 88 [0, 2, 3, 4, 5] (fun _ => none) rfl (fun _ _ => rT) ?_
 refine awp_re (s2 := ⟨[(0, .psl 2 (List.map TApiLsKey.enc keys1)), (2, .ref 0 0 0 0), (3, .int .i64 (keys1.length : Int)), (4, .fn 110 [] [.pp [.psl 2 (List.map TApiLsKey.enc vr2)]]), (5, .sl 72 0 1 0 ((List.replicate (IntKind.i64.wrap (2 * (keys1.length : Int))).toNat 0 : List Int).length))], [(0, ⟨0, true, true, 3, [[.nils, .nils, .int .i64 0]]⟩), (72, ⟨0, true, true, 1, List.map (encInt .i64) (List.replicate (IntKind.i64.wrap (2 * (keys1.length : Int))).toNat 0 : List Int)⟩)], 88, []⟩) [] (Nat.le_of_ble_eq_true rfl) ⟨rF, rE, rfl, rfl, trivial, trivial⟩ ?_
 obtain ⟨vr4, hvr4, h0⟩ := bindS h0
 obtain ⟨hc5, h0⟩ := guS h0
 refine awp_sd2 144 [2, 3, 4, 5, 6] (fun | 1 => some (.sl 0 0 2 0 vr4.length, [⟨0, true, true, 2, vr4.map TApiLsKey.enc⟩]) | _ => none) rfl rfl rfl (fun _ _ => rCd (c_slices_Clone_apiLsKey_2 hvr4)) ?_
 refine awp_re (s2 := ⟨[(2, .ref 0 0 0 0), (3, .int .i64 (keys1.length : Int)), (4, .fn 110 [] [.pp [.psl 2 (List.map TApiLsKey.enc vr2)]]), (5, .sl 72 0 1 0 ((List.replicate (IntKind.i64.wrap (2 * (keys1.length : Int))).toNat 0 : List Int).length)), (6, .ref 128 0 0 0)], [(0, ⟨0, true, true, 3, [[.nils, .nils, .int .i64 0]]⟩), (72, ⟨0, true, true, 1, List.map (encInt .i64) (List.replicate (IntKind.i64.wrap (2 * (keys1.length : Int))).toNat 0 : List Int)⟩), (96, ⟨0, true, true, 2, List.map TApiLsKey.enc vr4⟩), (112, ⟨0, true, true, 1, List.map (encInt .i64) (List.replicate keys1.length 0 : List Int)⟩), (128, ⟨0, true, false, 3, [[.sl 96 0 2 0 vr4.length, .sl 112 0 1 0 ((List.replicate keys1.length 0 : List Int).length), .int .i64 0]]⟩)], 144, []⟩) [] (Nat.le_of_ble_eq_true rfl) ⟨rF, rE, rfl, rfl, trivial, trivial⟩ ?_
 refine awp_seq ?_
 refine awp_sr2 176 [2, 3, 4, 5, 6, 7] (fun _ => none) rfl (fun _ _ => rT) ?_
 obtain ⟨x33, hxx33, h0⟩ := bindS h0
 refine awp_bloop (fun s' => ∃ g50 : Nat, ∃ g51 : Nat, s'.nx ≤ 192 ∧ LeN [] s' ⟨[(2, .ref 0 0 0 0), (5, .sl 72 g50 1 0 x33.1.length), (6, .ref 128 0 0 0)], [(0, ⟨0, true, true, 3, [[.nils, .nils, .int .i64 0]]⟩), (72, ⟨g50, true, true, 1, List.map (encInt .i64) x33.1⟩), (96, ⟨0, true, true, 2, List.map TApiLsKey.enc vr4⟩), (112, ⟨g51, true, true, 1, List.map (encInt .i64) x33.2⟩), (128, ⟨0, true, false, 3, [[.sl 96 0 2 0 vr4.length, .sl 112 g51 1 0 x33.2.length, .int .i64 0]]⟩)], 192, []⟩) ?_ ?_
 ·
  intro s' hs
  obtain ⟨g50, g51, hn, hs⟩ := hs
  refine kn_then ?_
  refine awp_re [] hn hs ?_
  obtain ⟨e52, he52, h0⟩ := bindS h0
  have he52b := (idxS he52).2.1
  have he52c := (idxL 1 he52 rfl).1
  have he52a := (idxL 1 he52 rfl).2
  refine awp_sr2 232 [2, 6] (fun _ => none) rfl (fun _ _ => rS (rA he52a (rA he52b he52c))) ?_
  refine awp_sr2 248 [2] (fun _ => none) rfl (fun _ _ => rS (rA he52a (rA he52b he52c))) ?_
  refine awp_ret ?_
  obtain rfl := Option.some.inj h0
  refine leave_retG [96, 112] ?_
  simp (maxSteps := 1000000) only [↓reduceIte, reduceCtorEq, Nat.reduceEqDiff, Nat.reduceLT, Nat.reduceLeDiff, Nat.reduceAdd, Nat.reduceMul, Int.reduceToNat, push_cast, Gives, he52a, he52b, he52c]
  all_goals exact rH
 ·
  refine awp_loopF (ι := { p : Nat × Int × List Int × List Int × Nat × Nat // loser_play_3_l1 keys1 vr2 p.1 p.2.1 p.2.2.1 p.2.2.2.1 = some x33 }) (fun p => ⟨[(2, .ref 0 0 0 0), (3, .int .i64 (keys1.length : Int)), (4, .fn 110 [] [.pp [.psl 2 (List.map TApiLsKey.enc vr2)]]), (5, .sl 72 p.1.2.2.2.2.1 1 0 p.1.2.2.1.length), (6, .ref 128 0 0 0), (7, .int .i64 p.1.2.1)], [(0, ⟨0, true, true, 3, [[.nils, .nils, .int .i64 0]]⟩), (72, ⟨p.1.2.2.2.2.1, true, true, 1, List.map (encInt .i64) p.1.2.2.1⟩), (96, ⟨0, true, true, 2, List.map TApiLsKey.enc vr4⟩), (112, ⟨p.1.2.2.2.2.2, true, true, 1, List.map (encInt .i64) p.1.2.2.2.1⟩), (128, ⟨0, true, false, 3, [[.sl 96 0 2 0 vr4.length, .sl 112 p.1.2.2.2.2.2 1 0 p.1.2.2.2.1.length, .int .i64 0]]⟩)], 176, []⟩) (fun p => p.1.1) ⟨(fu, (IntKind.i64.wrap ((IntKind.i64.wrap (2 * (keys1.length : Int))) - 1)), (List.replicate (IntKind.i64.wrap (2 * (keys1.length : Int))).toNat 0 : List Int), (List.replicate keys1.length 0 : List Int), 0, 0), hxx33⟩ ⟨rF, rE, rfl, rfl, trivial, trivial⟩ (fun _ => Nat.le_refl _) ?_
  rintro ⟨⟨fu, i34, players35, v36, g37, g38⟩, h1⟩
  cases fu with
  | zero =>
   replace h1 : loser_play_3_l1 keys1 vr2 0 i34 players35 v36 = some x33 := h1
   rw [loser_play_3_l1] at h1; cases h1
  | succ fu =>
   replace h1 : loser_play_3_l1 keys1 vr2 (fu + 1) i34 players35 v36 = some x33 := h1
   rw [loser_play_3_l1] at h1
   refine (show AWP _ _ _ _ ⟨[(2, .ref 0 0 0 0), (3, .int .i64 (keys1.length : Int)), (4, .fn 110 [] [.pp [.psl 2 (List.map TApiLsKey.enc vr2)]]), (5, .sl 72 g37 1 0 players35.length), (6, .ref 128 0 0 0), (7, .int .i64 i34)], [(0, ⟨0, true, true, 3, [[.nils, .nils, .int .i64 0]]⟩), (72, ⟨g37, true, true, 1, List.map (encInt .i64) players35⟩), (96, ⟨0, true, true, 2, List.map TApiLsKey.enc vr4⟩), (112, ⟨g38, true, true, 1, List.map (encInt .i64) v36⟩), (128, ⟨0, true, false, 3, [[.sl 96 0 2 0 vr4.length, .sl 112 g38 1 0 v36.length, .int .i64 0]]⟩)], 176, []⟩ from ?_)
   refine awp_seq ?_
   refine awp_sr2 192 [2, 3, 4, 5, 6, 7, 26] (fun _ => none) rfl (fun _ _ => rT) ?_
   refine awp_if rfl (fun hb39 => ?_) (fun hb39 => ?_)
   ·
    replace h1 := iteT h1 hb39
    refine awp_skip ?_
    refine kn_then ?_
    refine awp_seq ?_
    refine awp_block ?_
    refine awp_seq ?_
    refine awp_sr2 216 [2, 3, 4, 5, 6, 7, 31] (fun _ => none) rfl (fun _ _ => rT) ?_
    refine awp_if rfl (fun hb40 => ?_) (fun hb40 => ?_)
    ·
     replace h1 := iteT h1 hb40
     obtain ⟨e41, he41, h1⟩ := bindS h1
     obtain ⟨he41a, he41b, he41c⟩ := idxS he41
     refine awp_sr2 272 [2, 3, 4, 5, 6, 7] (fun _ => none) rfl (fun _ _ => rS (rA he41a (rA he41b he41c))) ?_
     refine awp_re (s2 := ⟨[(2, .ref 0 0 0 0), (3, .int .i64 (keys1.length : Int)), (4, .fn 110 [] [.pp [.psl 2 (List.map TApiLsKey.enc vr2)]]), (5, .sl 72 g37 1 0 ((players35.set i34.toNat (IntKind.i64.wrap (i34 - (keys1.length : Int)))).length)), (6, .ref 128 0 0 0), (7, .int .i64 i34)], [(0, ⟨0, true, true, 3, [[.nils, .nils, .int .i64 0]]⟩), (72, ⟨g37, true, true, 1, List.map (encInt .i64) (players35.set i34.toNat (IntKind.i64.wrap (i34 - (keys1.length : Int))))⟩), (96, ⟨0, true, true, 2, List.map TApiLsKey.enc vr4⟩), (112, ⟨g38, true, true, 1, List.map (encInt .i64) v36⟩), (128, ⟨0, true, false, 3, [[.sl 96 0 2 0 vr4.length, .sl 112 g38 1 0 v36.length, .int .i64 0]]⟩)], 272, []⟩) [] (Nat.le_of_ble_eq_true rfl) ⟨rF, rE, rfl, rfl, trivial, trivial⟩ ?_
     refine awp_exit ?_
     refine kx_then ?_
     refine kx_same ?_
     refine kn_then ?_
     refine awp_r2 296 [2, 3, 4, 5, 6, 7] (fun _ => none) rfl (fun _ _ => rS (rA he41a (rA he41b he41c))) ?_
     refine kn_then ?_
     exact ⟨⟨(fu, (IntKind.i64.wrap (i34 - 1)), (players35.set i34.toNat (IntKind.i64.wrap (i34 - (keys1.length : Int)))), v36, g37, g38), h1⟩, ⟨rF, rE, rfl, rfl, trivial, trivial⟩, Nat.lt_succ_self _⟩
    ·
     replace h1 := iteF h1 hb40
     refine awp_skip ?_
     refine kn_then ?_
     obtain ⟨e42, he42, h1⟩ := bindS h1
     obtain ⟨he42a, he42b, he42c⟩ := idxS he42
     obtain ⟨e43, he43, h1⟩ := bindS h1
     obtain ⟨he43a, he43b, he43c⟩ := idxS he43
     refine awp_sd2 320 [2, 3, 4, 5, 6, 7, 8, 9] (fun _ => none) rfl rfl rfl (fun _ _ => rSd (rA he42a (rA he42b (rA he42c (rA he43a (rA he43b he43c)))))) ?_
     refine awp_seq ?_
     obtain ⟨vr44, hvr44, h1⟩ := bindS h1
     refine awp_sr2 360 [2, 3, 4, 5, 6, 7, 8, 9, 53] (fun | 3 => some (.bool vr44, []) | _ => none) rfl (fun _ _ => rB (rA he42a (rA he42b (rA he42c (rA he43a (rA he43b he43c))))) (c_loser_judge_1 hvr44)) ?_
     refine awp_if rfl (fun hb45 => ?_) (fun hb45 => ?_)
     ·
      replace h1 := iteT h1 hb45
      refine awp_r2 392 [2, 3, 4, 5, 6, 7, 8, 9] (fun _ => none) rfl (fun _ _ => rS (rA he42a (rA he42b (rA he42c (rA he43a (rA he43b he43c)))))) ?_
      refine kn_then ?_
      obtain ⟨e46, he46, h1⟩ := bindS h1
      obtain ⟨he46a, he46b, he46c⟩ := idxS he46
      obtain ⟨e47, he47, h1⟩ := bindS h1
      obtain ⟨he47a, he47b, he47c⟩ := idxS he47
      refine awp_d2 480 [2, 3, 4, 5, 6, 7] (fun _ => none) rfl rfl rfl (fun _ _ => rSd (rA he42a (rA he42b (rA he42c (rA he43a (rA he43b (rA he43c (rA he46a (rA he46b (rA he46c (rA he47a (rA he47b he47c)))))))))))) ?_
      refine kn_block ?_
      refine kn_then ?_
      refine awp_re (s2 := ⟨[(2, .ref 0 0 0 0), (3, .int .i64 (keys1.length : Int)), (4, .fn 110 [] [.pp [.psl 2 (List.map TApiLsKey.enc vr2)]]), (5, .sl 72 g37 1 0 ((players35.set i34.toNat e43).length)), (6, .ref 128 0 0 0), (7, .int .i64 i34)], [(0, ⟨0, true, true, 3, [[.nils, .nils, .int .i64 0]]⟩), (72, ⟨g37, true, true, 1, List.map (encInt .i64) (players35.set i34.toNat e43)⟩), (96, ⟨0, true, true, 2, List.map TApiLsKey.enc vr4⟩), (112, ⟨g38, true, true, 1, List.map (encInt .i64) (v36.set i34.toNat e42)⟩), (128, ⟨0, true, false, 3, [[.sl 96 0 2 0 vr4.length, .sl 112 g38 1 0 ((v36.set i34.toNat e42).length), .int .i64 0]]⟩)], 480, []⟩) [] (Nat.le_of_ble_eq_true rfl) ⟨rF, rE, rfl, rfl, trivial, trivial⟩ ?_
      refine awp_r2 504 [2, 3, 4, 5, 6, 7] (fun _ => none) rfl (fun _ _ => rS (rA he42a (rA he42b (rA he42c (rA he43a (rA he43b (rA he43c (rA he46a (rA he46b (rA he46c (rA he47a (rA he47b he47c)))))))))))) ?_
      refine kn_then ?_
      exact ⟨⟨(fu, (IntKind.i64.wrap (i34 - 1)), (players35.set i34.toNat e43), (v36.set i34.toNat e42), g37, g38), h1⟩, ⟨rF, rE, rfl, rfl, trivial, trivial⟩, Nat.lt_succ_self _⟩
     ·
      replace h1 := iteF h1 hb45
      refine awp_skip ?_
      refine kn_then ?_
      obtain ⟨e48, he48, h1⟩ := bindS h1
      obtain ⟨he48a, he48b, he48c⟩ := idxS he48
      obtain ⟨e49, he49, h1⟩ := bindS h1
      obtain ⟨he49a, he49b, he49c⟩ := idxS he49
      refine awp_d2 448 [2, 3, 4, 5, 6, 7] (fun _ => none) rfl rfl rfl (fun _ _ => rSd (rA he42a (rA he42b (rA he42c (rA he43a (rA he43b (rA he43c (rA he48a (rA he48b (rA he48c (rA he49a (rA he49b he49c)))))))))))) ?_
      refine kn_block ?_
      refine kn_then ?_
      refine awp_re (s2 := ⟨[(2, .ref 0 0 0 0), (3, .int .i64 (keys1.length : Int)), (4, .fn 110 [] [.pp [.psl 2 (List.map TApiLsKey.enc vr2)]]), (5, .sl 72 g37 1 0 ((players35.set i34.toNat e42).length)), (6, .ref 128 0 0 0), (7, .int .i64 i34)], [(0, ⟨0, true, true, 3, [[.nils, .nils, .int .i64 0]]⟩), (72, ⟨g37, true, true, 1, List.map (encInt .i64) (players35.set i34.toNat e42)⟩), (96, ⟨0, true, true, 2, List.map TApiLsKey.enc vr4⟩), (112, ⟨g38, true, true, 1, List.map (encInt .i64) (v36.set i34.toNat e43)⟩), (128, ⟨0, true, false, 3, [[.sl 96 0 2 0 vr4.length, .sl 112 g38 1 0 ((v36.set i34.toNat e43).length), .int .i64 0]]⟩)], 448, []⟩) [] (Nat.le_of_ble_eq_true rfl) ⟨rF, rE, rfl, rfl, trivial, trivial⟩ ?_
      refine awp_r2 472 [2, 3, 4, 5, 6, 7] (fun _ => none) rfl (fun _ _ => rS (rA he42a (rA he42b (rA he42c (rA he43a (rA he43b (rA he43c (rA he48a (rA he48b (rA he48c (rA he49a (rA he49b he49c)))))))))))) ?_
      refine kn_then ?_
      exact ⟨⟨(fu, (IntKind.i64.wrap (i34 - 1)), (players35.set i34.toNat e42), (v36.set i34.toNat e43), g37, g38), h1⟩, ⟨rF, rE, rfl, rfl, trivial, trivial⟩, Nat.lt_succ_self _⟩
   ·
    replace h1 := iteF h1 hb39
    refine awp_exit ?_
    refine kx_then ?_
    refine kx_then ?_
    refine kx_done ?_
    obtain rfl := Option.some.inj h1
    exact ⟨g37, g38, Nat.le_of_ble_eq_true rfl, ⟨rF, rE, rfl, rfl, trivial, trivial⟩⟩
end Go.T
end
section
namespace Go.T
open Go Go.AM Go.Proofs
set_option maxRecDepth 100000
set_option maxHeartbeats 4000000
set_option linter.unusedVariables false
theorem c_loser_Build_3 {fu : Nat} {keys1 : List TApiLsKey} {r : TApiLsTree × Int} (h0 : loser_Build_3 fu keys1 = some r) : PCall Try.prog 94 [.psl 2 (keys1.map TApiLsKey.enc)] (.tup [.agg [.sl 0 0 2 0 r.1.Keys.length, .sl 1 0 1 0 r.1.Lose.length, .int .i64 r.1.Win], .int .i64 r.2]) [⟨0, true, true, 2, r.1.Keys.map TApiLsKey.enc⟩, ⟨0, true, true, 1, r.1.Lose.map (encInt .i64)⟩] := by
 refine awp_pcall Try.func94 rfl (by decide) (Nat.le_of_ble_eq_true rfl) ?_
 dsimp only [Try.f94]
 rw [loser_Build_3] at h0
 refine (show AWP _ _ _ _ ⟨enumFr 0 _, [], 0, []⟩ from ?_)
 refine awp_sr2 16 [0, 2] (fun _ => none) rfl (fun _ _ => rT) ?_
 refine awp_seq ?_
 obtain ⟨vr2, hvr2, h0⟩ := bindS h0
 refine awp_sr2 40 [0, 2, 4] (fun | 1 => some (.int .i64 vr2, []) | _ => none) rfl (fun _ _ => rC (c_loser_check hvr2)) ?_
 refine awp_sr2 56 [0, 2, 4, 8] (fun _ => none) rfl (fun _ _ => rT) ?_
 refine awp_if rfl (fun hb3 => ?_) (fun hb3 => ?_)
 ·
  replace h0 := iteT h0 hb3
  refine awp_sr2 88 [2, 3] (fun _ => none) rfl (fun _ _ => rT) ?_
  refine awp_re (s2 := ⟨[(2, .ref 0 0 0 0), (3, .int .i64 vr2)], [(0, ⟨0, true, false, 3, [[.sl 88 0 2 0 0, .sl 89 0 1 0 0, .int .i64 0]]⟩), (88, ⟨0, true, true, 2, List.map TApiLsKey.enc []⟩), (89, ⟨0, true, true, 1, List.map (encInt .i64) []⟩)], 90, []⟩) [(88, 2), (89, 1)] (Nat.le_of_ble_eq_true rfl) ⟨rF, rE, rfl, rfl, trivial, rN⟩ ?_
  refine awp_ret ?_
  refine kr_then ?_
  obtain rfl := Option.some.inj h0
  refine leave_retG [88, 89] ?_
  exact rG
 ·
  replace h0 := iteF h0 hb3
  refine awp_skip ?_
  refine kn_then ?_
  obtain ⟨vr4, hvr4, h0⟩ := bindS h0
  refine awp_sr2 88 [2, 3] (fun | 1 => some (.agg [.sl 0 0 2 0 vr4.Keys.length, .sl 1 0 1 0 vr4.Lose.length, .int .i64 vr4.Win], [⟨0, true, true, 2, vr4.Keys.map TApiLsKey.enc⟩, ⟨0, true, true, 1, vr4.Lose.map (encInt .i64)⟩]) | _ => none) rfl (fun _ _ => rC (c_loser_play_3 hvr4)) ?_
  refine awp_ret ?_
  obtain rfl := Option.some.inj h0
  refine leave_retG [64, 65] ?_
  exact rG
end Go.T
end
section
namespace Go.T
open Go Go.AM Go.Proofs
set_option maxRecDepth 100000
set_option maxHeartbeats 4000000
set_option linter.unusedVariables false
theorem c_merge_tree_2 {fu : Nat} {runs1 : List (List TApiEntry)} {vat2 : List Int} {r : TApiLsTree} (h0 : merge_tree_2 fu runs1 vat2 = some r) : PCall Try.prog 77 [.psl 1 (runs1.map (encSl 4 TApiEntry.enc)), .psl 1 (vat2.map (encInt .i64))] (.agg [.sl 0 0 2 0 r.Keys.length, .sl 1 0 1 0 r.Lose.length, .int .i64 r.Win]) [⟨0, true, true, 2, r.Keys.map TApiLsKey.enc⟩, ⟨0, true, true, 1, r.Lose.map (encInt .i64)⟩] := by
 refine awp_pcall Try.func77 rfl (by decide) (Nat.le_of_ble_eq_true rfl) ?_
 dsimp only [Try.f77]
 rw [merge_tree_2] at h0
 refine (show AWP _ _ _ _ ⟨enumFr 0 _, [], 0, []⟩ from ?_)
 refine awp_sr2 8 [0, 1, 4] (fun _ => none) rfl (fun _ _ => rT) ?_
 obtain ⟨hc3, h0⟩ := guS h0
 refine awp_sr2 40 [0, 1, 4, 5] (fun _ => none) rfl (fun _ _ => rT) ?_
 refine awp_re (s2 := ⟨[(0, .psl 1 (List.map (encSl 4 TApiEntry.enc) runs1)), (1, .psl 1 (List.map (encInt .i64) vat2)), (4, .ref 0 0 0 0), (5, .sl 24 0 2 0 ((List.replicate runs1.length (TApiLsKey.mk [] false) : List TApiLsKey).length))], [(0, ⟨0, true, true, 3, [[.nils, .nils, .int .i64 0]]⟩), (24, ⟨0, true, true, 2, List.map TApiLsKey.enc (List.replicate runs1.length (TApiLsKey.mk [] false) : List TApiLsKey)⟩)], 40, []⟩) [] (Nat.le_of_ble_eq_true rfl) ⟨rF, rE, rfl, rfl, trivial, trivial⟩ ?_
 refine awp_seq ?_
 refine awp_sr2 64 [1, 4, 5, 13, 14, 15] (fun _ => none) rfl (fun _ _ => rT) ?_
 obtain ⟨x17, hxx17, h0⟩ := bindS h0
 refine awp_bloop (fun s' => ∃ g26 : Nat, s'.nx ≤ 72 ∧ LeN [] s' ⟨[(4, .ref 0 0 0 0), (5, .sl 24 g26 2 0 x17.length)], [(0, ⟨0, true, true, 3, [[.nils, .nils, .int .i64 0]]⟩), (24, ⟨g26, true, true, 2, List.map TApiLsKey.enc x17⟩)], 72, []⟩) ?_ ?_
 ·
  intro s' hs
  obtain ⟨g26, hn, hs⟩ := hs
  refine kn_then ?_
  refine awp_re [] hn hs ?_
  obtain ⟨vr27, hvr27, h0⟩ := bindS h0
  refine awp_sr2 136 [4, 8] (fun | 1 => some (.tup [.agg [.sl 0 0 2 0 vr27.1.Keys.length, .sl 1 0 1 0 vr27.1.Lose.length, .int .i64 vr27.1.Win], .int .i64 vr27.2], [⟨0, true, true, 2, vr27.1.Keys.map TApiLsKey.enc⟩, ⟨0, true, true, 1, vr27.1.Lose.map (encInt .i64)⟩]) | _ => none) rfl (fun _ _ => rC (c_loser_Build_3 hvr27)) ?_
  refine awp_sr2 152 [4] (fun _ => none) rfl (fun _ _ => rT) ?_
  refine awp_ret ?_
  obtain rfl := Option.some.inj h0
  refine leave_retG [80, 81] ?_
  exact rG
 ·
  refine awp_loopF (ι := { p : Nat × Int × List TApiLsKey × Nat // merge_tree_2_l1 runs1 vat2 p.1 p.2.1 p.2.2.1 = some x17 }) (fun p => ⟨[(1, .psl 1 (List.map (encInt .i64) vat2)), (4, .ref 0 0 0 0), (5, .sl 24 p.1.2.2.2 2 0 p.1.2.2.1.length), (13, .psl 1 (List.map (encSl 4 TApiEntry.enc) runs1)), (14, .int .i64 (runs1.length : Int)), (15, .int .i64 p.1.2.1)], [(0, ⟨0, true, true, 3, [[.nils, .nils, .int .i64 0]]⟩), (24, ⟨p.1.2.2.2, true, true, 2, List.map TApiLsKey.enc p.1.2.2.1⟩)], 64, []⟩) (fun p => p.1.1) ⟨(fu, 0, (List.replicate runs1.length (TApiLsKey.mk [] false) : List TApiLsKey), 0), hxx17⟩ ⟨rF, rE, rfl, rfl, trivial, trivial⟩ (fun _ => Nat.le_refl _) ?_
  rintro ⟨⟨fu, v18, keys19, g20⟩, h1⟩
  cases fu with
  | zero =>
   replace h1 : merge_tree_2_l1 runs1 vat2 0 v18 keys19 = some x17 := h1
   rw [merge_tree_2_l1] at h1; cases h1
  | succ fu =>
   replace h1 : merge_tree_2_l1 runs1 vat2 (fu + 1) v18 keys19 = some x17 := h1
   rw [merge_tree_2_l1] at h1
   refine (show AWP _ _ _ _ ⟨[(1, .psl 1 (List.map (encInt .i64) vat2)), (4, .ref 0 0 0 0), (5, .sl 24 g20 2 0 keys19.length), (13, .psl 1 (List.map (encSl 4 TApiEntry.enc) runs1)), (14, .int .i64 (runs1.length : Int)), (15, .int .i64 v18)], [(0, ⟨0, true, true, 3, [[.nils, .nils, .int .i64 0]]⟩), (24, ⟨g20, true, true, 2, List.map TApiLsKey.enc keys19⟩)], 64, []⟩ from ?_)
   refine awp_sr2 72 [1, 4, 5, 13, 14, 15, 16] (fun _ => none) rfl (fun _ _ => rT) ?_
   refine awp_seq ?_
   refine awp_if rfl (fun hb21 => ?_) (fun hb21 => ?_)
   ·
    replace h1 := iteT h1 hb21
    refine awp_skip ?_
    refine kn_then ?_
    refine awp_seq ?_
    refine awp_block ?_
    obtain ⟨e22, he22, h1⟩ := bindS h1
    obtain ⟨he22a, he22b, he22c⟩ := idxS he22
    refine awp_sr2 112 [1, 4, 5, 6, 7, 13, 14, 15] (fun _ => none) rfl (fun _ _ => rS (rA he22a (rA he22b he22c))) ?_
    obtain ⟨e23, he23, h1⟩ := bindS h1
    obtain ⟨he23a, he23b, he23c⟩ := idxS he23
    obtain ⟨vr24, hvr24, h1⟩ := bindS h1
    obtain ⟨e25, he25, h1⟩ := bindS h1
    obtain ⟨he25a, he25b, he25c⟩ := idxS he25
    refine awp_r2 192 [1, 4, 5, 13, 14, 15] (fun | 7 => some (.agg (TApiLsKey.enc vr24), []) | _ => none) rfl (fun _ _ => rB (rA he22a (rA he22b (rA he22c (rA he23a (rA he23b (rA he23c (rA he25a (rA he25b he25c)))))))) (c_merge_next hvr24)) ?_
    refine kn_block ?_
    refine kn_then ?_
    refine awp_re (s2 := ⟨[(1, .psl 1 (List.map (encInt .i64) vat2)), (4, .ref 0 0 0 0), (5, .sl 24 g20 2 0 ((keys19.set v18.toNat vr24).length)), (13, .psl 1 (List.map (encSl 4 TApiEntry.enc) runs1)), (14, .int .i64 (runs1.length : Int)), (15, .int .i64 v18)], [(0, ⟨0, true, true, 3, [[.nils, .nils, .int .i64 0]]⟩), (24, ⟨g20, true, true, 2, List.map TApiLsKey.enc (keys19.set v18.toNat vr24)⟩)], 192, []⟩) [] (Nat.le_of_ble_eq_true rfl) ⟨rF, rE, rfl, rfl, trivial, trivial⟩ ?_
    refine awp_r2 208 [1, 4, 5, 13, 14, 15] (fun _ => none) rfl (fun _ _ => rS (rA he22a (rA he22b (rA he22c (rA he23a (rA he23b (rA he23c (rA he25a (rA he25b he25c))))))))) ?_
    refine kn_then ?_
    exact ⟨⟨(fu, (IntKind.i64.wrap (v18 + 1)), (keys19.set v18.toNat vr24), g20), h1⟩, ⟨rF, rE, rfl, rfl, trivial, trivial⟩, Nat.lt_succ_self _⟩
   ·
    replace h1 := iteF h1 hb21
    refine awp_exit ?_
    refine kx_then ?_
    refine kx_then ?_
    refine kx_done ?_
    obtain rfl := Option.some.inj h1
    exact ⟨g20, Nat.le_of_ble_eq_true rfl, ⟨rF, rE, rfl, rfl, trivial, trivial⟩⟩
end Go.T
end
section
namespace Go.T
open Go Go.AM Go.Proofs
set_option maxRecDepth 100000
set_option maxHeartbeats 4000000
set_option linter.unusedVariables false
theorem c_merge_Begin_2 {fu : Nat} {runs1 : List (List TApiEntry)} {r : TApiMgState × Int × Int} (h0 : merge_Begin_2 fu runs1 = some r) : PCall Try.prog 57 [.psl 1 (runs1.map (encSl 4 TApiEntry.enc))] (.tup [.agg [.psl 1 (List.map (encSl 4 TApiEntry.enc) r.1.Runs), .sl 0 0 1 0 r.1.At.length, .psl 2 (List.map TApiLsKey.enc r.1.Tree.Keys), .psl 1 (List.map (encInt .i64) r.1.Tree.Lose), .int .i64 r.1.Tree.Win], .int .i64 r.2.1, .int .i64 r.2.2]) [⟨0, true, true, 1, r.1.At.map (encInt .i64)⟩] := by
 refine awp_pcall Try.func57 rfl (by decide) (Nat.le_of_ble_eq_true rfl) ?_
 dsimp only [Try.f57]
 rw [merge_Begin_2] at h0
 refine (show AWP _ _ _ _ ⟨enumFr 0 _, [], 0, []⟩ from ?_)
 refine awp_sr2 24 [0, 2] (fun _ => none) rfl (fun _ _ => rT) ?_
 refine awp_seq ?_
 obtain ⟨vr2, hvr2, h0⟩ := bindS h0
 refine awp_sr2 80 [0, 2, 5, 6] (fun | 1 => some (.tup [.int .i64 vr2.1, .int .i64 vr2.2], []) | _ => none) rfl (fun _ _ => rC (c_merge_check hvr2)) ?_
 refine awp_sr2 96 [0, 2, 5, 6, 14] (fun _ => none) rfl (fun _ _ => rT) ?_
 refine awp_if rfl (fun hb3 => ?_) (fun hb3 => ?_)
 ·
  replace h0 := iteT h0 hb3
  refine awp_sr2 144 [2, 3, 4] (fun _ => none) rfl (fun _ _ => rT) ?_
  refine awp_re (s2 := ⟨[(2, .ref 0 0 0 0), (3, .int .i64 vr2.1), (4, .int .i64 vr2.2)], [(0, ⟨0, true, false, 5, [[.nils, .sl 144 0 1 0 0, .nils, .nils, .int .i64 0]]⟩), (144, ⟨0, true, true, 1, List.map (encInt .i64) []⟩)], 145, []⟩) [(144, 1)] (Nat.le_of_ble_eq_true rfl) ⟨rF, rE, rfl, rfl, trivial, rN⟩ ?_
  refine awp_ret ?_
  refine kr_then ?_
  obtain rfl := Option.some.inj h0
  refine leave_retG [144] ?_
  exact rG
 ·
  replace h0 := iteF h0 hb3
  refine awp_skip ?_
  refine kn_then ?_
  obtain ⟨hc4, h0⟩ := guS h0
  refine awp_sr2 128 [0, 2, 7] (fun _ => none) rfl (fun _ _ => rT) ?_
  refine awp_re (s2 := ⟨[(0, .psl 1 (List.map (encSl 4 TApiEntry.enc) runs1)), (2, .ref 0 0 0 0), (7, .sl 112 0 1 0 ((List.replicate runs1.length 0 : List Int).length))], [(0, ⟨0, true, true, 5, [[.nils, .nils, .nils, .nils, .int .i64 0]]⟩), (112, ⟨0, true, true, 1, List.map (encInt .i64) (List.replicate runs1.length 0 : List Int)⟩)], 128, []⟩) [] (Nat.le_of_ble_eq_true rfl) ⟨rF, rE, rfl, rfl, trivial, trivial⟩ ?_
  obtain ⟨vr5, hvr5, h0⟩ := bindS h0
  obtain ⟨vr6, hvr6, h0⟩ := bindS h0
  refine awp_sr2 208 [2, 3, 4] (fun | 1 => some (.psl 1 (vr5.map (encSl 4 TApiEntry.enc)), []) | 5 => some (.agg [.sl 0 0 2 0 vr6.Keys.length, .sl 1 0 1 0 vr6.Lose.length, .int .i64 vr6.Win], [⟨0, true, true, 2, vr6.Keys.map TApiLsKey.enc⟩, ⟨0, true, true, 1, vr6.Lose.map (encInt .i64)⟩]) | _ => none) rfl (fun Kt hK => by
    try have q0 := c_slices_Clone_apiEntry hvr5
    try have q1 := c_merge_tree_2 hvr6
    exact rT) ?_
  refine awp_ret ?_
  obtain rfl := Option.some.inj h0
  refine leave_retG [112] ?_
  exact rG
end Go.T
end
section
namespace Go.T
open Go Go.AM Go.Proofs
set_option maxRecDepth 100000
set_option maxHeartbeats 4000000
set_option linter.unusedVariables false
theorem c_slices_Clone_int_2 {fu : Nat} {vs1 : List Int} {r : List Int} (h0 : slices_Clone_int_2 fu vs1 = some r) : PCall Try.prog 99 [.psl 1 (vs1.map (encInt .i64))] (.sl 0 0 1 0 r.length) [⟨0, true, true, 1, r.map (encInt .i64)⟩] := by
 refine awp_pcall Try.func99 rfl (by decide) (Nat.le_of_ble_eq_true rfl) ?_
 dsimp only [Try.f99]
 rw [slices_Clone_int_2] at h0
 refine (show AWP _ _ _ _ ⟨enumFr 0 _, [], 0, []⟩ from ?_)
 refine awp_sr2 8 [0] (fun _ => none) rfl (fun _ _ => rT) ?_
 refine awp_seq ?_
 cases hb2 : vs1.isEmpty with
 | true =>
  replace h0 := iteT h0 hb2
  obtain rfl : vs1 = [] := List.isEmpty_iff.1 hb2
  refine awp_sr2 24 [0, 4] (fun _ => none) rfl (fun _ _ => rT) ?_
  refine awp_cond_any rfl ?_ ?_
  ·
   skip
   refine awp_sr2 32 [2] (fun _ => none) rfl (fun _ _ => rT) ?_
   refine awp_re (s2 := ⟨[(2, .sl 32 0 1 0 0)], [(32, ⟨0, true, true, 1, List.map (encInt .i64) []⟩)], 33, []⟩) [(32, 1)] (Nat.le_of_ble_eq_true rfl) ⟨rF, rE, rfl, rfl, trivial, rN⟩ ?_
   refine awp_ret ?_
   refine kr_then ?_
   obtain rfl := Option.some.inj h0
   refine leave_retG [32] ?_
   exact rG
  ·
   skip
   refine awp_skip ?_
   refine kn_then ?_
   refine awp_sr2 56 [2] (fun _ => none) rfl (fun _ _ => rT) ?_
   refine awp_re (s2 := ⟨[(2, .sl 24 1 1 0 0)], [(24, ⟨1, true, true, 1, List.map (encInt .i64) []⟩)], 56, []⟩) [] (Nat.le_of_ble_eq_true rfl) ⟨rF, rE, rfl, rfl, trivial, trivial⟩ ?_
   refine awp_ret ?_
   obtain rfl := Option.some.inj h0
   refine leave_retG [24] ?_
   exact rG
 | false =>
  replace h0 := iteF h0 hb2
  refine awp_sr2 24 [0, 4] (fun _ => none) rfl (fun _ _ => rS hb2) ?_
  refine awp_condF rfl ?_
  refine awp_skip ?_
  refine kn_then ?_
  obtain ⟨hc3, h0⟩ := guS h0
  refine awp_sr2 56 [2] (fun _ => none) rfl (fun _ _ => rS hb2) ?_
  refine awp_re (s2 := ⟨[(2, .sl 24 1 1 0 vs1.length)], [(24, ⟨1, true, true, 1, List.map (encInt .i64) vs1⟩)], 56, []⟩) [] (Nat.le_of_ble_eq_true rfl) ⟨rF, rE, rfl, rfl, trivial, trivial⟩ ?_
  refine awp_ret ?_
  obtain rfl := Option.some.inj h0
  refine leave_retG [24] ?_
  simp (maxSteps := 1000000) only [↓reduceIte, reduceCtorEq, Nat.reduceEqDiff, Nat.reduceLT, Nat.reduceLeDiff, Nat.reduceAdd, Nat.reduceMul, Int.reduceToNat, push_cast, Gives, hb2]
  all_goals exact rH
end Go.T
end
section
namespace Go.T
open Go Go.AM Go.Proofs
set_option maxRecDepth 100000
set_option maxHeartbeats 4000000
set_option linter.unusedVariables false
theorem c_loser_Replace {fu : Nat} {t1 : TApiLsTree} {k2 : TApiLsKey} {r : TApiLsTree × Int × Int} (h0 : loser_Replace fu t1 k2 = some r) : PCall Try.prog 100 [.agg (TApiLsTree.enc t1), .agg (TApiLsKey.enc k2)] (.tup [.agg (TApiLsTree.enc r.1), .int .i64 r.2.1, .int .i64 r.2.2]) [] := by
 refine awp_pcall Try.func100 rfl (by decide) (Nat.le_of_ble_eq_true rfl) ?_
 dsimp only [Try.f100]
 rw [loser_Replace] at h0
 refine (show AWP _ _ _ _ ⟨enumFr 0 _, [], 0, []⟩ from ?_)
 refine awp_sr2 40 [2, 3, 4, 5] (fun _ => none) rfl (fun _ _ => rT) ?_
 refine awp_scope ?_
 refine awp_seq ?_
 obtain ⟨vr3, hvr3, h0⟩ := bindS h0
 refine awp_sr2 64 [2, 3, 4, 5, 7] (fun | 1 => some (.int .i64 vr3, []) | _ => none) rfl (fun _ _ => rC (c_loser_open hvr3)) ?_
 refine awp_sr2 80 [2, 3, 4, 5, 7, 14] (fun _ => none) rfl (fun _ _ => rT) ?_
 refine awp_if rfl (fun hb4 => ?_) (fun hb4 => ?_)
 ·
  replace h0 := iteT h0 hb4
  refine awp_sr2 120 [4, 5, 6] (fun _ => none) rfl (fun _ _ => rT) ?_
  refine awp_ret ?_
  refine kr_then ?_
  refine kr_scope ?_
  obtain rfl := Option.some.inj h0
  refine leave_retG [] ?_
  exact rG
 ·
  replace h0 := iteF h0 hb4
  refine awp_skip ?_
  refine kn_then ?_
  refine awp_seq ?_
  obtain ⟨vr5, hvr5, h0⟩ := bindS h0
  refine awp_sr2 112 [2, 3, 4, 5, 8] (fun | 2 => some (.int .i64 vr5, []) | _ => none) rfl (fun _ _ => rC (c_loser_check hvr5)) ?_
  refine awp_re (s2 := ⟨[(2, .ref 0 0 0 0), (3, .ref 8 0 0 0), (4, .ref 16 0 0 0), (5, .int .i64 0), (8, .int .i64 vr5)], [(0, ⟨0, true, true, 3, [[.psl 2 (List.map TApiLsKey.enc t1.Keys), .psl 1 (List.map (encInt .i64) t1.Lose), .int .i64 t1.Win]]⟩), (8, ⟨0, true, true, 2, [[.str k2.Key, .bool k2.Done]]⟩), (16, ⟨0, true, true, 3, [[.nils, .nils, .int .i64 0]]⟩), (88, ⟨0, true, true, 2, List.map TApiLsKey.enc [k2]⟩)], 112, []⟩) [] (Nat.le_of_ble_eq_true rfl) ⟨rF, rE, rfl, rfl, trivial, trivial⟩ ?_
  refine awp_sr2 128 [2, 3, 4, 5, 8, 21] (fun _ => none) rfl (fun _ _ => rT) ?_
  refine awp_if rfl (fun hb6 => ?_) (fun hb6 => ?_)
  ·
   replace h0 := iteT h0 hb6
   refine awp_sr2 168 [4, 5, 6] (fun _ => none) rfl (fun _ _ => rT) ?_
   refine awp_ret ?_
   refine kr_then ?_
   refine kr_scope ?_
   obtain rfl := Option.some.inj h0
   refine leave_retG [] ?_
   exact rG
  ·
   replace h0 := iteF h0 hb6
   refine awp_skip ?_
   refine kn_then ?_
   refine awp_seq ?_
   obtain ⟨b8, hb8, h0⟩ := bindS h0
   refine awp_sd3 (fr' := [(2, .ref 0 0 0 0), (3, .ref 8 0 0 0), (4, .ref 16 0 0 0), (5, .int .i64 0), (38, .bool b8)]) (hp' := [(0, ⟨0, true, true, 3, [[.psl 2 (List.map TApiLsKey.enc t1.Keys), .psl 1 (List.map (encInt .i64) t1.Lose), .int .i64 t1.Win]]⟩), (8, ⟨0, true, true, 2, [[.str k2.Key, .bool k2.Done]]⟩), (16, ⟨0, true, true, 3, [[.nils, .nils, .int .i64 0]]⟩), (88, ⟨0, true, true, 2, List.map TApiLsKey.enc [k2]⟩)]) [0, 8, 16, 88] 248 [2, 3, 4, 5, 38] (fun _ => none) rfl rfl rfl (fun Kt hK => by
     cases hg9 : (!k2.Done) with
     | false =>
      replace hb8 := iteF hb8 hg9
      have hqb8 := Option.some.inj hb8
      subst hqb8
      simp (maxSteps := 1000000) only [↓reduceIte, reduceCtorEq, Nat.reduceEqDiff, Nat.reduceLT, Nat.reduceLeDiff, Nat.reduceAdd, Nat.reduceMul, Int.reduceToNat, push_cast, ↓hg9]
      try simp only [↓hg9] at hK
      all_goals exact rUd
     | true =>
      replace hb8 := iteT hb8 hg9
      obtain ⟨e7, he7, hb8⟩ := bindS hb8
      obtain ⟨he7a, he7b, he7c⟩ := idxS he7
      have hqb8 := Option.some.inj hb8
      subst hqb8
      simp (maxSteps := 1000000) only [↓reduceIte, reduceCtorEq, Nat.reduceEqDiff, Nat.reduceLT, Nat.reduceLeDiff, Nat.reduceAdd, Nat.reduceMul, Int.reduceToNat, push_cast, ↓hg9, he7a, he7b, he7c, he7]
      try simp only [↓hg9] at hK
      all_goals exact rUd) ?_
   refine awp_if rfl (fun hb10 => ?_) (fun hb10 => ?_)
   ·
    replace h0 := iteT h0 hb10
    refine awp_sr2 280 [4, 5, 6] (fun _ => none) rfl (fun _ _ => rT) ?_
    refine awp_ret ?_
    refine kr_then ?_
    refine kr_scope ?_
    obtain rfl := Option.some.inj h0
    refine leave_retG [] ?_
    exact rG
   ·
    replace h0 := iteF h0 hb10
    refine awp_skip ?_
    refine kn_then ?_
    obtain ⟨vr11, hvr11, h0⟩ := bindS h0
    obtain ⟨vr12, hvr12, h0⟩ := bindS h0
    refine awp_sd2 328 [3, 4, 5] (fun | 2 => some (.sl 0 0 2 0 vr11.length, [⟨0, true, true, 2, vr11.map TApiLsKey.enc⟩]) | 5 => some (.sl 0 0 1 0 vr12.length, [⟨0, true, true, 1, vr12.map (encInt .i64)⟩]) | _ => none) rfl rfl rfl (fun Kt hK => by
      try have q0 := c_slices_Clone_apiLsKey_2 hvr11
      try have q1 := c_slices_Clone_int_2 hvr12
      exact rTd) ?_
    obtain ⟨e13, he13, h0⟩ := bindS h0
    obtain ⟨he13a, he13b, he13c⟩ := idxS he13
    refine awp_sr2 384 [4, 5] (fun _ => none) rfl (fun _ _ => rS (rA he13a (rA he13b he13c))) ?_
    refine awp_re (s2 := ⟨[(4, .ref 16 0 0 0), (5, .int .i64 0)], [(0, ⟨0, true, true, 3, [[.psl 2 (List.map TApiLsKey.enc t1.Keys), .psl 1 (List.map (encInt .i64) t1.Lose), .int .i64 t1.Win]]⟩), (8, ⟨0, true, true, 2, [[.str k2.Key, .bool k2.Done]]⟩), (16, ⟨0, true, false, 3, [[.sl 264 0 2 0 ((vr11.set t1.Win.toNat k2).length), .sl 288 0 1 0 vr12.length, .int .i64 t1.Win]]⟩), (88, ⟨0, true, true, 2, List.map TApiLsKey.enc [k2]⟩), (264, ⟨0, true, true, 2, List.map TApiLsKey.enc (vr11.set t1.Win.toNat k2)⟩), (288, ⟨0, true, true, 1, List.map (encInt .i64) vr12⟩)], 384, []⟩) [] (Nat.le_of_ble_eq_true rfl) ⟨rF, rE, rfl, rfl, trivial, trivial⟩ ?_
    obtain ⟨vr14, hvr14, h0⟩ := bindS h0
    refine awp_sr2 416 [4, 5, 9] (fun | 2 => some (.fn 110 [] [.pp [.psl 2 (vr14.map TApiLsKey.enc)]], []) | _ => none) rfl (fun _ _ => rB (rA he13a (rA he13b he13c)) (c_loser_judge hvr14)) ?_
    refine awp_sr2 472 [4, 5, 9, 10] (fun _ => none) rfl (fun _ _ => rS (rA he13a (rA he13b he13c))) ?_
    refine awp_seq ?_
    refine awp_label ?_
    refine kn_then ?_
    obtain ⟨x28, hxx28, h0⟩ := bindS h0
    refine awp_sloop (fun s' => ∃ g38 : Nat, s'.nx ≤ 512 ∧ LeN [] s' ⟨[(4, .ref 16 0 0 0), (5, .int .i64 x28.1)], [(0, ⟨0, true, true, 3, [[.psl 2 (List.map TApiLsKey.enc t1.Keys), .psl 1 (List.map (encInt .i64) t1.Lose), .int .i64 t1.Win]]⟩), (8, ⟨0, true, true, 2, [[.str k2.Key, .bool k2.Done]]⟩), (16, ⟨0, true, false, 3, [[.sl 264 0 2 0 ((vr11.set t1.Win.toNat k2).length), .sl 288 g38 1 0 x28.2.2.length, .int .i64 x28.2.1]]⟩), (88, ⟨0, true, true, 2, List.map TApiLsKey.enc [k2]⟩), (264, ⟨0, false, true, 2, List.map TApiLsKey.enc (vr11.set t1.Win.toNat k2)⟩), (288, ⟨g38, true, true, 1, List.map (encInt .i64) x28.2.2⟩)], 512, []⟩) ?_ ?_
    ·
     intro s' hs
     obtain ⟨g38, hn, hs⟩ := hs
     refine awp_re [] hn hs ?_
     refine awp_sr2 552 [4, 5, 6] (fun _ => none) rfl (fun _ _ => rS (rA he13a (rA he13b he13c))) ?_
     refine awp_ret ?_
     refine kr_scope ?_
     obtain rfl := Option.some.inj h0
     refine leave_retG [] ?_
     simp (maxSteps := 1000000) only [↓reduceIte, reduceCtorEq, Nat.reduceEqDiff, Nat.reduceLT, Nat.reduceLeDiff, Nat.reduceAdd, Nat.reduceMul, Int.reduceToNat, push_cast, Gives, he13a, he13b, he13c]
     all_goals exact rH
    ·
     refine awp_loopF (ι := { p : Nat × Int × Int × Int × List Int × Nat // loser_Replace_l1 vr14 p.1 p.2.1 p.2.2.1 p.2.2.2.1 p.2.2.2.2.1 = some x28 }) (fun p => ⟨[(4, .ref 16 0 0 0), (5, .int .i64 p.1.2.1), (9, .fn 110 [] [.pp [.psl 2 (List.map TApiLsKey.enc vr14)]]), (10, .int .i64 p.1.2.2.1)], [(0, ⟨0, true, true, 3, [[.psl 2 (List.map TApiLsKey.enc t1.Keys), .psl 1 (List.map (encInt .i64) t1.Lose), .int .i64 t1.Win]]⟩), (8, ⟨0, true, true, 2, [[.str k2.Key, .bool k2.Done]]⟩), (16, ⟨0, true, false, 3, [[.sl 264 0 2 0 ((vr11.set t1.Win.toNat k2).length), .sl 288 p.1.2.2.2.2.2 1 0 p.1.2.2.2.2.1.length, .int .i64 p.1.2.2.2.1]]⟩), (88, ⟨0, true, true, 2, List.map TApiLsKey.enc [k2]⟩), (264, ⟨0, false, true, 2, List.map TApiLsKey.enc (vr11.set t1.Win.toNat k2)⟩), (288, ⟨p.1.2.2.2.2.2, true, true, 1, List.map (encInt .i64) p.1.2.2.2.2.1⟩)], 472, []⟩) (fun p => p.1.1) ⟨(fu, 0, (IntKind.i64.wrap (((vr11.set t1.Win.toNat k2).length : Int) + t1.Win)), t1.Win, vr12, 0), hxx28⟩ ⟨rF, rE, rfl, rfl, trivial, trivial⟩ (fun _ => Nat.le_refl _) ?_
     rintro ⟨⟨fu, games29, node30, u31, v32, g33⟩, h1⟩
     cases fu with
     | zero =>
   replace h1 : loser_Replace_l1 vr14 0 games29 node30 u31 v32 = some x28 := h1
   rw [loser_Replace_l1] at h1; cases h1
     | succ fu =>
      replace h1 : loser_Replace_l1 vr14 (fu + 1) games29 node30 u31 v32 = some x28 := h1
      rw [loser_Replace_l1] at h1
      refine (show AWP _ _ _ _ ⟨[(4, .ref 16 0 0 0), (5, .int .i64 games29), (9, .fn 110 [] [.pp [.psl 2 (List.map TApiLsKey.enc vr14)]]), (10, .int .i64 node30)], [(0, ⟨0, true, true, 3, [[.psl 2 (List.map TApiLsKey.enc t1.Keys), .psl 1 (List.map (encInt .i64) t1.Lose), .int .i64 t1.Win]]⟩), (8, ⟨0, true, true, 2, [[.str k2.Key, .bool k2.Done]]⟩), (16, ⟨0, true, false, 3, [[.sl 264 0 2 0 ((vr11.set t1.Win.toNat k2).length), .sl 288 g33 1 0 v32.length, .int .i64 u31]]⟩), (88, ⟨0, true, true, 2, List.map TApiLsKey.enc [k2]⟩), (264, ⟨0, false, true, 2, List.map TApiLsKey.enc (vr11.set t1.Win.toNat k2)⟩), (288, ⟨g33, true, true, 1, List.map (encInt .i64) v32⟩)], 472, []⟩ from ?_)
      refine awp_block ?_
      refine awp_sr2 496 [4, 5, 9, 10] (fun _ => none) rfl (fun _ _ => rS (rA he13a (rA he13b he13c))) ?_
      refine awp_seq ?_
      refine awp_sr2 512 [4, 5, 9, 10, 67] (fun _ => none) rfl (fun _ _ => rS (rA he13a (rA he13b he13c))) ?_
      refine awp_if rfl (fun hb34 => ?_) (fun hb34 => ?_)
      ·
       replace h1 := iteT h1 hb34
       refine awp_exit ?_
       refine kx_then ?_
       refine kx_other (by decide) ?_
       refine kx_then ?_
       refine kx_done ?_
       obtain rfl := Option.some.inj h1
       exact ⟨g33, Nat.le_of_ble_eq_true rfl, ⟨rF, rE, rfl, rfl, trivial, trivial⟩⟩
      ·
       replace h1 := iteF h1 hb34
       refine awp_skip ?_
       refine kn_then ?_
       refine awp_sr2 536 [4, 5, 9, 10] (fun _ => none) rfl (fun _ _ => rS (rA he13a (rA he13b he13c))) ?_
       obtain ⟨e35, he35, h1⟩ := bindS h1
       obtain ⟨he35a, he35b, he35c⟩ := idxS he35
       obtain ⟨vr36, hvr36, h1⟩ := bindS h1
       refine awp_sd2 608 [4, 5, 9, 10, 78] (fun | 8 => some (.bool vr36, []) | _ => none) rfl rfl rfl (fun _ _ => rBd (rA he13a (rA he13b (rA he13c (rA he35a (rA he35b he35c))))) (c_loser_judge_1 hvr36)) ?_
       refine awp_if rfl (fun hb37 => ?_) (fun hb37 => ?_)
       ·
        replace h1 := iteT h1 hb37
        refine awp_d2 720 [4, 5, 9, 10] (fun _ => none) rfl rfl rfl (fun _ _ => rSd (rA he13a (rA he13b (rA he13c (rA he35a (rA he35b he35c)))))) ?_
        refine kn_block ?_
        refine kn_then ?_
        exact ⟨⟨(fu, (IntKind.i64.wrap (games29 + 1)), (IntKind.i64.wrap (node30.tdiv 2)), e35, (v32.set ((IntKind.i64.wrap (node30.tdiv 2)).toNat) u31), g33), h1⟩, ⟨rF, rE, rfl, rfl, trivial, trivial⟩, Nat.lt_succ_self _⟩
       ·
        replace h1 := iteF h1 hb37
        refine awp_skip ?_
        refine kn_block ?_
        refine kn_then ?_
        exact ⟨⟨(fu, (IntKind.i64.wrap (games29 + 1)), (IntKind.i64.wrap (node30.tdiv 2)), u31, v32, g33), h1⟩, ⟨rF, rE, rfl, rfl, trivial, trivial⟩, Nat.lt_succ_self _⟩
end Go.T
end
section
namespace Go.T
open Go Go.AM Go.Proofs
set_option maxRecDepth 100000
set_option maxHeartbeats 4000000
set_option linter.unusedVariables false
theorem c_merge_All {fu : Nat} {runs1 : List (List TApiEntry)} {r : List TApiEntry × List Int × Int} (h0 : merge_All fu runs1 = some r) : PCall Try.prog 60 [.psl 1 (runs1.map (encSl 4 TApiEntry.enc))] (.tup [.psl 4 (r.1.map TApiEntry.enc), .psl 1 (r.2.1.map (encInt .i64)), .int .i64 r.2.2]) [] := by
 refine awp_pcall Try.func60 rfl (by decide) (Nat.le_of_ble_eq_true rfl) ?_
 dsimp only [Try.f60]
 rw [merge_All] at h0
 refine (show AWP _ _ _ _ ⟨enumFr 0 _, [], 0, []⟩ from ?_)
 refine awp_sr2 24 [0, 2, 3] (fun _ => none) rfl (fun _ _ => rT) ?_
 obtain ⟨vr2, hvr2, h0⟩ := bindS h0
 refine awp_sr2 104 [2, 3, 4, 5] (fun | 1 => some (.tup [.agg [.psl 1 (List.map (encSl 4 TApiEntry.enc) vr2.1.Runs), .sl 0 0 1 0 vr2.1.At.length, .psl 2 (List.map TApiLsKey.enc vr2.1.Tree.Keys), .psl 1 (List.map (encInt .i64) vr2.1.Tree.Lose), .int .i64 vr2.1.Tree.Win], .int .i64 vr2.2.1, .int .i64 vr2.2.2], [⟨0, true, true, 1, vr2.1.At.map (encInt .i64)⟩]) | _ => none) rfl (fun _ _ => rC (c_merge_Begin_2 hvr2)) ?_
 refine awp_seq ?_
 refine awp_sr2 120 [2, 3, 4, 5, 17] (fun _ => none) rfl (fun _ _ => rT) ?_
 refine awp_if rfl (fun hb3 => ?_) (fun hb3 => ?_)
 ·
  replace h0 := iteT h0 hb3
  refine awp_sr2 152 [2, 3, 4] (fun _ => none) rfl (fun _ _ => rT) ?_
  refine awp_ret ?_
  refine kr_then ?_
  obtain rfl := Option.some.inj h0
  refine leave_retG [] ?_
  exact rG
 ·
  replace h0 := iteF h0 hb3
  refine awp_skip ?_
  refine kn_then ?_
  refine awp_sr2 152 [2, 3, 4, 7] (fun _ => none) rfl (fun _ _ => rT) ?_
  refine awp_seq ?_
  refine awp_sops2 2 rfl ?_
  refine awpo_cut (l' := List.range' 0 1 ++ (1 :: (List.range' 2 0 ++ []))) rfl ?_
  refine awpo_seg 0 1 160 (1 :: (List.range' 2 0 ++ [])) (fun _ => none) rfl rfl rfl (fun _ _ => rT) ?_
  refine awpo_in rfl rfl rfl rfl rfl Try.func83 rfl (by decide) rfl (Nat.le_of_ble_eq_true rfl) ?_
  dsimp only [Try.f83]
  refine awp_re (s2 := ⟨[(0, .ref 136 0 0 0)], [(0, ⟨0, true, true, 1, [[.nils]]⟩), (8, ⟨0, true, true, 1, [[.nils]]⟩), (32, ⟨0, true, true, 1, List.map (encInt .i64) vr2.1.At⟩), (72, ⟨0, true, false, 5, [[.psl 1 (List.map (encSl 4 TApiEntry.enc) vr2.1.Runs), .sl 32 0 1 0 vr2.1.At.length, .psl 2 (List.map TApiLsKey.enc vr2.1.Tree.Keys), .psl 1 (List.map (encInt .i64) vr2.1.Tree.Lose), .int .i64 vr2.1.Tree.Win]]⟩), (136, ⟨0, true, false, 5, [[.psl 1 (List.map (encSl 4 TApiEntry.enc) vr2.1.Runs), .sl 32 0 1 0 vr2.1.At.length, .psl 2 (List.map TApiLsKey.enc vr2.1.Tree.Keys), .psl 1 (List.map (encInt .i64) vr2.1.Tree.Lose), .int .i64 vr2.1.Tree.Win]]⟩)], 160, []⟩) [] (Nat.le_of_ble_eq_true rfl) ⟨rF, rE, rfl, rfl, trivial, trivial⟩ ?_
  refine awp_sr2 176 [1] (fun _ => none) rfl (fun _ _ => rT) ?_
  refine awp_sr2 192 [2] (fun _ => none) rfl (fun _ _ => rT) ?_
  refine awp_ret ?_
  refine leave_retK (fun _ _ => rT) ?_
  refine awpo_re (s2 := ⟨[(2, .ref 0 0 0 0), (3, .ref 8 0 0 0), (4, .int .i64 vr2.2.2), (7, .ref 136 0 0 0), (22, .ref 136 0 0 0), (23, .fn 98 [] [.ref 160 0 0 0])], [(0, ⟨0, true, true, 1, [[.nils]]⟩), (8, ⟨0, true, true, 1, [[.nils]]⟩), (32, ⟨0, true, true, 1, List.map (encInt .i64) vr2.1.At⟩), (72, ⟨0, true, false, 5, [[.psl 1 (List.map (encSl 4 TApiEntry.enc) vr2.1.Runs), .sl 32 0 1 0 vr2.1.At.length, .psl 2 (List.map TApiLsKey.enc vr2.1.Tree.Keys), .psl 1 (List.map (encInt .i64) vr2.1.Tree.Lose), .int .i64 vr2.1.Tree.Win]]⟩), (136, ⟨0, true, false, 5, [[.psl 1 (List.map (encSl 4 TApiEntry.enc) vr2.1.Runs), .sl 32 0 1 0 vr2.1.At.length, .psl 2 (List.map TApiLsKey.enc vr2.1.Tree.Keys), .psl 1 (List.map (encInt .i64) vr2.1.Tree.Lose), .int .i64 vr2.1.Tree.Win]]⟩), (160, ⟨0, true, false, 1, [[.ref 136 0 0 0]]⟩)], 192, []⟩) [] (Nat.le_of_ble_eq_true rfl) ⟨rF, rE, rfl, rfl, trivial, trivial⟩ ?_
  refine awpo_cut (l' := []) rfl ?_
  refine awpo_nil ?_
  refine kn_then ?_
  refine awp_re (s2 := ⟨[(2, .ref 0 0 0 0), (3, .ref 8 0 0 0), (4, .int .i64 vr2.2.2), (23, .fn 98 [] [.ref 160 0 0 0])], [(0, ⟨0, true, true, 1, [[.nils]]⟩), (8, ⟨0, true, true, 1, [[.nils]]⟩), (32, ⟨0, true, true, 1, List.map (encInt .i64) vr2.1.At⟩), (72, ⟨0, true, false, 5, [[.psl 1 (List.map (encSl 4 TApiEntry.enc) vr2.1.Runs), .sl 32 0 1 0 vr2.1.At.length, .psl 2 (List.map TApiLsKey.enc vr2.1.Tree.Keys), .psl 1 (List.map (encInt .i64) vr2.1.Tree.Lose), .int .i64 vr2.1.Tree.Win]]⟩), (136, ⟨0, true, false, 5, [[.psl 1 (List.map (encSl 4 TApiEntry.enc) vr2.1.Runs), .sl 32 0 1 0 vr2.1.At.length, .psl 2 (List.map TApiLsKey.enc vr2.1.Tree.Keys), .psl 1 (List.map (encInt .i64) vr2.1.Tree.Lose), .int .i64 vr2.1.Tree.Win]]⟩), (160, ⟨0, true, false, 1, [[.ref 136 0 0 0]]⟩)], 192, []⟩) [] (Nat.le_of_ble_eq_true rfl) ⟨rF, rE, rfl, rfl, trivial, trivial⟩ ?_
  refine awp_block ?_
  refine awp_rangeV rfl Try.func98 rfl (by decide) (Nat.le_of_ble_eq_true rfl) ?_
  intro RC4 hRC4
  have stRC4 : RC4.st = .ready ∧ RC4.pend = none := by rw [hRC4]; exact ⟨rfl, rfl⟩
  have okRC4 : RCok 192 RC4 := by rw [hRC4]; exact And.intro (rR) rfl
  dsimp only [Try.f98]
  refine awp_re (s2 := ⟨[(0, .yld 192), (1, .ref 160 0 0 0)], [(0, ⟨0, true, true, 1, [[.nils]]⟩), (8, ⟨0, true, true, 1, [[.nils]]⟩), (32, ⟨0, true, true, 1, List.map (encInt .i64) vr2.1.At⟩), (72, ⟨0, true, false, 5, [[.psl 1 (List.map (encSl 4 TApiEntry.enc) vr2.1.Runs), .sl 32 0 1 0 vr2.1.At.length, .psl 2 (List.map TApiLsKey.enc vr2.1.Tree.Keys), .psl 1 (List.map (encInt .i64) vr2.1.Tree.Lose), .int .i64 vr2.1.Tree.Win]]⟩), (136, ⟨0, true, false, 5, [[.psl 1 (List.map (encSl 4 TApiEntry.enc) vr2.1.Runs), .sl 32 0 1 0 vr2.1.At.length, .psl 2 (List.map TApiLsKey.enc vr2.1.Tree.Keys), .psl 1 (List.map (encInt .i64) vr2.1.Tree.Lose), .int .i64 vr2.1.Tree.Win]]⟩), (160, ⟨0, true, false, 1, [[.ref 136 0 0 0]]⟩)], 193, [(192, RC4)]⟩) [] (Nat.le_of_ble_eq_true rfl) ⟨rF, rE, rfl, rfl, (LpLe.consR (Nat.le_of_ble_eq_true rfl) rfl okRC4 (Nat.le_of_ble_eq_true rfl) trivial), trivial⟩ ?_
  refine awp_post ?_
  refine awp_re (s2 := ⟨[(0, .yld 192), (1, .ref 160 0 0 0)], [(0, ⟨0, true, false, 1, [[.sl 193 0 4 0 0]]⟩), (8, ⟨0, true, false, 1, [[.sl 194 0 1 0 0]]⟩), (32, ⟨0, true, true, 1, List.map (encInt .i64) vr2.1.At⟩), (72, ⟨0, true, false, 5, [[.psl 1 (List.map (encSl 4 TApiEntry.enc) vr2.1.Runs), .sl 32 0 1 0 vr2.1.At.length, .psl 2 (List.map TApiLsKey.enc vr2.1.Tree.Keys), .psl 1 (List.map (encInt .i64) vr2.1.Tree.Lose), .int .i64 vr2.1.Tree.Win]]⟩), (136, ⟨0, true, false, 5, [[.psl 1 (List.map (encSl 4 TApiEntry.enc) vr2.1.Runs), .sl 32 0 1 0 vr2.1.At.length, .psl 2 (List.map TApiLsKey.enc vr2.1.Tree.Keys), .psl 1 (List.map (encInt .i64) vr2.1.Tree.Lose), .int .i64 vr2.1.Tree.Win]]⟩), (160, ⟨0, true, false, 1, [[.ref 136 0 0 0]]⟩), (193, ⟨0, true, true, 4, List.map TApiEntry.enc []⟩), (194, ⟨0, true, true, 1, List.map (encInt .i64) []⟩)], 195, [(192, RC4)]⟩) [(193, 4), (194, 1)] (Nat.le_of_ble_eq_true rfl) ⟨rF, rE, rfl, rfl, (LpLe.consR (Nat.le_of_ble_eq_true rfl) rfl okRC4 (Nat.le_of_ble_eq_true rfl) trivial), rN⟩ ?_
  obtain ⟨x37, hxx37, h0⟩ := bindS h0
  refine awp_bloop (fun _ => False) ?_ ?_
  ·
   intro _ h; exact h.elim
  ·
   refine awp_loopF (ι := { p : Nat × List Int × List TApiLsKey × List Int × Int × List TApiEntry × List Int × Nat × Nat × Nat // merge_All_l1 vr2 p.1 p.2.1 p.2.2.1 p.2.2.2.1 p.2.2.2.2.1 p.2.2.2.2.2.1 p.2.2.2.2.2.2.1 = some x37 }) (fun p => ⟨[(0, .yld 192), (1, .ref 160 0 0 0)], [(0, ⟨0, true, false, 1, [[.sl 193 p.1.2.2.2.2.2.2.2.2.1 4 0 p.1.2.2.2.2.2.1.length]]⟩), (8, ⟨0, true, false, 1, [[.sl 194 p.1.2.2.2.2.2.2.2.2.2 1 0 p.1.2.2.2.2.2.2.1.length]]⟩), (32, ⟨p.1.2.2.2.2.2.2.2.1, true, true, 1, List.map (encInt .i64) p.1.2.1⟩), (72, ⟨0, true, false, 5, [[.psl 1 (List.map (encSl 4 TApiEntry.enc) vr2.1.Runs), .sl 32 p.1.2.2.2.2.2.2.2.1 1 0 p.1.2.1.length, .psl 2 (List.map TApiLsKey.enc vr2.1.Tree.Keys), .psl 1 (List.map (encInt .i64) vr2.1.Tree.Lose), .int .i64 vr2.1.Tree.Win]]⟩), (136, ⟨0, true, false, 5, [[.psl 1 (List.map (encSl 4 TApiEntry.enc) vr2.1.Runs), .sl 32 p.1.2.2.2.2.2.2.2.1 1 0 p.1.2.1.length, .psl 2 (List.map TApiLsKey.enc p.1.2.2.1), .psl 1 (List.map (encInt .i64) p.1.2.2.2.1), .int .i64 p.1.2.2.2.2.1]]⟩), (160, ⟨0, true, false, 1, [[.ref 136 0 0 0]]⟩), (193, ⟨p.1.2.2.2.2.2.2.2.2.1, true, true, 4, List.map TApiEntry.enc p.1.2.2.2.2.2.1⟩), (194, ⟨p.1.2.2.2.2.2.2.2.2.2, true, true, 1, List.map (encInt .i64) p.1.2.2.2.2.2.2.1⟩)], 195, [(192, RC4)]⟩) (fun p => p.1.1) ⟨(fu, vr2.1.At, vr2.1.Tree.Keys, vr2.1.Tree.Lose, vr2.1.Tree.Win, [], [], 0, 0, 0), hxx37⟩ ⟨rF, rE, rfl, rfl, (LpLe.consR (Nat.le_of_ble_eq_true rfl) rfl okRC4 (Nat.le_of_ble_eq_true rfl) trivial), trivial⟩ (fun _ => Nat.le_refl _) ?_
   rintro ⟨⟨fu, v38, v39, v40, v41, v42, v43, g44, g45, g46⟩, h1⟩
   cases fu with
   | zero =>
   replace h1 : merge_All_l1 vr2 0 v38 v39 v40 v41 v42 v43 = some x37 := h1
   rw [merge_All_l1] at h1; cases h1
   | succ fu =>
    replace h1 : merge_All_l1 vr2 (fu + 1) v38 v39 v40 v41 v42 v43 = some x37 := h1
    rw [merge_All_l1] at h1
    refine (show AWP _ _ _ _ ⟨[(0, .yld 192), (1, .ref 160 0 0 0)], [(0, ⟨0, true, false, 1, [[.sl 193 g45 4 0 v42.length]]⟩), (8, ⟨0, true, false, 1, [[.sl 194 g46 1 0 v43.length]]⟩), (32, ⟨g44, true, true, 1, List.map (encInt .i64) v38⟩), (72, ⟨0, true, false, 5, [[.psl 1 (List.map (encSl 4 TApiEntry.enc) vr2.1.Runs), .sl 32 g44 1 0 v38.length, .psl 2 (List.map TApiLsKey.enc vr2.1.Tree.Keys), .psl 1 (List.map (encInt .i64) vr2.1.Tree.Lose), .int .i64 vr2.1.Tree.Win]]⟩), (136, ⟨0, true, false, 5, [[.psl 1 (List.map (encSl 4 TApiEntry.enc) vr2.1.Runs), .sl 32 g44 1 0 v38.length, .psl 2 (List.map TApiLsKey.enc v39), .psl 1 (List.map (encInt .i64) v40), .int .i64 v41]]⟩), (160, ⟨0, true, false, 1, [[.ref 136 0 0 0]]⟩), (193, ⟨g45, true, true, 4, List.map TApiEntry.enc v42⟩), (194, ⟨g46, true, true, 1, List.map (encInt .i64) v43⟩)], 195, [(192, RC4)]⟩ from ?_)
    refine awp_block ?_
    obtain ⟨vr47, hvr47, h1⟩ := bindS h1
    refine awp_sr2 275 [0, 1, 3, 4, 5] (fun | 1 => some (.tup [.agg (TApiEntry.enc vr47.1), .int .i64 vr47.2.1, .int .i64 vr47.2.2], []) | _ => none) rfl (fun _ _ => rC (c_merge_reader_peek hvr47)) ?_
    refine awp_seq ?_
    refine awp_sops2 9 rfl ?_
    refine awpo_cut (l' := List.range' 0 3 ++ (List.range' 3 6 ++ [])) rfl ?_
    refine awpo_seg 0 3 299 (List.range' 3 6 ++ []) (fun _ => none) rfl rfl rfl (fun _ _ => rT) ?_
    refine awpo_re (s2 := ⟨[(0, .yld 192), (1, .ref 160 0 0 0), (3, .ref 243 0 0 0), (4, .int .i64 vr47.2.1), (5, .int .i64 vr47.2.2), (12, .int .i64 vr47.2.2), (13, .bool (!(decide (vr47.2.2 = 0)))), (14, .bool (!(decide (vr47.2.2 = 0))))], [(0, ⟨0, true, false, 1, [[.sl 193 g45 4 0 v42.length]]⟩), (8, ⟨0, true, false, 1, [[.sl 194 g46 1 0 v43.length]]⟩), (32, ⟨g44, true, true, 1, List.map (encInt .i64) v38⟩), (72, ⟨0, true, false, 5, [[.psl 1 (List.map (encSl 4 TApiEntry.enc) vr2.1.Runs), .sl 32 g44 1 0 v38.length, .psl 2 (List.map TApiLsKey.enc vr2.1.Tree.Keys), .psl 1 (List.map (encInt .i64) vr2.1.Tree.Lose), .int .i64 vr2.1.Tree.Win]]⟩), (136, ⟨0, true, false, 5, [[.psl 1 (List.map (encSl 4 TApiEntry.enc) vr2.1.Runs), .sl 32 g44 1 0 v38.length, .psl 2 (List.map TApiLsKey.enc v39), .psl 1 (List.map (encInt .i64) v40), .int .i64 v41]]⟩), (160, ⟨0, true, false, 1, [[.ref 136 0 0 0]]⟩), (193, ⟨g45, true, true, 4, List.map TApiEntry.enc v42⟩), (194, ⟨g46, true, true, 1, List.map (encInt .i64) v43⟩), (243, ⟨0, true, true, 4, [[.str vr47.1.Key, .str vr47.1.Val, .bool vr47.1.Dead, .int .i64 vr47.1.Seq]]⟩)], 299, [(192, RC4)]⟩) [] (Nat.le_of_ble_eq_true rfl) ⟨rF, rE, rfl, rfl, (LpLe.consR (Nat.le_of_ble_eq_true rfl) rfl okRC4 (Nat.le_of_ble_eq_true rfl) trivial), trivial⟩ ?_
    generalize hg48 : (!(decide (vr47.2.2 = 0))) = b48
    cases b48 with
    | true =>
     replace h1 := iteT h1 hg48
     refine awpo_cut (l' := List.range' 3 6 ++ []) rfl ?_
     refine awpo_seg 3 6 347 [] (fun _ => none) rfl rfl rfl (fun _ _ => rT) ?_
     refine awpo_nil ?_
     refine kn_then ?_
     refine awp_re (s2 := ⟨[(0, .yld 192), (1, .ref 160 0 0 0), (4, .int .i64 vr47.2.1), (20, .bool true)], [(0, ⟨0, true, false, 1, [[.sl 193 g45 4 0 v42.length]]⟩), (8, ⟨0, true, false, 1, [[.sl 194 g46 1 0 v43.length]]⟩), (32, ⟨g44, true, true, 1, List.map (encInt .i64) v38⟩), (72, ⟨0, true, false, 5, [[.psl 1 (List.map (encSl 4 TApiEntry.enc) vr2.1.Runs), .sl 32 g44 1 0 v38.length, .psl 2 (List.map TApiLsKey.enc vr2.1.Tree.Keys), .psl 1 (List.map (encInt .i64) vr2.1.Tree.Lose), .int .i64 vr2.1.Tree.Win]]⟩), (136, ⟨0, true, false, 5, [[.psl 1 (List.map (encSl 4 TApiEntry.enc) vr2.1.Runs), .sl 32 g44 1 0 v38.length, .psl 2 (List.map TApiLsKey.enc v39), .psl 1 (List.map (encInt .i64) v40), .int .i64 v41]]⟩), (160, ⟨0, true, false, 1, [[.ref 136 0 0 0]]⟩), (193, ⟨g45, true, true, 4, List.map TApiEntry.enc v42⟩), (194, ⟨g46, true, true, 1, List.map (encInt .i64) v43⟩), (243, ⟨0, true, true, 4, [[.str vr47.1.Key, .str vr47.1.Val, .bool vr47.1.Dead, .int .i64 vr47.1.Seq]]⟩)], 347, [(192, RC4)]⟩) [] (Nat.le_of_ble_eq_true rfl) ⟨rF, rE, rfl, rfl, (LpLe.consR (Nat.le_of_ble_eq_true rfl) rfl okRC4 (Nat.le_of_ble_eq_true rfl) trivial), trivial⟩ ?_
     refine awp_condT rfl ?_
     refine awp_ret ?_
     obtain rfl := Option.some.inj h1
     refine kr_then ?_
     refine kr_block ?_
     refine kr_then ?_
     refine kr_loop ?_
     refine kr_post ?_
     refine leave_retK (fun _ _ => rT) ?_
     refine behind_ok stRC4 rfl ?_
     refine kn_block ?_
     refine kn_then ?_
     refine awp_re (s2 := ⟨[(2, .ref 0 0 0 0), (3, .ref 8 0 0 0), (4, .int .i64 vr2.2.2), (23, .fn 98 [] [.ref 160 0 0 0])], [(0, ⟨0, true, false, 1, [[.sl 193 g45 4 0 v42.length]]⟩), (8, ⟨0, true, false, 1, [[.sl 194 g46 1 0 v43.length]]⟩), (32, ⟨g44, true, true, 1, List.map (encInt .i64) v38⟩), (72, ⟨0, true, false, 5, [[.psl 1 (List.map (encSl 4 TApiEntry.enc) vr2.1.Runs), .sl 32 g44 1 0 v38.length, .psl 2 (List.map TApiLsKey.enc vr2.1.Tree.Keys), .psl 1 (List.map (encInt .i64) vr2.1.Tree.Lose), .int .i64 vr2.1.Tree.Win]]⟩), (136, ⟨0, true, false, 5, [[.psl 1 (List.map (encSl 4 TApiEntry.enc) vr2.1.Runs), .sl 32 g44 1 0 v38.length, .psl 2 (List.map TApiLsKey.enc v39), .psl 1 (List.map (encInt .i64) v40), .int .i64 v41]]⟩), (160, ⟨0, true, false, 1, [[.ref 136 0 0 0]]⟩), (193, ⟨g45, true, true, 4, List.map TApiEntry.enc v42⟩), (194, ⟨g46, true, true, 1, List.map (encInt .i64) v43⟩), (243, ⟨0, true, true, 4, [[.str vr47.1.Key, .str vr47.1.Val, .bool vr47.1.Dead, .int .i64 vr47.1.Seq]]⟩)], 347, []⟩) [] (Nat.le_of_ble_eq_true rfl) ⟨rF, rE, rfl, rfl, trivial, trivial⟩ ?_
     refine awp_sd2 387 [2, 3, 4] (fun _ => none) rfl rfl rfl (fun _ _ => rTd) ?_
     refine awp_ret ?_
     obtain rfl := Option.some.inj h0
     refine leave_retG [] ?_
     exact rG
    | false =>
     replace h1 := iteF h1 hg48
     refine awpo_cut (l' := List.range' 3 3 ++ (6 :: (List.range' 7 2 ++ []))) rfl ?_
     refine awpo_seg 3 3 323 (6 :: (List.range' 7 2 ++ [])) (fun _ => none) rfl rfl rfl (fun _ _ => rT) ?_
     refine awpo_yieldV hRC4 rfl rfl rfl rfl rfl rfl rfl rfl rfl ?_
     refine awp_re (s2 := ⟨[(2, .ref 0 0 0 0), (3, .ref 8 0 0 0), (4, .int .i64 vr2.2.2), (23, .fn 98 [] [.ref 160 0 0 0]), (24, .int .i64 vr47.2.1), (25, .agg [.str vr47.1.Key, .str vr47.1.Val, .bool vr47.1.Dead, .int .i64 vr47.1.Seq])], [(0, ⟨0, true, false, 1, [[.sl 193 g45 4 0 v42.length]]⟩), (8, ⟨0, true, false, 1, [[.sl 194 g46 1 0 v43.length]]⟩), (32, ⟨g44, true, true, 1, List.map (encInt .i64) v38⟩), (72, ⟨0, true, false, 5, [[.psl 1 (List.map (encSl 4 TApiEntry.enc) vr2.1.Runs), .sl 32 g44 1 0 v38.length, .psl 2 (List.map TApiLsKey.enc vr2.1.Tree.Keys), .psl 1 (List.map (encInt .i64) vr2.1.Tree.Lose), .int .i64 vr2.1.Tree.Win]]⟩), (136, ⟨0, true, false, 5, [[.psl 1 (List.map (encSl 4 TApiEntry.enc) vr2.1.Runs), .sl 32 g44 1 0 v38.length, .psl 2 (List.map TApiLsKey.enc v39), .psl 1 (List.map (encInt .i64) v40), .int .i64 v41]]⟩), (160, ⟨0, true, false, 1, [[.ref 136 0 0 0]]⟩), (193, ⟨g45, true, true, 4, List.map TApiEntry.enc v42⟩), (194, ⟨g46, true, true, 1, List.map (encInt .i64) v43⟩), (243, ⟨0, true, true, 4, [[.str vr47.1.Key, .str vr47.1.Val, .bool vr47.1.Dead, .int .i64 vr47.1.Seq]]⟩)], 323, [(192, RC4)]⟩) [] (Nat.le_of_ble_eq_true rfl) ⟨rF, rE, rfl, rfl, (LpLe.consR (Nat.le_of_ble_eq_true rfl) rfl okRC4 (Nat.le_of_ble_eq_true rfl) trivial), trivial⟩ ?_
     refine awp_sr2 331 [2, 3, 4, 8, 25] (fun _ => none) rfl (fun _ _ => rT) ?_
     refine awp_r2 347 [2, 3, 4, 8, 9] (fun _ => none) rfl (fun _ _ => rT) ?_
     refine kn_then ?_
     refine ⟨RC4, rfl, stRC4.1, ?_⟩
     refine awp_re (s2 := ⟨[(2, .ref 0 0 0 0), (3, .ref 8 0 0 0), (4, .int .i64 vr2.2.2), (8, .int .i64 vr47.2.1), (9, .ref 331 0 0 0)], [(0, ⟨0, true, false, 1, [[.sl 193 g45 4 0 v42.length]]⟩), (8, ⟨0, true, false, 1, [[.sl 194 g46 1 0 v43.length]]⟩), (32, ⟨g44, true, true, 1, List.map (encInt .i64) v38⟩), (72, ⟨0, true, false, 5, [[.psl 1 (List.map (encSl 4 TApiEntry.enc) vr2.1.Runs), .sl 32 g44 1 0 v38.length, .psl 2 (List.map TApiLsKey.enc vr2.1.Tree.Keys), .psl 1 (List.map (encInt .i64) vr2.1.Tree.Lose), .int .i64 vr2.1.Tree.Win]]⟩), (136, ⟨0, true, false, 5, [[.psl 1 (List.map (encSl 4 TApiEntry.enc) vr2.1.Runs), .sl 32 g44 1 0 v38.length, .psl 2 (List.map TApiLsKey.enc v39), .psl 1 (List.map (encInt .i64) v40), .int .i64 v41]]⟩), (160, ⟨0, true, false, 1, [[.ref 136 0 0 0]]⟩), (193, ⟨g45, true, true, 4, List.map TApiEntry.enc v42⟩), (194, ⟨g46, true, true, 1, List.map (encInt .i64) v43⟩), (243, ⟨0, true, true, 4, [[.str vr47.1.Key, .str vr47.1.Val, .bool vr47.1.Dead, .int .i64 vr47.1.Seq]]⟩), (331, ⟨0, true, true, 4, [[.str vr47.1.Key, .str vr47.1.Val, .bool vr47.1.Dead, .int .i64 vr47.1.Seq]]⟩)], 347, [(192, { RC4 with st := .busy, pend := RC4.pend })]⟩) [] (Nat.le_of_ble_eq_true rfl) ⟨rF, rE, rfl, rfl, (LpLe.consR (Nat.le_of_ble_eq_true rfl) rfl okRC4 (Nat.le_of_ble_eq_true rfl) trivial), trivial⟩ ?_
     refine awp_block ?_
     obtain ⟨hc49, h1⟩ := guS h1
     obtain ⟨hc50, h1⟩ := guS h1
     refine awp_d2 427 [2, 3, 4] (fun _ => none) rfl rfl rfl (fun _ _ => rTd) ?_
     refine kn_block ?_
     refine round_ok stRC4 rfl ?_
     refine awpo_re (s2 := ⟨[(0, .yld 192), (1, .ref 160 0 0 0), (3, .ref 243 0 0 0), (4, .int .i64 vr47.2.1), (5, .int .i64 vr47.2.2), (12, .int .i64 vr47.2.2), (13, .bool false), (14, .bool false), (15, .yld 192), (16, .int .i64 vr47.2.1), (17, .agg [.str vr47.1.Key, .str vr47.1.Val, .bool vr47.1.Dead, .int .i64 vr47.1.Seq]), (18, .bool true)], [(0, ⟨0, true, false, 1, [[.sl 193 (g45 + 1) 4 0 ((v42 ++ [vr47.1]).length)]]⟩), (8, ⟨0, true, false, 1, [[.sl 194 (g46 + 1) 1 0 ((v43 ++ [vr47.2.1]).length)]]⟩), (32, ⟨g44, true, true, 1, List.map (encInt .i64) v38⟩), (72, ⟨0, true, false, 5, [[.psl 1 (List.map (encSl 4 TApiEntry.enc) vr2.1.Runs), .sl 32 g44 1 0 v38.length, .psl 2 (List.map TApiLsKey.enc vr2.1.Tree.Keys), .psl 1 (List.map (encInt .i64) vr2.1.Tree.Lose), .int .i64 vr2.1.Tree.Win]]⟩), (136, ⟨0, true, false, 5, [[.psl 1 (List.map (encSl 4 TApiEntry.enc) vr2.1.Runs), .sl 32 g44 1 0 v38.length, .psl 2 (List.map TApiLsKey.enc v39), .psl 1 (List.map (encInt .i64) v40), .int .i64 v41]]⟩), (160, ⟨0, true, false, 1, [[.ref 136 0 0 0]]⟩), (193, ⟨(g45 + 1), true, true, 4, List.map TApiEntry.enc (v42 ++ [vr47.1])⟩), (194, ⟨(g46 + 1), true, true, 1, List.map (encInt .i64) (v43 ++ [vr47.2.1])⟩), (243, ⟨0, true, true, 4, [[.str vr47.1.Key, .str vr47.1.Val, .bool vr47.1.Dead, .int .i64 vr47.1.Seq]]⟩), (331, ⟨0, true, true, 4, [[.str vr47.1.Key, .str vr47.1.Val, .bool vr47.1.Dead, .int .i64 vr47.1.Seq]]⟩), (363, ⟨0, true, true, 4, List.map TApiEntry.enc [vr47.1]⟩), (395, ⟨0, true, true, 1, List.map (encInt .i64) [vr47.2.1]⟩)], 427, [(192, RC4)]⟩) [] (Nat.le_of_ble_eq_true rfl) ⟨rF, rE, rfl, rfl, (LpLe.consR (Nat.le_of_ble_eq_true rfl) rfl okRC4 (Nat.le_of_ble_eq_true rfl) trivial), trivial⟩ ?_
     refine awpo_cut (l' := List.range' 7 2 ++ []) rfl ?_
     refine awpo_seg 7 2 443 [] (fun _ => none) rfl rfl rfl (fun _ _ => rT) ?_
     refine awpo_nil ?_
     refine kn_then ?_
     refine awp_re (s2 := ⟨[(0, .yld 192), (1, .ref 160 0 0 0), (4, .int .i64 vr47.2.1), (15, .yld 192), (16, .int .i64 vr47.2.1), (17, .agg [.str vr47.1.Key, .str vr47.1.Val, .bool vr47.1.Dead, .int .i64 vr47.1.Seq]), (18, .bool true), (19, .bool false), (20, .bool false)], [(0, ⟨0, true, false, 1, [[.sl 193 (g45 + 1) 4 0 ((v42 ++ [vr47.1]).length)]]⟩), (8, ⟨0, true, false, 1, [[.sl 194 (g46 + 1) 1 0 ((v43 ++ [vr47.2.1]).length)]]⟩), (32, ⟨g44, true, true, 1, List.map (encInt .i64) v38⟩), (72, ⟨0, true, false, 5, [[.psl 1 (List.map (encSl 4 TApiEntry.enc) vr2.1.Runs), .sl 32 g44 1 0 v38.length, .psl 2 (List.map TApiLsKey.enc vr2.1.Tree.Keys), .psl 1 (List.map (encInt .i64) vr2.1.Tree.Lose), .int .i64 vr2.1.Tree.Win]]⟩), (136, ⟨0, true, false, 5, [[.psl 1 (List.map (encSl 4 TApiEntry.enc) vr2.1.Runs), .sl 32 g44 1 0 v38.length, .psl 2 (List.map TApiLsKey.enc v39), .psl 1 (List.map (encInt .i64) v40), .int .i64 v41]]⟩), (160, ⟨0, true, false, 1, [[.ref 136 0 0 0]]⟩), (193, ⟨(g45 + 1), true, true, 4, List.map TApiEntry.enc (v42 ++ [vr47.1])⟩), (194, ⟨(g46 + 1), true, true, 1, List.map (encInt .i64) (v43 ++ [vr47.2.1])⟩), (243, ⟨0, true, true, 4, [[.str vr47.1.Key, .str vr47.1.Val, .bool vr47.1.Dead, .int .i64 vr47.1.Seq]]⟩), (331, ⟨0, true, true, 4, [[.str vr47.1.Key, .str vr47.1.Val, .bool vr47.1.Dead, .int .i64 vr47.1.Seq]]⟩), (363, ⟨0, true, true, 4, List.map TApiEntry.enc [vr47.1]⟩), (395, ⟨0, true, true, 1, List.map (encInt .i64) [vr47.2.1]⟩)], 443, [(192, RC4)]⟩) [] (Nat.le_of_ble_eq_true rfl) ⟨rF, rE, rfl, rfl, (LpLe.consR (Nat.le_of_ble_eq_true rfl) rfl okRC4 (Nat.le_of_ble_eq_true rfl) trivial), trivial⟩ ?_
     refine awp_condF rfl ?_
     refine awp_skip ?_
     refine kn_then ?_
     refine awp_ops2 3 rfl ?_
     refine awpo_cut (l' := List.range' 0 2 ++ (2 :: (List.range' 3 0 ++ []))) rfl ?_
     refine awpo_seg 0 2 459 (2 :: (List.range' 3 0 ++ [])) (fun _ => none) rfl rfl rfl (fun _ _ => rT) ?_
     refine awpo_in rfl rfl rfl rfl rfl Try.func90 rfl (by decide) rfl (Nat.le_of_ble_eq_true rfl) ?_
     dsimp only [Try.f90]
     refine awp_re (s2 := ⟨[(0, .ref 136 0 0 0), (1, .int .i64 vr47.2.1)], [(0, ⟨0, true, false, 1, [[.sl 193 (g45 + 1) 4 0 ((v42 ++ [vr47.1]).length)]]⟩), (8, ⟨0, true, false, 1, [[.sl 194 (g46 + 1) 1 0 ((v43 ++ [vr47.2.1]).length)]]⟩), (32, ⟨g44, true, true, 1, List.map (encInt .i64) v38⟩), (72, ⟨0, true, false, 5, [[.psl 1 (List.map (encSl 4 TApiEntry.enc) vr2.1.Runs), .sl 32 g44 1 0 v38.length, .psl 2 (List.map TApiLsKey.enc vr2.1.Tree.Keys), .psl 1 (List.map (encInt .i64) vr2.1.Tree.Lose), .int .i64 vr2.1.Tree.Win]]⟩), (136, ⟨0, true, false, 5, [[.psl 1 (List.map (encSl 4 TApiEntry.enc) vr2.1.Runs), .sl 32 g44 1 0 v38.length, .psl 2 (List.map TApiLsKey.enc v39), .psl 1 (List.map (encInt .i64) v40), .int .i64 v41]]⟩), (160, ⟨0, true, false, 1, [[.ref 136 0 0 0]]⟩), (193, ⟨(g45 + 1), true, true, 4, List.map TApiEntry.enc (v42 ++ [vr47.1])⟩), (194, ⟨(g46 + 1), true, true, 1, List.map (encInt .i64) (v43 ++ [vr47.2.1])⟩), (243, ⟨0, true, true, 4, [[.str vr47.1.Key, .str vr47.1.Val, .bool vr47.1.Dead, .int .i64 vr47.1.Seq]]⟩), (331, ⟨0, true, true, 4, [[.str vr47.1.Key, .str vr47.1.Val, .bool vr47.1.Dead, .int .i64 vr47.1.Seq]]⟩), (363, ⟨0, true, true, 4, List.map TApiEntry.enc [vr47.1]⟩), (395, ⟨0, true, true, 1, List.map (encInt .i64) [vr47.2.1]⟩)], 459, [(192, RC4)]⟩) [] (Nat.le_of_ble_eq_true rfl) ⟨rF, rE, rfl, rfl, (LpLe.consR (Nat.le_of_ble_eq_true rfl) rfl okRC4 (Nat.le_of_ble_eq_true rfl) trivial), trivial⟩ ?_
     obtain ⟨e51, he51, h1⟩ := bindS h1
     obtain ⟨he51a, he51b, he51c⟩ := idxS he51
     refine awp_sr2 547 [0, 1] (fun _ => none) rfl (fun _ _ => rS (rA he51a (rA he51b he51c))) ?_
     refine awp_re (s2 := ⟨[(0, .ref 136 0 0 0), (1, .int .i64 vr47.2.1)], [(0, ⟨0, true, false, 1, [[.sl 193 (g45 + 1) 4 0 ((v42 ++ [vr47.1]).length)]]⟩), (8, ⟨0, true, false, 1, [[.sl 194 (g46 + 1) 1 0 ((v43 ++ [vr47.2.1]).length)]]⟩), (32, ⟨g44, true, true, 1, List.map (encInt .i64) (v38.set vr47.2.1.toNat (IntKind.i64.wrap (e51 + 1)))⟩), (72, ⟨0, true, false, 5, [[.psl 1 (List.map (encSl 4 TApiEntry.enc) vr2.1.Runs), .sl 32 g44 1 0 ((v38.set vr47.2.1.toNat (IntKind.i64.wrap (e51 + 1))).length), .psl 2 (List.map TApiLsKey.enc vr2.1.Tree.Keys), .psl 1 (List.map (encInt .i64) vr2.1.Tree.Lose), .int .i64 vr2.1.Tree.Win]]⟩), (136, ⟨0, true, false, 5, [[.psl 1 (List.map (encSl 4 TApiEntry.enc) vr2.1.Runs), .sl 32 g44 1 0 ((v38.set vr47.2.1.toNat (IntKind.i64.wrap (e51 + 1))).length), .psl 2 (List.map TApiLsKey.enc v39), .psl 1 (List.map (encInt .i64) v40), .int .i64 v41]]⟩), (160, ⟨0, true, false, 1, [[.ref 136 0 0 0]]⟩), (193, ⟨(g45 + 1), true, true, 4, List.map TApiEntry.enc (v42 ++ [vr47.1])⟩), (194, ⟨(g46 + 1), true, true, 1, List.map (encInt .i64) (v43 ++ [vr47.2.1])⟩), (243, ⟨0, true, true, 4, [[.str vr47.1.Key, .str vr47.1.Val, .bool vr47.1.Dead, .int .i64 vr47.1.Seq]]⟩), (331, ⟨0, true, true, 4, [[.str vr47.1.Key, .str vr47.1.Val, .bool vr47.1.Dead, .int .i64 vr47.1.Seq]]⟩), (363, ⟨0, true, true, 4, List.map TApiEntry.enc [vr47.1]⟩), (395, ⟨0, true, true, 1, List.map (encInt .i64) [vr47.2.1]⟩)], 547, [(192, RC4)]⟩) [] (Nat.le_of_ble_eq_true rfl) ⟨rF, rE, rfl, rfl, (LpLe.consR (Nat.le_of_ble_eq_true rfl) rfl okRC4 (Nat.le_of_ble_eq_true rfl) trivial), trivial⟩ ?_
     obtain ⟨e52, he52, h1⟩ := bindS h1
     obtain ⟨he52a, he52b, he52c⟩ := idxS he52
     obtain ⟨e53, he53, h1⟩ := bindS h1
     obtain ⟨he53a, he53b, he53c⟩ := idxS he53
     obtain ⟨vr54, hvr54, h1⟩ := bindS h1
     obtain ⟨vr55, hvr55, h1⟩ := bindS h1
     refine awp_d2 803 [] (fun | 22 => some (.agg (TApiLsKey.enc vr54), []) | 23 => some (.tup [.agg (TApiLsTree.enc vr55.1), .int .i64 vr55.2.1, .int .i64 vr55.2.2], []) | _ => none) rfl rfl rfl (fun Kt hK => by
       try have q0 := c_merge_next hvr54
       try have q1 := c_loser_Replace hvr55
       exact rSd (rA he51a (rA he51b (rA he51c (rA he52a (rA he52b (rA he52c (rA he53a (rA he53b he53c))))))))) ?_
     refine leave_endK (fun _ _ => rS (rA he51a (rA he51b (rA he51c (rA he52a (rA he52b (rA he52c (rA he53a (rA he53b he53c))))))))) ?_
     refine awpo_re (s2 := ⟨[(0, .yld 192), (1, .ref 160 0 0 0), (4, .int .i64 vr47.2.1), (15, .yld 192), (16, .int .i64 vr47.2.1), (17, .agg [.str vr47.1.Key, .str vr47.1.Val, .bool vr47.1.Dead, .int .i64 vr47.1.Seq]), (18, .bool true), (19, .bool false), (20, .bool false), (21, .ref 136 0 0 0), (22, .int .i64 vr47.2.1), (23, .tup [])], [(0, ⟨0, true, false, 1, [[.sl 193 (g45 + 1) 4 0 ((v42 ++ [vr47.1]).length)]]⟩), (8, ⟨0, true, false, 1, [[.sl 194 (g46 + 1) 1 0 ((v43 ++ [vr47.2.1]).length)]]⟩), (32, ⟨g44, true, true, 1, List.map (encInt .i64) (v38.set vr47.2.1.toNat (IntKind.i64.wrap (e51 + 1)))⟩), (72, ⟨0, true, false, 5, [[.psl 1 (List.map (encSl 4 TApiEntry.enc) vr2.1.Runs), .sl 32 g44 1 0 ((v38.set vr47.2.1.toNat (IntKind.i64.wrap (e51 + 1))).length), .psl 2 (List.map TApiLsKey.enc vr2.1.Tree.Keys), .psl 1 (List.map (encInt .i64) vr2.1.Tree.Lose), .int .i64 vr2.1.Tree.Win]]⟩), (136, ⟨0, true, false, 5, [[.psl 1 (List.map (encSl 4 TApiEntry.enc) vr2.1.Runs), .sl 32 g44 1 0 ((v38.set vr47.2.1.toNat (IntKind.i64.wrap (e51 + 1))).length), .psl 2 (List.map TApiLsKey.enc vr55.1.Keys), .psl 1 (List.map (encInt .i64) vr55.1.Lose), .int .i64 vr55.1.Win]]⟩), (160, ⟨0, true, false, 1, [[.ref 136 0 0 0]]⟩), (193, ⟨(g45 + 1), true, true, 4, List.map TApiEntry.enc (v42 ++ [vr47.1])⟩), (194, ⟨(g46 + 1), true, true, 1, List.map (encInt .i64) (v43 ++ [vr47.2.1])⟩), (243, ⟨0, true, true, 4, [[.str vr47.1.Key, .str vr47.1.Val, .bool vr47.1.Dead, .int .i64 vr47.1.Seq]]⟩), (331, ⟨0, true, true, 4, [[.str vr47.1.Key, .str vr47.1.Val, .bool vr47.1.Dead, .int .i64 vr47.1.Seq]]⟩), (363, ⟨0, true, true, 4, List.map TApiEntry.enc [vr47.1]⟩), (395, ⟨0, true, true, 1, List.map (encInt .i64) [vr47.2.1]⟩)], 803, [(192, RC4)]⟩) [] (Nat.le_of_ble_eq_true rfl) ⟨rF, rE, rfl, rfl, (LpLe.consR (Nat.le_of_ble_eq_true rfl) rfl okRC4 (Nat.le_of_ble_eq_true rfl) trivial), trivial⟩ ?_
     refine awpo_cut (l' := []) rfl ?_
     refine awpo_nil ?_
     refine kn_block ?_
     refine kn_then ?_
     exact ⟨⟨(fu, (v38.set vr47.2.1.toNat (IntKind.i64.wrap (e51 + 1))), vr55.1.Keys, vr55.1.Lose, vr55.1.Win, (v42 ++ [vr47.1]), (v43 ++ [vr47.2.1]), g44, (g45 + 1), (g46 + 1)), h1⟩, ⟨rF, rE, rfl, rfl, (LpLe.consR (Nat.le_of_ble_eq_true rfl) rfl okRC4 (Nat.le_of_ble_eq_true rfl) trivial), trivial⟩, Nat.lt_succ_self _⟩
end Go.T
end
section
namespace Go.T
open Go Go.AM Go.Proofs
set_option maxRecDepth 100000
set_option maxHeartbeats 4000000
set_option linter.unusedVariables false
theorem c_shadow_Check {fu : Nat} {vs1 : TApiShState} {r : Int} (h0 : shadow_Check fu vs1 = some r) : PCall Try.prog 101 [.agg (TApiShState.enc vs1)] (.int .i64 r) [] := by
 refine awp_pcall Try.func101 rfl (by decide) (Nat.le_of_ble_eq_true rfl) ?_
 dsimp only [Try.f101]
 rw [shadow_Check] at h0
 refine (show AWP _ _ _ _ ⟨enumFr 0 _, [], 0, []⟩ from ?_)
 refine awp_sr2 16 [1] (fun _ => none) rfl (fun _ _ => rT) ?_
 refine awp_seq ?_
 obtain ⟨vr2, hvr2, h0⟩ := bindS h0
 refine awp_sr2 48 [1, 3] (fun | 2 => some (.int .i64 vr2, []) | _ => none) rfl (fun _ _ => rC (c_keys_Check hvr2)) ?_
 refine awp_sr2 64 [1, 3, 8] (fun _ => none) rfl (fun _ _ => rT) ?_
 refine awp_if rfl (fun hb3 => ?_) (fun hb3 => ?_)
 ·
  replace h0 := iteT h0 hb3
  refine awp_sr2 80 [2] (fun _ => none) rfl (fun _ _ => rT) ?_
  refine awp_ret ?_
  refine kr_then ?_
  obtain rfl := Option.some.inj h0
  refine leave_retG [] ?_
  exact rG
 ·
  replace h0 := iteF h0 hb3
  refine awp_skip ?_
  refine kn_then ?_
  refine awp_seq ?_
  obtain ⟨b4, hb4, h0⟩ := bindS h0
  refine awp_sr3 (fr' := [(17, .bool b4)]) (hp' := [(0, ⟨0, true, true, 3, [[.bool vs1.Some, .str vs1.Last, .bool vs1.Bottom]]⟩)]) [0] 128 [17] (fun _ => none) rfl (fun Kt hK => by
    cases hg5 : (!vs1.Some) with
    | false =>
     replace hb4 := iteF hb4 hg5
     have hqb4 := Option.some.inj hb4
     subst hqb4
     simp (maxSteps := 1000000) only [↓reduceIte, reduceCtorEq, Nat.reduceEqDiff, Nat.reduceLT, Nat.reduceLeDiff, Nat.reduceAdd, Nat.reduceMul, Int.reduceToNat, push_cast, ↓hg5]
     try simp only [↓hg5] at hK
     all_goals exact rU
    | true =>
     replace hb4 := iteT hb4 hg5
     have hqb4 := Option.some.inj hb4
     subst hqb4
     simp (maxSteps := 1000000) only [↓reduceIte, reduceCtorEq, Nat.reduceEqDiff, Nat.reduceLT, Nat.reduceLeDiff, Nat.reduceAdd, Nat.reduceMul, Int.reduceToNat, push_cast, ↓hg5]
     try simp only [↓hg5] at hK
     all_goals exact rU) ?_
  refine awp_if rfl (fun hb6 => ?_) (fun hb6 => ?_)
  ·
   replace h0 := iteT h0 hb6
   refine awp_sr2 136 [2] (fun _ => none) rfl (fun _ _ => rT) ?_
   refine awp_ret ?_
   refine kr_then ?_
   obtain rfl := Option.some.inj h0
   refine leave_retG [] ?_
   exact rG
  ·
   replace h0 := iteF h0 hb6
   refine awp_skip ?_
   refine kn_then ?_
   refine awp_sr2 136 [2] (fun _ => none) rfl (fun _ _ => rT) ?_
   refine awp_ret ?_
   obtain rfl := Option.some.inj h0
   refine leave_retG [] ?_
   exact rG
end Go.T
end
section
namespace Go.T
open Go Go.AM Go.Proofs
set_option maxRecDepth 100000
set_option maxHeartbeats 4000000
set_option linter.unusedVariables false
theorem c_shadow_kept_entry {fu : Nat} {vx1 : TShadowKept} {r : TApiEntry} (h0 : shadow_kept_entry fu vx1 = some r) : PCall Try.prog 127 [.agg (TShadowKept.enc vx1)] (.agg (TApiEntry.enc r)) [] := by
 refine awp_pcall Try.func127 rfl (by decide) (Nat.le_of_ble_eq_true rfl) ?_
 dsimp only [Try.f127]
 rw [shadow_kept_entry] at h0
 refine (show AWP _ _ _ _ ⟨enumFr 0 _, [], 0, []⟩ from ?_)
 refine awp_sr2 16 [1, 2] (fun _ => none) rfl (fun _ _ => rT) ?_
 refine awp_sr2 32 [2] (fun _ => none) rfl (fun _ _ => rT) ?_
 refine awp_ret ?_
 obtain rfl := Option.some.inj h0
 refine leave_retG [] ?_
 exact rG
end Go.T
end
