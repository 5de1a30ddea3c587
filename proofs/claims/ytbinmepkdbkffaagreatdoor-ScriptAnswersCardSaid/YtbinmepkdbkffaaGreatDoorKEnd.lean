/- Answers are compared, counted and stripped by the package as a reader does it, for all lists of answers (law 32, ScriptAnswers); the closed example at its end returns true; the package variables hold at the start what the program's text lays into them. -/
import Derived.Test.YtbinmepkdbkffaaGreatDoorKGt
import Derived.Test.YtbinmepkdbkffaaGreatDoorKGp
import Derived.Laws.BitsLemmas
import Derived.Test.YtbinmepkdbkffaaGreatDoorKDo
import Derived.Test.YtbinmepkdbkffaaGreatDoorKCo
set_option linter.unusedSimpArgs false
set_option linter.unusedVariables false
section
namespace Go.T
open Go Go.AM Go.Proofs
set_option maxRecDepth 100000
set_option maxHeartbeats 4000000
set_option linter.unusedVariables false
theorem c_bookendlaw04_FarAnswer [Adr] {fu : Nat} {a1 : TApiOpAnswer} {r : Bool} (h0 : bookendlaw04_FarAnswer fu a1 = some r) : PCall Tryz.prog 13 [.agg (TApiOpAnswer.enc a1)] (.bool r) [] := by
 refine awp_pcall Tryz.func13 rfl (by decide) rL ?_
 dsimp only [Tryz.f13]
 rw [bookendlaw04_FarAnswer] at h0
 refine xS 16 [1] ?_
 refine awp_seq ?_
 obtain ⟨b2, hb2, h0⟩ := bindS h0
 obtain ⟨b4, hb4, h0⟩ := bindS h0
 obtain ⟨b5, hb5, h0⟩ := bindS h0
 refine awp_sr3 (fr' := [(1, .ref 0 0 0 0), (32, .bool b5)]) (hp' := [(0, ⟨0, true, true, 24, [[.int .i64 a1.E, .str a1.Key, .str a1.Val, .int .i64 a1.N, .int .i64 a1.Handle.Index, .int .i64 a1.Handle.Gen, .psl 4 (List.map TApiDfItem.enc a1.Items), .int .i64 a1.Stats.Live, .int .i64 a1.Stats.Entries, .int .i64 a1.Stats.Dead, .int .i64 a1.Stats.Buffered, .int .i64 a1.Stats.Runs, .int .i64 a1.Stats.Height, .int .i64 a1.Stats.Jobs, .int .i64 a1.Stats.Debt, .int .i64 a1.Stats.Pins, .int .i64 a1.Stats.Cursors, .int .i64 a1.Stats.Held, .int .i64 a1.Stats.Writes, .int .i64 a1.Stats.Busy, .int .i64 a1.Stats.Seals, .int .i64 a1.Stats.Installs, .int .i64 a1.Stats.Steps, .int .i64 a1.Stats.Lost]]⟩)]) [0] 240 [1, 32] (fun _ => none) rfl (fun Kt hK => by
   cases hg6 : (decide (300 < (a1.Key.length : Int))) with
   | false =>
    replace hb2 := iteF hb2 hg6
    have hqb2 := Option.some.inj hb2
    cases b2 with
    | false =>
     replace hb4 := iteF hb4 rfl
     obtain ⟨b3, hb3, hb4⟩ := bindS hb4
     have hqb4 := Option.some.inj hb4
     cases hg8 : (decide (30 < (a1.Items.length : Int))) with
     | false =>
      replace hb3 := iteF hb3 hg8
      have hqb3 := Option.some.inj hb3
      subst hqb3
      cases b4 with
      | false =>
       replace hb5 := iteF hb5 rfl
       have hqb5 := Option.some.inj hb5
       subst hqb5
       exact rW (rA hg6 (rA hqb2 hg8)) hK
      | true =>
       cases hqb4
     | true =>
      replace hb3 := iteT hb3 hg8
      have hqb3 := Option.some.inj hb3
      subst hqb3
      cases b4 with
      | false =>
       replace hb5 := iteF hb5 rfl
       have hqb5 := Option.some.inj hb5
       subst hqb5
       exact rW (rA hg6 (rA hqb2 (rA hg8 hqb4))) hK
      | true =>
       replace hb5 := iteT hb5 rfl
       have hqb5 := Option.some.inj hb5
       subst hqb5
       exact rW (rA hg6 (rA hqb2 (rA hg8 hqb4))) hK
    | true =>
     replace hb4 := iteT hb4 rfl
     have hqb4 := Option.some.inj hb4
     cases b4 with
     | false =>
      cases hqb4
     | true =>
      replace hb5 := iteT hb5 rfl
      have hqb5 := Option.some.inj hb5
      subst hqb5
      exact rW (rA hg6 hqb2) hK
   | true =>
    replace hb2 := iteT hb2 hg6
    have hqb2 := Option.some.inj hb2
    cases b2 with
    | false =>
     cases hqb2
    | true =>
     replace hb4 := iteT hb4 rfl
     have hqb4 := Option.some.inj hb4
     cases b4 with
     | false =>
      cases hqb4
     | true =>
      replace hb5 := iteT hb5 rfl
      have hqb5 := Option.some.inj hb5
      subst hqb5
      exact rW hg6 hK) ?_
 refine xI h0 rfl (fun h0 hb14 => ?_) (fun h0 hb14 => ?_)
 ·
  refine xS 248 [2] ?_
  refine awp_ret (kr_then ?_)
  obtain rfl := Option.some.inj h0
  exact leave_retG [] rG
 refine awp_skip (kn_then (awp_seq ?_))
 refine xS 248 [1, 3] ?_
 obtain ⟨x30, hxx30, h0⟩ := bindS h0
 refine awp_bloop (fun s' => ∃ o39 : Unit, x30 = .inl o39 ∧ s'.nx ≤ 288 ∧ LeN [] s' ⟨[], [(0, ⟨0, true, true, 24, [[.int .i64 a1.E, .str a1.Key, .str a1.Val, .int .i64 a1.N, .int .i64 a1.Handle.Index, .int .i64 a1.Handle.Gen, .psl 4 (List.map TApiDfItem.enc a1.Items), .int .i64 a1.Stats.Live, .int .i64 a1.Stats.Entries, .int .i64 a1.Stats.Dead, .int .i64 a1.Stats.Buffered, .int .i64 a1.Stats.Runs, .int .i64 a1.Stats.Height, .int .i64 a1.Stats.Jobs, .int .i64 a1.Stats.Debt, .int .i64 a1.Stats.Pins, .int .i64 a1.Stats.Cursors, .int .i64 a1.Stats.Held, .int .i64 a1.Stats.Writes, .int .i64 a1.Stats.Busy, .int .i64 a1.Stats.Seals, .int .i64 a1.Stats.Installs, .int .i64 a1.Stats.Steps, .int .i64 a1.Stats.Lost]]⟩)], 288, []⟩) ?_ ?_
 ·
  intro s' hs
  obtain ⟨o39, rfl, hn, hs⟩ := hs
  refine kn_then ?_
  refine awp_re [] hn hs ?_
  refine xS 296 [2] ?_
  refine awp_ret ?_
  obtain rfl := Option.some.inj h0
  exact leave_retG [] rG
 refine awp_loopF (ι := { p : Nat × Int // bookendlaw04_FarAnswer_l1 a1 p.1 p.2 = some x30 }) (fun p => ⟨[(1, .ref 0 0 0 0), (3, .int .i64 p.1.2)], [(0, ⟨0, true, true, 24, [[.int .i64 a1.E, .str a1.Key, .str a1.Val, .int .i64 a1.N, .int .i64 a1.Handle.Index, .int .i64 a1.Handle.Gen, .psl 4 (List.map TApiDfItem.enc a1.Items), .int .i64 a1.Stats.Live, .int .i64 a1.Stats.Entries, .int .i64 a1.Stats.Dead, .int .i64 a1.Stats.Buffered, .int .i64 a1.Stats.Runs, .int .i64 a1.Stats.Height, .int .i64 a1.Stats.Jobs, .int .i64 a1.Stats.Debt, .int .i64 a1.Stats.Pins, .int .i64 a1.Stats.Cursors, .int .i64 a1.Stats.Held, .int .i64 a1.Stats.Writes, .int .i64 a1.Stats.Busy, .int .i64 a1.Stats.Seals, .int .i64 a1.Stats.Installs, .int .i64 a1.Stats.Steps, .int .i64 a1.Stats.Lost]]⟩)], 248, []⟩) (fun p => p.1.1) ⟨(fu, 0), hxx30⟩ ⟨rF, rE, rfl, rfl, trivial, trivial⟩ (fun _ => Nat.le_refl _) ?_
 rintro ⟨⟨fu, i31⟩, h1⟩
 cases fu with
 | zero =>
  replace h1 : bookendlaw04_FarAnswer_l1 a1 0 i31 = some x30 := h1
  rw [bookendlaw04_FarAnswer_l1] at h1; cases h1
 | succ fu =>
  replace h1 : bookendlaw04_FarAnswer_l1 a1 (fu + 1) i31 = some x30 := h1
  rw [bookendlaw04_FarAnswer_l1] at h1
  dsimp only
  refine awp_seq ?_
  refine xS 288 [1, 3, 37] ?_
  refine xI h1 rfl (fun h1 hb32 => ?_) (fun h1 hb32 => ?_)
  ·
   refine awp_skip (kn_then (awp_seq (awp_block ?_)))
   obtain ⟨e33, he33, h1⟩ := bindS h1
   obtain ⟨he33a, he33b, he33c⟩ := idxS he33
   refine awp_sd2 480 [1, 3, 4] (fun _ => none) rfl rfl rfl (fun _ _ => rSd (rA he33a (rA he33b he33c))) ?_
   obtain ⟨b35, hb35, h1⟩ := bindS h1
   refine awp_sr3 (fr' := [(1, .ref 0 0 0 0), (3, .int .i64 i31), (74, .bool b35)]) (hp' := [(0, ⟨0, true, true, 24, [[.int .i64 a1.E, .str a1.Key, .str a1.Val, .int .i64 a1.N, .int .i64 a1.Handle.Index, .int .i64 a1.Handle.Gen, .psl 4 (List.map TApiDfItem.enc a1.Items), .int .i64 a1.Stats.Live, .int .i64 a1.Stats.Entries, .int .i64 a1.Stats.Dead, .int .i64 a1.Stats.Buffered, .int .i64 a1.Stats.Runs, .int .i64 a1.Stats.Height, .int .i64 a1.Stats.Jobs, .int .i64 a1.Stats.Debt, .int .i64 a1.Stats.Pins, .int .i64 a1.Stats.Cursors, .int .i64 a1.Stats.Held, .int .i64 a1.Stats.Writes, .int .i64 a1.Stats.Busy, .int .i64 a1.Stats.Seals, .int .i64 a1.Stats.Installs, .int .i64 a1.Stats.Steps, .int .i64 a1.Stats.Lost]]⟩)]) [0] 576 [1, 3, 74] (fun _ => none) rfl (fun Kt hK => by
     cases hg36 : (decide (900 < (IntKind.i64.wrap ((IntKind.i64.wrap ((e33.Key.length : Int) + (e33.Old.length : Int))) + (e33.New.length : Int))))) with
     | false =>
      replace hb35 := iteF hb35 hg36
      obtain ⟨b34, hb34, hb35⟩ := bindS hb35
      have hqb35 := Option.some.inj hb35
      cases hg37 : (decide (30 < (a1.Items.length : Int))) with
      | false =>
       replace hb34 := iteF hb34 hg37
       have hqb34 := Option.some.inj hb34
       subst hqb35
       subst hqb34
       exact rWg (rA hg36 hg37) (rA he33a (rA he33b he33c)) hK
      | true =>
       replace hb34 := iteT hb34 hg37
       have hqb34 := Option.some.inj hb34
       subst hqb35
       subst hqb34
       exact rWg (rA hg36 hg37) (rA he33a (rA he33b he33c)) hK
     | true =>
      replace hb35 := iteT hb35 hg36
      have hqb35 := Option.some.inj hb35
      subst hqb35
      exact rWg hg36 (rA he33a (rA he33b he33c)) hK) ?_
   refine xI h1 rfl (fun h1 hb38 => ?_) (fun h1 hb38 => ?_)
   ·
    refine awp_sr2 584 [2] (fun _ => none) rfl (fun _ _ => rS (rA he33a (rA he33b he33c))) ?_
    refine awp_ret ?_
    obtain rfl := Option.some.inj h1
    refine kr_block (kr_then (kr_then (kr_loop (kr_then ?_))))
    obtain rfl := Option.some.inj h0
    refine leave_retG [] ?_
    exact rJ (rA he33a (rA he33b he33c))
   refine awp_skip (kn_block (kn_then ?_))
   refine awp_r2 600 [1, 3] (fun _ => none) rfl (fun _ _ => rS (rA he33a (rA he33b he33c))) ?_
   refine kn_then ?_
   exact ⟨⟨(fu, (IntKind.i64.wrap (i31 + 1))), h1⟩, ⟨rF, rE, rfl, rfl, trivial, trivial⟩, Nat.lt_succ_self _⟩
  refine awp_exit (kx_then (kx_then (kx_done ?_)))
  obtain rfl := Option.some.inj h1
  exact ⟨_, rfl, rL, ⟨rF, rE, rfl, rfl, trivial, trivial⟩⟩
theorem c_bookendlaw32_farAnswers [Adr] {fu : Nat} {a1 : List TApiOpAnswer} {r : Bool} (h0 : bookendlaw32_farAnswers fu a1 = some r) : PCall Tryz.prog 4 [.psl 24 (a1.map TApiOpAnswer.enc)] (.bool r) [] := by
 refine awp_pcall Tryz.func4 rfl (by decide) rL ?_
 dsimp only [Tryz.f4]
 rw [bookendlaw32_farAnswers] at h0
 refine xS 8 [0] ?_
 refine awp_seq ?_
 refine xS 32 [0, 6] ?_
 refine xI h0 rfl (fun h0 hb2 => ?_) (fun h0 hb2 => ?_)
 ·
  refine xS 40 [2] ?_
  refine awp_ret (kr_then ?_)
  obtain rfl := Option.some.inj h0
  exact leave_retG [] rG
 refine awp_skip (kn_then (awp_seq ?_))
 refine xS 40 [0, 3] ?_
 obtain ⟨x12, hxx12, h0⟩ := bindS h0
 refine awp_bloop (fun s' => ∃ o18 : Unit, x12 = .inl o18 ∧ s'.nx ≤ 72 ∧ LeN [] s' ⟨[], [], 72, []⟩) ?_ ?_
 ·
  intro s' hs
  obtain ⟨o18, rfl, hn, hs⟩ := hs
  refine kn_then ?_
  refine awp_re [] hn hs ?_
  refine xS 80 [2] ?_
  refine awp_ret ?_
  obtain rfl := Option.some.inj h0
  exact leave_retG [] rG
 refine awp_loopF (ι := { p : Nat × Int // bookendlaw32_farAnswers_l1 a1 p.1 p.2 = some x12 }) (fun p => ⟨[(0, .psl 24 (List.map TApiOpAnswer.enc a1)), (3, .int .i64 p.1.2)], [], 40, []⟩) (fun p => p.1.1) ⟨(fu, 0), hxx12⟩ ⟨rF, rE, rfl, rfl, trivial, trivial⟩ (fun _ => Nat.le_refl _) ?_
 rintro ⟨⟨fu, i13⟩, h1⟩
 cases fu with
 | zero =>
  replace h1 : bookendlaw32_farAnswers_l1 a1 0 i13 = some x12 := h1
  rw [bookendlaw32_farAnswers_l1] at h1; cases h1
 | succ fu =>
  replace h1 : bookendlaw32_farAnswers_l1 a1 (fu + 1) i13 = some x12 := h1
  rw [bookendlaw32_farAnswers_l1] at h1
  dsimp only
  refine awp_seq ?_
  refine xS 72 [0, 3, 10] ?_
  refine xI h1 rfl (fun h1 hb14 => ?_) (fun h1 hb14 => ?_)
  ·
   refine awp_skip (kn_then (awp_seq (awp_block ?_)))
   obtain ⟨e15, he15, h1⟩ := bindS h1
   obtain ⟨he15a, he15b, he15c⟩ := idxS he15
   obtain ⟨vr16, hvr16, h1⟩ := bindS h1
   refine awp_sr2 112 [0, 3, 17] (fun | 4 => some (.bool vr16, []) | _ => none) rfl (fun _ _ => rB (rA he15a (rA he15b he15c)) (c_bookendlaw04_FarAnswer hvr16)) ?_
   refine xI h1 rfl (fun h1 hb17 => ?_) (fun h1 hb17 => ?_)
   ·
    refine awp_sr2 120 [2] (fun _ => none) rfl (fun _ _ => rS (rA he15a (rA he15b he15c))) ?_
    refine awp_ret ?_
    obtain rfl := Option.some.inj h1
    refine kr_block (kr_then (kr_then (kr_loop (kr_then ?_))))
    obtain rfl := Option.some.inj h0
    refine leave_retG [] ?_
    exact rJ (rA he15a (rA he15b he15c))
   refine awp_skip (kn_block (kn_then ?_))
   refine awp_r2 136 [0, 3] (fun _ => none) rfl (fun _ _ => rS (rA he15a (rA he15b he15c))) ?_
   refine kn_then ?_
   exact ⟨⟨(fu, (IntKind.i64.wrap (i13 + 1))), h1⟩, ⟨rF, rE, rfl, rfl, trivial, trivial⟩, Nat.lt_succ_self _⟩
  refine awp_exit (kx_then (kx_then (kx_done ?_)))
  obtain rfl := Option.some.inj h1
  exact ⟨_, rfl, rL, ⟨rF, rE, rfl, rfl, trivial, trivial⟩⟩
class ShownOk [Adr] : Prop where ok : PCall Tryz.prog 5 [] (.bool true) []
theorem c_bookendlaw32_shown [Adr] [ShownOk] {fu : Nat} {r : Bool} (h0 : bookendlaw32_shown fu = some r) : PCall Tryz.prog 5 [] (.bool r) [] := by
 rw [bookendlaw32_shown] at h0
 obtain rfl := Option.some.inj h0
 exact ShownOk.ok
theorem c_slices_Equal_apiDfItem [Adr] {fu : Nat} {s11 : List TApiDfItem} {s22 : List TApiDfItem} {r : Bool} (h0 : slices_Equal_apiDfItem fu s11 s22 = some r) : PCall Tryz.prog 32 [.psl 4 (s11.map TApiDfItem.enc), .psl 4 (s22.map TApiDfItem.enc)] (.bool r) [] := by
 refine awp_pcall Tryz.func32 rfl (by decide) rL ?_
 dsimp only [Tryz.f32]
 rw [slices_Equal_apiDfItem] at h0
 refine xS 8 [0, 1] ?_
 refine awp_seq ?_
 refine xS 48 [0, 1, 10] ?_
 refine xI h0 rfl (fun h0 hb3 => ?_) (fun h0 hb3 => ?_)
 ·
  refine xS 56 [4] ?_
  refine awp_ret (kr_then ?_)
  obtain rfl := Option.some.inj h0
  exact leave_retG [] rG
 refine awp_skip (kn_then (awp_seq ?_))
 refine xS 72 [0, 1, 12, 13] ?_
 obtain ⟨x13, hxx13, h0⟩ := bindS h0
 refine awp_bloop (fun s' => ∃ o19 : Unit, x13 = .inl o19 ∧ s'.nx ≤ 80 ∧ LeN [] s' ⟨[], [], 80, []⟩) ?_ ?_
 ·
  intro s' hs
  obtain ⟨o19, rfl, hn, hs⟩ := hs
  refine kn_then ?_
  refine awp_re [] hn hs ?_
  refine xS 88 [4] ?_
  refine awp_ret ?_
  obtain rfl := Option.some.inj h0
  exact leave_retG [] rG
 refine awp_loopF (ι := { p : Nat × Int // slices_Equal_apiDfItem_l1 s11 s22 p.1 p.2 = some x13 }) (fun p => ⟨[(0, .psl 4 (List.map TApiDfItem.enc s11)), (1, .psl 4 (List.map TApiDfItem.enc s22)), (12, .int .i64 (s11.length : Int)), (13, .int .i64 p.1.2)], [], 72, []⟩) (fun p => p.1.1) ⟨(fu, 0), hxx13⟩ ⟨rF, rE, rfl, rfl, trivial, trivial⟩ (fun _ => Nat.le_refl _) ?_
 rintro ⟨⟨fu, v14⟩, h1⟩
 cases fu with
 | zero =>
  replace h1 : slices_Equal_apiDfItem_l1 s11 s22 0 v14 = some x13 := h1
  rw [slices_Equal_apiDfItem_l1] at h1; cases h1
 | succ fu =>
  replace h1 : slices_Equal_apiDfItem_l1 s11 s22 (fu + 1) v14 = some x13 := h1
  rw [slices_Equal_apiDfItem_l1] at h1
  dsimp only
  refine xS 80 [0, 1, 12, 13, 14] ?_
  refine awp_seq ?_
  refine xI h1 rfl (fun h1 hb15 => ?_) (fun h1 hb15 => ?_)
  ·
   refine awp_skip (kn_then (awp_seq (awp_block ?_)))
   refine xS 96 [0, 1, 5, 12, 13] ?_
   obtain ⟨e16, he16, h1⟩ := bindS h1
   obtain ⟨he16a, he16b, he16c⟩ := idxS he16
   obtain ⟨e17, he17, h1⟩ := bindS h1
   obtain ⟨he17a, he17b, he17c⟩ := idxS he17
   refine awp_sd2 168 [0, 1, 12, 13, 24] (fun _ => none) rfl rfl rfl (fun _ _ => rSd (rA he16a (rA he16b (rA he16c (rA he17a (rA he17b he17c)))))) ?_
   refine xI h1 rfl (fun h1 hb18 => ?_) (fun h1 hb18 => ?_)
   ·
    refine awp_sr2 176 [4] (fun _ => none) rfl (fun _ _ => rS (rA he16a (rA he16b (rA he16c (rA he17a (rA he17b he17c)))))) ?_
    refine awp_ret ?_
    obtain rfl := Option.some.inj h1
    refine kr_block (kr_then (kr_then (kr_loop (kr_then ?_))))
    obtain rfl := Option.some.inj h0
    refine leave_retG [] ?_
    exact rJ (rA he16a (rA he16b (rA he16c (rA he17a (rA he17b he17c)))))
   refine awp_skip (kn_block (kn_then ?_))
   refine awp_r2 184 [0, 1, 12, 13] (fun _ => none) rfl (fun _ _ => rS (rA he16a (rA he16b (rA he16c (rA he17a (rA he17b he17c)))))) ?_
   refine kn_then ?_
   exact ⟨⟨(fu, (IntKind.i64.wrap (v14 + 1))), h1⟩, ⟨rF, rE, rfl, rfl, trivial, trivial⟩, Nat.lt_succ_self _⟩
  refine awp_exit (kx_then (kx_then (kx_done ?_)))
  obtain rfl := Option.some.inj h1
  exact ⟨_, rfl, rL, ⟨rF, rE, rfl, rfl, trivial, trivial⟩⟩
theorem c_script_same [Adr] {fu : Nat} {a1 : TApiOpAnswer} {b2 : TApiOpAnswer} {r : Bool} (h0 : script_same fu a1 b2 = some r) : PCall Tryz.prog 20 [.agg (TApiOpAnswer.enc a1), .agg (TApiOpAnswer.enc b2)] (.bool r) [] := by
 refine awp_pcall Tryz.func20 rfl (by decide) rL ?_
 dsimp only [Tryz.f20, List.append]
 rw [script_same] at h0
 refine xS 24 [2, 3] ?_
 obtain ⟨b3, hb3, h0⟩ := bindS h0
 obtain ⟨b4, hb4, h0⟩ := bindS h0
 obtain ⟨b5, hb5, h0⟩ := bindS h0
 obtain ⟨b6, hb6, h0⟩ := bindS h0
 obtain ⟨b8, hb8, h0⟩ := bindS h0
 obtain ⟨b9, hb9, h0⟩ := bindS h0
 refine awp_sr3 (fr' := [(4, .bool b9)]) (hp' := [(0, ⟨0, true, true, 24, [[.int .i64 a1.E, .str a1.Key, .str a1.Val, .int .i64 a1.N, .int .i64 a1.Handle.Index, .int .i64 a1.Handle.Gen, .psl 4 (List.map TApiDfItem.enc a1.Items), .int .i64 a1.Stats.Live, .int .i64 a1.Stats.Entries, .int .i64 a1.Stats.Dead, .int .i64 a1.Stats.Buffered, .int .i64 a1.Stats.Runs, .int .i64 a1.Stats.Height, .int .i64 a1.Stats.Jobs, .int .i64 a1.Stats.Debt, .int .i64 a1.Stats.Pins, .int .i64 a1.Stats.Cursors, .int .i64 a1.Stats.Held, .int .i64 a1.Stats.Writes, .int .i64 a1.Stats.Busy, .int .i64 a1.Stats.Seals, .int .i64 a1.Stats.Installs, .int .i64 a1.Stats.Steps, .int .i64 a1.Stats.Lost]]⟩), (8, ⟨0, true, true, 24, [[.int .i64 b2.E, .str b2.Key, .str b2.Val, .int .i64 b2.N, .int .i64 b2.Handle.Index, .int .i64 b2.Handle.Gen, .psl 4 (List.map TApiDfItem.enc b2.Items), .int .i64 b2.Stats.Live, .int .i64 b2.Stats.Entries, .int .i64 b2.Stats.Dead, .int .i64 b2.Stats.Buffered, .int .i64 b2.Stats.Runs, .int .i64 b2.Stats.Height, .int .i64 b2.Stats.Jobs, .int .i64 b2.Stats.Debt, .int .i64 b2.Stats.Pins, .int .i64 b2.Stats.Cursors, .int .i64 b2.Stats.Held, .int .i64 b2.Stats.Writes, .int .i64 b2.Stats.Busy, .int .i64 b2.Stats.Seals, .int .i64 b2.Stats.Installs, .int .i64 b2.Stats.Steps, .int .i64 b2.Stats.Lost]]⟩)]) [0, 8] 408 [4] (fun | 38 => (slices_Equal_apiDfItem fu a1.Items b2.Items).bind fun vr7 => some (.bool vr7, []) | _ => none) rfl (fun Kt hK => by
   cases hg10 : (decide (a1.E = b2.E)) with
   | false =>
    replace hb3 := iteF hb3 hg10
    have hqb3 := Option.some.inj hb3
    cases b3 with
    | false =>
     replace hb4 := iteF hb4 rfl
     have hqb4 := Option.some.inj hb4
     cases b4 with
     | false =>
      replace hb5 := iteF hb5 rfl
      have hqb5 := Option.some.inj hb5
      cases b5 with
      | false =>
       replace hb6 := iteF hb6 rfl
       have hqb6 := Option.some.inj hb6
       cases b6 with
       | false =>
        replace hb8 := iteF hb8 rfl
        have hqb8 := Option.some.inj hb8
        cases b8 with
        | false =>
         replace hb9 := iteF hb9 rfl
         have hqb9 := Option.some.inj hb9
         subst hqb9
         first | exact rWc hg10 (c_slices_Equal_apiDfItem hvr7) hK | exact rW hg10 hK
        | true =>
         cases hqb8
       | true =>
        cases hqb6
      | true =>
       cases hqb5
     | true =>
      cases hqb4
    | true =>
     cases hqb3
   | true =>
    replace hb3 := iteT hb3 hg10
    have hqb3 := Option.some.inj hb3
    cases b3 with
    | false =>
     replace hb4 := iteF hb4 rfl
     have hqb4 := Option.some.inj hb4
     cases b4 with
     | false =>
      replace hb5 := iteF hb5 rfl
      have hqb5 := Option.some.inj hb5
      cases b5 with
      | false =>
       replace hb6 := iteF hb6 rfl
       have hqb6 := Option.some.inj hb6
       cases b6 with
       | false =>
        replace hb8 := iteF hb8 rfl
        have hqb8 := Option.some.inj hb8
        cases b8 with
        | false =>
         replace hb9 := iteF hb9 rfl
         have hqb9 := Option.some.inj hb9
         subst hqb9
         first | exact rWc (rA hg10 hqb3) (c_slices_Equal_apiDfItem hvr7) hK | exact rW (rA hg10 hqb3) hK
        | true =>
         cases hqb8
       | true =>
        cases hqb6
      | true =>
       cases hqb5
     | true =>
      cases hqb4
    | true =>
     replace hb4 := iteT hb4 rfl
     have hqb4 := Option.some.inj hb4
     cases b4 with
     | false =>
      replace hb5 := iteF hb5 rfl
      have hqb5 := Option.some.inj hb5
      cases b5 with
      | false =>
       replace hb6 := iteF hb6 rfl
       have hqb6 := Option.some.inj hb6
       cases b6 with
       | false =>
        replace hb8 := iteF hb8 rfl
        have hqb8 := Option.some.inj hb8
        cases b8 with
        | false =>
         replace hb9 := iteF hb9 rfl
         have hqb9 := Option.some.inj hb9
         subst hqb9
         first | exact rWc (rA hg10 (rA hqb3 hqb4)) (c_slices_Equal_apiDfItem hvr7) hK | exact rW (rA hg10 (rA hqb3 hqb4)) hK
        | true =>
         cases hqb8
       | true =>
        cases hqb6
      | true =>
       cases hqb5
     | true =>
      replace hb5 := iteT hb5 rfl
      have hqb5 := Option.some.inj hb5
      cases b5 with
      | false =>
       replace hb6 := iteF hb6 rfl
       have hqb6 := Option.some.inj hb6
       cases b6 with
       | false =>
        replace hb8 := iteF hb8 rfl
        have hqb8 := Option.some.inj hb8
        cases b8 with
        | false =>
         replace hb9 := iteF hb9 rfl
         have hqb9 := Option.some.inj hb9
         subst hqb9
         first | exact rWc (rA hg10 (rA hqb3 (rA hqb4 hqb5))) (c_slices_Equal_apiDfItem hvr7) hK | exact rW (rA hg10 (rA hqb3 (rA hqb4 hqb5))) hK
        | true =>
         cases hqb8
       | true =>
        cases hqb6
      | true =>
       replace hb6 := iteT hb6 rfl
       have hqb6 := Option.some.inj hb6
       cases b6 with
       | false =>
        replace hb8 := iteF hb8 rfl
        have hqb8 := Option.some.inj hb8
        cases b8 with
        | false =>
         replace hb9 := iteF hb9 rfl
         have hqb9 := Option.some.inj hb9
         subst hqb9
         first | exact rWc (rA hg10 (rA hqb3 (rA hqb4 (rA hqb5 hqb6)))) (c_slices_Equal_apiDfItem hvr7) hK | exact rW (rA hg10 (rA hqb3 (rA hqb4 (rA hqb5 hqb6)))) hK
        | true =>
         cases hqb8
       | true =>
        replace hb8 := iteT hb8 rfl
        obtain ⟨vr7, hvr7, hb8⟩ := bindS hb8
        have hqb8 := Option.some.inj hb8
        cases b8 with
        | false =>
         subst hqb8
         replace hb9 := iteF hb9 rfl
         have hqb9 := Option.some.inj hb9
         subst hqb9
         first | exact rWgc (rA hg10 (rA hqb3 (rA hqb4 (rA hqb5 hqb6)))) hvr7 (c_slices_Equal_apiDfItem hvr7) hK | exact rWg (rA hg10 (rA hqb3 (rA hqb4 (rA hqb5 hqb6)))) hvr7 hK
        | true =>
         subst hqb8
         replace hb9 := iteT hb9 rfl
         have hqb9 := Option.some.inj hb9
         subst hqb9
         first | exact rWgc (rA hg10 (rA hqb3 (rA hqb4 (rA hqb5 hqb6)))) hvr7 (c_slices_Equal_apiDfItem hvr7) hK | exact rWg (rA hg10 (rA hqb3 (rA hqb4 (rA hqb5 hqb6)))) hvr7 hK) ?_
 refine awp_ret ?_
 obtain rfl := Option.some.inj h0
 exact leave_retG [] rG
theorem c_script_first_apiOpAnswer [Adr] {fu : Nat} {a1 : List TApiOpAnswer} {b2 : List TApiOpAnswer} {r : Int} (h0 : script_first_apiOpAnswer fu a1 b2 = some r) : PCall Tryz.prog 19 [.psl 24 (a1.map TApiOpAnswer.enc), .psl 24 (b2.map TApiOpAnswer.enc), .fn 20 [] []] (.int .i64 r) [] := by
 refine awp_pcall Tryz.func19 rfl (by decide) rL ?_
 dsimp only [Tryz.f19]
 rw [script_first_apiOpAnswer] at h0
 refine xS 8 [0, 1, 2] ?_
 refine awp_seq ?_
 refine xS 32 [0, 1, 2, 9, 10] ?_
 obtain ⟨x14, hxx14, h0⟩ := bindS h0
 refine awp_bloop (fun s' => ∃ o21 : Unit, x14 = .inl o21 ∧ s'.nx ≤ 40 ∧ LeN [] s' ⟨[], [], 40, []⟩) ?_ ?_
 ·
  intro s' hs
  obtain ⟨o21, rfl, hn, hs⟩ := hs
  refine kn_then ?_
  refine awp_re [] hn hs ?_
  refine xS 48 [6] ?_
  refine awp_ret ?_
  obtain rfl := Option.some.inj h0
  exact leave_retG [] rG
 refine awp_loopF (ι := { p : Nat × Int // script_first_apiOpAnswer_l1 a1 b2 p.1 p.2 = some x14 }) (fun p => ⟨[(0, .psl 24 (List.map TApiOpAnswer.enc a1)), (1, .psl 24 (List.map TApiOpAnswer.enc b2)), (2, .fn 20 [] []), (9, .int .i64 (a1.length : Int)), (10, .int .i64 p.1.2)], [], 32, []⟩) (fun p => p.1.1) ⟨(fu, 0), hxx14⟩ ⟨rF, rE, rfl, rfl, trivial, trivial⟩ (fun _ => Nat.le_refl _) ?_
 rintro ⟨⟨fu, v15⟩, h1⟩
 cases fu with
 | zero =>
  replace h1 : script_first_apiOpAnswer_l1 a1 b2 0 v15 = some x14 := h1
  rw [script_first_apiOpAnswer_l1] at h1; cases h1
 | succ fu =>
  replace h1 : script_first_apiOpAnswer_l1 a1 b2 (fu + 1) v15 = some x14 := h1
  rw [script_first_apiOpAnswer_l1] at h1
  dsimp only
  refine xS 40 [0, 1, 2, 9, 10, 11] ?_
  refine awp_seq ?_
  refine xI h1 rfl (fun h1 hb16 => ?_) (fun h1 hb16 => ?_)
  ·
   refine awp_skip (kn_then (awp_seq (awp_block ?_)))
   refine xS 56 [0, 1, 2, 7, 9, 10] ?_
   obtain ⟨e17, he17, h1⟩ := bindS h1
   obtain ⟨he17a, he17b, he17c⟩ := idxS he17
   obtain ⟨e18, he18, h1⟩ := bindS h1
   obtain ⟨he18a, he18b, he18c⟩ := idxS he18
   obtain ⟨vr19, hvr19, h1⟩ := bindS h1
   refine awp_sd2 144 [0, 1, 2, 7, 9, 10, 23] (fun | 9 => some (.bool vr19, []) | _ => none) rfl rfl rfl (fun _ _ => rBd (rA he17a (rA he17b (rA he17c (rA he18a (rA he18b he18c))))) (c_script_same hvr19)) ?_
   refine xI h1 rfl (fun h1 hb20 => ?_) (fun h1 hb20 => ?_)
   ·
    refine awp_sr2 160 [6] (fun _ => none) rfl (fun _ _ => rS (rA he17a (rA he17b (rA he17c (rA he18a (rA he18b he18c)))))) ?_
    refine awp_ret ?_
    obtain rfl := Option.some.inj h1
    refine kr_block (kr_then (kr_then (kr_loop (kr_then ?_))))
    obtain rfl := Option.some.inj h0
    refine leave_retG [] ?_
    exact rJ (rA he17a (rA he17b (rA he17c (rA he18a (rA he18b he18c)))))
   refine awp_skip (kn_block (kn_then ?_))
   refine awp_r2 160 [0, 1, 2, 9, 10] (fun _ => none) rfl (fun _ _ => rS (rA he17a (rA he17b (rA he17c (rA he18a (rA he18b he18c)))))) ?_
   refine kn_then ?_
   exact ⟨⟨(fu, (IntKind.i64.wrap (v15 + 1))), h1⟩, ⟨rF, rE, rfl, rfl, trivial, trivial⟩, Nat.lt_succ_self _⟩
  refine awp_exit (kx_then (kx_then (kx_done ?_)))
  obtain rfl := Option.some.inj h1
  exact ⟨_, rfl, rL, ⟨rF, rE, rfl, rfl, trivial, trivial⟩⟩
theorem c_script_Differ [Adr] {fu : Nat} {a1 : List TApiOpAnswer} {b2 : List TApiOpAnswer} {r : Int × Int} (h0 : script_Differ fu a1 b2 = some r) : PCall Tryz.prog 6 [.psl 24 (a1.map TApiOpAnswer.enc), .psl 24 (b2.map TApiOpAnswer.enc)] (.tup [.int .i64 r.1, .int .i64 r.2]) [] := by
 refine awp_pcall Tryz.func6 rfl (by decide) rL ?_
 dsimp only [Tryz.f6]
 rw [script_Differ] at h0
 refine xS 16 [0, 1] ?_
 refine awp_seq ?_
 refine xS 56 [0, 1, 11] ?_
 refine xI h0 rfl (fun h0 hb3 => ?_) (fun h0 hb3 => ?_)
 ·
  refine xS 72 [4, 5] ?_
  refine awp_ret (kr_then ?_)
  obtain rfl := Option.some.inj h0
  exact leave_retG [] rG
 refine awp_skip (kn_then ?_)
 obtain ⟨vr4, hvr4, h0⟩ := bindS h0
 refine awp_sr2 88 [6] (fun | 2 => some (.int .i64 vr4, []) | _ => none) rfl (fun _ _ => rC (c_script_first_apiOpAnswer hvr4)) ?_
 refine awp_seq ?_
 refine xS 104 [6, 16] ?_
 refine xI h0 rfl (fun h0 hb5 => ?_) (fun h0 hb5 => ?_)
 ·
  refine xS 120 [4, 5] ?_
  refine awp_ret (kr_then ?_)
  obtain rfl := Option.some.inj h0
  exact leave_retG [] rG
 refine awp_skip (kn_then ?_)
 refine xS 128 [4, 5] ?_
 refine awp_ret ?_
 obtain rfl := Option.some.inj h0
 exact leave_retG [] rG
theorem c_bookendref04_SameItems [Adr] {fu : Nat} {a1 : List TApiDfItem} {b2 : List TApiDfItem} {r : Bool} (h0 : bookendref04_SameItems fu a1 b2 = some r) : PCall Tryz.prog 33 [.psl 4 (a1.map TApiDfItem.enc), .psl 4 (b2.map TApiDfItem.enc)] (.bool r) [] := by
 refine awp_pcall Tryz.func33 rfl (by decide) rL ?_
 dsimp only [Tryz.f33]
 rw [bookendref04_SameItems] at h0
 refine xS 8 [0, 1] ?_
 refine awp_seq ?_
 refine xS 48 [0, 1, 10] ?_
 refine xI h0 rfl (fun h0 hb3 => ?_) (fun h0 hb3 => ?_)
 ·
  refine xS 56 [4] ?_
  refine awp_ret (kr_then ?_)
  obtain rfl := Option.some.inj h0
  exact leave_retG [] rG
 refine awp_skip (kn_then (awp_seq ?_))
 refine xS 56 [0, 1, 5] ?_
 obtain ⟨x13, hxx13, h0⟩ := bindS h0
 refine awp_bloop (fun s' => ∃ o19 : Unit, x13 = .inl o19 ∧ s'.nx ≤ 88 ∧ LeN [] s' ⟨[], [], 88, []⟩) ?_ ?_
 ·
  intro s' hs
  obtain ⟨o19, rfl, hn, hs⟩ := hs
  refine kn_then ?_
  refine awp_re [] hn hs ?_
  refine xS 96 [4] ?_
  refine awp_ret ?_
  obtain rfl := Option.some.inj h0
  exact leave_retG [] rG
 refine awp_loopF (ι := { p : Nat × Int // bookendref04_SameItems_l1 a1 b2 p.1 p.2 = some x13 }) (fun p => ⟨[(0, .psl 4 (List.map TApiDfItem.enc a1)), (1, .psl 4 (List.map TApiDfItem.enc b2)), (5, .int .i64 p.1.2)], [], 56, []⟩) (fun p => p.1.1) ⟨(fu, 0), hxx13⟩ ⟨rF, rE, rfl, rfl, trivial, trivial⟩ (fun _ => Nat.le_refl _) ?_
 rintro ⟨⟨fu, i14⟩, h1⟩
 cases fu with
 | zero =>
  replace h1 : bookendref04_SameItems_l1 a1 b2 0 i14 = some x13 := h1
  rw [bookendref04_SameItems_l1] at h1; cases h1
 | succ fu =>
  replace h1 : bookendref04_SameItems_l1 a1 b2 (fu + 1) i14 = some x13 := h1
  rw [bookendref04_SameItems_l1] at h1
  dsimp only
  refine awp_seq ?_
  refine xS 88 [0, 1, 5, 14] ?_
  refine xI h1 rfl (fun h1 hb15 => ?_) (fun h1 hb15 => ?_)
  ·
   refine awp_skip (kn_then (awp_seq (awp_block ?_)))
   obtain ⟨e16, he16, h1⟩ := bindS h1
   obtain ⟨he16a, he16b, he16c⟩ := idxS he16
   obtain ⟨e17, he17, h1⟩ := bindS h1
   obtain ⟨he17a, he17b, he17c⟩ := idxS he17
   refine awp_sd2 160 [0, 1, 5, 25] (fun _ => none) rfl rfl rfl (fun _ _ => rSd (rA he16a (rA he16b (rA he16c (rA he17a (rA he17b he17c)))))) ?_
   refine xI h1 rfl (fun h1 hb18 => ?_) (fun h1 hb18 => ?_)
   ·
    refine awp_sr2 168 [4] (fun _ => none) rfl (fun _ _ => rS (rA he16a (rA he16b (rA he16c (rA he17a (rA he17b he17c)))))) ?_
    refine awp_ret ?_
    obtain rfl := Option.some.inj h1
    refine kr_block (kr_then (kr_then (kr_loop (kr_then ?_))))
    obtain rfl := Option.some.inj h0
    refine leave_retG [] ?_
    exact rJ (rA he16a (rA he16b (rA he16c (rA he17a (rA he17b he17c)))))
   refine awp_skip (kn_block (kn_then ?_))
   refine awp_r2 184 [0, 1, 5] (fun _ => none) rfl (fun _ _ => rS (rA he16a (rA he16b (rA he16c (rA he17a (rA he17b he17c)))))) ?_
   refine kn_then ?_
   exact ⟨⟨(fu, (IntKind.i64.wrap (i14 + 1))), h1⟩, ⟨rF, rE, rfl, rfl, trivial, trivial⟩, Nat.lt_succ_self _⟩
  refine awp_exit (kx_then (kx_then (kx_done ?_)))
  obtain rfl := Option.some.inj h1
  exact ⟨_, rfl, rL, ⟨rF, rE, rfl, rfl, trivial, trivial⟩⟩
theorem c_bookendref04_SameAnswer [Adr] {fu : Nat} {a1 : TApiOpAnswer} {b2 : TApiOpAnswer} {r : Bool} (h0 : bookendref04_SameAnswer fu a1 b2 = some r) : PCall Tryz.prog 21 [.agg (TApiOpAnswer.enc a1), .agg (TApiOpAnswer.enc b2)] (.bool r) [] := by
 refine awp_pcall Tryz.func21 rfl (by decide) rL ?_
 dsimp only [Tryz.f21, List.append]
 rw [bookendref04_SameAnswer] at h0
 refine xS 24 [2, 3] ?_
 obtain ⟨b3, hb3, h0⟩ := bindS h0
 obtain ⟨b4, hb4, h0⟩ := bindS h0
 obtain ⟨b5, hb5, h0⟩ := bindS h0
 obtain ⟨b6, hb6, h0⟩ := bindS h0
 obtain ⟨b8, hb8, h0⟩ := bindS h0
 obtain ⟨b9, hb9, h0⟩ := bindS h0
 refine awp_sr3 (fr' := [(4, .bool b9)]) (hp' := [(0, ⟨0, true, true, 24, [[.int .i64 a1.E, .str a1.Key, .str a1.Val, .int .i64 a1.N, .int .i64 a1.Handle.Index, .int .i64 a1.Handle.Gen, .psl 4 (List.map TApiDfItem.enc a1.Items), .int .i64 a1.Stats.Live, .int .i64 a1.Stats.Entries, .int .i64 a1.Stats.Dead, .int .i64 a1.Stats.Buffered, .int .i64 a1.Stats.Runs, .int .i64 a1.Stats.Height, .int .i64 a1.Stats.Jobs, .int .i64 a1.Stats.Debt, .int .i64 a1.Stats.Pins, .int .i64 a1.Stats.Cursors, .int .i64 a1.Stats.Held, .int .i64 a1.Stats.Writes, .int .i64 a1.Stats.Busy, .int .i64 a1.Stats.Seals, .int .i64 a1.Stats.Installs, .int .i64 a1.Stats.Steps, .int .i64 a1.Stats.Lost]]⟩), (8, ⟨0, true, true, 24, [[.int .i64 b2.E, .str b2.Key, .str b2.Val, .int .i64 b2.N, .int .i64 b2.Handle.Index, .int .i64 b2.Handle.Gen, .psl 4 (List.map TApiDfItem.enc b2.Items), .int .i64 b2.Stats.Live, .int .i64 b2.Stats.Entries, .int .i64 b2.Stats.Dead, .int .i64 b2.Stats.Buffered, .int .i64 b2.Stats.Runs, .int .i64 b2.Stats.Height, .int .i64 b2.Stats.Jobs, .int .i64 b2.Stats.Debt, .int .i64 b2.Stats.Pins, .int .i64 b2.Stats.Cursors, .int .i64 b2.Stats.Held, .int .i64 b2.Stats.Writes, .int .i64 b2.Stats.Busy, .int .i64 b2.Stats.Seals, .int .i64 b2.Stats.Installs, .int .i64 b2.Stats.Steps, .int .i64 b2.Stats.Lost]]⟩)]) [0, 8] 408 [4] (fun | 38 => (bookendref04_SameItems fu a1.Items b2.Items).bind fun vr7 => some (.bool vr7, []) | _ => none) rfl (fun Kt hK => by
   cases hg10 : (decide (a1.E = b2.E)) with
   | false =>
    replace hb3 := iteF hb3 hg10
    have hqb3 := Option.some.inj hb3
    cases b3 with
    | false =>
     replace hb4 := iteF hb4 rfl
     have hqb4 := Option.some.inj hb4
     cases b4 with
     | false =>
      replace hb5 := iteF hb5 rfl
      have hqb5 := Option.some.inj hb5
      cases b5 with
      | false =>
       replace hb6 := iteF hb6 rfl
       have hqb6 := Option.some.inj hb6
       cases b6 with
       | false =>
        replace hb8 := iteF hb8 rfl
        have hqb8 := Option.some.inj hb8
        cases b8 with
        | false =>
         replace hb9 := iteF hb9 rfl
         have hqb9 := Option.some.inj hb9
         subst hqb9
         first | exact rWc hg10 (c_bookendref04_SameItems hvr7) hK | exact rW hg10 hK
        | true =>
         cases hqb8
       | true =>
        cases hqb6
      | true =>
       cases hqb5
     | true =>
      cases hqb4
    | true =>
     cases hqb3
   | true =>
    replace hb3 := iteT hb3 hg10
    have hqb3 := Option.some.inj hb3
    cases b3 with
    | false =>
     replace hb4 := iteF hb4 rfl
     have hqb4 := Option.some.inj hb4
     cases b4 with
     | false =>
      replace hb5 := iteF hb5 rfl
      have hqb5 := Option.some.inj hb5
      cases b5 with
      | false =>
       replace hb6 := iteF hb6 rfl
       have hqb6 := Option.some.inj hb6
       cases b6 with
       | false =>
        replace hb8 := iteF hb8 rfl
        have hqb8 := Option.some.inj hb8
        cases b8 with
        | false =>
         replace hb9 := iteF hb9 rfl
         have hqb9 := Option.some.inj hb9
         subst hqb9
         first | exact rWc (rA hg10 hqb3) (c_bookendref04_SameItems hvr7) hK | exact rW (rA hg10 hqb3) hK
        | true =>
         cases hqb8
       | true =>
        cases hqb6
      | true =>
       cases hqb5
     | true =>
      cases hqb4
    | true =>
     replace hb4 := iteT hb4 rfl
     have hqb4 := Option.some.inj hb4
     cases b4 with
     | false =>
      replace hb5 := iteF hb5 rfl
      have hqb5 := Option.some.inj hb5
      cases b5 with
      | false =>
       replace hb6 := iteF hb6 rfl
       have hqb6 := Option.some.inj hb6
       cases b6 with
       | false =>
        replace hb8 := iteF hb8 rfl
        have hqb8 := Option.some.inj hb8
        cases b8 with
        | false =>
         replace hb9 := iteF hb9 rfl
         have hqb9 := Option.some.inj hb9
         subst hqb9
         first | exact rWc (rA hg10 (rA hqb3 hqb4)) (c_bookendref04_SameItems hvr7) hK | exact rW (rA hg10 (rA hqb3 hqb4)) hK
        | true =>
         cases hqb8
       | true =>
        cases hqb6
      | true =>
       cases hqb5
     | true =>
      replace hb5 := iteT hb5 rfl
      have hqb5 := Option.some.inj hb5
      cases b5 with
      | false =>
       replace hb6 := iteF hb6 rfl
       have hqb6 := Option.some.inj hb6
       cases b6 with
       | false =>
        replace hb8 := iteF hb8 rfl
        have hqb8 := Option.some.inj hb8
        cases b8 with
        | false =>
         replace hb9 := iteF hb9 rfl
         have hqb9 := Option.some.inj hb9
         subst hqb9
         first | exact rWc (rA hg10 (rA hqb3 (rA hqb4 hqb5))) (c_bookendref04_SameItems hvr7) hK | exact rW (rA hg10 (rA hqb3 (rA hqb4 hqb5))) hK
        | true =>
         cases hqb8
       | true =>
        cases hqb6
      | true =>
       replace hb6 := iteT hb6 rfl
       have hqb6 := Option.some.inj hb6
       cases b6 with
       | false =>
        replace hb8 := iteF hb8 rfl
        have hqb8 := Option.some.inj hb8
        cases b8 with
        | false =>
         replace hb9 := iteF hb9 rfl
         have hqb9 := Option.some.inj hb9
         subst hqb9
         first | exact rWc (rA hg10 (rA hqb3 (rA hqb4 (rA hqb5 hqb6)))) (c_bookendref04_SameItems hvr7) hK | exact rW (rA hg10 (rA hqb3 (rA hqb4 (rA hqb5 hqb6)))) hK
        | true =>
         cases hqb8
       | true =>
        replace hb8 := iteT hb8 rfl
        obtain ⟨vr7, hvr7, hb8⟩ := bindS hb8
        have hqb8 := Option.some.inj hb8
        cases b8 with
        | false =>
         subst hqb8
         replace hb9 := iteF hb9 rfl
         have hqb9 := Option.some.inj hb9
         subst hqb9
         first | exact rWgc (rA hg10 (rA hqb3 (rA hqb4 (rA hqb5 hqb6)))) hvr7 (c_bookendref04_SameItems hvr7) hK | exact rWg (rA hg10 (rA hqb3 (rA hqb4 (rA hqb5 hqb6)))) hvr7 hK
        | true =>
         subst hqb8
         replace hb9 := iteT hb9 rfl
         have hqb9 := Option.some.inj hb9
         subst hqb9
         first | exact rWgc (rA hg10 (rA hqb3 (rA hqb4 (rA hqb5 hqb6)))) hvr7 (c_bookendref04_SameItems hvr7) hK | exact rWg (rA hg10 (rA hqb3 (rA hqb4 (rA hqb5 hqb6)))) hvr7 hK) ?_
 refine awp_ret ?_
 obtain rfl := Option.some.inj h0
 exact leave_retG [] rG
theorem c_bookendref32_Differ [Adr] {fu : Nat} {a1 : List TApiOpAnswer} {b2 : List TApiOpAnswer} {r : Int × Int} (h0 : bookendref32_Differ fu a1 b2 = some r) : PCall Tryz.prog 7 [.psl 24 (a1.map TApiOpAnswer.enc), .psl 24 (b2.map TApiOpAnswer.enc)] (.tup [.int .i64 r.1, .int .i64 r.2]) [] := by
 refine awp_pcall Tryz.func7 rfl (by decide) rL ?_
 dsimp only [Tryz.f7]
 rw [bookendref32_Differ] at h0
 refine xS 16 [0, 1] ?_
 refine awp_seq ?_
 refine xS 56 [0, 1, 11] ?_
 refine xI h0 rfl (fun h0 hb3 => ?_) (fun h0 hb3 => ?_)
 ·
  refine xS 72 [4, 5] ?_
  refine awp_ret (kr_then ?_)
  obtain rfl := Option.some.inj h0
  exact leave_retG [] rG
 refine awp_skip (kn_then (awp_seq ?_))
 refine xS 64 [0, 1, 6] ?_
 obtain ⟨x15, hxx15, h0⟩ := bindS h0
 refine awp_bloop (fun s' => ∃ o22 : Unit, x15 = .inl o22 ∧ s'.nx ≤ 96 ∧ LeN [] s' ⟨[], [], 96, []⟩) ?_ ?_
 ·
  intro s' hs
  obtain ⟨o22, rfl, hn, hs⟩ := hs
  refine kn_then ?_
  refine awp_re [] hn hs ?_
  refine xS 112 [4, 5] ?_
  refine awp_ret ?_
  obtain rfl := Option.some.inj h0
  exact leave_retG [] rG
 refine awp_loopF (ι := { p : Nat × Int // bookendref32_Differ_l1 a1 b2 p.1 p.2 = some x15 }) (fun p => ⟨[(0, .psl 24 (List.map TApiOpAnswer.enc a1)), (1, .psl 24 (List.map TApiOpAnswer.enc b2)), (6, .int .i64 p.1.2)], [], 64, []⟩) (fun p => p.1.1) ⟨(fu, 0), hxx15⟩ ⟨rF, rE, rfl, rfl, trivial, trivial⟩ (fun _ => Nat.le_refl _) ?_
 rintro ⟨⟨fu, i16⟩, h1⟩
 cases fu with
 | zero =>
  replace h1 : bookendref32_Differ_l1 a1 b2 0 i16 = some x15 := h1
  rw [bookendref32_Differ_l1] at h1; cases h1
 | succ fu =>
  replace h1 : bookendref32_Differ_l1 a1 b2 (fu + 1) i16 = some x15 := h1
  rw [bookendref32_Differ_l1] at h1
  dsimp only
  refine awp_seq ?_
  refine xS 96 [0, 1, 6, 15] ?_
  refine xI h1 rfl (fun h1 hb17 => ?_) (fun h1 hb17 => ?_)
  ·
   refine awp_skip (kn_then (awp_seq (awp_block ?_)))
   obtain ⟨e18, he18, h1⟩ := bindS h1
   obtain ⟨he18a, he18b, he18c⟩ := idxS he18
   obtain ⟨e19, he19, h1⟩ := bindS h1
   obtain ⟨he19a, he19b, he19c⟩ := idxS he19
   obtain ⟨vr20, hvr20, h1⟩ := bindS h1
   refine awp_sd2 176 [0, 1, 6, 27] (fun | 8 => some (.bool vr20, []) | _ => none) rfl rfl rfl (fun _ _ => rBd (rA he18a (rA he18b (rA he18c (rA he19a (rA he19b he19c))))) (c_bookendref04_SameAnswer hvr20)) ?_
   refine xI h1 rfl (fun h1 hb21 => ?_) (fun h1 hb21 => ?_)
   ·
    refine awp_sr2 200 [4, 5] (fun _ => none) rfl (fun _ _ => rS (rA he18a (rA he18b (rA he18c (rA he19a (rA he19b he19c)))))) ?_
    refine awp_ret ?_
    obtain rfl := Option.some.inj h1
    refine kr_block (kr_then (kr_then (kr_loop (kr_then ?_))))
    obtain rfl := Option.some.inj h0
    refine leave_retG [] ?_
    exact rJ (rA he18a (rA he18b (rA he18c (rA he19a (rA he19b he19c)))))
   refine awp_skip (kn_block (kn_then ?_))
   refine awp_r2 200 [0, 1, 6] (fun _ => none) rfl (fun _ _ => rS (rA he18a (rA he18b (rA he18c (rA he19a (rA he19b he19c)))))) ?_
   refine kn_then ?_
   exact ⟨⟨(fu, (IntKind.i64.wrap (i16 + 1))), h1⟩, ⟨rF, rE, rfl, rfl, trivial, trivial⟩, Nat.lt_succ_self _⟩
  refine awp_exit (kx_then (kx_then (kx_done ?_)))
  obtain rfl := Option.some.inj h1
  exact ⟨_, rfl, rL, ⟨rF, rE, rfl, rfl, trivial, trivial⟩⟩
theorem c_script_Busy [Adr] {fu : Nat} {a1 : List TApiOpAnswer} {r : Int} (h0 : script_Busy fu a1 = some r) : PCall Tryz.prog 8 [.psl 24 (a1.map TApiOpAnswer.enc)] (.int .i64 r) [] := by
 refine awp_pcall Tryz.func8 rfl (by decide) rL ?_
 dsimp only [Tryz.f8]
 rw [script_Busy] at h0
 refine xS 8 [0] ?_
 refine xS 16 [0, 3] ?_
 refine awp_seq ?_
 refine xS 40 [3, 6, 7, 8] ?_
 obtain ⟨x10, hxx10, h0⟩ := bindS h0
 refine awp_bloop (fun s' => s'.nx ≤ 48 ∧ LeN [] s' ⟨[(3, .int .i64 x10)], [], 48, []⟩) ?_ ?_
 ·
  intro s' hs
  obtain ⟨hn, hs⟩ := hs
  refine kn_then ?_
  refine awp_re [] hn hs ?_
  refine xS 64 [2] ?_
  refine awp_ret ?_
  obtain rfl := Option.some.inj h0
  exact leave_retG [] rG
 refine awp_loopF (ι := { p : Nat × Int × Int // script_Busy_l1 a1 p.1 p.2.1 p.2.2 = some x10 }) (fun p => ⟨[(3, .int .i64 p.1.2.1), (6, .psl 24 (List.map TApiOpAnswer.enc a1)), (7, .int .i64 (a1.length : Int)), (8, .int .i64 p.1.2.2)], [], 40, []⟩) (fun p => p.1.1) ⟨(fu, 0, 0), hxx10⟩ ⟨rF, rE, rfl, rfl, trivial, trivial⟩ (fun _ => Nat.le_refl _) ?_
 rintro ⟨⟨fu, n11, v12⟩, h1⟩
 cases fu with
 | zero =>
  replace h1 : script_Busy_l1 a1 0 n11 v12 = some x10 := h1
  rw [script_Busy_l1] at h1; cases h1
 | succ fu =>
  replace h1 : script_Busy_l1 a1 (fu + 1) n11 v12 = some x10 := h1
  rw [script_Busy_l1] at h1
  dsimp only
  refine xS 48 [3, 6, 7, 8, 9] ?_
  refine awp_seq ?_
  refine xI h1 rfl (fun h1 hb13 => ?_) (fun h1 hb13 => ?_)
  ·
   refine awp_skip (kn_then (awp_seq (awp_block ?_)))
   obtain ⟨e14, he14, h1⟩ := bindS h1
   obtain ⟨he14a, he14b, he14c⟩ := idxS he14
   refine awp_sr2 80 [3, 5, 6, 7, 8] (fun _ => none) rfl (fun _ _ => rS (rA he14a (rA he14b he14c))) ?_
   refine awp_sr2 104 [3, 6, 7, 8, 14] (fun _ => none) rfl (fun _ _ => rS (rA he14a (rA he14b he14c))) ?_
   refine xI h1 rfl (fun h1 hb15 => ?_) (fun h1 hb15 => ?_)
   ·
    refine awp_r2 128 [3, 6, 7, 8] (fun _ => none) rfl (fun _ _ => rS (rA he14a (rA he14b he14c))) ?_
    refine kn_block (kn_then ?_)
    refine awp_r2 144 [3, 6, 7, 8] (fun _ => none) rfl (fun _ _ => rS (rA he14a (rA he14b he14c))) ?_
    refine kn_then ?_
    exact ⟨⟨(fu, (IntKind.i64.wrap (n11 + 1)), (IntKind.i64.wrap (v12 + 1))), h1⟩, ⟨rF, rE, rfl, rfl, trivial, trivial⟩, Nat.lt_succ_self _⟩
   refine awp_skip (kn_block (kn_then ?_))
   refine awp_r2 120 [3, 6, 7, 8] (fun _ => none) rfl (fun _ _ => rS (rA he14a (rA he14b he14c))) ?_
   refine kn_then ?_
   exact ⟨⟨(fu, n11, (IntKind.i64.wrap (v12 + 1))), h1⟩, ⟨rF, rE, rfl, rfl, trivial, trivial⟩, Nat.lt_succ_self _⟩
  refine awp_exit (kx_then (kx_then (kx_done ?_)))
  obtain rfl := Option.some.inj h1
  exact ⟨rL, ⟨rF, rE, rfl, rfl, trivial, trivial⟩⟩
theorem c_bookendref32_Busy [Adr] {fu : Nat} {a1 : List TApiOpAnswer} {r : Int} (h0 : bookendref32_Busy fu a1 = some r) : PCall Tryz.prog 9 [.psl 24 (a1.map TApiOpAnswer.enc)] (.int .i64 r) [] := by
 refine awp_pcall Tryz.func9 rfl (by decide) rL ?_
 dsimp only [Tryz.f9]
 rw [bookendref32_Busy] at h0
 refine xS 8 [0] ?_
 refine xS 16 [0, 3] ?_
 refine awp_seq ?_
 refine xS 24 [0, 3, 4] ?_
 obtain ⟨x10, hxx10, h0⟩ := bindS h0
 refine awp_bloop (fun s' => s'.nx ≤ 56 ∧ LeN [] s' ⟨[(3, .int .i64 x10)], [], 56, []⟩) ?_ ?_
 ·
  intro s' hs
  obtain ⟨hn, hs⟩ := hs
  refine kn_then ?_
  refine awp_re [] hn hs ?_
  refine xS 72 [2] ?_
  refine awp_ret ?_
  obtain rfl := Option.some.inj h0
  exact leave_retG [] rG
 refine awp_loopF (ι := { p : Nat × Int × Int // bookendref32_Busy_l1 a1 p.1 p.2.1 p.2.2 = some x10 }) (fun p => ⟨[(0, .psl 24 (List.map TApiOpAnswer.enc a1)), (3, .int .i64 p.1.2.1), (4, .int .i64 p.1.2.2)], [], 24, []⟩) (fun p => p.1.1) ⟨(fu, 0, 0), hxx10⟩ ⟨rF, rE, rfl, rfl, trivial, trivial⟩ (fun _ => Nat.le_refl _) ?_
 rintro ⟨⟨fu, n11, i12⟩, h1⟩
 cases fu with
 | zero =>
  replace h1 : bookendref32_Busy_l1 a1 0 n11 i12 = some x10 := h1
  rw [bookendref32_Busy_l1] at h1; cases h1
 | succ fu =>
  replace h1 : bookendref32_Busy_l1 a1 (fu + 1) n11 i12 = some x10 := h1
  rw [bookendref32_Busy_l1] at h1
  dsimp only
  refine awp_seq ?_
  refine xS 56 [0, 3, 4, 8] ?_
  refine xI h1 rfl (fun h1 hb13 => ?_) (fun h1 hb13 => ?_)
  ·
   refine awp_skip (kn_then (awp_seq (awp_block ?_)))
   obtain ⟨e14, he14, h1⟩ := bindS h1
   obtain ⟨he14a, he14b, he14c⟩ := idxS he14
   refine awp_sr2 104 [0, 3, 4, 16] (fun _ => none) rfl (fun _ _ => rS (rA he14a (rA he14b he14c))) ?_
   refine xI h1 rfl (fun h1 hb15 => ?_) (fun h1 hb15 => ?_)
   ·
    refine awp_r2 128 [0, 3, 4] (fun _ => none) rfl (fun _ _ => rS (rA he14a (rA he14b he14c))) ?_
    refine kn_block (kn_then ?_)
    refine awp_r2 152 [0, 3, 4] (fun _ => none) rfl (fun _ _ => rS (rA he14a (rA he14b he14c))) ?_
    refine kn_then ?_
    exact ⟨⟨(fu, (IntKind.i64.wrap (n11 + 1)), (IntKind.i64.wrap (i12 + 1))), h1⟩, ⟨rF, rE, rfl, rfl, trivial, trivial⟩, Nat.lt_succ_self _⟩
   refine awp_skip (kn_block (kn_then ?_))
   refine awp_r2 128 [0, 3, 4] (fun _ => none) rfl (fun _ _ => rS (rA he14a (rA he14b he14c))) ?_
   refine kn_then ?_
   exact ⟨⟨(fu, n11, (IntKind.i64.wrap (i12 + 1))), h1⟩, ⟨rF, rE, rfl, rfl, trivial, trivial⟩, Nat.lt_succ_self _⟩
  refine awp_exit (kx_then (kx_then (kx_done ?_)))
  obtain rfl := Option.some.inj h1
  exact ⟨rL, ⟨rF, rE, rfl, rfl, trivial, trivial⟩⟩
theorem c_slices_Clone_apiOpAnswer_2 [Adr] {fu : Nat} {vs1 : List TApiOpAnswer} {r : List TApiOpAnswer} (h0 : slices_Clone_apiOpAnswer_2 fu vs1 = some r) : PCall Tryz.prog 22 [.psl 24 (vs1.map TApiOpAnswer.enc)] (.sl 0 0 24 0 r.length) [⟨0, true, true, 24, r.map TApiOpAnswer.enc⟩] := by
 refine awp_pcall Tryz.func22 rfl (by decide) rL ?_
 dsimp only [Tryz.f22]
 rw [slices_Clone_apiOpAnswer_2] at h0
 refine xS 8 [0] ?_
 refine awp_seq ?_
 cases hb2 : vs1.isEmpty with
 | true =>
  replace h0 := iteT h0 hb2
  obtain rfl : vs1 = [] := List.isEmpty_iff.1 hb2
  refine xS 24 [0, 4] ?_
  refine awp_cond_any rfl ?_ ?_
  ·
   skip
   refine xS 32 [2] ?_
   refine awp_re (s2 := ⟨[(2, .sl 32 0 24 0 0)], [(32, ⟨0, true, true, 24, List.map TApiOpAnswer.enc []⟩)], 33, []⟩) [(32, 24)] rL ⟨rF, rE, rfl, rfl, trivial, rN⟩ ?_
   refine awp_ret (kr_then ?_)
   obtain rfl := Option.some.inj h0
   exact leave_retG [32] rG
  ·
   skip
   refine awp_skip (kn_then ?_)
   refine xS 56 [2] ?_
   refine xE ⟨[(2, .sl 24 1 24 0 0)], [(24, ⟨1, true, true, 24, List.map TApiOpAnswer.enc []⟩)], 56, []⟩ ?_
   refine awp_ret ?_
   obtain rfl := Option.some.inj h0
   exact leave_retG [24] rG
 | false =>
  replace h0 := iteF h0 hb2
  refine awp_sr2 24 [0, 4] (fun _ => none) rfl (fun _ _ => rS hb2) ?_
  refine awp_condF rfl ?_
  refine awp_skip (kn_then ?_)
  obtain ⟨hc3, h0⟩ := guS h0
  refine awp_sr2 56 [2] (fun _ => none) rfl (fun _ _ => rS hb2) ?_
  refine xE ⟨[(2, .sl 24 1 24 0 vs1.length)], [(24, ⟨1, true, true, 24, List.map TApiOpAnswer.enc vs1⟩)], 56, []⟩ ?_
  refine awp_ret ?_
  obtain rfl := Option.some.inj h0
  refine leave_retG [24] ?_
  exact rJ hb2
theorem c_script_Plain [Adr] {fu : Nat} {a1 : List TApiOpAnswer} {r : List TApiOpAnswer} (h0 : script_Plain fu a1 = some r) : PCall Tryz.prog 11 [.psl 24 (a1.map TApiOpAnswer.enc)] (.psl 24 (r.map TApiOpAnswer.enc)) [] := by
 refine awp_pcall Tryz.func11 rfl (by decide) rL ?_
 dsimp only [Tryz.f11]
 rw [script_Plain] at h0
 refine xS 8 [0] ?_
 obtain ⟨vr2, hvr2, h0⟩ := bindS h0
 refine awp_sr2 32 [3] (fun | 1 => some (.sl 0 0 24 0 vr2.length, [⟨0, true, true, 24, vr2.map TApiOpAnswer.enc⟩]) | _ => none) rfl (fun _ _ => rC (c_slices_Clone_apiOpAnswer_2 hvr2)) ?_
 refine awp_seq ?_
 refine xS 56 [3, 8, 9] ?_
 obtain ⟨x10, hxx10, h0⟩ := bindS h0
 refine awp_bloop (fun s' => ∃ g16 : Nat, s'.nx ≤ 64 ∧ LeN [] s' ⟨[(3, .sl 16 g16 24 0 x10.length)], [(16, ⟨g16, true, true, 24, List.map TApiOpAnswer.enc x10⟩)], 64, []⟩) ?_ ?_
 ·
  intro s' hs
  obtain ⟨g16, hn, hs⟩ := hs
  refine kn_then ?_
  refine awp_re [] hn hs ?_
  refine xS 80 [2] ?_
  refine awp_ret ?_
  obtain rfl := Option.some.inj h0
  exact leave_retG [] rG
 refine awp_loopF (ι := { p : Nat × Int × List TApiOpAnswer × Nat // script_Plain_l1 vr2 p.1 p.2.1 p.2.2.1 = some x10 }) (fun p => ⟨[(3, .sl 16 p.1.2.2.2 24 0 p.1.2.2.1.length), (8, .int .i64 (vr2.length : Int)), (9, .int .i64 p.1.2.1)], [(16, ⟨p.1.2.2.2, true, true, 24, List.map TApiOpAnswer.enc p.1.2.2.1⟩)], 56, []⟩) (fun p => p.1.1) ⟨(fu, 0, vr2, 0), hxx10⟩ ⟨rF, rE, rfl, rfl, trivial, trivial⟩ (fun _ => Nat.le_refl _) ?_
 rintro ⟨⟨fu, v11, out12, g13⟩, h1⟩
 cases fu with
 | zero =>
  replace h1 : script_Plain_l1 vr2 0 v11 out12 = some x10 := h1
  rw [script_Plain_l1] at h1; cases h1
 | succ fu =>
  replace h1 : script_Plain_l1 vr2 (fu + 1) v11 out12 = some x10 := h1
  rw [script_Plain_l1] at h1
  dsimp only
  refine xS 64 [3, 8, 9, 10] ?_
  refine awp_seq ?_
  refine xI h1 rfl (fun h1 hb14 => ?_) (fun h1 hb14 => ?_)
  ·
   refine awp_skip (kn_then (awp_seq (awp_block ?_)))
   refine xS 80 [3, 4, 8, 9] ?_
   obtain ⟨e15, he15, h1⟩ := bindS h1
   obtain ⟨he15a, he15b, he15c⟩ := idxS he15
   refine awp_r2 128 [3, 8, 9] (fun _ => none) rfl (fun _ _ => rS (rA he15a (rA he15b he15c))) ?_
   refine kn_block (kn_then ?_)
   refine xE ⟨[(3, .sl 16 g13 24 0 ((out12.set v11.toNat (TApiOpAnswer.mk e15.E e15.Key e15.Val e15.N e15.Handle e15.Items (TApiStStats.mk 0 0 0 0 0 0 0 0 0 0 0 0 0 0 0 0 0))).length)), (8, .int .i64 (vr2.length : Int)), (9, .int .i64 v11)], [(16, ⟨g13, true, true, 24, List.map TApiOpAnswer.enc (out12.set v11.toNat (TApiOpAnswer.mk e15.E e15.Key e15.Val e15.N e15.Handle e15.Items (TApiStStats.mk 0 0 0 0 0 0 0 0 0 0 0 0 0 0 0 0 0)))⟩)], 128, []⟩ ?_
   refine awp_r2 144 [3, 8, 9] (fun _ => none) rfl (fun _ _ => rS (rA he15a (rA he15b he15c))) ?_
   refine kn_then ?_
   exact ⟨⟨(fu, (IntKind.i64.wrap (v11 + 1)), (out12.set v11.toNat (TApiOpAnswer.mk e15.E e15.Key e15.Val e15.N e15.Handle e15.Items (TApiStStats.mk 0 0 0 0 0 0 0 0 0 0 0 0 0 0 0 0 0))), g13), h1⟩, ⟨rF, rE, rfl, rfl, trivial, trivial⟩, Nat.lt_succ_self _⟩
  refine awp_exit (kx_then (kx_then (kx_done ?_)))
  obtain rfl := Option.some.inj h1
  exact ⟨g13, rL, ⟨rF, rE, rfl, rfl, trivial, trivial⟩⟩
theorem c_bookendref32_Plain [Adr] {fu : Nat} {a1 : List TApiOpAnswer} {r : List TApiOpAnswer} (h0 : bookendref32_Plain fu a1 = some r) : PCall Tryz.prog 12 [.psl 24 (a1.map TApiOpAnswer.enc)] (.psl 24 (r.map TApiOpAnswer.enc)) [] := by
 refine awp_pcall Tryz.func12 rfl (by decide) rL ?_
 dsimp only [Tryz.f12]
 rw [bookendref32_Plain] at h0
 refine xS 8 [0] ?_
 obtain ⟨hc2, h0⟩ := guS h0
 refine xS 40 [3] ?_
 refine xE ⟨[(3, .sl 8 1 24 0 a1.length)], [(8, ⟨1, true, true, 24, List.map TApiOpAnswer.enc a1⟩)], 40, []⟩ ?_
 refine awp_seq ?_
 refine xS 48 [3, 4] ?_
 obtain ⟨x10, hxx10, h0⟩ := bindS h0
 refine awp_bloop (fun s' => ∃ g16 : Nat, s'.nx ≤ 80 ∧ LeN [] s' ⟨[(3, .sl 8 g16 24 0 x10.length)], [(8, ⟨g16, true, true, 24, List.map TApiOpAnswer.enc x10⟩)], 80, []⟩) ?_ ?_
 ·
  intro s' hs
  obtain ⟨g16, hn, hs⟩ := hs
  refine kn_then ?_
  refine awp_re [] hn hs ?_
  refine xS 96 [2] ?_
  refine awp_ret ?_
  obtain rfl := Option.some.inj h0
  exact leave_retG [] rG
 refine awp_loopF (ι := { p : Nat × Int × List TApiOpAnswer × Nat // bookendref32_Plain_l1 p.1 p.2.1 p.2.2.1 = some x10 }) (fun p => ⟨[(3, .sl 8 p.1.2.2.2 24 0 p.1.2.2.1.length), (4, .int .i64 p.1.2.1)], [(8, ⟨p.1.2.2.2, true, true, 24, List.map TApiOpAnswer.enc p.1.2.2.1⟩)], 48, []⟩) (fun p => p.1.1) ⟨(fu, 0, a1, 1), hxx10⟩ ⟨rF, rE, rfl, rfl, trivial, trivial⟩ (fun _ => Nat.le_refl _) ?_
 rintro ⟨⟨fu, i11, out12, g13⟩, h1⟩
 cases fu with
 | zero =>
  replace h1 : bookendref32_Plain_l1 0 i11 out12 = some x10 := h1
  rw [bookendref32_Plain_l1] at h1; cases h1
 | succ fu =>
  replace h1 : bookendref32_Plain_l1 (fu + 1) i11 out12 = some x10 := h1
  rw [bookendref32_Plain_l1] at h1
  dsimp only
  refine awp_seq ?_
  refine xS 80 [3, 4, 11] ?_
  refine xI h1 rfl (fun h1 hb14 => ?_) (fun h1 hb14 => ?_)
  ·
   refine awp_skip (kn_then (awp_seq (awp_block ?_)))
   obtain ⟨e15, he15, h1⟩ := bindS h1
   obtain ⟨he15a, he15b, he15c⟩ := idxS he15
   refine awp_r2 128 [3, 4] (fun _ => none) rfl (fun _ _ => rS (rA he15a (rA he15b he15c))) ?_
   refine kn_block (kn_then ?_)
   refine xE ⟨[(3, .sl 8 g13 24 0 ((out12.set i11.toNat (TApiOpAnswer.mk e15.E e15.Key e15.Val e15.N e15.Handle e15.Items (TApiStStats.mk 0 0 0 0 0 0 0 0 0 0 0 0 0 0 0 0 0))).length)), (4, .int .i64 i11)], [(8, ⟨g13, true, true, 24, List.map TApiOpAnswer.enc (out12.set i11.toNat (TApiOpAnswer.mk e15.E e15.Key e15.Val e15.N e15.Handle e15.Items (TApiStStats.mk 0 0 0 0 0 0 0 0 0 0 0 0 0 0 0 0 0)))⟩)], 128, []⟩ ?_
   refine awp_r2 152 [3, 4] (fun _ => none) rfl (fun _ _ => rS (rA he15a (rA he15b he15c))) ?_
   refine kn_then ?_
   exact ⟨⟨(fu, (IntKind.i64.wrap (i11 + 1)), (out12.set i11.toNat (TApiOpAnswer.mk e15.E e15.Key e15.Val e15.N e15.Handle e15.Items (TApiStStats.mk 0 0 0 0 0 0 0 0 0 0 0 0 0 0 0 0 0))), g13), h1⟩, ⟨rF, rE, rfl, rfl, trivial, trivial⟩, Nat.lt_succ_self _⟩
  refine awp_exit (kx_then (kx_then (kx_done ?_)))
  obtain rfl := Option.some.inj h1
  exact ⟨g13, rL, ⟨rF, rE, rfl, rfl, trivial, trivial⟩⟩
theorem c_bookendref32_Same [Adr] {fu : Nat} {a1 : List TApiOpAnswer} {b2 : List TApiOpAnswer} {r : Bool} (h0 : bookendref32_Same fu a1 b2 = some r) : PCall Tryz.prog 10 [.psl 24 (a1.map TApiOpAnswer.enc), .psl 24 (b2.map TApiOpAnswer.enc)] (.bool r) [] := by
 refine awp_pcall Tryz.func10 rfl (by decide) rL ?_
 dsimp only [Tryz.f10]
 rw [bookendref32_Same] at h0
 refine xS 8 [0, 1] ?_
 obtain ⟨vr3, hvr3, h0⟩ := bindS h0
 refine awp_sr2 72 [6] (fun | 2 => some (.tup [.int .i64 vr3.1, .int .i64 vr3.2], []) | _ => none) rfl (fun _ _ => rC (c_bookendref32_Differ hvr3)) ?_
 refine xS 96 [4] ?_
 refine awp_ret ?_
 obtain rfl := Option.some.inj h0
 exact leave_retG [] rG
theorem c_bookendlaw32_ScriptAnswers [Adr] [ShownOk] {fu : Nat} {a1 : List TApiOpAnswer} {b2 : List TApiOpAnswer} {r : Bool} (h0 : bookendlaw32_ScriptAnswers fu a1 b2 = some r) : PCall Tryz.prog 3 [.psl 24 (a1.map TApiOpAnswer.enc), .psl 24 (b2.map TApiOpAnswer.enc)] (.bool r) [] := by
 refine awp_pcall Tryz.func3 rfl (by decide) rL ?_
 dsimp only [Tryz.f3]
 rw [bookendlaw32_ScriptAnswers] at h0
 refine xS 8 [0, 1] ?_
 refine awp_seq ?_
 obtain ⟨vr3, hvr3, h0⟩ := bindS h0
 obtain ⟨b5, hb5, h0⟩ := bindS h0
 refine awp_sr3 (fr' := [(0, .psl 24 (List.map TApiOpAnswer.enc a1)), (1, .psl 24 (List.map TApiOpAnswer.enc b2)), (14, .bool b5)]) (hp' := []) [] 56 [0, 1, 14] (fun | 1 => some (.bool vr3, []) | 4 => (bookendlaw32_farAnswers fu b2).bind fun vr4 => some (.bool vr4, []) | _ => none) rfl (fun Kt hK => by
   cases vr3 with
   | false =>
    replace hb5 := iteF hb5 rfl
    obtain ⟨vr4, hvr4, hb5⟩ := bindS hb5
    have hqb5 := Option.some.inj hb5
    subst hqb5
    try have q0 := c_bookendlaw32_farAnswers hvr3
    try have q1 := c_bookendlaw32_farAnswers hvr4
    exact rS hvr4
   | true =>
    replace hb5 := iteT hb5 rfl
    have hqb5 := Option.some.inj hb5
    subst hqb5
    try have q0 := c_bookendlaw32_farAnswers hvr3
    try have q1 := c_bookendlaw32_farAnswers hvr4
    exact rT) ?_
 refine xI h0 rfl (fun h0 hb7 => ?_) (fun h0 hb7 => ?_)
 ·
  obtain ⟨vr8, hvr8, h0⟩ := bindS h0
  refine awp_sr2 72 [4] (fun | 0 => some (.bool vr8, []) | _ => none) rfl (fun _ _ => rC (c_bookendlaw32_shown hvr8)) ?_
  refine awp_ret (kr_then ?_)
  obtain rfl := Option.some.inj h0
  exact leave_retG [] rG
 refine awp_skip (kn_then ?_)
 obtain ⟨vr9, hvr9, h0⟩ := bindS h0
 refine awp_sr2 120 [0, 1, 5, 6] (fun | 2 => some (.tup [.int .i64 vr9.1, .int .i64 vr9.2], []) | _ => none) rfl (fun _ _ => rC (c_script_Differ hvr9)) ?_
 obtain ⟨vr10, hvr10, h0⟩ := bindS h0
 refine awp_sr2 184 [0, 5, 6, 7, 8] (fun | 2 => some (.tup [.int .i64 vr10.1, .int .i64 vr10.2], []) | _ => none) rfl (fun _ _ => rC (c_bookendref32_Differ hvr10)) ?_
 obtain ⟨b11, hb11, h0⟩ := bindS h0
 obtain ⟨b14, hb14, h0⟩ := bindS h0
 obtain ⟨b18, hb18, h0⟩ := bindS h0
 obtain ⟨b20, hb20, h0⟩ := bindS h0
 refine awp_sr3 (fr' := [(4, .bool b20)]) (hp' := []) [] 392 [4] (fun | 10 => (script_Busy fu a1).bind fun vr12 => some (.int .i64 vr12, []) | 12 => (script_Busy fu a1).bind fun vr12 => (bookendref32_Busy fu a1).bind fun vr13 => some (.int .i64 vr13, []) | 17 => (script_Plain fu a1).bind fun vr15 => some (.psl 24 (vr15.map TApiOpAnswer.enc), []) | 19 => (script_Plain fu a1).bind fun vr15 => (bookendref32_Plain fu a1).bind fun vr16 => some (.psl 24 (vr16.map TApiOpAnswer.enc), []) | 20 => (script_Plain fu a1).bind fun vr15 => (bookendref32_Plain fu a1).bind fun vr16 => (bookendref32_Same fu vr15 vr16).bind fun vr17 => some (.bool vr17, []) | 23 => (bookendlaw32_shown fu).bind fun vr19 => some (.bool vr19, []) | _ => none) rfl (fun Kt hK => by
   cases hg21 : (decide (vr9.1 = vr10.1)) with
   | false =>
    replace hb11 := iteF hb11 hg21
    have hqb11 := Option.some.inj hb11
    cases b11 with
    | false =>
     replace hb14 := iteF hb14 rfl
     have hqb14 := Option.some.inj hb14
     cases b14 with
     | false =>
      replace hb18 := iteF hb18 rfl
      have hqb18 := Option.some.inj hb18
      cases b18 with
      | false =>
       replace hb20 := iteF hb20 rfl
       have hqb20 := Option.some.inj hb20
       subst hqb20
       simp (maxSteps := 1000000) only [↓reduceIte, reduceCtorEq, Nat.reduceEqDiff, Nat.reduceLT, Nat.reduceLeDiff, Nat.reduceAdd, Nat.reduceMul, Int.reduceToNat, push_cast, ↓hg21]
       try simp only [↓hg21] at hK
       try have q0 := c_script_Busy hvr12
       try have q1 := c_bookendref32_Busy hvr13
       try have q2 := c_script_Plain hvr15
       try have q3 := c_bookendref32_Plain hvr16
       try have q4 := c_bookendref32_Same hvr17
       try have q5 := c_bookendlaw32_shown hvr19
       all_goals exact rU
      | true =>
       cases hqb18
     | true =>
      cases hqb14
    | true =>
     cases hqb11
   | true =>
    replace hb11 := iteT hb11 hg21
    have hqb11 := Option.some.inj hb11
    cases b11 with
    | false =>
     replace hb14 := iteF hb14 rfl
     have hqb14 := Option.some.inj hb14
     cases b14 with
     | false =>
      replace hb18 := iteF hb18 rfl
      have hqb18 := Option.some.inj hb18
      cases b18 with
      | false =>
       replace hb20 := iteF hb20 rfl
       have hqb20 := Option.some.inj hb20
       subst hqb20
       simp (maxSteps := 1000000) only [↓reduceIte, reduceCtorEq, Nat.reduceEqDiff, Nat.reduceLT, Nat.reduceLeDiff, Nat.reduceAdd, Nat.reduceMul, Int.reduceToNat, push_cast, ↓hg21, ↓hqb11]
       try simp only [↓hg21, ↓hqb11] at hK
       try have q0 := c_script_Busy hvr12
       try have q1 := c_bookendref32_Busy hvr13
       try have q2 := c_script_Plain hvr15
       try have q3 := c_bookendref32_Plain hvr16
       try have q4 := c_bookendref32_Same hvr17
       try have q5 := c_bookendlaw32_shown hvr19
       all_goals exact rU
      | true =>
       cases hqb18
     | true =>
      cases hqb14
    | true =>
     replace hb14 := iteT hb14 rfl
     obtain ⟨vr12, hvr12, hb14⟩ := bindS hb14
     obtain ⟨vr13, hvr13, hb14⟩ := bindS hb14
     have hqb14 := Option.some.inj hb14
     cases b14 with
     | false =>
      replace hb18 := iteF hb18 rfl
      have hqb18 := Option.some.inj hb18
      cases b18 with
      | false =>
       replace hb20 := iteF hb20 rfl
       have hqb20 := Option.some.inj hb20
       subst hqb20
       simp (maxSteps := 1000000) only [↓reduceIte, reduceCtorEq, Nat.reduceEqDiff, Nat.reduceLT, Nat.reduceLeDiff, Nat.reduceAdd, Nat.reduceMul, Int.reduceToNat, push_cast, ↓hg21, ↓hqb11, hvr12, hvr13, ↓hqb14]
       try simp only [↓hg21, ↓hqb11, ↓hqb14] at hK
       try have q0 := c_script_Busy hvr12
       try have q1 := c_bookendref32_Busy hvr13
       try have q2 := c_script_Plain hvr15
       try have q3 := c_bookendref32_Plain hvr16
       try have q4 := c_bookendref32_Same hvr17
       try have q5 := c_bookendlaw32_shown hvr19
       all_goals exact rU
      | true =>
       cases hqb18
     | true =>
      replace hb18 := iteT hb18 rfl
      obtain ⟨vr15, hvr15, hb18⟩ := bindS hb18
      obtain ⟨vr16, hvr16, hb18⟩ := bindS hb18
      obtain ⟨vr17, hvr17, hb18⟩ := bindS hb18
      have hqb18 := Option.some.inj hb18
      cases b18 with
      | false =>
       subst hqb18
       replace hb20 := iteF hb20 rfl
       have hqb20 := Option.some.inj hb20
       subst hqb20
       simp (maxSteps := 1000000) only [↓reduceIte, reduceCtorEq, Nat.reduceEqDiff, Nat.reduceLT, Nat.reduceLeDiff, Nat.reduceAdd, Nat.reduceMul, Int.reduceToNat, push_cast, ↓hg21, ↓hqb11, hvr12, hvr13, ↓hqb14, hvr15, hvr16, hvr17]
       try simp only [↓hg21, ↓hqb11, ↓hqb14] at hK
       try have q0 := c_script_Busy hvr12
       try have q1 := c_bookendref32_Busy hvr13
       try have q2 := c_script_Plain hvr15
       try have q3 := c_bookendref32_Plain hvr16
       try have q4 := c_bookendref32_Same hvr17
       try have q5 := c_bookendlaw32_shown hvr19
       all_goals exact rU
      | true =>
       subst hqb18
       replace hb20 := iteT hb20 rfl
       obtain ⟨vr19, hvr19, hb20⟩ := bindS hb20
       have hqb20 := Option.some.inj hb20
       subst hqb20
       simp (maxSteps := 1000000) only [↓reduceIte, reduceCtorEq, Nat.reduceEqDiff, Nat.reduceLT, Nat.reduceLeDiff, Nat.reduceAdd, Nat.reduceMul, Int.reduceToNat, push_cast, ↓hg21, ↓hqb11, hvr12, hvr13, ↓hqb14, hvr15, hvr16, hvr17, hvr19]
       try simp only [↓hg21, ↓hqb11, ↓hqb14] at hK
       try have q0 := c_script_Busy hvr12
       try have q1 := c_bookendref32_Busy hvr13
       try have q2 := c_script_Plain hvr15
       try have q3 := c_bookendref32_Plain hvr16
       try have q4 := c_bookendref32_Same hvr17
       try have q5 := c_bookendlaw32_shown hvr19
       all_goals exact rU) ?_
 refine awp_ret ?_
 obtain rfl := Option.some.inj h0
 exact leave_retG [] rG
end Go.T
end
section
set_option linter.unusedSimpArgs false
set_option linter.unusedVariables false
namespace Go.T
open Go Go.AM
def Ev {α : Type} (g : Nat → Option α) (r : α) : Prop := ∃ N, ∀ fu, N ≤ fu → g fu = some r
theorem Ev.ret {α : Type} (r : α) : Ev (fun _ => some r) r := ⟨0, fun _ _ => rfl⟩
theorem Ev.bind {α β : Type} {g : Nat → Option α} {a : α} {k : Nat → α → Option β} {r : β} (h : Ev g a) (h2 : Ev (fun fu => k fu a) r) : Ev (fun fu => (g fu).bind (k fu)) r := by
  obtain ⟨n, h⟩ := h
  obtain ⟨m, h2⟩ := h2
  exact ⟨n + m, fun fu hfu => by show (g fu).bind (k fu) = _; rw [h fu (by omega)]; exact h2 fu (by omega)⟩
theorem Ev.succ {α : Type} {g : Nat → Option α} {r : α} (h : Ev (fun fu => g (fu + 1)) r) : Ev g r := by
  obtain ⟨n, h⟩ := h
  exact ⟨n + 1, fun fu hfu => by obtain ⟨m, rfl⟩ : ∃ m, fu = m + 1 := ⟨fu - 1, by omega⟩; exact h m (by omega)⟩
theorem Ev.of {α : Type} {g g' : Nat → Option α} {r : α} (e : ∀ fu, g fu = g' fu) (h : Ev g' r) : Ev g r := by
  obtain ⟨n, h⟩ := h
  exact ⟨n, fun fu hfu => (e fu).trans (h fu hfu)⟩
theorem Ev.one {α : Type} {g : Nat → Option α} {r : α} (h : Ev g r) : ∃ fu, g fu = some r := by
  obtain ⟨n, h⟩ := h; exact ⟨n, h n (Nat.le_refl n)⟩
theorem wr {n : Int} (h1 : -9223372036854775808 ≤ n) (h2 : n ≤ 9223372036854775807) : IntKind.i64.wrap n = n := by
  rw [IntKind.wrap_i64]; omega
theorem ix_get {α : Type} (l : List α) (n : Nat) (h : n < l.length) : ix l (n : Int) = some l[n] := by simp [ix, h]
theorem nx {v n : Nat} (h : v < n) (hn : n ≤ 9223372036854775807) : IntKind.i64.wrap ((v : Int) + 1) = ((v + 1 : Nat) : Int) := by rw [wr (by omega) (by omega)]; omega
abbrev big : Nat := 9223372036854775807
theorem far1_ev (a : TApiOpAnswer) (hl : a.Items.length ≤ big) : ∀ (m v : Nat), v + m = a.Items.length → ∃ r, Ev (fun fu => bookendlaw04_FarAnswer_l1 a fu v) r
  | 0, v, hv => by
    have hn : ¬ ((v : Int) < (a.Items.length : Int)) := by omega
    exact ⟨.inl (), Ev.succ (Ev.of (fun fu => by simp only [bookendlaw04_FarAnswer_l1, hn, decide_false, Bool.false_eq_true, if_false]) (Ev.ret _))⟩
  | m + 1, v, hv => by
    have hn : (v : Int) < (a.Items.length : Int) := by omega
    have hlt : v < a.Items.length := by omega
    obtain ⟨e, he⟩ : ∃ e, e = a.Items[v] := ⟨_, rfl⟩
    have hx : ix a.Items (v : Int) = some e := by rw [he]; exact ix_get _ v hlt
    obtain ⟨r, hr⟩ := far1_ev a hl m (v + 1) (by omega)
    have hb : ∃ b : Bool, ((if (decide (900 < (IntKind.i64.wrap ((IntKind.i64.wrap ((e.Key.length : Int) + (e.Old.length : Int))) + (e.New.length : Int))))) then some true else (if (decide (30 < (a.Items.length : Int))) then some (decide (0 < (IntKind.i64.wrap ((IntKind.i64.wrap ((e.Key.length : Int) + (e.Old.length : Int))) + (e.New.length : Int))))) else some false).bind fun b34 => some b34) : Option Bool) = some b := by
      split
      · exact ⟨_, rfl⟩
      · split
        · exact ⟨_, rfl⟩
        · exact ⟨_, rfl⟩
    obtain ⟨b, hb⟩ := hb
    cases b with
    | true => exact ⟨.inr true, Ev.succ (Ev.of (fun fu => by simp only [bookendlaw04_FarAnswer_l1, hn, decide_true, if_true, hx, Option.bind_some, hb]) (Ev.ret _))⟩
    | false =>
      refine ⟨r, Ev.succ (Ev.of (fun fu => ?_) hr)⟩
      simp only [bookendlaw04_FarAnswer_l1, hn, decide_true, if_true, hx, Option.bind_some, hb, Bool.false_eq_true, if_false, nx hlt hl]
theorem far_ev (a : TApiOpAnswer) (hl : a.Items.length ≤ big) : ∃ r, Ev (fun fu => bookendlaw04_FarAnswer fu a) r := by
  obtain ⟨r, hr⟩ := far1_ev a hl a.Items.length 0 (by omega)
  have hb : ∃ b : Bool, (((if (decide (300 < (a.Key.length : Int))) then some true else some (decide (300 < (a.Val.length : Int)))).bind fun b2 => (if b2 then some true else (if (decide (30 < (a.Items.length : Int))) then some (decide ((a.Items.length : Int) ≤ 2000)) else some false).bind fun b3 => some b3).bind fun b4 => (if b4 then some true else some (decide (2005 < (a.Items.length : Int))))) : Option Bool) = some b := by
    by_cases h1 : 300 < (a.Key.length : Int) <;> by_cases h2 : 30 < (a.Items.length : Int) <;> by_cases h3 : 300 < (a.Val.length : Int) <;> by_cases h4 : (a.Items.length : Int) ≤ 2000 <;> simp [h1, h2, h3, h4]
  obtain ⟨b, hb⟩ := hb
  have e : ∀ fu, bookendlaw04_FarAnswer fu a = if b then some true else (bookendlaw04_FarAnswer_l1 a fu ((0 : Nat) : Int)).bind fun x => match x with | .inl _ => some false | .inr y => some y := by
    intro fu
    have : bookendlaw04_FarAnswer fu a = (some b).bind fun b5 => if b5 then some true else (bookendlaw04_FarAnswer_l1 a fu ((0 : Nat) : Int)).bind fun x => match x with | .inl _ => some false | .inr y => some y := by
      rw [← hb]
      unfold bookendlaw04_FarAnswer
      simp only [Option.bind_assoc]
      rfl
    rw [this]; rfl
  cases b with
  | true => exact ⟨true, Ev.of (fun fu => by rw [e]; rfl) (Ev.ret _)⟩
  | false =>
    refine ⟨match r with | .inl _ => false | .inr y => y, Ev.of (fun fu => by rw [e]; rfl) (Ev.bind (k := fun _ x => match x with | .inl _ => some false | .inr y => some y) hr ?_)⟩
    cases r <;> exact Ev.ret _
theorem fars1_ev (l : List TApiOpAnswer) (hl : l.length ≤ big) (hi : ∀ a ∈ l, a.Items.length ≤ big) : ∀ (m v : Nat), v + m = l.length → ∃ r, Ev (fun fu => bookendlaw32_farAnswers_l1 l fu v) r
  | 0, v, hv => by
    have hn : ¬ ((v : Int) < (l.length : Int)) := by omega
    exact ⟨.inl (), Ev.succ (Ev.of (fun fu => by simp only [bookendlaw32_farAnswers_l1, hn, decide_false, Bool.false_eq_true, if_false]) (Ev.ret _))⟩
  | m + 1, v, hv => by
    have hn : (v : Int) < (l.length : Int) := by omega
    have hlt : v < l.length := by omega
    obtain ⟨e, he⟩ : ∃ e, e = l[v] := ⟨_, rfl⟩
    have hx : ix l (v : Int) = some e := by rw [he]; exact ix_get _ v hlt
    obtain ⟨r, hr⟩ := fars1_ev l hl hi m (v + 1) (by omega)
    obtain ⟨b, hb⟩ := far_ev e (hi e (by rw [he]; exact List.getElem_mem _))
    refine ⟨if b then .inr true else r, Ev.succ (Ev.of (g' := fun fu => (bookendlaw04_FarAnswer fu e).bind fun vr => if vr then some (.inr true) else bookendlaw32_farAnswers_l1 l fu ((v + 1 : Nat) : Int)) (fun fu => ?_) (Ev.bind hb ?_))⟩
    · simp only [bookendlaw32_farAnswers_l1, hn, decide_true, if_true, hx, Option.bind_some, nx hlt hl]
    · cases b
      · simpa using hr
      · exact Ev.ret _
theorem fars_ev (l : List TApiOpAnswer) (hl : l.length ≤ big) (hi : ∀ a ∈ l, a.Items.length ≤ big) : ∃ r, Ev (fun fu => bookendlaw32_farAnswers fu l) r ∧ (r = false → l.length ≤ 205) := by
  by_cases h : 205 < (l.length : Int)
  · exact ⟨true, Ev.of (fun fu => by simp [bookendlaw32_farAnswers, h]) (Ev.ret _), by simp⟩
  · obtain ⟨r, hr⟩ := fars1_ev l hl hi l.length 0 (by omega)
    refine ⟨match r with | .inl _ => false | .inr y => y, Ev.of (g' := fun fu => (bookendlaw32_farAnswers_l1 l fu ((0 : Nat) : Int)).bind fun x => match x with | .inl _ => some false | .inr y => some y) (fun fu => ?_) (Ev.bind hr ?_), fun _ => by omega⟩
    · simp only [bookendlaw32_farAnswers, h, decide_false, Bool.false_eq_true, if_false]; rfl
    · cases r <;> exact Ev.ret _
theorem itemsL_eq (x y : List TApiDfItem) : ∀ (fu : Nat) (v : Int), slices_Equal_apiDfItem_l1 x y fu v = bookendref04_SameItems_l1 x y fu v
  | 0, v => rfl
  | fu + 1, v => by simp only [slices_Equal_apiDfItem_l1, bookendref04_SameItems_l1, itemsL_eq x y fu]
theorem items_eq (x y : List TApiDfItem) (fu : Nat) : slices_Equal_apiDfItem fu x y = bookendref04_SameItems fu x y := by
  simp only [slices_Equal_apiDfItem, bookendref04_SameItems, itemsL_eq]
theorem same_eq (fu : Nat) (a b : TApiOpAnswer) : script_same fu a b = bookendref04_SameAnswer fu a b := by
  simp only [script_same, bookendref04_SameAnswer, items_eq]
theorem df_refl (x : TApiDfItem) : TApiDfItem.eqb x x = true := by simp [TApiDfItem.eqb]
theorem items1_ev (x y : List TApiDfItem) (h : x.length = y.length) (hl : x.length ≤ big) : ∀ (m v : Nat), v + m = x.length → ∃ r, Ev (fun fu => bookendref04_SameItems_l1 x y fu v) r ∧ (x = y → r = .inl ())
  | 0, v, hv => by
    have hn : ¬ ((v : Int) < (x.length : Int)) := by omega
    exact ⟨.inl (), Ev.succ (Ev.of (fun fu => by simp only [bookendref04_SameItems_l1, hn, decide_false, Bool.false_eq_true, if_false]) (Ev.ret _)), fun _ => rfl⟩
  | m + 1, v, hv => by
    have hn : (v : Int) < (x.length : Int) := by omega
    have hlt : v < x.length := by omega
    have hlt2 : v < y.length := by omega
    have hx : ix x (v : Int) = some x[v] := ix_get _ v hlt
    have hy : ix y (v : Int) = some y[v] := ix_get _ v hlt2
    obtain ⟨r, hr, hr2⟩ := items1_ev x y h hl m (v + 1) (by omega)
    cases hq : TApiDfItem.eqb x[v] y[v] with
    | true =>
      refine ⟨r, Ev.succ (Ev.of (fun fu => ?_) hr), hr2⟩
      simp only [bookendref04_SameItems_l1, hn, decide_true, if_true, hx, hy, Option.bind_some, hq, Bool.not_true, Bool.false_eq_true, if_false, nx hlt hl]
    | false =>
      refine ⟨.inr false, Ev.succ (Ev.of (fun fu => ?_) (Ev.ret _)), fun e => ?_⟩
      · simp only [bookendref04_SameItems_l1, hn, decide_true, if_true, hx, hy, Option.bind_some, hq, Bool.not_false]
      · subst e
        rw [df_refl] at hq; cases hq
theorem items_ev (x y : List TApiDfItem) (hl : x.length ≤ big) : ∃ r, Ev (fun fu => bookendref04_SameItems fu x y) r ∧ (x = y → r = true) := by
  by_cases h : (x.length : Int) = (y.length : Int)
  · obtain ⟨r, hr, hr2⟩ := items1_ev x y (by omega) hl x.length 0 (by omega)
    refine ⟨match r with | .inl _ => true | .inr q => q, Ev.of (g' := fun fu => (bookendref04_SameItems_l1 x y fu ((0 : Nat) : Int)).bind fun x => match x with | .inl _ => some true | .inr q => some q) (fun fu => ?_) (Ev.bind hr ?_), fun e => by have q := hr2 e; subst q; rfl⟩
    · simp only [bookendref04_SameItems, h, decide_true, Bool.not_true, Bool.false_eq_true, if_false]; rfl
    · cases r <;> exact Ev.ret _
  · refine ⟨false, Ev.of (fun fu => by simp [bookendref04_SameItems, h]) (Ev.ret _), fun e => by subst e; exact absurd rfl h⟩
theorem st_refl (x : TApiStStats) : TApiStStats.eqb x x = true := by simp [TApiStStats.eqb]
theorem hd_refl (x : TApiHandle) : TApiHandle.eqb x x = true := by simp [TApiHandle.eqb]
theorem ans_ev (a b : TApiOpAnswer) (hl : a.Items.length ≤ big) : ∃ r, Ev (fun fu => bookendref04_SameAnswer fu a b) r ∧ (a = b → r = true) := by
  obtain ⟨r, hr, hr2⟩ := items_ev a.Items b.Items hl
  obtain ⟨p, hp⟩ : ∃ p : Bool, p = (decide (a.E = b.E) && (a.Key == b.Key) && (a.Val == b.Val) && decide (a.N = b.N) && TApiHandle.eqb a.Handle b.Handle) := ⟨_, rfl⟩
  have e : ∀ fu, bookendref04_SameAnswer fu a b = (if p then (bookendref04_SameItems fu a.Items b.Items).bind fun vr7 => some vr7 else some false).bind fun b8 => (if b8 then some (TApiStStats.eqb a.Stats b.Stats) else some false).bind fun b9 => some b9 := by
    intro fu
    rw [hp]
    unfold bookendref04_SameAnswer
    cases h1 : decide (a.E = b.E) <;> cases h2 : (a.Key == b.Key) <;> cases h3 : (a.Val == b.Val) <;> cases h4 : decide (a.N = b.N) <;> cases h5 : TApiHandle.eqb a.Handle b.Handle <;> rfl
  cases p with
  | false =>
    refine ⟨false, Ev.of (fun fu => by rw [e]; rfl) (Ev.ret _), fun q => ?_⟩
    subst q
    simp [hd_refl] at hp
  | true =>
    refine ⟨r && TApiStStats.eqb a.Stats b.Stats, Ev.of (g' := fun fu => (bookendref04_SameItems fu a.Items b.Items).bind fun b8 => (if b8 then some (TApiStStats.eqb a.Stats b.Stats) else some false)) (fun fu => ?_) (Ev.bind hr ?_), fun q => ?_⟩
    · rw [e]; cases bookendref04_SameItems fu a.Items b.Items with
      | none => rfl
      | some q => cases q <;> rfl
    · cases r <;> exact Ev.ret _
    · subst q; rw [hr2 rfl, st_refl]; rfl
theorem differ1_ev (x y : List TApiOpAnswer) (h : x.length = y.length) (hl : x.length ≤ big) (hi : ∀ a ∈ x, a.Items.length ≤ big) : ∀ (m v : Nat), v + m = x.length → ∃ r : Sum Unit Nat,
    Ev (fun fu => script_first_apiOpAnswer_l1 x y fu v) (match r with | .inl _ => .inl () | .inr n => .inr (n : Int)) ∧ Ev (fun fu => bookendref32_Differ_l1 x y fu v) (match r with | .inl _ => .inl () | .inr n => .inr ((n : Int), 0)) ∧ (x = y → r = .inl ())
  | 0, v, hv => by
    have hn : ¬ ((v : Int) < (x.length : Int)) := by omega
    refine ⟨.inl (), Ev.succ (Ev.of (fun fu => ?_) (Ev.ret _)), Ev.succ (Ev.of (fun fu => ?_) (Ev.ret _)), fun _ => rfl⟩
    · simp only [script_first_apiOpAnswer_l1, hn, decide_false, Bool.false_eq_true, if_false]
    · simp only [bookendref32_Differ_l1, hn, decide_false, Bool.false_eq_true, if_false]
  | m + 1, v, hv => by
    have hn : (v : Int) < (x.length : Int) := by omega
    have hlt : v < x.length := by omega
    have hlt2 : v < y.length := by omega
    have hx : ix x (v : Int) = some x[v] := ix_get _ v hlt
    have hy : ix y (v : Int) = some y[v] := ix_get _ v hlt2
    obtain ⟨r, r1, r2, r3⟩ := differ1_ev x y h hl hi m (v + 1) (by omega)
    obtain ⟨q, hq, hq2⟩ := ans_ev x[v] y[v] (hi _ (List.getElem_mem _))
    cases q with
    | true =>
      refine ⟨r, Ev.succ (Ev.of (g' := fun fu => (bookendref04_SameAnswer fu x[v] y[v]).bind fun vr => if (!vr) then some (.inr (v : Int)) else script_first_apiOpAnswer_l1 x y fu ((v + 1 : Nat) : Int)) (fun fu => ?_) (Ev.bind hq (by simpa using r1))),
        Ev.succ (Ev.of (g' := fun fu => (bookendref04_SameAnswer fu x[v] y[v]).bind fun vr => if (!vr) then some (.inr ((v : Int), 0)) else bookendref32_Differ_l1 x y fu ((v + 1 : Nat) : Int)) (fun fu => ?_) (Ev.bind hq (by simpa using r2))), r3⟩
      · simp only [script_first_apiOpAnswer_l1, hn, decide_true, if_true, hx, hy, Option.bind_some, same_eq, nx hlt hl]
      · simp only [bookendref32_Differ_l1, hn, decide_true, if_true, hx, hy, Option.bind_some, nx hlt hl]
    | false =>
      refine ⟨.inr v, Ev.succ (Ev.of (g' := fun fu => (bookendref04_SameAnswer fu x[v] y[v]).bind fun vr => if (!vr) then some (.inr (v : Int)) else script_first_apiOpAnswer_l1 x y fu ((v + 1 : Nat) : Int)) (fun fu => ?_) (Ev.bind hq (Ev.ret _))),
        Ev.succ (Ev.of (g' := fun fu => (bookendref04_SameAnswer fu x[v] y[v]).bind fun vr => if (!vr) then some (.inr ((v : Int), 0)) else bookendref32_Differ_l1 x y fu ((v + 1 : Nat) : Int)) (fun fu => ?_) (Ev.bind hq (Ev.ret _))), fun e => ?_⟩
      · simp only [script_first_apiOpAnswer_l1, hn, decide_true, if_true, hx, hy, Option.bind_some, same_eq, nx hlt hl]
      · simp only [bookendref32_Differ_l1, hn, decide_true, if_true, hx, hy, Option.bind_some, nx hlt hl]
      · subst e; cases hq2 rfl
theorem differ_ev (x y : List TApiOpAnswer) (hl : x.length ≤ big) (hi : ∀ a ∈ x, a.Items.length ≤ big) : ∃ r, Ev (fun fu => script_Differ fu x y) r ∧ Ev (fun fu => bookendref32_Differ fu x y) r ∧ (x = y → r = (0, 4)) := by
  by_cases h : (x.length : Int) = (y.length : Int)
  · obtain ⟨r, r1, r2, r3⟩ := differ1_ev x y (by omega) hl hi x.length 0 (by omega)
    refine ⟨match r with | .inl _ => (0, 4) | .inr n => ((n : Int), 0), ?_, ?_, fun e => by have q := r3 e; subst q; rfl⟩
    · refine Ev.of (g' := fun fu => ((script_first_apiOpAnswer_l1 x y fu ((0 : Nat) : Int)).bind fun x => match x with | .inl _ => some (-1) | .inr q => some q).bind fun vr => if decide (vr < 0) then some (0, 4) else some (vr, 0)) (fun fu => ?_) ?_
      · simp only [script_Differ, script_first_apiOpAnswer, h, decide_true, Bool.not_true, Bool.false_eq_true, if_false]; rfl
      · cases r with
        | inl u => exact Ev.bind (Ev.bind r1 (Ev.ret _)) (Ev.of (fun fu => by rfl) (Ev.ret _))
        | inr n =>
          refine Ev.bind (Ev.bind r1 (Ev.ret _)) (Ev.of (fun fu => ?_) (Ev.ret _))
          have : ¬ ((n : Int) < 0) := by omega
          simp [this]
    · refine Ev.of (g' := fun fu => (bookendref32_Differ_l1 x y fu ((0 : Nat) : Int)).bind fun x => match x with | .inl _ => some (0, 4) | .inr q => some q) (fun fu => ?_) (Ev.bind r2 ?_)
      · simp only [bookendref32_Differ, h, decide_true, Bool.not_true, Bool.false_eq_true, if_false]; rfl
      · cases r <;> exact Ev.ret _
  · refine ⟨(0, 6), Ev.of (fun fu => by simp [script_Differ, h]) (Ev.ret _), Ev.of (fun fu => by simp [bookendref32_Differ, h]) (Ev.ret _), fun e => by subst e; exact absurd rfl h⟩
theorem busyL_eq (l : List TApiOpAnswer) : ∀ (fu : Nat) (n v : Int), script_Busy_l1 l fu n v = bookendref32_Busy_l1 l fu n v
  | 0, n, v => rfl
  | fu + 1, n, v => by simp only [script_Busy_l1, bookendref32_Busy_l1, busyL_eq l fu]
theorem busy1_ev (l : List TApiOpAnswer) (hl : l.length ≤ big) : ∀ (m v : Nat), v + m = l.length → ∀ n : Int, ∃ r, Ev (fun fu => bookendref32_Busy_l1 l fu n v) r
  | 0, v, hv, n => by
    have hn : ¬ ((v : Int) < (l.length : Int)) := by omega
    exact ⟨n, Ev.succ (Ev.of (fun fu => by simp only [bookendref32_Busy_l1, hn, decide_false, Bool.false_eq_true, if_false]) (Ev.ret _))⟩
  | m + 1, v, hv, n => by
    have hn : (v : Int) < (l.length : Int) := by omega
    have hlt : v < l.length := by omega
    have hx : ix l (v : Int) = some l[v] := ix_get _ v hlt
    by_cases hq : l[v].E = 10
    · obtain ⟨r, hr⟩ := busy1_ev l hl m (v + 1) (by omega) (IntKind.i64.wrap (n + 1))
      exact ⟨r, Ev.succ (Ev.of (fun fu => by simp only [bookendref32_Busy_l1, hn, decide_true, if_true, hx, Option.bind_some, hq, nx hlt hl]) hr)⟩
    · obtain ⟨r, hr⟩ := busy1_ev l hl m (v + 1) (by omega) n
      exact ⟨r, Ev.succ (Ev.of (fun fu => by simp only [bookendref32_Busy_l1, hn, decide_true, if_true, hx, Option.bind_some, hq, decide_false, Bool.false_eq_true, if_false, nx hlt hl]) hr)⟩
theorem busy_ev (l : List TApiOpAnswer) (hl : l.length ≤ big) : ∃ r, Ev (fun fu => script_Busy fu l) r ∧ Ev (fun fu => bookendref32_Busy fu l) r := by
  obtain ⟨r, hr⟩ := busy1_ev l hl l.length 0 (by omega) 0
  refine ⟨r, Ev.of (g' := fun fu => (bookendref32_Busy_l1 l fu 0 ((0 : Nat) : Int)).bind fun x => some x) (fun fu => ?_) (Ev.bind hr (Ev.ret _)), Ev.of (g' := fun fu => (bookendref32_Busy_l1 l fu 0 ((0 : Nat) : Int)).bind fun x => some x) (fun fu => ?_) (Ev.bind hr (Ev.ret _))⟩
  · simp only [script_Busy, busyL_eq]; rfl
  · simp only [bookendref32_Busy]; rfl
theorem plain1_ev (l : List TApiOpAnswer) (hl : l.length ≤ big) : ∀ (m v : Nat), v + m = l.length → ∀ out : List TApiOpAnswer, out.length = l.length → (∀ a ∈ out, a.Items.length ≤ big) → ∃ r : List TApiOpAnswer, Ev (fun fu => script_Plain_l1 l fu v out) r ∧ Ev (fun fu => bookendref32_Plain_l1 fu v out) r ∧ r.length = l.length ∧ ∀ a ∈ r, a.Items.length ≤ big
  | 0, v, hv, out, ho, hi => by
    have hn : ¬ ((v : Int) < (l.length : Int)) := by omega
    have hn2 : ¬ ((v : Int) < (out.length : Int)) := by omega
    exact ⟨out, Ev.succ (Ev.of (fun fu => by simp only [script_Plain_l1, hn, decide_false, Bool.false_eq_true, if_false]) (Ev.ret _)), Ev.succ (Ev.of (fun fu => by simp only [bookendref32_Plain_l1, hn2, decide_false, Bool.false_eq_true, if_false]) (Ev.ret _)), ho, hi⟩
  | m + 1, v, hv, out, ho, hi => by
    have hn : (v : Int) < (l.length : Int) := by omega
    have hn2 : (v : Int) < (out.length : Int) := by omega
    have hlt : v < l.length := by omega
    have hlt2 : v < out.length := by omega
    have hx : ix out (v : Int) = some out[v] := ix_get _ v hlt2
    have ht : (v : Int).toNat = v := by omega
    obtain ⟨r, r1, r2, r3, r4⟩ := plain1_ev l hl m (v + 1) (by omega) (out.set v (TApiOpAnswer.mk out[v].E out[v].Key out[v].Val out[v].N out[v].Handle out[v].Items (TApiStStats.mk 0 0 0 0 0 0 0 0 0 0 0 0 0 0 0 0 0))) (by simp [ho]) (fun a ha => by
      rcases List.mem_or_eq_of_mem_set ha with h | h
      · exact hi a h
      · rw [h]; exact hi out[v] (List.getElem_mem _))
    refine ⟨r, Ev.succ (Ev.of (fun fu => ?_) r1), Ev.succ (Ev.of (fun fu => ?_) r2), r3, r4⟩
    · simp only [script_Plain_l1, hn, decide_true, if_true, hx, Option.bind_some, nx hlt hl, ht]
    · simp only [bookendref32_Plain_l1, hn2, decide_true, if_true, hx, Option.bind_some, nx hlt hl, ht]
theorem plain_ev (l : List TApiOpAnswer) (hl : l.length ≤ 205) (hi : ∀ a ∈ l, a.Items.length ≤ big) : ∃ r : List TApiOpAnswer, Ev (fun fu => script_Plain fu l) r ∧ Ev (fun fu => bookendref32_Plain fu l) r ∧ r.length = l.length ∧ ∀ a ∈ r, a.Items.length ≤ big := by
  obtain ⟨r, r1, r2, r3, r4⟩ := plain1_ev l (by unfold big; omega) l.length 0 (by omega) l rfl hi
  have hsz : 2 * ((0 + l.length) * 224) ≤ 281474976710656 := by omega
  have hcl : ∀ fu, slices_Clone_apiOpAnswer_2 fu l = some l := by
    intro fu
    unfold slices_Clone_apiOpAnswer_2
    cases l with
    | nil => rfl
    | cons a l => rw [if_neg (by simp), if_pos hsz]
  refine ⟨r, Ev.of (g' := fun fu => (script_Plain_l1 l fu ((0 : Nat) : Int) l).bind fun x => some x) (fun fu => ?_) (Ev.bind r1 (Ev.ret _)), Ev.of (g' := fun fu => (bookendref32_Plain_l1 fu ((0 : Nat) : Int) l).bind fun x => some x) (fun fu => ?_) (Ev.bind r2 (Ev.ret _)), r3, r4⟩
  · simp only [script_Plain, hcl, Option.bind_some]; rfl
  · simp only [bookendref32_Plain, if_pos hsz]; rfl
theorem scriptAnswers_ev (a b : List TApiOpAnswer) (ha : a.length ≤ big) (hb : b.length ≤ big) (hi : ∀ x ∈ a, x.Items.length ≤ big) (hj : ∀ x ∈ b, x.Items.length ≤ big) : Ev (fun fu => bookendlaw32_ScriptAnswers fu a b) true := by
  obtain ⟨p, hp, hp2⟩ := fars_ev a ha hi
  obtain ⟨q, hq, hq2⟩ := fars_ev b hb hj
  cases p with
  | true =>
    refine Ev.of (fun fu => rfl) (Ev.bind hp ?_)
    exact Ev.of (fun fu => by simp [bookendlaw32_shown]) (Ev.ret _)
  | false =>
    refine Ev.of (fun fu => rfl) (Ev.bind hp ?_)
    cases q with
    | true =>
      refine Ev.bind (a := true) (Ev.of (fun fu => rfl) (Ev.bind hq (Ev.ret _))) ?_
      exact Ev.of (fun fu => by simp [bookendlaw32_shown]) (Ev.ret _)
    | false =>
      refine Ev.bind (a := false) (Ev.of (fun fu => rfl) (Ev.bind hq (Ev.ret _))) ?_
      simp only [Bool.false_eq_true, if_false]
      obtain ⟨d, d1, d2, -⟩ := differ_ev a b ha hi
      refine Ev.bind d1 (Ev.bind d2 ?_)
      simp only [decide_true, if_true, Option.bind_some]
      obtain ⟨n, n1, n2⟩ := busy_ev a ha
      refine Ev.bind (Ev.bind n1 (Ev.bind n2 (Ev.ret _))) ?_
      simp only [decide_true, if_true]
      obtain ⟨x, x1, x2, x3, x4⟩ := plain_ev a (hp2 rfl) hi
      obtain ⟨s, -, s2, s3⟩ := differ_ev x x (by have := hp2 rfl; unfold big; omega) x4
      obtain rfl := s3 rfl
      refine Ev.bind (a := true) (Ev.bind x1 (Ev.bind x2 (Ev.bind (a := true) (Ev.of (fun fu => rfl) (Ev.bind s2 (Ev.ret _))) (Ev.ret _)))) ?_
      exact Ev.of (fun fu => by simp [bookendlaw32_shown]) (Ev.ret _)
end Go.T
end
section
namespace Go.Proofs.YtbinmepkdbkffaaGreatDoor
open Go Go.AM Go.T
theorem scriptAnswers : Rows.ScriptAnswersCardSaid :=
  scriptAnswers_card (fun ad off h1 h2 x0 x1 w0 w1 => by
    letI : Adr := adrOf ad off
    haveI : ShownOk := ⟨ranAll ad off pok (base0_ok ad off h1 h2)⟩
    have hb : maxLen ≤ big := by decide
    obtain ⟨fu, hfu⟩ := (scriptAnswers_ev x0 x1 (Nat.le_trans w0.1 hb) (Nat.le_trans w1.1 hb) (fun x hx => Nat.le_trans (w0.2 x hx).2.2.2.2.2.1.1 hb) (fun x hx => Nat.le_trans (w1.2 x hx).2.2.2.2.2.1.1 hb)).one
    exact ⟨_, c_bookendlaw32_ScriptAnswers hfu⟩)
end Go.Proofs.YtbinmepkdbkffaaGreatDoor
end
