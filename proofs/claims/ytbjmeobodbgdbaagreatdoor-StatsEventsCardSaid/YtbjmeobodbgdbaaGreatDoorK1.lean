/- Events of calls and answers are counted by the package as a reader does it, for all lists of calls and answers (law 31, StatsEvents); the closed example at its end returns true; the package variables hold at the start what the program's text lays into them. -/
import Derived.Test.YtbjmeobodbgdbaaGreatDoorKGt
import Derived.Test.YtbjmeobodbgdbaaGreatDoorKTb
import Derived.Test.YtbjmeobodbgdbaaGreatDoorKGp
import Derived.KernelRfl
set_option linter.unusedSimpArgs false
set_option linter.unusedVariables false
section
namespace Go.T
open Go Go.AM Go.Proofs
set_option maxRecDepth 100000
set_option maxHeartbeats 4000000
set_option linter.unusedVariables false
theorem c_bookendlaw04_FarCall [Adr] {fu : Nat} {c1 : TApiOpCall} {r : Bool} (h0 : bookendlaw04_FarCall fu c1 = some r) : PCall Tryz.prog 9 [.agg (TApiOpCall.enc c1)] (.bool r) [] := by
 refine awp_pcall Tryz.func9 rfl (by decide) rL ?_
 dsimp only [Tryz.f9]
 rw [bookendlaw04_FarCall] at h0
 refine xS 16 [1] ?_
 refine awp_seq ?_
 obtain ⟨b2, hb2, h0⟩ := bindS h0
 obtain ⟨b3, hb3, h0⟩ := bindS h0
 obtain ⟨b4, hb4, h0⟩ := bindS h0
 obtain ⟨b5, hb5, h0⟩ := bindS h0
 refine awp_sr3 (fr' := [(1, .ref 0 0 0 0), (33, .bool b5)]) (hp' := [(0, ⟨0, true, true, 12, [[.int .i64 c1.Kind, .int .i64 c1.Grant, .str c1.Key, .str c1.Val, .str c1.Range.Low, .str c1.Range.High, .bool c1.Range.Bound, .int .i64 c1.Handle.Index, .int .i64 c1.Handle.Gen, .int .i64 c1.Other.Index, .int .i64 c1.Other.Gen, .psl 3 (List.map TApiOpWrite.enc c1.Writes)]], none⟩)]) [0] 256 [1, 33] (fun _ => none) rfl (fun Kt hK => by
   cases hg6 : (decide (300 < (c1.Key.length : Int))) with
   | false =>
    replace hb2 := iteF hb2 hg6
    have hqb2 := Option.some.inj hb2
    cases b2 with
    | false =>
     replace hb3 := iteF hb3 rfl
     have hqb3 := Option.some.inj hb3
     cases b3 with
     | false =>
      replace hb4 := iteF hb4 rfl
      have hqb4 := Option.some.inj hb4
      cases b4 with
      | false =>
       replace hb5 := iteF hb5 rfl
       have hqb5 := Option.some.inj hb5
       subst hqb5
       exact rW (rA hg6 (rA hqb2 (rA hqb3 hqb4))) hK
      | true =>
       replace hb5 := iteT hb5 rfl
       have hqb5 := Option.some.inj hb5
       subst hqb5
       exact rW (rA hg6 (rA hqb2 (rA hqb3 hqb4))) hK
     | true =>
      replace hb4 := iteT hb4 rfl
      have hqb4 := Option.some.inj hb4
      cases b4 with
      | false =>
       cases hqb4
      | true =>
       replace hb5 := iteT hb5 rfl
       have hqb5 := Option.some.inj hb5
       subst hqb5
       exact rW (rA hg6 (rA hqb2 hqb3)) hK
    | true =>
     replace hb3 := iteT hb3 rfl
     have hqb3 := Option.some.inj hb3
     cases b3 with
     | false =>
      cases hqb3
     | true =>
      replace hb4 := iteT hb4 rfl
      have hqb4 := Option.some.inj hb4
      cases b4 with
      | false =>
       cases hqb4
      | true =>
       replace hb5 := iteT hb5 rfl
       have hqb5 := Option.some.inj hb5
       subst hqb5
       exact rW (rA hg6 hqb2) hK
   | true =>
    replace hb2 := iteT hb2 hg6
    have hqb2 := Option.some.inj hb2
    cases b2 with
    | false =>
     cases hqb2
    | true =>
     replace hb3 := iteT hb3 rfl
     have hqb3 := Option.some.inj hb3
     cases b3 with
     | false =>
      cases hqb3
     | true =>
      replace hb4 := iteT hb4 rfl
      have hqb4 := Option.some.inj hb4
      cases b4 with
      | false =>
       cases hqb4
      | true =>
       replace hb5 := iteT hb5 rfl
       have hqb5 := Option.some.inj hb5
       subst hqb5
       exact rW hg6 hK) ?_
 refine xI h0 rfl (fun h0 hb16 => ?_) (fun h0 hb16 => ?_)
 ·
  refine xS 264 [2] ?_
  refine awp_ret (kr_then ?_)
  obtain rfl := Option.some.inj h0
  exact leave_retG [] rG
 refine awp_skip (kn_then (awp_seq ?_))
 refine xS 264 [1, 3] ?_
 obtain ⟨x28, hxx28, h0⟩ := bindS h0
 refine awp_bloop (fun s' => ∃ o35 : Unit, x28 = .inl o35 ∧ s'.nx ≤ 304 ∧ LeN [] s' ⟨[], [(0, ⟨0, true, true, 12, [[.int .i64 c1.Kind, .int .i64 c1.Grant, .str c1.Key, .str c1.Val, .str c1.Range.Low, .str c1.Range.High, .bool c1.Range.Bound, .int .i64 c1.Handle.Index, .int .i64 c1.Handle.Gen, .int .i64 c1.Other.Index, .int .i64 c1.Other.Gen, .psl 3 (List.map TApiOpWrite.enc c1.Writes)]], none⟩)], 304, []⟩) ?_ ?_
 ·
  intro s' hs
  obtain ⟨o35, rfl, hn, hs⟩ := hs
  refine kn_then ?_
  refine awp_re [] hn hs ?_
  refine xS 312 [2] ?_
  refine awp_ret ?_
  obtain rfl := Option.some.inj h0
  exact leave_retG [] rG
 refine awp_loopF (ι := { p : Nat × Int // bookendlaw04_FarCall_l1 c1 p.1 p.2 = some x28 }) (fun p => ⟨[(1, .ref 0 0 0 0), (3, .int .i64 p.1.2)], [(0, ⟨0, true, true, 12, [[.int .i64 c1.Kind, .int .i64 c1.Grant, .str c1.Key, .str c1.Val, .str c1.Range.Low, .str c1.Range.High, .bool c1.Range.Bound, .int .i64 c1.Handle.Index, .int .i64 c1.Handle.Gen, .int .i64 c1.Other.Index, .int .i64 c1.Other.Gen, .psl 3 (List.map TApiOpWrite.enc c1.Writes)]], none⟩)], 264, []⟩) (fun p => p.1.1) ⟨(fu, 0), hxx28⟩ ⟨rF, rE, rfl, rfl, trivial, trivial⟩ (fun _ => Nat.le_refl _) ?_
 rintro ⟨⟨fu, i29⟩, h1⟩
 cases fu with
 | zero =>
  replace h1 : bookendlaw04_FarCall_l1 c1 0 i29 = some x28 := h1
  rw [bookendlaw04_FarCall_l1] at h1; cases h1
 | succ fu =>
  replace h1 : bookendlaw04_FarCall_l1 c1 (fu + 1) i29 = some x28 := h1
  rw [bookendlaw04_FarCall_l1] at h1
  dsimp only
  refine awp_seq ?_
  refine xS 304 [1, 3, 38] ?_
  refine xI h1 rfl (fun h1 hb30 => ?_) (fun h1 hb30 => ?_)
  ·
   refine awp_skip (kn_then (awp_seq (awp_block ?_)))
   obtain ⟨e31, he31, h1⟩ := bindS h1
   obtain ⟨he31a, he31b, he31c⟩ := idxS he31
   obtain ⟨b32, hb32, h1⟩ := bindS h1
   refine awp_sr3 (fr' := [(1, .ref 0 0 0 0), (3, .int .i64 i29), (58, .bool b32)]) (hp' := [(0, ⟨0, true, true, 12, [[.int .i64 c1.Kind, .int .i64 c1.Grant, .str c1.Key, .str c1.Val, .str c1.Range.Low, .str c1.Range.High, .bool c1.Range.Bound, .int .i64 c1.Handle.Index, .int .i64 c1.Handle.Gen, .int .i64 c1.Other.Index, .int .i64 c1.Other.Gen, .psl 3 (List.map TApiOpWrite.enc c1.Writes)]], none⟩)]) [0] 448 [1, 3, 58] (fun _ => none) rfl (fun Kt hK => by
     cases hg33 : (decide (300 < (e31.Key.length : Int))) with
     | false =>
      replace hb32 := iteF hb32 hg33
      have hqb32 := Option.some.inj hb32
      subst hqb32
      exact rWg hg33 (rA he31a (rA he31b he31c)) hK
     | true =>
      replace hb32 := iteT hb32 hg33
      have hqb32 := Option.some.inj hb32
      subst hqb32
      exact rWg hg33 (rA he31a (rA he31b he31c)) hK) ?_
   refine xI h1 rfl (fun h1 hb34 => ?_) (fun h1 hb34 => ?_)
   ·
    refine awp_sr2 456 [2] (fun _ => none) rfl (fun _ _ => rS (rA he31a (rA he31b he31c))) ?_
    refine awp_ret ?_
    obtain rfl := Option.some.inj h1
    refine kr_block (kr_then (kr_then (kr_loop (kr_then ?_))))
    obtain rfl := Option.some.inj h0
    refine leave_retG [] ?_
    exact rJ (rA he31a (rA he31b he31c))
   refine awp_skip (kn_block (kn_then ?_))
   refine awp_r2 472 [1, 3] (fun _ => none) rfl (fun _ _ => rS (rA he31a (rA he31b he31c))) ?_
   refine kn_then ?_
   exact ⟨⟨(fu, (IntKind.i64.wrap (i29 + 1))), h1⟩, ⟨rF, rE, rfl, rfl, trivial, trivial⟩, Nat.lt_succ_self _⟩
  refine awp_exit (kx_then (kx_then (kx_done ?_)))
  obtain rfl := Option.some.inj h1
  exact ⟨_, rfl, rL, ⟨rF, rE, rfl, rfl, trivial, trivial⟩⟩
theorem c_bookendlaw04_FarScript [Adr] {fu : Nat} {l1 : List TApiOpCall} {r : Bool} (h0 : bookendlaw04_FarScript fu l1 = some r) : PCall Tryz.prog 4 [.psl 12 (l1.map TApiOpCall.enc)] (.bool r) [] := by
 refine awp_pcall Tryz.func4 rfl (by decide) rL ?_
 dsimp only [Tryz.f4]
 rw [bookendlaw04_FarScript] at h0
 refine xS 8 [0] ?_
 refine awp_seq ?_
 obtain ⟨b2, hb2, h0⟩ := bindS h0
 obtain ⟨b3, hb3, h0⟩ := bindS h0
 refine awp_sr3 (fr' := [(0, .psl 12 (List.map TApiOpCall.enc l1)), (16, .bool b3)]) (hp' := []) [] 112 [0, 16] (fun _ => none) rfl (fun Kt hK => by
   cases hg4 : (decide (30 < (l1.length : Int))) with
   | false =>
    replace hb2 := iteF hb2 hg4
    have hqb2 := Option.some.inj hb2
    cases b2 with
    | false =>
     replace hb3 := iteF hb3 rfl
     have hqb3 := Option.some.inj hb3
     subst hqb3
     exact rW hg4 hK
    | true =>
     cases hqb2
   | true =>
    replace hb2 := iteT hb2 hg4
    have hqb2 := Option.some.inj hb2
    cases b2 with
    | false =>
     replace hb3 := iteF hb3 rfl
     have hqb3 := Option.some.inj hb3
     subst hqb3
     exact rW (rA hg4 hqb2) hK
    | true =>
     replace hb3 := iteT hb3 rfl
     have hqb3 := Option.some.inj hb3
     subst hqb3
     exact rW (rA hg4 hqb2) hK) ?_
 refine xI h0 rfl (fun h0 hb7 => ?_) (fun h0 hb7 => ?_)
 ·
  refine xS 120 [2] ?_
  refine awp_ret (kr_then ?_)
  obtain rfl := Option.some.inj h0
  exact leave_retG [] rG
 refine awp_skip (kn_then (awp_seq ?_))
 refine xS 120 [0, 3] ?_
 obtain ⟨x17, hxx17, h0⟩ := bindS h0
 refine awp_bloop (fun s' => ∃ o23 : Unit, x17 = .inl o23 ∧ s'.nx ≤ 152 ∧ LeN [] s' ⟨[], [], 152, []⟩) ?_ ?_
 ·
  intro s' hs
  obtain ⟨o23, rfl, hn, hs⟩ := hs
  refine kn_then ?_
  refine awp_re [] hn hs ?_
  refine xS 160 [2] ?_
  refine awp_ret ?_
  obtain rfl := Option.some.inj h0
  exact leave_retG [] rG
 refine awp_loopF (ι := { p : Nat × Int // bookendlaw04_FarScript_l1 l1 p.1 p.2 = some x17 }) (fun p => ⟨[(0, .psl 12 (List.map TApiOpCall.enc l1)), (3, .int .i64 p.1.2)], [], 120, []⟩) (fun p => p.1.1) ⟨(fu, 0), hxx17⟩ ⟨rF, rE, rfl, rfl, trivial, trivial⟩ (fun _ => Nat.le_refl _) ?_
 rintro ⟨⟨fu, i18⟩, h1⟩
 cases fu with
 | zero =>
  replace h1 : bookendlaw04_FarScript_l1 l1 0 i18 = some x17 := h1
  rw [bookendlaw04_FarScript_l1] at h1; cases h1
 | succ fu =>
  replace h1 : bookendlaw04_FarScript_l1 l1 (fu + 1) i18 = some x17 := h1
  rw [bookendlaw04_FarScript_l1] at h1
  dsimp only
  refine awp_seq ?_
  refine xS 152 [0, 3, 20] ?_
  refine xI h1 rfl (fun h1 hb19 => ?_) (fun h1 hb19 => ?_)
  ·
   refine awp_skip (kn_then (awp_seq (awp_block ?_)))
   obtain ⟨e20, he20, h1⟩ := bindS h1
   obtain ⟨he20a, he20b, he20c⟩ := idxS he20
   obtain ⟨vr21, hvr21, h1⟩ := bindS h1
   refine awp_sr2 192 [0, 3, 27] (fun | 4 => some (.bool vr21, []) | _ => none) rfl (fun _ _ => rB (rA he20a (rA he20b he20c)) (c_bookendlaw04_FarCall hvr21)) ?_
   refine xI h1 rfl (fun h1 hb22 => ?_) (fun h1 hb22 => ?_)
   ·
    refine awp_sr2 200 [2] (fun _ => none) rfl (fun _ _ => rS (rA he20a (rA he20b he20c))) ?_
    refine awp_ret ?_
    obtain rfl := Option.some.inj h1
    refine kr_block (kr_then (kr_then (kr_loop (kr_then ?_))))
    obtain rfl := Option.some.inj h0
    refine leave_retG [] ?_
    exact rJ (rA he20a (rA he20b he20c))
   refine awp_skip (kn_block (kn_then ?_))
   refine awp_r2 216 [0, 3] (fun _ => none) rfl (fun _ _ => rS (rA he20a (rA he20b he20c))) ?_
   refine kn_then ?_
   exact ⟨⟨(fu, (IntKind.i64.wrap (i18 + 1))), h1⟩, ⟨rF, rE, rfl, rfl, trivial, trivial⟩, Nat.lt_succ_self _⟩
  refine awp_exit (kx_then (kx_then (kx_done ?_)))
  obtain rfl := Option.some.inj h1
  exact ⟨_, rfl, rL, ⟨rF, rE, rfl, rfl, trivial, trivial⟩⟩
class ShownOk [Adr] : Prop where ok : PCall Tryz.prog 5 [] (.bool true) []
theorem c_bookendlaw31_shown [Adr] [ShownOk] {fu : Nat} {r : Bool} (h0 : bookendlaw31_shown fu = some r) : PCall Tryz.prog 5 [] (.bool r) [] := by
 rw [bookendlaw31_shown] at h0
 obtain rfl := Option.some.inj h0
 exact ShownOk.ok
theorem c_bookendlaw04_FarAnswer [Adr] {fu : Nat} {a1 : TApiOpAnswer} {r : Bool} (h0 : bookendlaw04_FarAnswer fu a1 = some r) : PCall Tryz.prog 6 [.agg (TApiOpAnswer.enc a1)] (.bool r) [] := by
 refine awp_pcall Tryz.func6 rfl (by decide) rL ?_
 dsimp only [Tryz.f6]
 rw [bookendlaw04_FarAnswer] at h0
 refine xS 16 [1] ?_
 refine awp_seq ?_
 obtain ⟨b2, hb2, h0⟩ := bindS h0
 obtain ⟨b4, hb4, h0⟩ := bindS h0
 obtain ⟨b5, hb5, h0⟩ := bindS h0
 refine awp_sr3 (fr' := [(1, .ref 0 0 0 0), (32, .bool b5)]) (hp' := [(0, ⟨0, true, true, 24, [[.int .i64 a1.E, .str a1.Key, .str a1.Val, .int .i64 a1.N, .int .i64 a1.Handle.Index, .int .i64 a1.Handle.Gen, .psl 4 (List.map TApiDfItem.enc a1.Items), .int .i64 a1.Stats.Live, .int .i64 a1.Stats.Entries, .int .i64 a1.Stats.Dead, .int .i64 a1.Stats.Buffered, .int .i64 a1.Stats.Runs, .int .i64 a1.Stats.Height, .int .i64 a1.Stats.Jobs, .int .i64 a1.Stats.Debt, .int .i64 a1.Stats.Pins, .int .i64 a1.Stats.Cursors, .int .i64 a1.Stats.Held, .int .i64 a1.Stats.Writes, .int .i64 a1.Stats.Busy, .int .i64 a1.Stats.Seals, .int .i64 a1.Stats.Installs, .int .i64 a1.Stats.Steps, .int .i64 a1.Stats.Lost]], none⟩)]) [0] 240 [1, 32] (fun _ => none) rfl (fun Kt hK => by
   cases hg6 : (decide (300 < (a1.Key.length : Int))) with
   | false =>
    replace hb2 := iteF hb2 hg6
    have hqb2 := Option.some.inj hb2
    cases b2 with
    | false =>
     replace hb4 := iteF hb4 rfl
     obtain ⟨b3, hb3, hb4⟩ := bindS hb4
     have hqb4 := Option.some.inj hb4
     cases hg8 : (decide (30 < (a1.Items.length : Int))) with
     | false =>
      replace hb3 := iteF hb3 hg8
      have hqb3 := Option.some.inj hb3
      subst hqb3
      cases b4 with
      | false =>
       replace hb5 := iteF hb5 rfl
       have hqb5 := Option.some.inj hb5
       subst hqb5
       exact rW (rA hg6 (rA hqb2 hg8)) hK
      | true =>
       cases hqb4
     | true =>
      replace hb3 := iteT hb3 hg8
      have hqb3 := Option.some.inj hb3
      subst hqb3
      cases b4 with
      | false =>
       replace hb5 := iteF hb5 rfl
       have hqb5 := Option.some.inj hb5
       subst hqb5
       exact rW (rA hg6 (rA hqb2 (rA hg8 hqb4))) hK
      | true =>
       replace hb5 := iteT hb5 rfl
       have hqb5 := Option.some.inj hb5
       subst hqb5
       exact rW (rA hg6 (rA hqb2 (rA hg8 hqb4))) hK
    | true =>
     replace hb4 := iteT hb4 rfl
     have hqb4 := Option.some.inj hb4
     cases b4 with
     | false =>
      cases hqb4
     | true =>
      replace hb5 := iteT hb5 rfl
      have hqb5 := Option.some.inj hb5
      subst hqb5
      exact rW (rA hg6 hqb2) hK
   | true =>
    replace hb2 := iteT hb2 hg6
    have hqb2 := Option.some.inj hb2
    cases b2 with
    | false =>
     cases hqb2
    | true =>
     replace hb4 := iteT hb4 rfl
     have hqb4 := Option.some.inj hb4
     cases b4 with
     | false =>
      cases hqb4
     | true =>
      replace hb5 := iteT hb5 rfl
      have hqb5 := Option.some.inj hb5
      subst hqb5
      exact rW hg6 hK) ?_
 refine xI h0 rfl (fun h0 hb14 => ?_) (fun h0 hb14 => ?_)
 ·
  refine xS 248 [2] ?_
  refine awp_ret (kr_then ?_)
  obtain rfl := Option.some.inj h0
  exact leave_retG [] rG
 refine awp_skip (kn_then (awp_seq ?_))
 refine xS 248 [1, 3] ?_
 obtain ⟨x30, hxx30, h0⟩ := bindS h0
 refine awp_bloop (fun s' => ∃ o39 : Unit, x30 = .inl o39 ∧ s'.nx ≤ 288 ∧ LeN [] s' ⟨[], [(0, ⟨0, true, true, 24, [[.int .i64 a1.E, .str a1.Key, .str a1.Val, .int .i64 a1.N, .int .i64 a1.Handle.Index, .int .i64 a1.Handle.Gen, .psl 4 (List.map TApiDfItem.enc a1.Items), .int .i64 a1.Stats.Live, .int .i64 a1.Stats.Entries, .int .i64 a1.Stats.Dead, .int .i64 a1.Stats.Buffered, .int .i64 a1.Stats.Runs, .int .i64 a1.Stats.Height, .int .i64 a1.Stats.Jobs, .int .i64 a1.Stats.Debt, .int .i64 a1.Stats.Pins, .int .i64 a1.Stats.Cursors, .int .i64 a1.Stats.Held, .int .i64 a1.Stats.Writes, .int .i64 a1.Stats.Busy, .int .i64 a1.Stats.Seals, .int .i64 a1.Stats.Installs, .int .i64 a1.Stats.Steps, .int .i64 a1.Stats.Lost]], none⟩)], 288, []⟩) ?_ ?_
 ·
  intro s' hs
  obtain ⟨o39, rfl, hn, hs⟩ := hs
  refine kn_then ?_
  refine awp_re [] hn hs ?_
  refine xS 296 [2] ?_
  refine awp_ret ?_
  obtain rfl := Option.some.inj h0
  exact leave_retG [] rG
 refine awp_loopF (ι := { p : Nat × Int // bookendlaw04_FarAnswer_l1 a1 p.1 p.2 = some x30 }) (fun p => ⟨[(1, .ref 0 0 0 0), (3, .int .i64 p.1.2)], [(0, ⟨0, true, true, 24, [[.int .i64 a1.E, .str a1.Key, .str a1.Val, .int .i64 a1.N, .int .i64 a1.Handle.Index, .int .i64 a1.Handle.Gen, .psl 4 (List.map TApiDfItem.enc a1.Items), .int .i64 a1.Stats.Live, .int .i64 a1.Stats.Entries, .int .i64 a1.Stats.Dead, .int .i64 a1.Stats.Buffered, .int .i64 a1.Stats.Runs, .int .i64 a1.Stats.Height, .int .i64 a1.Stats.Jobs, .int .i64 a1.Stats.Debt, .int .i64 a1.Stats.Pins, .int .i64 a1.Stats.Cursors, .int .i64 a1.Stats.Held, .int .i64 a1.Stats.Writes, .int .i64 a1.Stats.Busy, .int .i64 a1.Stats.Seals, .int .i64 a1.Stats.Installs, .int .i64 a1.Stats.Steps, .int .i64 a1.Stats.Lost]], none⟩)], 248, []⟩) (fun p => p.1.1) ⟨(fu, 0), hxx30⟩ ⟨rF, rE, rfl, rfl, trivial, trivial⟩ (fun _ => Nat.le_refl _) ?_
 rintro ⟨⟨fu, i31⟩, h1⟩
 cases fu with
 | zero =>
  replace h1 : bookendlaw04_FarAnswer_l1 a1 0 i31 = some x30 := h1
  rw [bookendlaw04_FarAnswer_l1] at h1; cases h1
 | succ fu =>
  replace h1 : bookendlaw04_FarAnswer_l1 a1 (fu + 1) i31 = some x30 := h1
  rw [bookendlaw04_FarAnswer_l1] at h1
  dsimp only
  refine awp_seq ?_
  refine xS 288 [1, 3, 37] ?_
  refine xI h1 rfl (fun h1 hb32 => ?_) (fun h1 hb32 => ?_)
  ·
   refine awp_skip (kn_then (awp_seq (awp_block ?_)))
   obtain ⟨e33, he33, h1⟩ := bindS h1
   obtain ⟨he33a, he33b, he33c⟩ := idxS he33
   refine awp_sd2 480 [1, 3, 4] (fun _ => none) rfl rfl rfl (fun _ _ => rSd (rA he33a (rA he33b he33c))) ?_
   obtain ⟨b35, hb35, h1⟩ := bindS h1
   refine awp_sr3 (fr' := [(1, .ref 0 0 0 0), (3, .int .i64 i31), (74, .bool b35)]) (hp' := [(0, ⟨0, true, true, 24, [[.int .i64 a1.E, .str a1.Key, .str a1.Val, .int .i64 a1.N, .int .i64 a1.Handle.Index, .int .i64 a1.Handle.Gen, .psl 4 (List.map TApiDfItem.enc a1.Items), .int .i64 a1.Stats.Live, .int .i64 a1.Stats.Entries, .int .i64 a1.Stats.Dead, .int .i64 a1.Stats.Buffered, .int .i64 a1.Stats.Runs, .int .i64 a1.Stats.Height, .int .i64 a1.Stats.Jobs, .int .i64 a1.Stats.Debt, .int .i64 a1.Stats.Pins, .int .i64 a1.Stats.Cursors, .int .i64 a1.Stats.Held, .int .i64 a1.Stats.Writes, .int .i64 a1.Stats.Busy, .int .i64 a1.Stats.Seals, .int .i64 a1.Stats.Installs, .int .i64 a1.Stats.Steps, .int .i64 a1.Stats.Lost]], none⟩)]) [0] 576 [1, 3, 74] (fun _ => none) rfl (fun Kt hK => by
     cases hg36 : (decide (900 < (IntKind.i64.wrap ((IntKind.i64.wrap ((e33.Key.length : Int) + (e33.Old.length : Int))) + (e33.New.length : Int))))) with
     | false =>
      replace hb35 := iteF hb35 hg36
      obtain ⟨b34, hb34, hb35⟩ := bindS hb35
      have hqb35 := Option.some.inj hb35
      cases hg37 : (decide (30 < (a1.Items.length : Int))) with
      | false =>
       replace hb34 := iteF hb34 hg37
       have hqb34 := Option.some.inj hb34
       subst hqb35
       subst hqb34
       exact rWg (rA hg36 hg37) (rA he33a (rA he33b he33c)) hK
      | true =>
       replace hb34 := iteT hb34 hg37
       have hqb34 := Option.some.inj hb34
       subst hqb35
       subst hqb34
       exact rWg (rA hg36 hg37) (rA he33a (rA he33b he33c)) hK
     | true =>
      replace hb35 := iteT hb35 hg36
      have hqb35 := Option.some.inj hb35
      subst hqb35
      exact rWg hg36 (rA he33a (rA he33b he33c)) hK) ?_
   refine xI h1 rfl (fun h1 hb38 => ?_) (fun h1 hb38 => ?_)
   ·
    refine awp_sr2 584 [2] (fun _ => none) rfl (fun _ _ => rS (rA he33a (rA he33b he33c))) ?_
    refine awp_ret ?_
    obtain rfl := Option.some.inj h1
    refine kr_block (kr_then (kr_then (kr_loop (kr_then ?_))))
    obtain rfl := Option.some.inj h0
    refine leave_retG [] ?_
    exact rJ (rA he33a (rA he33b he33c))
   refine awp_skip (kn_block (kn_then ?_))
   refine awp_r2 600 [1, 3] (fun _ => none) rfl (fun _ _ => rS (rA he33a (rA he33b he33c))) ?_
   refine kn_then ?_
   exact ⟨⟨(fu, (IntKind.i64.wrap (i31 + 1))), h1⟩, ⟨rF, rE, rfl, rfl, trivial, trivial⟩, Nat.lt_succ_self _⟩
  refine awp_exit (kx_then (kx_then (kx_done ?_)))
  obtain rfl := Option.some.inj h1
  exact ⟨_, rfl, rL, ⟨rF, rE, rfl, rfl, trivial, trivial⟩⟩
theorem c_ops_known [Adr] {fu : Nat} {kind1 : Int} {r : Bool} (h0 : ops_known fu kind1 = some r) : PCall Tryz.prog 36 [.int .i64 kind1] (.bool r) [] := by
 refine awp_pcall Tryz.func36 rfl (by decide) rL ?_
 dsimp only [Tryz.f36]
 rw [ops_known] at h0
 refine xS 8 [0] ?_
 obtain ⟨b2, hb2, h0⟩ := bindS h0
 refine awp_sr3 (fr' := [(2, .bool b2)]) (hp' := []) [] 64 [2] (fun _ => none) rfl (fun Kt hK => by
   cases hg3 : (decide (1 ≤ kind1)) with
   | false =>
    replace hb2 := iteF hb2 hg3
    have hqb2 := Option.some.inj hb2
    subst hqb2
    exact rW hg3 hK
   | true =>
    replace hb2 := iteT hb2 hg3
    have hqb2 := Option.some.inj hb2
    subst hqb2
    exact rW hg3 hK) ?_
 refine awp_ret ?_
 obtain rfl := Option.some.inj h0
 exact leave_retG [] rG
class BareOk [Adr] : Prop where
 ok : ∀ c : TApiOpCall, 1 ≤ c.Kind → c.Kind ≤ 17 → c.Key.length ≤ bN → c.Val.length ≤ bN → PCall Tryz.prog 37 [.agg (TApiOpCall.enc c)] (.bool (bareF c)) []
theorem c_ops_bare [Adr] [BareOk] {fu : Nat} {c1 : TApiOpCall} {r : Bool} (h0 : ops_bare fu c1 = some r) : PCall Tryz.prog 37 [.agg (TApiOpCall.enc c1)] (.bool r) [] := by
 unfold ops_bare at h0
 split at h0
 · rename_i h
   obtain rfl := Option.some.inj h0
   exact BareOk.ok c1 h.1 h.2.1 h.2.2.1 h.2.2.2
 · cases h0
theorem c_ops_inside [Adr] {fu : Nat} {n1 : Int} {r : Bool} (h0 : ops_inside fu n1 = some r) : PCall Tryz.prog 68 [.int .i64 n1] (.bool r) [] := by
 refine awp_pcall Tryz.func68 rfl (by decide) rL ?_
 dsimp only [Tryz.f68]
 rw [ops_inside] at h0
 refine xS 8 [0] ?_
 obtain ⟨b2, hb2, h0⟩ := bindS h0
 refine awp_sr3 (fr' := [(2, .bool b2)]) (hp' := []) [] 64 [2] (fun _ => none) rfl (fun Kt hK => by
   cases hg3 : (decide (0 ≤ n1)) with
   | false =>
    replace hb2 := iteF hb2 hg3
    have hqb2 := Option.some.inj hb2
    subst hqb2
    exact rW hg3 hK
   | true =>
    replace hb2 := iteT hb2 hg3
    have hqb2 := Option.some.inj hb2
    subst hqb2
    exact rW hg3 hK) ?_
 refine awp_ret ?_
 obtain rfl := Option.some.inj h0
 exact leave_retG [] rG
theorem c_ops_named [Adr] {fu : Nat} {vh1 : TApiHandle} {r : Bool} (h0 : ops_named fu vh1 = some r) : PCall Tryz.prog 38 [.agg (TApiHandle.enc vh1)] (.bool r) [] := by
 refine awp_pcall Tryz.func38 rfl (by decide) rL ?_
 dsimp only [Tryz.f38]
 rw [ops_named] at h0
 refine xS 16 [1] ?_
 obtain ⟨vr2, hvr2, h0⟩ := bindS h0
 obtain ⟨b4, hb4, h0⟩ := bindS h0
 refine awp_sr3 (fr' := [(2, .bool b4)]) (hp' := [(0, ⟨0, true, true, 2, [[.int .i64 vh1.Index, .int .i64 vh1.Gen]], none⟩)]) [0] 88 [2] (fun | 2 => some (.bool vr2, []) | 6 => (ops_inside fu vh1.Gen).bind fun vr3 => some (.bool vr3, []) | _ => none) rfl (fun Kt hK => by
   cases vr2 with
   | false =>
    replace hb4 := iteF hb4 rfl
    have hqb4 := Option.some.inj hb4
    subst hqb4
    try have q0 := c_ops_inside hvr2
    try have q1 := c_ops_inside hvr3
    exact rT
   | true =>
    replace hb4 := iteT hb4 rfl
    obtain ⟨vr3, hvr3, hb4⟩ := bindS hb4
    have hqb4 := Option.some.inj hb4
    subst hqb4
    try have q0 := c_ops_inside hvr2
    try have q1 := c_ops_inside hvr3
    exact rS hvr3) ?_
 refine awp_ret ?_
 obtain rfl := Option.some.inj h0
 exact leave_retG [] rG
theorem c_ops_long [Adr] {fu : Nat} {l1 : List (List UInt8)} {r : Bool} (h0 : ops_long fu l1 = some r) : PCall Tryz.prog 39 [.psl 1 (l1.map encStr)] (.bool r) [] := by
 refine awp_pcall Tryz.func39 rfl (by decide) rL ?_
 dsimp only [Tryz.f39]
 rw [ops_long] at h0
 refine xS 8 [0] ?_
 refine awp_seq ?_
 refine xS 32 [5, 6, 7] ?_
 obtain ⟨x9, hxx9, h0⟩ := bindS h0
 refine awp_bloop (fun s' => ∃ o14 : Unit, x9 = .inl o14 ∧ s'.nx ≤ 40 ∧ LeN [] s' ⟨[], [], 40, []⟩) ?_ ?_
 ·
  intro s' hs
  obtain ⟨o14, rfl, hn, hs⟩ := hs
  refine kn_then ?_
  refine awp_re [] hn hs ?_
  refine xS 48 [2] ?_
  refine awp_ret ?_
  obtain rfl := Option.some.inj h0
  exact leave_retG [] rG
 refine awp_loopF (ι := { p : Nat × Int // ops_long_l1 l1 p.1 p.2 = some x9 }) (fun p => ⟨[(5, .psl 1 (List.map encStr l1)), (6, .int .i64 (l1.length : Int)), (7, .int .i64 p.1.2)], [], 32, []⟩) (fun p => p.1.1) ⟨(fu, 0), hxx9⟩ ⟨rF, rE, rfl, rfl, trivial, trivial⟩ (fun _ => Nat.le_refl _) ?_
 rintro ⟨⟨fu, v10⟩, h1⟩
 cases fu with
 | zero =>
  replace h1 : ops_long_l1 l1 0 v10 = some x9 := h1
  rw [ops_long_l1] at h1; cases h1
 | succ fu =>
  replace h1 : ops_long_l1 l1 (fu + 1) v10 = some x9 := h1
  rw [ops_long_l1] at h1
  dsimp only
  refine xS 40 [5, 6, 7, 8] ?_
  refine awp_seq ?_
  refine xI h1 rfl (fun h1 hb11 => ?_) (fun h1 hb11 => ?_)
  ·
   refine awp_skip (kn_then (awp_seq (awp_block ?_)))
   obtain ⟨e12, he12, h1⟩ := bindS h1
   obtain ⟨he12a, he12b, he12c⟩ := idxS he12
   refine awp_sr2 64 [4, 5, 6, 7] (fun _ => none) rfl (fun _ _ => rS (rA he12a (rA he12b he12c))) ?_
   refine awp_sr2 88 [5, 6, 7, 13] (fun _ => none) rfl (fun _ _ => rS (rA he12a (rA he12b he12c))) ?_
   refine xI h1 rfl (fun h1 hb13 => ?_) (fun h1 hb13 => ?_)
   ·
    refine awp_sr2 96 [2] (fun _ => none) rfl (fun _ _ => rS (rA he12a (rA he12b he12c))) ?_
    refine awp_ret ?_
    obtain rfl := Option.some.inj h1
    refine kr_block (kr_then (kr_then (kr_loop (kr_then ?_))))
    obtain rfl := Option.some.inj h0
    refine leave_retG [] ?_
    exact rJ (rA he12a (rA he12b he12c))
   refine awp_skip (kn_block (kn_then ?_))
   refine awp_r2 104 [5, 6, 7] (fun _ => none) rfl (fun _ _ => rS (rA he12a (rA he12b he12c))) ?_
   refine kn_then ?_
   exact ⟨⟨(fu, (IntKind.i64.wrap (v10 + 1))), h1⟩, ⟨rF, rE, rfl, rfl, trivial, trivial⟩, Nat.lt_succ_self _⟩
  refine awp_exit (kx_then (kx_then (kx_done ?_)))
  obtain rfl := Option.some.inj h1
  exact ⟨_, rfl, rL, ⟨rF, rE, rfl, rfl, trivial, trivial⟩⟩
theorem c_ops_Check [Adr] [BareOk] {fu : Nat} {c1 : TApiOpCall} {r : Int} (h0 : ops_Check fu c1 = some r) : PCall Tryz.prog 16 [.agg (TApiOpCall.enc c1)] (.int .i64 r) [] := by
 refine awp_pcall Tryz.func16 rfl (by decide) rL ?_
 dsimp only [Tryz.f16]
 rw [ops_Check] at h0
 refine xS 16 [1] ?_
 refine awp_seq (awp_block ?_)
 obtain ⟨vr2, hvr2, h0⟩ := bindS h0
 refine awp_sr2 56 [1, 6] (fun | 2 => some (.bool vr2, []) | _ => none) rfl (fun _ _ => rC (c_ops_known hvr2)) ?_
 refine xI h0 rfl (fun h0 hb3 => ?_) (fun h0 hb3 => ?_)
 ·
  refine xS 64 [2] ?_
  refine awp_ret (kr_block (kr_then ?_))
  obtain rfl := Option.some.inj h0
  exact leave_retG [] rG
 obtain ⟨b4, hb4, h0⟩ := bindS h0
 refine awp_sr3 (fr' := [(1, .ref 0 0 0 0), (11, .bool b4)]) (hp' := [(0, ⟨0, true, true, 12, [[.int .i64 c1.Kind, .int .i64 c1.Grant, .str c1.Key, .str c1.Val, .str c1.Range.Low, .str c1.Range.High, .bool c1.Range.Bound, .int .i64 c1.Handle.Index, .int .i64 c1.Handle.Gen, .int .i64 c1.Other.Index, .int .i64 c1.Other.Gen, .psl 3 (List.map TApiOpWrite.enc c1.Writes)]], none⟩)]) [0] 128 [1, 11] (fun _ => none) rfl (fun Kt hK => by
   cases hg5 : (decide (c1.Grant < 0)) with
   | false =>
    replace hb4 := iteF hb4 hg5
    have hqb4 := Option.some.inj hb4
    subst hqb4
    exact rW hg5 hK
   | true =>
    replace hb4 := iteT hb4 hg5
    have hqb4 := Option.some.inj hb4
    subst hqb4
    exact rW hg5 hK) ?_
 refine xI h0 rfl (fun h0 hb6 => ?_) (fun h0 hb6 => ?_)
 ·
  refine xS 136 [2] ?_
  refine awp_ret (kr_block (kr_then ?_))
  obtain rfl := Option.some.inj h0
  exact leave_retG [] rG
 obtain ⟨vr7, hvr7, h0⟩ := bindS h0
 refine awp_sr2 160 [1, 20] (fun | 1 => some (.bool vr7, []) | _ => none) rfl (fun _ _ => rC (c_ops_bare hvr7)) ?_
 refine xI h0 rfl (fun h0 hb8 => ?_) (fun h0 hb8 => ?_)
 ·
  refine xS 168 [2] ?_
  refine awp_ret (kr_block (kr_then ?_))
  obtain rfl := Option.some.inj h0
  exact leave_retG [] rG
 obtain ⟨vr9, hvr9, h0⟩ := bindS h0
 obtain ⟨b11, hb11, h0⟩ := bindS h0
 refine awp_sr3 (fr' := [(1, .ref 0 0 0 0), (24, .bool b11)]) (hp' := [(0, ⟨0, true, true, 12, [[.int .i64 c1.Kind, .int .i64 c1.Grant, .str c1.Key, .str c1.Val, .str c1.Range.Low, .str c1.Range.High, .bool c1.Range.Bound, .int .i64 c1.Handle.Index, .int .i64 c1.Handle.Gen, .int .i64 c1.Other.Index, .int .i64 c1.Other.Gen, .psl 3 (List.map TApiOpWrite.enc c1.Writes)]], none⟩)]) [0] 248 [1, 24] (fun | 2 => some (.bool vr9, []) | 7 => (ops_named fu c1.Other).bind fun vr10 => some (.bool vr10, []) | _ => none) rfl (fun Kt hK => by
   cases hg12 : (!vr9) with
   | false =>
    replace hb11 := iteF hb11 hg12
    obtain ⟨vr10, hvr10, hb11⟩ := bindS hb11
    have hqb11 := Option.some.inj hb11
    subst hqb11
    simp (maxSteps := 1000000) only [↓reduceIte, reduceCtorEq, Nat.reduceEqDiff, Nat.reduceLT, Nat.reduceLeDiff, Nat.reduceAdd, Nat.reduceMul, Int.reduceToNat, push_cast, ↓hg12, hvr10]
    try simp only [↓hg12] at hK
    try have q0 := c_ops_named hvr9
    try have q1 := c_ops_named hvr10
    all_goals exact rU
   | true =>
    replace hb11 := iteT hb11 hg12
    have hqb11 := Option.some.inj hb11
    subst hqb11
    simp (maxSteps := 1000000) only [↓reduceIte, reduceCtorEq, Nat.reduceEqDiff, Nat.reduceLT, Nat.reduceLeDiff, Nat.reduceAdd, Nat.reduceMul, Int.reduceToNat, push_cast, ↓hg12]
    try simp only [↓hg12] at hK
    try have q0 := c_ops_named hvr9
    try have q1 := c_ops_named hvr10
    all_goals exact rU) ?_
 refine xI h0 rfl (fun h0 hb13 => ?_) (fun h0 hb13 => ?_)
 ·
  refine xS 256 [2] ?_
  refine awp_ret (kr_block (kr_then ?_))
  obtain rfl := Option.some.inj h0
  exact leave_retG [] rG
 obtain ⟨vr14, hvr14, h0⟩ := bindS h0
 obtain ⟨b15, hb15, h0⟩ := bindS h0
 refine awp_sr3 (fr' := [(1, .ref 0 0 0 0), (35, .bool b15)]) (hp' := [(0, ⟨0, true, true, 12, [[.int .i64 c1.Kind, .int .i64 c1.Grant, .str c1.Key, .str c1.Val, .str c1.Range.Low, .str c1.Range.High, .bool c1.Range.Bound, .int .i64 c1.Handle.Index, .int .i64 c1.Handle.Gen, .int .i64 c1.Other.Index, .int .i64 c1.Other.Gen, .psl 3 (List.map TApiOpWrite.enc c1.Writes)]], none⟩), (328, ⟨0, true, true, 1, List.map encStr [c1.Key, c1.Val, c1.Range.Low, c1.Range.High], none⟩)]) [0, 328] 400 [1, 35] (fun | 11 => some (.bool vr14, []) | _ => none) rfl (fun Kt hK => by
   cases vr14 with
   | false =>
    replace hb15 := iteF hb15 rfl
    have hqb15 := Option.some.inj hb15
    subst hqb15
    try have q0 := c_ops_long hvr14
    exact rT
   | true =>
    replace hb15 := iteT hb15 rfl
    have hqb15 := Option.some.inj hb15
    subst hqb15
    try have q0 := c_ops_long hvr14
    exact rT) ?_
 refine xE ⟨[(1, .ref 0 0 0 0), (35, .bool b15)], [(0, ⟨0, true, true, 12, [[.int .i64 c1.Kind, .int .i64 c1.Grant, .str c1.Key, .str c1.Val, .str c1.Range.Low, .str c1.Range.High, .bool c1.Range.Bound, .int .i64 c1.Handle.Index, .int .i64 c1.Handle.Gen, .int .i64 c1.Other.Index, .int .i64 c1.Other.Gen, .psl 3 (List.map TApiOpWrite.enc c1.Writes)]], none⟩)], 400, []⟩ ?_
 refine xI h0 rfl (fun h0 hb17 => ?_) (fun h0 hb17 => ?_)
 ·
  refine xS 408 [2] ?_
  refine awp_ret (kr_block (kr_then ?_))
  obtain rfl := Option.some.inj h0
  exact leave_retG [] rG
 refine awp_skip (kn_block (kn_then ?_))
 obtain ⟨b18, hb18, h0⟩ := bindS h0
 refine awp_sr3 (fr' := [(1, .ref 0 0 0 0), (3, .bool b18)]) (hp' := [(0, ⟨0, true, true, 12, [[.int .i64 c1.Kind, .int .i64 c1.Grant, .str c1.Key, .str c1.Val, .str c1.Range.Low, .str c1.Range.High, .bool c1.Range.Bound, .int .i64 c1.Handle.Index, .int .i64 c1.Handle.Gen, .int .i64 c1.Other.Index, .int .i64 c1.Other.Gen, .psl 3 (List.map TApiOpWrite.enc c1.Writes)]], none⟩)]) [0] 488 [1, 3] (fun _ => none) rfl (fun Kt hK => by
   cases hg19 : (!c1.Range.Bound) with
   | false =>
    replace hb18 := iteF hb18 hg19
    have hqb18 := Option.some.inj hb18
    subst hqb18
    exact rW hg19 hK
   | true =>
    replace hb18 := iteT hb18 hg19
    have hqb18 := Option.some.inj hb18
    subst hqb18
    exact rW hg19 hK) ?_
 refine awp_seq ?_
 refine xS 520 [1, 3, 65, 66, 67] ?_
 obtain ⟨x38, hxx38, h0⟩ := bindS h0
 refine awp_bloop (fun s' => ∃ o49 : Bool, x38 = .inl o49 ∧ s'.nx ≤ 528 ∧ LeN [] s' ⟨[(1, .ref 0 0 0 0), (3, .bool o49)], [(0, ⟨0, true, true, 12, [[.int .i64 c1.Kind, .int .i64 c1.Grant, .str c1.Key, .str c1.Val, .str c1.Range.Low, .str c1.Range.High, .bool c1.Range.Bound, .int .i64 c1.Handle.Index, .int .i64 c1.Handle.Gen, .int .i64 c1.Other.Index, .int .i64 c1.Other.Gen, .psl 3 (List.map TApiOpWrite.enc c1.Writes)]], none⟩)], 528, []⟩) ?_ ?_
 ·
  intro s' hs
  obtain ⟨o49, rfl, hn, hs⟩ := hs
  refine kn_then ?_
  refine awp_re [] hn hs ?_
  refine awp_seq (awp_block ?_)
  obtain ⟨b50, hb50, h0⟩ := bindS h0
  refine awp_sr3 (fr' := [(3, .bool o49), (88, .bool b50)]) (hp' := [(0, ⟨0, true, true, 12, [[.int .i64 c1.Kind, .int .i64 c1.Grant, .str c1.Key, .str c1.Val, .str c1.Range.Low, .str c1.Range.High, .bool c1.Range.Bound, .int .i64 c1.Handle.Index, .int .i64 c1.Handle.Gen, .int .i64 c1.Other.Index, .int .i64 c1.Other.Gen, .psl 3 (List.map TApiOpWrite.enc c1.Writes)]], none⟩)]) [0] 608 [3, 88] (fun _ => none) rfl (fun Kt hK => by
    cases hg51 : (decide (c1.Kind = 3)) with
    | false =>
     replace hb50 := iteF hb50 hg51
     have hqb50 := Option.some.inj hb50
     subst hqb50
     exact rW hg51 hK
    | true =>
     replace hb50 := iteT hb50 hg51
     have hqb50 := Option.some.inj hb50
     subst hqb50
     exact rW hg51 hK) ?_
  refine xI h0 rfl (fun h0 hb52 => ?_) (fun h0 hb52 => ?_)
  ·
   refine xS 616 [2] ?_
   refine awp_ret (kr_block (kr_then ?_))
   obtain rfl := Option.some.inj h0
   exact leave_retG [] rG
  refine xS 624 [98] ?_
  refine xI h0 rfl (fun h0 hb53 => ?_) (fun h0 hb53 => ?_)
  ·
   refine xS 632 [2] ?_
   refine awp_ret (kr_block (kr_then ?_))
   obtain rfl := Option.some.inj h0
   exact leave_retG [] rG
  refine awp_skip (kn_block (kn_then ?_))
  refine xS 632 [2] ?_
  refine awp_ret ?_
  obtain rfl := Option.some.inj h0
  exact leave_retG [] rG
 refine awp_loopF (ι := { p : Nat × Bool × Int // ops_Check_l1 c1 p.1 p.2.1 p.2.2 = some x38 }) (fun p => ⟨[(1, .ref 0 0 0 0), (3, .bool p.1.2.1), (65, .psl 3 (List.map TApiOpWrite.enc c1.Writes)), (66, .int .i64 (c1.Writes.length : Int)), (67, .int .i64 p.1.2.2)], [(0, ⟨0, true, true, 12, [[.int .i64 c1.Kind, .int .i64 c1.Grant, .str c1.Key, .str c1.Val, .str c1.Range.Low, .str c1.Range.High, .bool c1.Range.Bound, .int .i64 c1.Handle.Index, .int .i64 c1.Handle.Gen, .int .i64 c1.Other.Index, .int .i64 c1.Other.Gen, .psl 3 (List.map TApiOpWrite.enc c1.Writes)]], none⟩)], 520, []⟩) (fun p => p.1.1) ⟨(fu, b18, 0), hxx38⟩ ⟨rF, rE, rfl, rfl, trivial, trivial⟩ (fun _ => Nat.le_refl _) ?_
 rintro ⟨⟨fu, form39, v40⟩, h1⟩
 cases fu with
 | zero =>
  replace h1 : ops_Check_l1 c1 0 form39 v40 = some x38 := h1
  rw [ops_Check_l1] at h1; cases h1
 | succ fu =>
  replace h1 : ops_Check_l1 c1 (fu + 1) form39 v40 = some x38 := h1
  rw [ops_Check_l1] at h1
  dsimp only
  refine xS 528 [1, 3, 65, 66, 67, 68] ?_
  refine awp_seq ?_
  refine xI h1 rfl (fun h1 hb41 => ?_) (fun h1 hb41 => ?_)
  ·
   refine awp_skip (kn_then (awp_seq (awp_block ?_)))
   obtain ⟨e42, he42, h1⟩ := bindS h1
   obtain ⟨he42a, he42b, he42c⟩ := idxS he42
   refine awp_sr2 560 [1, 3, 5, 65, 66, 67] (fun _ => none) rfl (fun _ _ => rS (rA he42a (rA he42b he42c))) ?_
   refine awp_seq ?_
   obtain ⟨vr43, hvr43, h1⟩ := bindS h1
   refine awp_sr2 608 [1, 3, 5, 65, 66, 67, 76] (fun | 5 => some (.bool vr43, []) | _ => none) rfl (fun _ _ => rB (rA he42a (rA he42b he42c)) (c_ops_long hvr43)) ?_
   refine xE ⟨[(1, .ref 0 0 0 0), (3, .bool form39), (5, .ref 544 0 0 0), (65, .psl 3 (List.map TApiOpWrite.enc c1.Writes)), (66, .int .i64 (c1.Writes.length : Int)), (67, .int .i64 v40), (76, .bool vr43)], [(0, ⟨0, true, true, 12, [[.int .i64 c1.Kind, .int .i64 c1.Grant, .str c1.Key, .str c1.Val, .str c1.Range.Low, .str c1.Range.High, .bool c1.Range.Bound, .int .i64 c1.Handle.Index, .int .i64 c1.Handle.Gen, .int .i64 c1.Other.Index, .int .i64 c1.Other.Gen, .psl 3 (List.map TApiOpWrite.enc c1.Writes)]], none⟩), (544, ⟨0, true, true, 3, [[.str e42.Key, .str e42.Val, .bool e42.Dead]], none⟩)], 608, []⟩ ?_
   refine xI h1 rfl (fun h1 hb44 => ?_) (fun h1 hb44 => ?_)
   ·
    refine awp_sr2 616 [2] (fun _ => none) rfl (fun _ _ => rS (rA he42a (rA he42b he42c))) ?_
    refine awp_ret ?_
    obtain rfl := Option.some.inj h1
    refine kr_then (kr_block (kr_then (kr_then (kr_loop (kr_then ?_)))))
    obtain rfl := Option.some.inj h0
    refine leave_retG [] ?_
    exact rJ (rA he42a (rA he42b he42c))
   refine awp_skip (kn_then ?_)
   obtain ⟨b46, hb46, h1⟩ := bindS h1
   refine awp_r3 (fr' := [(1, .ref 0 0 0 0), (3, .bool b46), (65, .psl 3 (List.map TApiOpWrite.enc c1.Writes)), (66, .int .i64 (c1.Writes.length : Int)), (67, .int .i64 v40)]) (hp' := [(0, ⟨0, true, true, 12, [[.int .i64 c1.Kind, .int .i64 c1.Grant, .str c1.Key, .str c1.Val, .str c1.Range.Low, .str c1.Range.High, .bool c1.Range.Bound, .int .i64 c1.Handle.Index, .int .i64 c1.Handle.Gen, .int .i64 c1.Other.Index, .int .i64 c1.Other.Gen, .psl 3 (List.map TApiOpWrite.enc c1.Writes)]], none⟩), (544, ⟨0, true, true, 3, [[.str e42.Key, .str e42.Val, .bool e42.Dead]], none⟩)]) [0, 544] 696 [1, 3, 65, 66, 67] (fun _ => none) rfl (fun Kt hK => by
     cases form39 with
     | false =>
      replace hb46 := iteF hb46 rfl
      obtain ⟨b45, hb45, hb46⟩ := bindS hb46
      have hqb46 := Option.some.inj hb46
      cases hg48 : e42.Dead with
      | false =>
       replace hb45 := iteF hb45 hg48
       have hqb45 := Option.some.inj hb45
       subst hqb46
       subst hqb45
       exact rWg hg48 (rA he42a (rA he42b he42c)) hK
      | true =>
       replace hb45 := iteT hb45 hg48
       have hqb45 := Option.some.inj hb45
       subst hqb46
       subst hqb45
       exact rWg hg48 (rA he42a (rA he42b he42c)) hK
     | true =>
      replace hb46 := iteT hb46 rfl
      have hqb46 := Option.some.inj hb46
      subst hqb46
      exact rS (rA he42a (rA he42b he42c))) ?_
   refine kn_block (kn_then ?_)
   refine awp_r2 712 [1, 3, 65, 66, 67] (fun _ => none) rfl (fun _ _ => rS (rA he42a (rA he42b he42c))) ?_
   refine kn_then ?_
   exact ⟨⟨(fu, b46, (IntKind.i64.wrap (v40 + 1))), h1⟩, ⟨rF, rE, rfl, rfl, trivial, trivial⟩, Nat.lt_succ_self _⟩
  refine awp_exit (kx_then (kx_then (kx_done ?_)))
  obtain rfl := Option.some.inj h1
  exact ⟨_, rfl, rL, ⟨rF, rE, rfl, rfl, trivial, trivial⟩⟩
theorem c_ops_Write [Adr] {fu : Nat} {c1 : TApiOpCall} {r : Bool} (h0 : ops_Write fu c1 = some r) : PCall Tryz.prog 17 [.agg (TApiOpCall.enc c1)] (.bool r) [] := by
 refine awp_pcall Tryz.func17 rfl (by decide) rL ?_
 dsimp only [Tryz.f17]
 rw [ops_Write] at h0
 refine xS 16 [1] ?_
 obtain ⟨b2, hb2, h0⟩ := bindS h0
 obtain ⟨b3, hb3, h0⟩ := bindS h0
 refine awp_sr3 (fr' := [(2, .bool b3)]) (hp' := [(0, ⟨0, true, true, 12, [[.int .i64 c1.Kind, .int .i64 c1.Grant, .str c1.Key, .str c1.Val, .str c1.Range.Low, .str c1.Range.High, .bool c1.Range.Bound, .int .i64 c1.Handle.Index, .int .i64 c1.Handle.Gen, .int .i64 c1.Other.Index, .int .i64 c1.Other.Gen, .psl 3 (List.map TApiOpWrite.enc c1.Writes)]], none⟩)]) [0] 128 [2] (fun _ => none) rfl (fun Kt hK => by
   cases hg4 : (decide (c1.Kind = 1)) with
   | false =>
    replace hb2 := iteF hb2 hg4
    have hqb2 := Option.some.inj hb2
    cases b2 with
    | false =>
     replace hb3 := iteF hb3 rfl
     have hqb3 := Option.some.inj hb3
     subst hqb3
     exact rW (rA hg4 hqb2) hK
    | true =>
     replace hb3 := iteT hb3 rfl
     have hqb3 := Option.some.inj hb3
     subst hqb3
     exact rW (rA hg4 hqb2) hK
   | true =>
    replace hb2 := iteT hb2 hg4
    have hqb2 := Option.some.inj hb2
    cases b2 with
    | false =>
     cases hqb2
    | true =>
     replace hb3 := iteT hb3 rfl
     have hqb3 := Option.some.inj hb3
     subst hqb3
     exact rW hg4 hK) ?_
 refine awp_ret ?_
 obtain rfl := Option.some.inj h0
 exact leave_retG [] rG
theorem c_stats_Events [Adr] [BareOk] {fu : Nat} {l1 : List TApiOpCall} {a2 : List TApiOpAnswer} {r : TApiStEvents × Int × Int} (h0 : stats_Events fu l1 a2 = some r) : PCall Tryz.prog 7 [.psl 12 (l1.map TApiOpCall.enc), .psl 24 (a2.map TApiOpAnswer.enc)] (.tup [.agg (TApiStEvents.enc r.1), .int .i64 r.2.1, .int .i64 r.2.2]) [] := by
 refine awp_pcall Tryz.func7 rfl (by decide) rL ?_
 dsimp only [Tryz.f7]
 rw [stats_Events] at h0
 refine xS 24 [0, 1, 4] ?_
 refine awp_seq (awp_block ?_)
 refine xS 56 [0, 1, 4, 10] ?_
 refine xI h0 rfl (fun h0 hb3 => ?_) (fun h0 hb3 => ?_)
 ·
  refine xS 88 [4, 5, 6] ?_
  refine awp_ret (kr_block (kr_then ?_))
  obtain rfl := Option.some.inj h0
  exact leave_retG [] rG
 refine xS 104 [0, 1, 4, 15] ?_
 refine xI h0 rfl (fun h0 hb4 => ?_) (fun h0 hb4 => ?_)
 ·
  refine xS 136 [4, 5, 6] ?_
  refine awp_ret (kr_block (kr_then ?_))
  obtain rfl := Option.some.inj h0
  exact leave_retG [] rG
 refine awp_skip (kn_block (kn_then (awp_seq ?_)))
 refine xS 128 [1, 4, 22, 23, 24] ?_
 obtain ⟨x42, hxx42, h0⟩ := bindS h0
 refine awp_bloop (fun s' => ∃ o64 : Int × Int × Int × Int, x42 = .inl o64 ∧ s'.nx ≤ 136 ∧ LeN [] s' ⟨[(4, .ref 0 0 0 0)], [(0, ⟨0, true, true, 4, [[.int .i64 o64.1, .int .i64 o64.2.1, .int .i64 o64.2.2.1, .int .i64 o64.2.2.2]], none⟩)], 136, []⟩) ?_ ?_
 ·
  intro s' hs
  obtain ⟨o64, rfl, hn, hs⟩ := hs
  refine kn_then ?_
  refine awp_re [] hn hs ?_
  refine xS 168 [4, 5, 6] ?_
  refine awp_ret ?_
  obtain rfl := Option.some.inj h0
  exact leave_retG [] rG
 refine awp_loopF (ι := { p : Nat × Int × Int × Int × Int × Int // stats_Events_l1 l1 a2 p.1 p.2.1 p.2.2.1 p.2.2.2.1 p.2.2.2.2.1 p.2.2.2.2.2 = some x42 }) (fun p => ⟨[(1, .psl 24 (List.map TApiOpAnswer.enc a2)), (4, .ref 0 0 0 0), (22, .psl 12 (List.map TApiOpCall.enc l1)), (23, .int .i64 (l1.length : Int)), (24, .int .i64 p.1.2.1)], [(0, ⟨0, true, true, 4, [[.int .i64 p.1.2.2.2.1, .int .i64 p.1.2.2.1, .int .i64 p.1.2.2.2.2.1, .int .i64 p.1.2.2.2.2.2]], none⟩)], 128, []⟩) (fun p => p.1.1) ⟨(fu, 0, 0, 0, 0, 0), hxx42⟩ ⟨rF, rE, rfl, rfl, trivial, trivial⟩ (fun _ => Nat.le_refl _) ?_
 rintro ⟨⟨fu, v43, vx44, vx45, vx46, vx47⟩, h1⟩
 cases fu with
 | zero =>
  replace h1 : stats_Events_l1 l1 a2 0 v43 vx44 vx45 vx46 vx47 = some x42 := h1
  rw [stats_Events_l1] at h1; cases h1
 | succ fu =>
  replace h1 : stats_Events_l1 l1 a2 (fu + 1) v43 vx44 vx45 vx46 vx47 = some x42 := h1
  rw [stats_Events_l1] at h1
  dsimp only
  refine xS 136 [1, 4, 22, 23, 24, 25] ?_
  refine awp_seq ?_
  refine xI h1 rfl (fun h1 hb48 => ?_) (fun h1 hb48 => ?_)
  ·
   refine awp_skip (kn_then (awp_seq (awp_block ?_)))
   obtain ⟨e49, he49, h1⟩ := bindS h1
   obtain ⟨he49a, he49b, he49c⟩ := idxS he49
   refine awp_sr2 184 [1, 4, 7, 8, 22, 23, 24] (fun _ => none) rfl (fun _ _ => rS (rA he49a (rA he49b he49c))) ?_
   refine awp_seq ?_
   obtain ⟨vr50, hvr50, h1⟩ := bindS h1
   refine awp_sr2 208 [1, 4, 7, 8, 9, 22, 23, 24] (fun | 1 => some (.int .i64 vr50, []) | _ => none) rfl (fun _ _ => rB (rA he49a (rA he49b he49c)) (c_ops_Check hvr50)) ?_
   refine awp_sr2 224 [1, 4, 7, 8, 9, 22, 23, 24, 32] (fun _ => none) rfl (fun _ _ => rS (rA he49a (rA he49b he49c))) ?_
   refine xI h1 rfl (fun h1 hb51 => ?_) (fun h1 hb51 => ?_)
   ·
    refine awp_sr2 272 [4, 5, 6] (fun _ => none) rfl (fun _ _ => rS (rA he49a (rA he49b he49c))) ?_
    refine awp_ret ?_
    obtain rfl := Option.some.inj h1
    refine kr_then (kr_block (kr_then (kr_then (kr_loop (kr_then ?_)))))
    obtain rfl := Option.some.inj h0
    refine leave_retG [] ?_
    exact rJ (rA he49a (rA he49b he49c))
   refine awp_skip (kn_then ?_)
   obtain ⟨e52, he52, h1⟩ := bindS h1
   obtain ⟨he52a, he52b, he52c⟩ := idxS he52
   refine awp_sr2 264 [1, 4, 8, 22, 23, 24, 40] (fun _ => none) rfl (fun _ _ => rS (rA he49a (rA he49b (rA he49c (rA he52a (rA he52b he52c)))))) ?_
   refine awp_block ?_
   refine awp_sr2 280 [1, 4, 8, 22, 23, 24, 40, 41] (fun _ => none) rfl (fun _ _ => rS (rA he49a (rA he49b (rA he49c (rA he52a (rA he52b he52c)))))) ?_
   refine xI h1 rfl (fun h1 hb53 => ?_) (fun h1 hb53 => ?_)
   ·
    obtain ⟨vr54, hvr54, h1⟩ := bindS h1
    refine awp_sr2 296 [1, 4, 22, 23, 24, 44] (fun | 1 => some (.bool vr54, []) | _ => none) rfl (fun _ _ => rB (rA he49a (rA he49b (rA he49c (rA he52a (rA he52b he52c))))) (c_ops_Write hvr54)) ?_
    refine xI h1 rfl (fun h1 hb55 => ?_) (fun h1 hb55 => ?_)
    ·
     refine awp_r2 336 [1, 4, 22, 23, 24] (fun _ => none) rfl (fun _ _ => rS (rA he49a (rA he49b (rA he49c (rA he52a (rA he52b he52c)))))) ?_
     refine kn_block (kn_block (kn_then ?_))
     refine awp_r2 352 [1, 4, 22, 23, 24] (fun _ => none) rfl (fun _ _ => rS (rA he49a (rA he49b (rA he49c (rA he52a (rA he52b he52c)))))) ?_
     refine kn_then ?_
     exact ⟨⟨(fu, (IntKind.i64.wrap (v43 + 1)), (IntKind.i64.wrap (vx44 + 1)), vx45, vx46, vx47), h1⟩, ⟨rF, rE, rfl, rfl, trivial, trivial⟩, Nat.lt_succ_self _⟩
    refine awp_skip (kn_block (kn_block (kn_then ?_)))
    refine awp_r2 312 [1, 4, 22, 23, 24] (fun _ => none) rfl (fun _ _ => rS (rA he49a (rA he49b (rA he49c (rA he52a (rA he52b he52c)))))) ?_
    refine kn_then ?_
    exact ⟨⟨(fu, (IntKind.i64.wrap (v43 + 1)), vx44, vx45, vx46, vx47), h1⟩, ⟨rF, rE, rfl, rfl, trivial, trivial⟩, Nat.lt_succ_self _⟩
   refine awp_sr2 296 [1, 4, 8, 22, 23, 24, 49] (fun _ => none) rfl (fun _ _ => rS (rA he49a (rA he49b (rA he49c (rA he52a (rA he52b he52c)))))) ?_
   refine xI h1 rfl (fun h1 hb56 => ?_) (fun h1 hb56 => ?_)
   ·
    refine awp_sr2 312 [1, 4, 8, 22, 23, 24, 52] (fun _ => none) rfl (fun _ _ => rS (rA he49a (rA he49b (rA he49c (rA he52a (rA he52b he52c)))))) ?_
    refine awp_block (awp_seq ?_)
    refine awp_sr2 328 [1, 4, 8, 22, 23, 24, 52, 53] (fun _ => none) rfl (fun _ _ => rS (rA he49a (rA he49b (rA he49c (rA he52a (rA he52b he52c)))))) ?_
    refine xI h1 rfl (fun h1 hb57 => ?_) (fun h1 hb57 => ?_)
    ·
     refine awp_skip (kn_then ?_)
     refine awp_condKT rfl hb57 ?_
     refine awp_r2 368 [1, 4, 22, 23, 24] (fun _ => none) rfl (fun _ _ => rS (rA he49a (rA he49b (rA he49c (rA he52a (rA he52b he52c)))))) ?_
     refine kn_block (kn_block (kn_block (kn_then ?_)))
     refine awp_r2 384 [1, 4, 22, 23, 24] (fun _ => none) rfl (fun _ _ => rS (rA he49a (rA he49b (rA he49c (rA he52a (rA he52b he52c)))))) ?_
     refine kn_then ?_
     exact ⟨⟨(fu, (IntKind.i64.wrap (v43 + 1)), vx44, (IntKind.i64.wrap (vx45 + 1)), vx46, vx47), h1⟩, ⟨rF, rE, rfl, rfl, trivial, trivial⟩, Nat.lt_succ_self _⟩
    refine awp_r2 344 [1, 4, 8, 22, 23, 24, 52, 53] (fun _ => none) rfl (fun _ _ => rS (rA he49a (rA he49b (rA he49c (rA he52a (rA he52b he52c)))))) ?_
    refine kn_then ?_
    refine xI h1 rfl (fun h1 hb58 => ?_) (fun h1 hb58 => ?_)
    ·
     refine awp_r2 384 [1, 4, 22, 23, 24] (fun _ => none) rfl (fun _ _ => rS (rA he49a (rA he49b (rA he49c (rA he52a (rA he52b he52c)))))) ?_
     refine kn_block (kn_block (kn_block (kn_then ?_)))
     refine awp_r2 400 [1, 4, 22, 23, 24] (fun _ => none) rfl (fun _ _ => rS (rA he49a (rA he49b (rA he49c (rA he52a (rA he52b he52c)))))) ?_
     refine kn_then ?_
     exact ⟨⟨(fu, (IntKind.i64.wrap (v43 + 1)), vx44, (IntKind.i64.wrap (vx45 + 1)), vx46, vx47), h1⟩, ⟨rF, rE, rfl, rfl, trivial, trivial⟩, Nat.lt_succ_self _⟩
    refine awp_sr2 360 [1, 4, 8, 22, 23, 24, 52, 60] (fun _ => none) rfl (fun _ _ => rS (rA he49a (rA he49b (rA he49c (rA he52a (rA he52b he52c)))))) ?_
    refine xI h1 rfl (fun h1 hb59 => ?_) (fun h1 hb59 => ?_)
    ·
     refine awp_r2 424 [1, 4, 22, 23, 24] (fun _ => none) rfl (fun _ _ => rS (rA he49a (rA he49b (rA he49c (rA he52a (rA he52b he52c)))))) ?_
     refine kn_block (kn_block (kn_block (kn_then ?_)))
     refine awp_r2 440 [1, 4, 22, 23, 24] (fun _ => none) rfl (fun _ _ => rS (rA he49a (rA he49b (rA he49c (rA he52a (rA he52b he52c)))))) ?_
     refine kn_then ?_
     exact ⟨⟨(fu, (IntKind.i64.wrap (v43 + 1)), vx44, (IntKind.i64.wrap (vx45 + (e49.Writes.length : Int))), vx46, vx47), h1⟩, ⟨rF, rE, rfl, rfl, trivial, trivial⟩, Nat.lt_succ_self _⟩
    refine awp_sr2 376 [1, 4, 22, 23, 24, 52, 69] (fun _ => none) rfl (fun _ _ => rS (rA he49a (rA he49b (rA he49c (rA he52a (rA he52b he52c)))))) ?_
    refine xI h1 rfl (fun h1 hb60 => ?_) (fun h1 hb60 => ?_)
    ·
     refine awp_r2 416 [1, 4, 22, 23, 24] (fun _ => none) rfl (fun _ _ => rS (rA he49a (rA he49b (rA he49c (rA he52a (rA he52b he52c)))))) ?_
     refine kn_block (kn_block (kn_block (kn_then ?_)))
     refine awp_r2 432 [1, 4, 22, 23, 24] (fun _ => none) rfl (fun _ _ => rS (rA he49a (rA he49b (rA he49c (rA he52a (rA he52b he52c)))))) ?_
     refine kn_then ?_
     exact ⟨⟨(fu, (IntKind.i64.wrap (v43 + 1)), vx44, vx45, (IntKind.i64.wrap (vx46 + 1)), vx47), h1⟩, ⟨rF, rE, rfl, rfl, trivial, trivial⟩, Nat.lt_succ_self _⟩
    refine awp_sr2 392 [1, 4, 22, 23, 24, 52, 75] (fun _ => none) rfl (fun _ _ => rS (rA he49a (rA he49b (rA he49c (rA he52a (rA he52b he52c)))))) ?_
    refine xI h1 rfl (fun h1 hb61 => ?_) (fun h1 hb61 => ?_)
    ·
     refine awp_r2 432 [1, 4, 22, 23, 24] (fun _ => none) rfl (fun _ _ => rS (rA he49a (rA he49b (rA he49c (rA he52a (rA he52b he52c)))))) ?_
     refine kn_block (kn_block (kn_block (kn_then ?_)))
     refine awp_r2 448 [1, 4, 22, 23, 24] (fun _ => none) rfl (fun _ _ => rS (rA he49a (rA he49b (rA he49c (rA he52a (rA he52b he52c)))))) ?_
     refine kn_then ?_
     exact ⟨⟨(fu, (IntKind.i64.wrap (v43 + 1)), vx44, vx45, (IntKind.i64.wrap (vx46 - 1)), vx47), h1⟩, ⟨rF, rE, rfl, rfl, trivial, trivial⟩, Nat.lt_succ_self _⟩
    refine awp_sr2 408 [1, 4, 22, 23, 24, 52, 81] (fun _ => none) rfl (fun _ _ => rS (rA he49a (rA he49b (rA he49c (rA he52a (rA he52b he52c)))))) ?_
    refine xI h1 rfl (fun h1 hb62 => ?_) (fun h1 hb62 => ?_)
    ·
     refine awp_r2 448 [1, 4, 22, 23, 24] (fun _ => none) rfl (fun _ _ => rS (rA he49a (rA he49b (rA he49c (rA he52a (rA he52b he52c)))))) ?_
     refine kn_block (kn_block (kn_block (kn_then ?_)))
     refine awp_r2 464 [1, 4, 22, 23, 24] (fun _ => none) rfl (fun _ _ => rS (rA he49a (rA he49b (rA he49c (rA he52a (rA he52b he52c)))))) ?_
     refine kn_then ?_
     exact ⟨⟨(fu, (IntKind.i64.wrap (v43 + 1)), vx44, vx45, vx46, (IntKind.i64.wrap (vx47 + 1))), h1⟩, ⟨rF, rE, rfl, rfl, trivial, trivial⟩, Nat.lt_succ_self _⟩
    refine awp_sr2 424 [1, 4, 22, 23, 24, 87] (fun _ => none) rfl (fun _ _ => rS (rA he49a (rA he49b (rA he49c (rA he52a (rA he52b he52c)))))) ?_
    refine xI h1 rfl (fun h1 hb63 => ?_) (fun h1 hb63 => ?_)
    ·
     refine awp_r2 464 [1, 4, 22, 23, 24] (fun _ => none) rfl (fun _ _ => rS (rA he49a (rA he49b (rA he49c (rA he52a (rA he52b he52c)))))) ?_
     refine kn_block (kn_block (kn_block (kn_then ?_)))
     refine awp_r2 480 [1, 4, 22, 23, 24] (fun _ => none) rfl (fun _ _ => rS (rA he49a (rA he49b (rA he49c (rA he52a (rA he52b he52c)))))) ?_
     refine kn_then ?_
     exact ⟨⟨(fu, (IntKind.i64.wrap (v43 + 1)), vx44, vx45, vx46, (IntKind.i64.wrap (vx47 - 1))), h1⟩, ⟨rF, rE, rfl, rfl, trivial, trivial⟩, Nat.lt_succ_self _⟩
    refine awp_skip (kn_block (kn_block (kn_block (kn_then ?_))))
    refine awp_r2 440 [1, 4, 22, 23, 24] (fun _ => none) rfl (fun _ _ => rS (rA he49a (rA he49b (rA he49c (rA he52a (rA he52b he52c)))))) ?_
    refine kn_then ?_
    exact ⟨⟨(fu, (IntKind.i64.wrap (v43 + 1)), vx44, vx45, vx46, vx47), h1⟩, ⟨rF, rE, rfl, rfl, trivial, trivial⟩, Nat.lt_succ_self _⟩
   refine awp_skip (kn_block (kn_block (kn_then ?_)))
   refine awp_r2 312 [1, 4, 22, 23, 24] (fun _ => none) rfl (fun _ _ => rS (rA he49a (rA he49b (rA he49c (rA he52a (rA he52b he52c)))))) ?_
   refine kn_then ?_
   exact ⟨⟨(fu, (IntKind.i64.wrap (v43 + 1)), vx44, vx45, vx46, vx47), h1⟩, ⟨rF, rE, rfl, rfl, trivial, trivial⟩, Nat.lt_succ_self _⟩
  refine awp_exit (kx_then (kx_then (kx_done ?_)))
  obtain rfl := Option.some.inj h1
  exact ⟨_, rfl, rL, ⟨rF, rE, rfl, rfl, trivial, trivial⟩⟩
theorem c_bookendref04_word [Adr] {fu : Nat} {kind1 : Int} {r : List UInt8} (h0 : bookendref04_word fu kind1 = some r) : PCall Tryz.prog 40 [.int .i64 kind1] (.str r) [] := by
 refine awp_pcall Tryz.func40 rfl (by decide) rL ?_
 dsimp only [Tryz.f40]
 rw [bookendref04_word] at h0
 refine xS 8 [0] ?_
 refine awp_seq ?_
 obtain ⟨b2, hb2, h0⟩ := bindS h0
 refine awp_sr3 (fr' := [(0, .int .i64 kind1), (8, .bool b2)]) (hp' := []) [] 56 [0, 8] (fun _ => none) rfl (fun Kt hK => by
   cases hg3 : (decide (kind1 < 1)) with
   | false =>
    replace hb2 := iteF hb2 hg3
    have hqb2 := Option.some.inj hb2
    subst hqb2
    exact rW hg3 hK
   | true =>
    replace hb2 := iteT hb2 hg3
    have hqb2 := Option.some.inj hb2
    subst hqb2
    exact rW hg3 hK) ?_
 refine xI h0 rfl (fun h0 hb4 => ?_) (fun h0 hb4 => ?_)
 ·
  refine xS 64 [2] ?_
  refine awp_ret (kr_then ?_)
  obtain rfl := Option.some.inj h0
  exact leave_retG [] rG
 refine awp_skip (kn_then ?_)
 obtain ⟨e5, he5, h0⟩ := bindS h0
 obtain ⟨he5a, he5b, he5c⟩ := idxS he5
 have he5d := congrArg (Option.map encStr) he5c
 rw [← List.getElem?_map] at he5d
 simp only [List.map_cons, List.map_nil, encStr, Option.map_some] at he5d
 refine awp_sr2 96 [2] (fun _ => none) rfl (fun _ _ => rS (rA he5a (rA he5b (rA he5c he5d)))) ?_
 refine xE ⟨[(2, .str e5)], [], 96, []⟩ ?_
 refine awp_ret ?_
 obtain rfl := Option.some.inj h0
 refine leave_retG [] ?_
 exact rJ (rA he5a (rA he5b he5c))
theorem c_bookendref04_one [Adr] {fu : Nat} {kind1 : Int} {l2 : List Int} {r : Bool} (h0 : bookendref04_one fu kind1 l2 = some r) : PCall Tryz.prog 127 [.int .i64 kind1, .psl 1 (l2.map (encInt .i64))] (.bool r) [] := by
 refine awp_pcall Tryz.func127 rfl (by decide) rL ?_
 dsimp only [Tryz.f127]
 rw [bookendref04_one] at h0
 refine xS 8 [0, 1] ?_
 refine awp_seq ?_
 refine xS 16 [0, 1, 5] ?_
 obtain ⟨x10, hxx10, h0⟩ := bindS h0
 refine awp_bloop (fun s' => ∃ o15 : Unit, x10 = .inl o15 ∧ s'.nx ≤ 48 ∧ LeN [] s' ⟨[], [], 48, []⟩) ?_ ?_
 ·
  intro s' hs
  obtain ⟨o15, rfl, hn, hs⟩ := hs
  refine kn_then ?_
  refine awp_re [] hn hs ?_
  refine xS 56 [4] ?_
  refine awp_ret ?_
  obtain rfl := Option.some.inj h0
  exact leave_retG [] rG
 refine awp_loopF (ι := { p : Nat × Int // bookendref04_one_l1 l2 kind1 p.1 p.2 = some x10 }) (fun p => ⟨[(0, .int .i64 kind1), (1, .psl 1 (List.map (encInt .i64) l2)), (5, .int .i64 p.1.2)], [], 16, []⟩) (fun p => p.1.1) ⟨(fu, 0), hxx10⟩ ⟨rF, rE, rfl, rfl, trivial, trivial⟩ (fun _ => Nat.le_refl _) ?_
 rintro ⟨⟨fu, i11⟩, h1⟩
 cases fu with
 | zero =>
  replace h1 : bookendref04_one_l1 l2 kind1 0 i11 = some x10 := h1
  rw [bookendref04_one_l1] at h1; cases h1
 | succ fu =>
  replace h1 : bookendref04_one_l1 l2 kind1 (fu + 1) i11 = some x10 := h1
  rw [bookendref04_one_l1] at h1
  dsimp only
  refine awp_seq ?_
  refine xS 48 [0, 1, 5, 9] ?_
  refine xI h1 rfl (fun h1 hb12 => ?_) (fun h1 hb12 => ?_)
  ·
   refine awp_skip (kn_then (awp_seq (awp_block ?_)))
   obtain ⟨e13, he13, h1⟩ := bindS h1
   obtain ⟨he13a, he13b, he13c⟩ := idxS he13
   refine awp_sr2 96 [0, 1, 5, 17] (fun _ => none) rfl (fun _ _ => rS (rA he13a (rA he13b he13c))) ?_
   refine xI h1 rfl (fun h1 hb14 => ?_) (fun h1 hb14 => ?_)
   ·
    refine awp_sr2 104 [4] (fun _ => none) rfl (fun _ _ => rS (rA he13a (rA he13b he13c))) ?_
    refine awp_ret ?_
    obtain rfl := Option.some.inj h1
    refine kr_block (kr_then (kr_then (kr_loop (kr_then ?_))))
    obtain rfl := Option.some.inj h0
    refine leave_retG [] ?_
    exact rJ (rA he13a (rA he13b he13c))
   refine awp_skip (kn_block (kn_then ?_))
   refine awp_r2 120 [0, 1, 5] (fun _ => none) rfl (fun _ _ => rS (rA he13a (rA he13b he13c))) ?_
   refine kn_then ?_
   exact ⟨⟨(fu, (IntKind.i64.wrap (i11 + 1))), h1⟩, ⟨rF, rE, rfl, rfl, trivial, trivial⟩, Nat.lt_succ_self _⟩
  refine awp_exit (kx_then (kx_then (kx_done ?_)))
  obtain rfl := Option.some.inj h1
  exact ⟨_, rfl, rL, ⟨rF, rE, rfl, rfl, trivial, trivial⟩⟩
theorem c_bookendref04_hasKey [Adr] {fu : Nat} {kind1 : Int} {r : Bool} (h0 : bookendref04_hasKey fu kind1 = some r) : PCall Tryz.prog 69 [.int .i64 kind1] (.bool r) [] := by
 refine awp_pcall Tryz.func69 rfl (by decide) rL ?_
 dsimp only [Tryz.f69]
 rw [bookendref04_hasKey] at h0
 refine xS 8 [0] ?_
 obtain ⟨vr2, hvr2, h0⟩ := bindS h0
 refine awp_sr2 40 [2] (fun | 2 => some (.bool vr2, []) | _ => none) rfl (fun _ _ => rC (c_bookendref04_one hvr2)) ?_
 refine xE ⟨[(2, .bool vr2)], [], 40, []⟩ ?_
 refine awp_ret ?_
 obtain rfl := Option.some.inj h0
 exact leave_retG [] rG
theorem c_bookendref04_hasRange [Adr] {fu : Nat} {kind1 : Int} {r : Bool} (h0 : bookendref04_hasRange fu kind1 = some r) : PCall Tryz.prog 70 [.int .i64 kind1] (.bool r) [] := by
 refine awp_pcall Tryz.func70 rfl (by decide) rL ?_
 dsimp only [Tryz.f70]
 rw [bookendref04_hasRange] at h0
 refine xS 8 [0] ?_
 obtain ⟨b2, hb2, h0⟩ := bindS h0
 refine awp_sr3 (fr' := [(2, .bool b2)]) (hp' := []) [] 64 [2] (fun _ => none) rfl (fun Kt hK => by
   cases hg3 : (decide (kind1 = 7)) with
   | false =>
    replace hb2 := iteF hb2 hg3
    have hqb2 := Option.some.inj hb2
    subst hqb2
    exact rW hg3 hK
   | true =>
    replace hb2 := iteT hb2 hg3
    have hqb2 := Option.some.inj hb2
    subst hqb2
    exact rW hg3 hK) ?_
 refine awp_ret ?_
 obtain rfl := Option.some.inj h0
 exact leave_retG [] rG
theorem c_bookendref04_hasHandle [Adr] {fu : Nat} {kind1 : Int} {r : Bool} (h0 : bookendref04_hasHandle fu kind1 = some r) : PCall Tryz.prog 71 [.int .i64 kind1] (.bool r) [] := by
 refine awp_pcall Tryz.func71 rfl (by decide) rL ?_
 dsimp only [Tryz.f71]
 rw [bookendref04_hasHandle] at h0
 refine xS 8 [0] ?_
 obtain ⟨vr2, hvr2, h0⟩ := bindS h0
 refine awp_sr2 40 [2] (fun | 2 => some (.bool vr2, []) | _ => none) rfl (fun _ _ => rC (c_bookendref04_one hvr2)) ?_
 refine xE ⟨[(2, .bool vr2)], [], 40, []⟩ ?_
 refine awp_ret ?_
 obtain rfl := Option.some.inj h0
 exact leave_retG [] rG
theorem c_bookendref04_extra [Adr] {fu : Nat} {c1 : TApiOpCall} {r : Bool} (h0 : bookendref04_extra fu c1 = some r) : PCall Tryz.prog 41 [.agg (TApiOpCall.enc c1)] (.bool r) [] := by
 refine awp_pcall Tryz.func41 rfl (by decide) rL ?_
 dsimp only [Tryz.f41, List.append]
 rw [bookendref04_extra] at h0
 refine xS 16 [1] ?_
 obtain ⟨vr2, hvr2, h0⟩ := bindS h0
 obtain ⟨b3, hb3, h0⟩ := bindS h0
 obtain ⟨b5, hb5, h0⟩ := bindS h0
 obtain ⟨b8, hb8, h0⟩ := bindS h0
 obtain ⟨b11, hb11, h0⟩ := bindS h0
 obtain ⟨b13, hb13, h0⟩ := bindS h0
 obtain ⟨b15, hb15, h0⟩ := bindS h0
 refine awp_sr3 (fr' := [(2, .bool b15)]) (hp' := [(0, ⟨0, true, true, 12, [[.int .i64 c1.Kind, .int .i64 c1.Grant, .str c1.Key, .str c1.Val, .str c1.Range.Low, .str c1.Range.High, .bool c1.Range.Bound, .int .i64 c1.Handle.Index, .int .i64 c1.Handle.Gen, .int .i64 c1.Other.Index, .int .i64 c1.Other.Gen, .psl 3 (List.map TApiOpWrite.enc c1.Writes)]], none⟩)]) [0] 544 [2] (fun | 2 => some (.bool vr2, []) | 22 => (bookendref04_hasRange fu c1.Kind).bind fun vr6 => some (.bool vr6, []) | 34 => (bookendref04_hasHandle fu c1.Kind).bind fun vr9 => some (.bool vr9, []) | _ => none) rfl (fun Kt hK => by
   cases hg16 : (!vr2) with
   | false =>
    replace hb3 := iteF hb3 hg16
    have hqb3 := Option.some.inj hb3
    cases b3 with
    | false =>
     replace hb5 := iteF hb5 rfl
     obtain ⟨b4, hb4, hb5⟩ := bindS hb5
     have hqb5 := Option.some.inj hb5
     cases hg18 : (!(decide (c1.Kind = 1))) with
     | false =>
      replace hb4 := iteF hb4 hg18
      have hqb4 := Option.some.inj hb4
      subst hqb4
      cases b5 with
      | false =>
       replace hb8 := iteF hb8 rfl
       obtain ⟨vr6, hvr6, hb8⟩ := bindS hb8
       obtain ⟨b7, hb7, hb8⟩ := bindS hb8
       have hqb8 := Option.some.inj hb8
       cases hg20 : (!vr6) with
       | false =>
        replace hb7 := iteF hb7 hg20
        have hqb7 := Option.some.inj hb7
        subst hqb7
        cases b8 with
        | false =>
         replace hb11 := iteF hb11 rfl
         obtain ⟨vr9, hvr9, hb11⟩ := bindS hb11
         obtain ⟨b10, hb10, hb11⟩ := bindS hb11
         have hqb11 := Option.some.inj hb11
         cases hg22 : (!vr9) with
         | false =>
          replace hb10 := iteF hb10 hg22
          have hqb10 := Option.some.inj hb10
          subst hqb10
          cases b11 with
          | false =>
           replace hb13 := iteF hb13 rfl
           obtain ⟨b12, hb12, hb13⟩ := bindS hb13
           have hqb13 := Option.some.inj hb13
           cases hg24 : (!(decide (c1.Kind = 14))) with
           | false =>
            replace hb12 := iteF hb12 hg24
            have hqb12 := Option.some.inj hb12
            subst hqb12
            cases b13 with
            | false =>
             replace hb15 := iteF hb15 rfl
             obtain ⟨b14, hb14, hb15⟩ := bindS hb15
             have hqb15 := Option.some.inj hb15
             cases hg26 : (!(decide (c1.Kind = 3))) with
             | false =>
              replace hb14 := iteF hb14 hg26
              have hqb14 := Option.some.inj hb14
              subst hqb15
              subst hqb14
              simp (maxSteps := 1000000) only [↓reduceIte, reduceCtorEq, Nat.reduceEqDiff, Nat.reduceLT, Nat.reduceLeDiff, Nat.reduceAdd, Nat.reduceMul, Int.reduceToNat, push_cast, ↓hg16, ↓hg18, hvr6, ↓hg20, hvr9, ↓hg22, ↓hg24, ↓hg26]
              try simp only [↓hg16, ↓hg18, ↓hg20, ↓hg22, ↓hg24, ↓hg26] at hK
              try have q0 := c_bookendref04_hasKey hvr2
              try have q1 := c_bookendref04_hasRange hvr6
              try have q2 := c_bookendref04_hasHandle hvr9
              all_goals exact rU
             | true =>
              replace hb14 := iteT hb14 hg26
              have hqb14 := Option.some.inj hb14
              subst hqb15
              subst hqb14
              simp (maxSteps := 1000000) only [↓reduceIte, reduceCtorEq, Nat.reduceEqDiff, Nat.reduceLT, Nat.reduceLeDiff, Nat.reduceAdd, Nat.reduceMul, Int.reduceToNat, push_cast, ↓hg16, ↓hg18, hvr6, ↓hg20, hvr9, ↓hg22, ↓hg24, ↓hg26]
              try simp only [↓hg16, ↓hg18, ↓hg20, ↓hg22, ↓hg24, ↓hg26] at hK
              try have q0 := c_bookendref04_hasKey hvr2
              try have q1 := c_bookendref04_hasRange hvr6
              try have q2 := c_bookendref04_hasHandle hvr9
              all_goals exact rU
            | true =>
             cases hqb13
           | true =>
            replace hb12 := iteT hb12 hg24
            have hqb12 := Option.some.inj hb12
            subst hqb12
            cases b13 with
            | false =>
             replace hb15 := iteF hb15 rfl
             obtain ⟨b14, hb14, hb15⟩ := bindS hb15
             have hqb15 := Option.some.inj hb15
             cases hg28 : (!(decide (c1.Kind = 3))) with
             | false =>
              replace hb14 := iteF hb14 hg28
              have hqb14 := Option.some.inj hb14
              subst hqb15
              subst hqb14
              simp (maxSteps := 1000000) only [↓reduceIte, reduceCtorEq, Nat.reduceEqDiff, Nat.reduceLT, Nat.reduceLeDiff, Nat.reduceAdd, Nat.reduceMul, Int.reduceToNat, push_cast, ↓hg16, ↓hg18, hvr6, ↓hg20, hvr9, ↓hg22, ↓hg24, ↓hqb13, ↓hg28]
              try simp only [↓hg16, ↓hg18, ↓hg20, ↓hg22, ↓hg24, ↓hqb13, ↓hg28] at hK
              try have q0 := c_bookendref04_hasKey hvr2
              try have q1 := c_bookendref04_hasRange hvr6
              try have q2 := c_bookendref04_hasHandle hvr9
              all_goals exact rU
             | true =>
              replace hb14 := iteT hb14 hg28
              have hqb14 := Option.some.inj hb14
              subst hqb15
              subst hqb14
              simp (maxSteps := 1000000) only [↓reduceIte, reduceCtorEq, Nat.reduceEqDiff, Nat.reduceLT, Nat.reduceLeDiff, Nat.reduceAdd, Nat.reduceMul, Int.reduceToNat, push_cast, ↓hg16, ↓hg18, hvr6, ↓hg20, hvr9, ↓hg22, ↓hg24, ↓hqb13, ↓hg28]
              try simp only [↓hg16, ↓hg18, ↓hg20, ↓hg22, ↓hg24, ↓hqb13, ↓hg28] at hK
              try have q0 := c_bookendref04_hasKey hvr2
              try have q1 := c_bookendref04_hasRange hvr6
              try have q2 := c_bookendref04_hasHandle hvr9
              all_goals exact rU
            | true =>
             replace hb15 := iteT hb15 rfl
             have hqb15 := Option.some.inj hb15
             subst hqb15
             simp (maxSteps := 1000000) only [↓reduceIte, reduceCtorEq, Nat.reduceEqDiff, Nat.reduceLT, Nat.reduceLeDiff, Nat.reduceAdd, Nat.reduceMul, Int.reduceToNat, push_cast, ↓hg16, ↓hg18, hvr6, ↓hg20, hvr9, ↓hg22, ↓hg24, ↓hqb13]
             try simp only [↓hg16, ↓hg18, ↓hg20, ↓hg22, ↓hg24, ↓hqb13] at hK
             try have q0 := c_bookendref04_hasKey hvr2
             try have q1 := c_bookendref04_hasRange hvr6
             try have q2 := c_bookendref04_hasHandle hvr9
             all_goals exact rU
          | true =>
           cases hqb11
         | true =>
          replace hb10 := iteT hb10 hg22
          have hqb10 := Option.some.inj hb10
          subst hqb10
          cases b11 with
          | false =>
           replace hb13 := iteF hb13 rfl
           obtain ⟨b12, hb12, hb13⟩ := bindS hb13
           have hqb13 := Option.some.inj hb13
           cases hg30 : (!(decide (c1.Kind = 14))) with
           | false =>
            replace hb12 := iteF hb12 hg30
            have hqb12 := Option.some.inj hb12
            subst hqb12
            cases b13 with
            | false =>
             replace hb15 := iteF hb15 rfl
             obtain ⟨b14, hb14, hb15⟩ := bindS hb15
             have hqb15 := Option.some.inj hb15
             cases hg32 : (!(decide (c1.Kind = 3))) with
             | false =>
              replace hb14 := iteF hb14 hg32
              have hqb14 := Option.some.inj hb14
              subst hqb15
              subst hqb14
              simp (maxSteps := 1000000) only [↓reduceIte, reduceCtorEq, Nat.reduceEqDiff, Nat.reduceLT, Nat.reduceLeDiff, Nat.reduceAdd, Nat.reduceMul, Int.reduceToNat, push_cast, ↓hg16, ↓hg18, hvr6, ↓hg20, hvr9, ↓hg22, ↓hqb11, ↓hg30, ↓hg32]
              try simp only [↓hg16, ↓hg18, ↓hg20, ↓hg22, ↓hqb11, ↓hg30, ↓hg32] at hK
              try have q0 := c_bookendref04_hasKey hvr2
              try have q1 := c_bookendref04_hasRange hvr6
              try have q2 := c_bookendref04_hasHandle hvr9
              all_goals exact rU
             | true =>
              replace hb14 := iteT hb14 hg32
              have hqb14 := Option.some.inj hb14
              subst hqb15
              subst hqb14
              simp (maxSteps := 1000000) only [↓reduceIte, reduceCtorEq, Nat.reduceEqDiff, Nat.reduceLT, Nat.reduceLeDiff, Nat.reduceAdd, Nat.reduceMul, Int.reduceToNat, push_cast, ↓hg16, ↓hg18, hvr6, ↓hg20, hvr9, ↓hg22, ↓hqb11, ↓hg30, ↓hg32]
              try simp only [↓hg16, ↓hg18, ↓hg20, ↓hg22, ↓hqb11, ↓hg30, ↓hg32] at hK
              try have q0 := c_bookendref04_hasKey hvr2
              try have q1 := c_bookendref04_hasRange hvr6
              try have q2 := c_bookendref04_hasHandle hvr9
              all_goals exact rU
            | true =>
             cases hqb13
           | true =>
            replace hb12 := iteT hb12 hg30
            have hqb12 := Option.some.inj hb12
            subst hqb12
            cases b13 with
            | false =>
             replace hb15 := iteF hb15 rfl
             obtain ⟨b14, hb14, hb15⟩ := bindS hb15
             have hqb15 := Option.some.inj hb15
             cases hg34 : (!(decide (c1.Kind = 3))) with
             | false =>
              replace hb14 := iteF hb14 hg34
              have hqb14 := Option.some.inj hb14
              subst hqb15
              subst hqb14
              simp (maxSteps := 1000000) only [↓reduceIte, reduceCtorEq, Nat.reduceEqDiff, Nat.reduceLT, Nat.reduceLeDiff, Nat.reduceAdd, Nat.reduceMul, Int.reduceToNat, push_cast, ↓hg16, ↓hg18, hvr6, ↓hg20, hvr9, ↓hg22, ↓hqb11, ↓hg30, ↓hqb13, ↓hg34]
              try simp only [↓hg16, ↓hg18, ↓hg20, ↓hg22, ↓hqb11, ↓hg30, ↓hqb13, ↓hg34] at hK
              try have q0 := c_bookendref04_hasKey hvr2
              try have q1 := c_bookendref04_hasRange hvr6
              try have q2 := c_bookendref04_hasHandle hvr9
              all_goals exact rU
             | true =>
              replace hb14 := iteT hb14 hg34
              have hqb14 := Option.some.inj hb14
              subst hqb15
              subst hqb14
              simp (maxSteps := 1000000) only [↓reduceIte, reduceCtorEq, Nat.reduceEqDiff, Nat.reduceLT, Nat.reduceLeDiff, Nat.reduceAdd, Nat.reduceMul, Int.reduceToNat, push_cast, ↓hg16, ↓hg18, hvr6, ↓hg20, hvr9, ↓hg22, ↓hqb11, ↓hg30, ↓hqb13, ↓hg34]
              try simp only [↓hg16, ↓hg18, ↓hg20, ↓hg22, ↓hqb11, ↓hg30, ↓hqb13, ↓hg34] at hK
              try have q0 := c_bookendref04_hasKey hvr2
              try have q1 := c_bookendref04_hasRange hvr6
              try have q2 := c_bookendref04_hasHandle hvr9
              all_goals exact rU
            | true =>
             replace hb15 := iteT hb15 rfl
             have hqb15 := Option.some.inj hb15
             subst hqb15
             simp (maxSteps := 1000000) only [↓reduceIte, reduceCtorEq, Nat.reduceEqDiff, Nat.reduceLT, Nat.reduceLeDiff, Nat.reduceAdd, Nat.reduceMul, Int.reduceToNat, push_cast, ↓hg16, ↓hg18, hvr6, ↓hg20, hvr9, ↓hg22, ↓hqb11, ↓hg30, ↓hqb13]
             try simp only [↓hg16, ↓hg18, ↓hg20, ↓hg22, ↓hqb11, ↓hg30, ↓hqb13] at hK
             try have q0 := c_bookendref04_hasKey hvr2
             try have q1 := c_bookendref04_hasRange hvr6
             try have q2 := c_bookendref04_hasHandle hvr9
             all_goals exact rU
          | true =>
           replace hb13 := iteT hb13 rfl
           have hqb13 := Option.some.inj hb13
           cases b13 with
           | false =>
            cases hqb13
           | true =>
            replace hb15 := iteT hb15 rfl
            have hqb15 := Option.some.inj hb15
            subst hqb15
            simp (maxSteps := 1000000) only [↓reduceIte, reduceCtorEq, Nat.reduceEqDiff, Nat.reduceLT, Nat.reduceLeDiff, Nat.reduceAdd, Nat.reduceMul, Int.reduceToNat, push_cast, ↓hg16, ↓hg18, hvr6, ↓hg20, hvr9, ↓hg22, ↓hqb11]
            try simp only [↓hg16, ↓hg18, ↓hg20, ↓hg22, ↓hqb11] at hK
            try have q0 := c_bookendref04_hasKey hvr2
            try have q1 := c_bookendref04_hasRange hvr6
            try have q2 := c_bookendref04_hasHandle hvr9
            all_goals exact rU
        | true =>
         cases hqb8
       | true =>
        replace hb7 := iteT hb7 hg20
        have hqb7 := Option.some.inj hb7
        subst hqb7
        cases b8 with
        | false =>
         replace hb11 := iteF hb11 rfl
         obtain ⟨vr9, hvr9, hb11⟩ := bindS hb11
         obtain ⟨b10, hb10, hb11⟩ := bindS hb11
         have hqb11 := Option.some.inj hb11
         cases hg37 : (!vr9) with
         | false =>
          replace hb10 := iteF hb10 hg37
          have hqb10 := Option.some.inj hb10
          subst hqb10
          cases b11 with
          | false =>
           replace hb13 := iteF hb13 rfl
           obtain ⟨b12, hb12, hb13⟩ := bindS hb13
           have hqb13 := Option.some.inj hb13
           cases hg39 : (!(decide (c1.Kind = 14))) with
           | false =>
            replace hb12 := iteF hb12 hg39
            have hqb12 := Option.some.inj hb12
            subst hqb12
            cases b13 with
            | false =>
             replace hb15 := iteF hb15 rfl
             obtain ⟨b14, hb14, hb15⟩ := bindS hb15
             have hqb15 := Option.some.inj hb15
             cases hg41 : (!(decide (c1.Kind = 3))) with
             | false =>
              replace hb14 := iteF hb14 hg41
              have hqb14 := Option.some.inj hb14
              subst hqb15
              subst hqb14
              simp (maxSteps := 1000000) only [↓reduceIte, reduceCtorEq, Nat.reduceEqDiff, Nat.reduceLT, Nat.reduceLeDiff, Nat.reduceAdd, Nat.reduceMul, Int.reduceToNat, push_cast, ↓hg16, ↓hg18, hvr6, ↓hg20, ↓hqb8, hvr9, ↓hg37, ↓hg39, ↓hg41]
              try simp only [↓hg16, ↓hg18, ↓hg20, ↓hqb8, ↓hg37, ↓hg39, ↓hg41] at hK
              try have q0 := c_bookendref04_hasKey hvr2
              try have q1 := c_bookendref04_hasRange hvr6
              try have q2 := c_bookendref04_hasHandle hvr9
              all_goals exact rU
             | true =>
              replace hb14 := iteT hb14 hg41
              have hqb14 := Option.some.inj hb14
              subst hqb15
              subst hqb14
              simp (maxSteps := 1000000) only [↓reduceIte, reduceCtorEq, Nat.reduceEqDiff, Nat.reduceLT, Nat.reduceLeDiff, Nat.reduceAdd, Nat.reduceMul, Int.reduceToNat, push_cast, ↓hg16, ↓hg18, hvr6, ↓hg20, ↓hqb8, hvr9, ↓hg37, ↓hg39, ↓hg41]
              try simp only [↓hg16, ↓hg18, ↓hg20, ↓hqb8, ↓hg37, ↓hg39, ↓hg41] at hK
              try have q0 := c_bookendref04_hasKey hvr2
              try have q1 := c_bookendref04_hasRange hvr6
              try have q2 := c_bookendref04_hasHandle hvr9
              all_goals exact rU
            | true =>
             cases hqb13
           | true =>
            replace hb12 := iteT hb12 hg39
            have hqb12 := Option.some.inj hb12
            subst hqb12
            cases b13 with
            | false =>
             replace hb15 := iteF hb15 rfl
             obtain ⟨b14, hb14, hb15⟩ := bindS hb15
             have hqb15 := Option.some.inj hb15
             cases hg43 : (!(decide (c1.Kind = 3))) with
             | false =>
              replace hb14 := iteF hb14 hg43
              have hqb14 := Option.some.inj hb14
              subst hqb15
              subst hqb14
              simp (maxSteps := 1000000) only [↓reduceIte, reduceCtorEq, Nat.reduceEqDiff, Nat.reduceLT, Nat.reduceLeDiff, Nat.reduceAdd, Nat.reduceMul, Int.reduceToNat, push_cast, ↓hg16, ↓hg18, hvr6, ↓hg20, ↓hqb8, hvr9, ↓hg37, ↓hg39, ↓hqb13, ↓hg43]
              try simp only [↓hg16, ↓hg18, ↓hg20, ↓hqb8, ↓hg37, ↓hg39, ↓hqb13, ↓hg43] at hK
              try have q0 := c_bookendref04_hasKey hvr2
              try have q1 := c_bookendref04_hasRange hvr6
              try have q2 := c_bookendref04_hasHandle hvr9
              all_goals exact rU
             | true =>
              replace hb14 := iteT hb14 hg43
              have hqb14 := Option.some.inj hb14
              subst hqb15
              subst hqb14
              simp (maxSteps := 1000000) only [↓reduceIte, reduceCtorEq, Nat.reduceEqDiff, Nat.reduceLT, Nat.reduceLeDiff, Nat.reduceAdd, Nat.reduceMul, Int.reduceToNat, push_cast, ↓hg16, ↓hg18, hvr6, ↓hg20, ↓hqb8, hvr9, ↓hg37, ↓hg39, ↓hqb13, ↓hg43]
              try simp only [↓hg16, ↓hg18, ↓hg20, ↓hqb8, ↓hg37, ↓hg39, ↓hqb13, ↓hg43] at hK
              try have q0 := c_bookendref04_hasKey hvr2
              try have q1 := c_bookendref04_hasRange hvr6
              try have q2 := c_bookendref04_hasHandle hvr9
              all_goals exact rU
            | true =>
             replace hb15 := iteT hb15 rfl
             have hqb15 := Option.some.inj hb15
             subst hqb15
             simp (maxSteps := 1000000) only [↓reduceIte, reduceCtorEq, Nat.reduceEqDiff, Nat.reduceLT, Nat.reduceLeDiff, Nat.reduceAdd, Nat.reduceMul, Int.reduceToNat, push_cast, ↓hg16, ↓hg18, hvr6, ↓hg20, ↓hqb8, hvr9, ↓hg37, ↓hg39, ↓hqb13]
             try simp only [↓hg16, ↓hg18, ↓hg20, ↓hqb8, ↓hg37, ↓hg39, ↓hqb13] at hK
             try have q0 := c_bookendref04_hasKey hvr2
             try have q1 := c_bookendref04_hasRange hvr6
             try have q2 := c_bookendref04_hasHandle hvr9
             all_goals exact rU
          | true =>
           cases hqb11
         | true =>
          replace hb10 := iteT hb10 hg37
          have hqb10 := Option.some.inj hb10
          subst hqb10
          cases b11 with
          | false =>
           replace hb13 := iteF hb13 rfl
           obtain ⟨b12, hb12, hb13⟩ := bindS hb13
           have hqb13 := Option.some.inj hb13
           cases hg45 : (!(decide (c1.Kind = 14))) with
           | false =>
            replace hb12 := iteF hb12 hg45
            have hqb12 := Option.some.inj hb12
            subst hqb12
            cases b13 with
            | false =>
             replace hb15 := iteF hb15 rfl
             obtain ⟨b14, hb14, hb15⟩ := bindS hb15
             have hqb15 := Option.some.inj hb15
             cases hg47 : (!(decide (c1.Kind = 3))) with
             | false =>
              replace hb14 := iteF hb14 hg47
              have hqb14 := Option.some.inj hb14
              subst hqb15
              subst hqb14
              simp (maxSteps := 1000000) only [↓reduceIte, reduceCtorEq, Nat.reduceEqDiff, Nat.reduceLT, Nat.reduceLeDiff, Nat.reduceAdd, Nat.reduceMul, Int.reduceToNat, push_cast, ↓hg16, ↓hg18, hvr6, ↓hg20, ↓hqb8, hvr9, ↓hg37, ↓hqb11, ↓hg45, ↓hg47]
              try simp only [↓hg16, ↓hg18, ↓hg20, ↓hqb8, ↓hg37, ↓hqb11, ↓hg45, ↓hg47] at hK
              try have q0 := c_bookendref04_hasKey hvr2
              try have q1 := c_bookendref04_hasRange hvr6
              try have q2 := c_bookendref04_hasHandle hvr9
              all_goals exact rU
             | true =>
              replace hb14 := iteT hb14 hg47
              have hqb14 := Option.some.inj hb14
              subst hqb15
              subst hqb14
              simp (maxSteps := 1000000) only [↓reduceIte, reduceCtorEq, Nat.reduceEqDiff, Nat.reduceLT, Nat.reduceLeDiff, Nat.reduceAdd, Nat.reduceMul, Int.reduceToNat, push_cast, ↓hg16, ↓hg18, hvr6, ↓hg20, ↓hqb8, hvr9, ↓hg37, ↓hqb11, ↓hg45, ↓hg47]
              try simp only [↓hg16, ↓hg18, ↓hg20, ↓hqb8, ↓hg37, ↓hqb11, ↓hg45, ↓hg47] at hK
              try have q0 := c_bookendref04_hasKey hvr2
              try have q1 := c_bookendref04_hasRange hvr6
              try have q2 := c_bookendref04_hasHandle hvr9
              all_goals exact rU
            | true =>
             cases hqb13
           | true =>
            replace hb12 := iteT hb12 hg45
            have hqb12 := Option.some.inj hb12
            subst hqb12
            cases b13 with
            | false =>
             replace hb15 := iteF hb15 rfl
             obtain ⟨b14, hb14, hb15⟩ := bindS hb15
             have hqb15 := Option.some.inj hb15
             cases hg49 : (!(decide (c1.Kind = 3))) with
             | false =>
              replace hb14 := iteF hb14 hg49
              have hqb14 := Option.some.inj hb14
              subst hqb15
              subst hqb14
              simp (maxSteps := 1000000) only [↓reduceIte, reduceCtorEq, Nat.reduceEqDiff, Nat.reduceLT, Nat.reduceLeDiff, Nat.reduceAdd, Nat.reduceMul, Int.reduceToNat, push_cast, ↓hg16, ↓hg18, hvr6, ↓hg20, ↓hqb8, hvr9, ↓hg37, ↓hqb11, ↓hg45, ↓hqb13, ↓hg49]
              try simp only [↓hg16, ↓hg18, ↓hg20, ↓hqb8, ↓hg37, ↓hqb11, ↓hg45, ↓hqb13, ↓hg49] at hK
              try have q0 := c_bookendref04_hasKey hvr2
              try have q1 := c_bookendref04_hasRange hvr6
              try have q2 := c_bookendref04_hasHandle hvr9
              all_goals exact rU
             | true =>
              replace hb14 := iteT hb14 hg49
              have hqb14 := Option.some.inj hb14
              subst hqb15
              subst hqb14
              simp (maxSteps := 1000000) only [↓reduceIte, reduceCtorEq, Nat.reduceEqDiff, Nat.reduceLT, Nat.reduceLeDiff, Nat.reduceAdd, Nat.reduceMul, Int.reduceToNat, push_cast, ↓hg16, ↓hg18, hvr6, ↓hg20, ↓hqb8, hvr9, ↓hg37, ↓hqb11, ↓hg45, ↓hqb13, ↓hg49]
              try simp only [↓hg16, ↓hg18, ↓hg20, ↓hqb8, ↓hg37, ↓hqb11, ↓hg45, ↓hqb13, ↓hg49] at hK
              try have q0 := c_bookendref04_hasKey hvr2
              try have q1 := c_bookendref04_hasRange hvr6
              try have q2 := c_bookendref04_hasHandle hvr9
              all_goals exact rU
            | true =>
             replace hb15 := iteT hb15 rfl
             have hqb15 := Option.some.inj hb15
             subst hqb15
             simp (maxSteps := 1000000) only [↓reduceIte, reduceCtorEq, Nat.reduceEqDiff, Nat.reduceLT, Nat.reduceLeDiff, Nat.reduceAdd, Nat.reduceMul, Int.reduceToNat, push_cast, ↓hg16, ↓hg18, hvr6, ↓hg20, ↓hqb8, hvr9, ↓hg37, ↓hqb11, ↓hg45, ↓hqb13]
             try simp only [↓hg16, ↓hg18, ↓hg20, ↓hqb8, ↓hg37, ↓hqb11, ↓hg45, ↓hqb13] at hK
             try have q0 := c_bookendref04_hasKey hvr2
             try have q1 := c_bookendref04_hasRange hvr6
             try have q2 := c_bookendref04_hasHandle hvr9
             all_goals exact rU
          | true =>
           replace hb13 := iteT hb13 rfl
           have hqb13 := Option.some.inj hb13
           cases b13 with
           | false =>
            cases hqb13
           | true =>
            replace hb15 := iteT hb15 rfl
            have hqb15 := Option.some.inj hb15
            subst hqb15
            simp (maxSteps := 1000000) only [↓reduceIte, reduceCtorEq, Nat.reduceEqDiff, Nat.reduceLT, Nat.reduceLeDiff, Nat.reduceAdd, Nat.reduceMul, Int.reduceToNat, push_cast, ↓hg16, ↓hg18, hvr6, ↓hg20, ↓hqb8, hvr9, ↓hg37, ↓hqb11]
            try simp only [↓hg16, ↓hg18, ↓hg20, ↓hqb8, ↓hg37, ↓hqb11] at hK
            try have q0 := c_bookendref04_hasKey hvr2
            try have q1 := c_bookendref04_hasRange hvr6
            try have q2 := c_bookendref04_hasHandle hvr9
            all_goals exact rU
        | true =>
         replace hb11 := iteT hb11 rfl
         have hqb11 := Option.some.inj hb11
         cases b11 with
         | false =>
          cases hqb11
         | true =>
          replace hb13 := iteT hb13 rfl
          have hqb13 := Option.some.inj hb13
          cases b13 with
          | false =>
           cases hqb13
          | true =>
           replace hb15 := iteT hb15 rfl
           have hqb15 := Option.some.inj hb15
           subst hqb15
           simp (maxSteps := 1000000) only [↓reduceIte, reduceCtorEq, Nat.reduceEqDiff, Nat.reduceLT, Nat.reduceLeDiff, Nat.reduceAdd, Nat.reduceMul, Int.reduceToNat, push_cast, ↓hg16, ↓hg18, hvr6, ↓hg20, ↓hqb8]
           try simp only [↓hg16, ↓hg18, ↓hg20, ↓hqb8] at hK
           try have q0 := c_bookendref04_hasKey hvr2
           try have q1 := c_bookendref04_hasRange hvr6
           try have q2 := c_bookendref04_hasHandle hvr9
           all_goals exact rU
      | true =>
       cases hqb5
     | true =>
      replace hb4 := iteT hb4 hg18
      have hqb4 := Option.some.inj hb4
      subst hqb4
      cases b5 with
      | false =>
       replace hb8 := iteF hb8 rfl
       obtain ⟨vr6, hvr6, hb8⟩ := bindS hb8
       obtain ⟨b7, hb7, hb8⟩ := bindS hb8
       have hqb8 := Option.some.inj hb8
       cases hg54 : (!vr6) with
       | false =>
        replace hb7 := iteF hb7 hg54
        have hqb7 := Option.some.inj hb7
        subst hqb7
        cases b8 with
        | false =>
         replace hb11 := iteF hb11 rfl
         obtain ⟨vr9, hvr9, hb11⟩ := bindS hb11
         obtain ⟨b10, hb10, hb11⟩ := bindS hb11
         have hqb11 := Option.some.inj hb11
         cases hg56 : (!vr9) with
         | false =>
          replace hb10 := iteF hb10 hg56
          have hqb10 := Option.some.inj hb10
          subst hqb10
          cases b11 with
          | false =>
           replace hb13 := iteF hb13 rfl
           obtain ⟨b12, hb12, hb13⟩ := bindS hb13
           have hqb13 := Option.some.inj hb13
           cases hg58 : (!(decide (c1.Kind = 14))) with
           | false =>
            replace hb12 := iteF hb12 hg58
            have hqb12 := Option.some.inj hb12
            subst hqb12
            cases b13 with
            | false =>
             replace hb15 := iteF hb15 rfl
             obtain ⟨b14, hb14, hb15⟩ := bindS hb15
             have hqb15 := Option.some.inj hb15
             cases hg60 : (!(decide (c1.Kind = 3))) with
             | false =>
              replace hb14 := iteF hb14 hg60
              have hqb14 := Option.some.inj hb14
              subst hqb15
              subst hqb14
              simp (maxSteps := 1000000) only [↓reduceIte, reduceCtorEq, Nat.reduceEqDiff, Nat.reduceLT, Nat.reduceLeDiff, Nat.reduceAdd, Nat.reduceMul, Int.reduceToNat, push_cast, ↓hg16, ↓hg18, ↓hqb5, hvr6, ↓hg54, hvr9, ↓hg56, ↓hg58, ↓hg60]
              try simp only [↓hg16, ↓hg18, ↓hqb5, ↓hg54, ↓hg56, ↓hg58, ↓hg60] at hK
              try have q0 := c_bookendref04_hasKey hvr2
              try have q1 := c_bookendref04_hasRange hvr6
              try have q2 := c_bookendref04_hasHandle hvr9
              all_goals exact rU
             | true =>
              replace hb14 := iteT hb14 hg60
              have hqb14 := Option.some.inj hb14
              subst hqb15
              subst hqb14
              simp (maxSteps := 1000000) only [↓reduceIte, reduceCtorEq, Nat.reduceEqDiff, Nat.reduceLT, Nat.reduceLeDiff, Nat.reduceAdd, Nat.reduceMul, Int.reduceToNat, push_cast, ↓hg16, ↓hg18, ↓hqb5, hvr6, ↓hg54, hvr9, ↓hg56, ↓hg58, ↓hg60]
              try simp only [↓hg16, ↓hg18, ↓hqb5, ↓hg54, ↓hg56, ↓hg58, ↓hg60] at hK
              try have q0 := c_bookendref04_hasKey hvr2
              try have q1 := c_bookendref04_hasRange hvr6
              try have q2 := c_bookendref04_hasHandle hvr9
              all_goals exact rU
            | true =>
             cases hqb13
           | true =>
            replace hb12 := iteT hb12 hg58
            have hqb12 := Option.some.inj hb12
            subst hqb12
            cases b13 with
            | false =>
             replace hb15 := iteF hb15 rfl
             obtain ⟨b14, hb14, hb15⟩ := bindS hb15
             have hqb15 := Option.some.inj hb15
             cases hg62 : (!(decide (c1.Kind = 3))) with
             | false =>
              replace hb14 := iteF hb14 hg62
              have hqb14 := Option.some.inj hb14
              subst hqb15
              subst hqb14
              simp (maxSteps := 1000000) only [↓reduceIte, reduceCtorEq, Nat.reduceEqDiff, Nat.reduceLT, Nat.reduceLeDiff, Nat.reduceAdd, Nat.reduceMul, Int.reduceToNat, push_cast, ↓hg16, ↓hg18, ↓hqb5, hvr6, ↓hg54, hvr9, ↓hg56, ↓hg58, ↓hqb13, ↓hg62]
              try simp only [↓hg16, ↓hg18, ↓hqb5, ↓hg54, ↓hg56, ↓hg58, ↓hqb13, ↓hg62] at hK
              try have q0 := c_bookendref04_hasKey hvr2
              try have q1 := c_bookendref04_hasRange hvr6
              try have q2 := c_bookendref04_hasHandle hvr9
              all_goals exact rU
             | true =>
              replace hb14 := iteT hb14 hg62
              have hqb14 := Option.some.inj hb14
              subst hqb15
              subst hqb14
              simp (maxSteps := 1000000) only [↓reduceIte, reduceCtorEq, Nat.reduceEqDiff, Nat.reduceLT, Nat.reduceLeDiff, Nat.reduceAdd, Nat.reduceMul, Int.reduceToNat, push_cast, ↓hg16, ↓hg18, ↓hqb5, hvr6, ↓hg54, hvr9, ↓hg56, ↓hg58, ↓hqb13, ↓hg62]
              try simp only [↓hg16, ↓hg18, ↓hqb5, ↓hg54, ↓hg56, ↓hg58, ↓hqb13, ↓hg62] at hK
              try have q0 := c_bookendref04_hasKey hvr2
              try have q1 := c_bookendref04_hasRange hvr6
              try have q2 := c_bookendref04_hasHandle hvr9
              all_goals exact rU
            | true =>
             replace hb15 := iteT hb15 rfl
             have hqb15 := Option.some.inj hb15
             subst hqb15
             simp (maxSteps := 1000000) only [↓reduceIte, reduceCtorEq, Nat.reduceEqDiff, Nat.reduceLT, Nat.reduceLeDiff, Nat.reduceAdd, Nat.reduceMul, Int.reduceToNat, push_cast, ↓hg16, ↓hg18, ↓hqb5, hvr6, ↓hg54, hvr9, ↓hg56, ↓hg58, ↓hqb13]
             try simp only [↓hg16, ↓hg18, ↓hqb5, ↓hg54, ↓hg56, ↓hg58, ↓hqb13] at hK
             try have q0 := c_bookendref04_hasKey hvr2
             try have q1 := c_bookendref04_hasRange hvr6
             try have q2 := c_bookendref04_hasHandle hvr9
             all_goals exact rU
          | true =>
           cases hqb11
         | true =>
          replace hb10 := iteT hb10 hg56
          have hqb10 := Option.some.inj hb10
          subst hqb10
          cases b11 with
          | false =>
           replace hb13 := iteF hb13 rfl
           obtain ⟨b12, hb12, hb13⟩ := bindS hb13
           have hqb13 := Option.some.inj hb13
           cases hg64 : (!(decide (c1.Kind = 14))) with
           | false =>
            replace hb12 := iteF hb12 hg64
            have hqb12 := Option.some.inj hb12
            subst hqb12
            cases b13 with
            | false =>
             replace hb15 := iteF hb15 rfl
             obtain ⟨b14, hb14, hb15⟩ := bindS hb15
             have hqb15 := Option.some.inj hb15
             cases hg66 : (!(decide (c1.Kind = 3))) with
             | false =>
              replace hb14 := iteF hb14 hg66
              have hqb14 := Option.some.inj hb14
              subst hqb15
              subst hqb14
              simp (maxSteps := 1000000) only [↓reduceIte, reduceCtorEq, Nat.reduceEqDiff, Nat.reduceLT, Nat.reduceLeDiff, Nat.reduceAdd, Nat.reduceMul, Int.reduceToNat, push_cast, ↓hg16, ↓hg18, ↓hqb5, hvr6, ↓hg54, hvr9, ↓hg56, ↓hqb11, ↓hg64, ↓hg66]
              try simp only [↓hg16, ↓hg18, ↓hqb5, ↓hg54, ↓hg56, ↓hqb11, ↓hg64, ↓hg66] at hK
              try have q0 := c_bookendref04_hasKey hvr2
              try have q1 := c_bookendref04_hasRange hvr6
              try have q2 := c_bookendref04_hasHandle hvr9
              all_goals exact rU
             | true =>
              replace hb14 := iteT hb14 hg66
              have hqb14 := Option.some.inj hb14
              subst hqb15
              subst hqb14
              simp (maxSteps := 1000000) only [↓reduceIte, reduceCtorEq, Nat.reduceEqDiff, Nat.reduceLT, Nat.reduceLeDiff, Nat.reduceAdd, Nat.reduceMul, Int.reduceToNat, push_cast, ↓hg16, ↓hg18, ↓hqb5, hvr6, ↓hg54, hvr9, ↓hg56, ↓hqb11, ↓hg64, ↓hg66]
              try simp only [↓hg16, ↓hg18, ↓hqb5, ↓hg54, ↓hg56, ↓hqb11, ↓hg64, ↓hg66] at hK
              try have q0 := c_bookendref04_hasKey hvr2
              try have q1 := c_bookendref04_hasRange hvr6
              try have q2 := c_bookendref04_hasHandle hvr9
              all_goals exact rU
            | true =>
             cases hqb13
           | true =>
            replace hb12 := iteT hb12 hg64
            have hqb12 := Option.some.inj hb12
            subst hqb12
            cases b13 with
            | false =>
             replace hb15 := iteF hb15 rfl
             obtain ⟨b14, hb14, hb15⟩ := bindS hb15
             have hqb15 := Option.some.inj hb15
             cases hg68 : (!(decide (c1.Kind = 3))) with
             | false =>
              replace hb14 := iteF hb14 hg68
              have hqb14 := Option.some.inj hb14
              subst hqb15
              subst hqb14
              simp (maxSteps := 1000000) only [↓reduceIte, reduceCtorEq, Nat.reduceEqDiff, Nat.reduceLT, Nat.reduceLeDiff, Nat.reduceAdd, Nat.reduceMul, Int.reduceToNat, push_cast, ↓hg16, ↓hg18, ↓hqb5, hvr6, ↓hg54, hvr9, ↓hg56, ↓hqb11, ↓hg64, ↓hqb13, ↓hg68]
              try simp only [↓hg16, ↓hg18, ↓hqb5, ↓hg54, ↓hg56, ↓hqb11, ↓hg64, ↓hqb13, ↓hg68] at hK
              try have q0 := c_bookendref04_hasKey hvr2
              try have q1 := c_bookendref04_hasRange hvr6
              try have q2 := c_bookendref04_hasHandle hvr9
              all_goals exact rU
             | true =>
              replace hb14 := iteT hb14 hg68
              have hqb14 := Option.some.inj hb14
              subst hqb15
              subst hqb14
              simp (maxSteps := 1000000) only [↓reduceIte, reduceCtorEq, Nat.reduceEqDiff, Nat.reduceLT, Nat.reduceLeDiff, Nat.reduceAdd, Nat.reduceMul, Int.reduceToNat, push_cast, ↓hg16, ↓hg18, ↓hqb5, hvr6, ↓hg54, hvr9, ↓hg56, ↓hqb11, ↓hg64, ↓hqb13, ↓hg68]
              try simp only [↓hg16, ↓hg18, ↓hqb5, ↓hg54, ↓hg56, ↓hqb11, ↓hg64, ↓hqb13, ↓hg68] at hK
              try have q0 := c_bookendref04_hasKey hvr2
              try have q1 := c_bookendref04_hasRange hvr6
              try have q2 := c_bookendref04_hasHandle hvr9
              all_goals exact rU
            | true =>
             replace hb15 := iteT hb15 rfl
             have hqb15 := Option.some.inj hb15
             subst hqb15
             simp (maxSteps := 1000000) only [↓reduceIte, reduceCtorEq, Nat.reduceEqDiff, Nat.reduceLT, Nat.reduceLeDiff, Nat.reduceAdd, Nat.reduceMul, Int.reduceToNat, push_cast, ↓hg16, ↓hg18, ↓hqb5, hvr6, ↓hg54, hvr9, ↓hg56, ↓hqb11, ↓hg64, ↓hqb13]
             try simp only [↓hg16, ↓hg18, ↓hqb5, ↓hg54, ↓hg56, ↓hqb11, ↓hg64, ↓hqb13] at hK
             try have q0 := c_bookendref04_hasKey hvr2
             try have q1 := c_bookendref04_hasRange hvr6
             try have q2 := c_bookendref04_hasHandle hvr9
             all_goals exact rU
          | true =>
           replace hb13 := iteT hb13 rfl
           have hqb13 := Option.some.inj hb13
           cases b13 with
           | false =>
            cases hqb13
           | true =>
            replace hb15 := iteT hb15 rfl
            have hqb15 := Option.some.inj hb15
            subst hqb15
            simp (maxSteps := 1000000) only [↓reduceIte, reduceCtorEq, Nat.reduceEqDiff, Nat.reduceLT, Nat.reduceLeDiff, Nat.reduceAdd, Nat.reduceMul, Int.reduceToNat, push_cast, ↓hg16, ↓hg18, ↓hqb5, hvr6, ↓hg54, hvr9, ↓hg56, ↓hqb11]
            try simp only [↓hg16, ↓hg18, ↓hqb5, ↓hg54, ↓hg56, ↓hqb11] at hK
            try have q0 := c_bookendref04_hasKey hvr2
            try have q1 := c_bookendref04_hasRange hvr6
            try have q2 := c_bookendref04_hasHandle hvr9
            all_goals exact rU
        | true =>
         cases hqb8
       | true =>
        replace hb7 := iteT hb7 hg54
        have hqb7 := Option.some.inj hb7
        subst hqb7
        cases b8 with
        | false =>
         replace hb11 := iteF hb11 rfl
         obtain ⟨vr9, hvr9, hb11⟩ := bindS hb11
         obtain ⟨b10, hb10, hb11⟩ := bindS hb11
         have hqb11 := Option.some.inj hb11
         cases hg71 : (!vr9) with
         | false =>
          replace hb10 := iteF hb10 hg71
          have hqb10 := Option.some.inj hb10
          subst hqb10
          cases b11 with
          | false =>
           replace hb13 := iteF hb13 rfl
           obtain ⟨b12, hb12, hb13⟩ := bindS hb13
           have hqb13 := Option.some.inj hb13
           cases hg73 : (!(decide (c1.Kind = 14))) with
           | false =>
            replace hb12 := iteF hb12 hg73
            have hqb12 := Option.some.inj hb12
            subst hqb12
            cases b13 with
            | false =>
             replace hb15 := iteF hb15 rfl
             obtain ⟨b14, hb14, hb15⟩ := bindS hb15
             have hqb15 := Option.some.inj hb15
             cases hg75 : (!(decide (c1.Kind = 3))) with
             | false =>
              replace hb14 := iteF hb14 hg75
              have hqb14 := Option.some.inj hb14
              subst hqb15
              subst hqb14
              simp (maxSteps := 1000000) only [↓reduceIte, reduceCtorEq, Nat.reduceEqDiff, Nat.reduceLT, Nat.reduceLeDiff, Nat.reduceAdd, Nat.reduceMul, Int.reduceToNat, push_cast, ↓hg16, ↓hg18, ↓hqb5, hvr6, ↓hg54, ↓hqb8, hvr9, ↓hg71, ↓hg73, ↓hg75]
              try simp only [↓hg16, ↓hg18, ↓hqb5, ↓hg54, ↓hqb8, ↓hg71, ↓hg73, ↓hg75] at hK
              try have q0 := c_bookendref04_hasKey hvr2
              try have q1 := c_bookendref04_hasRange hvr6
              try have q2 := c_bookendref04_hasHandle hvr9
              all_goals exact rU
             | true =>
              replace hb14 := iteT hb14 hg75
              have hqb14 := Option.some.inj hb14
              subst hqb15
              subst hqb14
              simp (maxSteps := 1000000) only [↓reduceIte, reduceCtorEq, Nat.reduceEqDiff, Nat.reduceLT, Nat.reduceLeDiff, Nat.reduceAdd, Nat.reduceMul, Int.reduceToNat, push_cast, ↓hg16, ↓hg18, ↓hqb5, hvr6, ↓hg54, ↓hqb8, hvr9, ↓hg71, ↓hg73, ↓hg75]
              try simp only [↓hg16, ↓hg18, ↓hqb5, ↓hg54, ↓hqb8, ↓hg71, ↓hg73, ↓hg75] at hK
              try have q0 := c_bookendref04_hasKey hvr2
              try have q1 := c_bookendref04_hasRange hvr6
              try have q2 := c_bookendref04_hasHandle hvr9
              all_goals exact rU
            | true =>
             cases hqb13
           | true =>
            replace hb12 := iteT hb12 hg73
            have hqb12 := Option.some.inj hb12
            subst hqb12
            cases b13 with
            | false =>
             replace hb15 := iteF hb15 rfl
             obtain ⟨b14, hb14, hb15⟩ := bindS hb15
             have hqb15 := Option.some.inj hb15
             cases hg77 : (!(decide (c1.Kind = 3))) with
             | false =>
              replace hb14 := iteF hb14 hg77
              have hqb14 := Option.some.inj hb14
              subst hqb15
              subst hqb14
              simp (maxSteps := 1000000) only [↓reduceIte, reduceCtorEq, Nat.reduceEqDiff, Nat.reduceLT, Nat.reduceLeDiff, Nat.reduceAdd, Nat.reduceMul, Int.reduceToNat, push_cast, ↓hg16, ↓hg18, ↓hqb5, hvr6, ↓hg54, ↓hqb8, hvr9, ↓hg71, ↓hg73, ↓hqb13, ↓hg77]
              try simp only [↓hg16, ↓hg18, ↓hqb5, ↓hg54, ↓hqb8, ↓hg71, ↓hg73, ↓hqb13, ↓hg77] at hK
              try have q0 := c_bookendref04_hasKey hvr2
              try have q1 := c_bookendref04_hasRange hvr6
              try have q2 := c_bookendref04_hasHandle hvr9
              all_goals exact rU
             | true =>
              replace hb14 := iteT hb14 hg77
              have hqb14 := Option.some.inj hb14
              subst hqb15
              subst hqb14
              simp (maxSteps := 1000000) only [↓reduceIte, reduceCtorEq, Nat.reduceEqDiff, Nat.reduceLT, Nat.reduceLeDiff, Nat.reduceAdd, Nat.reduceMul, Int.reduceToNat, push_cast, ↓hg16, ↓hg18, ↓hqb5, hvr6, ↓hg54, ↓hqb8, hvr9, ↓hg71, ↓hg73, ↓hqb13, ↓hg77]
              try simp only [↓hg16, ↓hg18, ↓hqb5, ↓hg54, ↓hqb8, ↓hg71, ↓hg73, ↓hqb13, ↓hg77] at hK
              try have q0 := c_bookendref04_hasKey hvr2
              try have q1 := c_bookendref04_hasRange hvr6
              try have q2 := c_bookendref04_hasHandle hvr9
              all_goals exact rU
            | true =>
             replace hb15 := iteT hb15 rfl
             have hqb15 := Option.some.inj hb15
             subst hqb15
             simp (maxSteps := 1000000) only [↓reduceIte, reduceCtorEq, Nat.reduceEqDiff, Nat.reduceLT, Nat.reduceLeDiff, Nat.reduceAdd, Nat.reduceMul, Int.reduceToNat, push_cast, ↓hg16, ↓hg18, ↓hqb5, hvr6, ↓hg54, ↓hqb8, hvr9, ↓hg71, ↓hg73, ↓hqb13]
             try simp only [↓hg16, ↓hg18, ↓hqb5, ↓hg54, ↓hqb8, ↓hg71, ↓hg73, ↓hqb13] at hK
             try have q0 := c_bookendref04_hasKey hvr2
             try have q1 := c_bookendref04_hasRange hvr6
             try have q2 := c_bookendref04_hasHandle hvr9
             all_goals exact rU
          | true =>
           cases hqb11
         | true =>
          replace hb10 := iteT hb10 hg71
          have hqb10 := Option.some.inj hb10
          subst hqb10
          cases b11 with
          | false =>
           replace hb13 := iteF hb13 rfl
           obtain ⟨b12, hb12, hb13⟩ := bindS hb13
           have hqb13 := Option.some.inj hb13
           cases hg79 : (!(decide (c1.Kind = 14))) with
           | false =>
            replace hb12 := iteF hb12 hg79
            have hqb12 := Option.some.inj hb12
            subst hqb12
            cases b13 with
            | false =>
             replace hb15 := iteF hb15 rfl
             obtain ⟨b14, hb14, hb15⟩ := bindS hb15
             have hqb15 := Option.some.inj hb15
             cases hg81 : (!(decide (c1.Kind = 3))) with
             | false =>
              replace hb14 := iteF hb14 hg81
              have hqb14 := Option.some.inj hb14
              subst hqb15
              subst hqb14
              simp (maxSteps := 1000000) only [↓reduceIte, reduceCtorEq, Nat.reduceEqDiff, Nat.reduceLT, Nat.reduceLeDiff, Nat.reduceAdd, Nat.reduceMul, Int.reduceToNat, push_cast, ↓hg16, ↓hg18, ↓hqb5, hvr6, ↓hg54, ↓hqb8, hvr9, ↓hg71, ↓hqb11, ↓hg79, ↓hg81]
              try simp only [↓hg16, ↓hg18, ↓hqb5, ↓hg54, ↓hqb8, ↓hg71, ↓hqb11, ↓hg79, ↓hg81] at hK
              try have q0 := c_bookendref04_hasKey hvr2
              try have q1 := c_bookendref04_hasRange hvr6
              try have q2 := c_bookendref04_hasHandle hvr9
              all_goals exact rU
             | true =>
              replace hb14 := iteT hb14 hg81
              have hqb14 := Option.some.inj hb14
              subst hqb15
              subst hqb14
              simp (maxSteps := 1000000) only [↓reduceIte, reduceCtorEq, Nat.reduceEqDiff, Nat.reduceLT, Nat.reduceLeDiff, Nat.reduceAdd, Nat.reduceMul, Int.reduceToNat, push_cast, ↓hg16, ↓hg18, ↓hqb5, hvr6, ↓hg54, ↓hqb8, hvr9, ↓hg71, ↓hqb11, ↓hg79, ↓hg81]
              try simp only [↓hg16, ↓hg18, ↓hqb5, ↓hg54, ↓hqb8, ↓hg71, ↓hqb11, ↓hg79, ↓hg81] at hK
              try have q0 := c_bookendref04_hasKey hvr2
              try have q1 := c_bookendref04_hasRange hvr6
              try have q2 := c_bookendref04_hasHandle hvr9
              all_goals exact rU
            | true =>
             cases hqb13
           | true =>
            replace hb12 := iteT hb12 hg79
            have hqb12 := Option.some.inj hb12
            subst hqb12
            cases b13 with
            | false =>
             replace hb15 := iteF hb15 rfl
             obtain ⟨b14, hb14, hb15⟩ := bindS hb15
             have hqb15 := Option.some.inj hb15
             cases hg83 : (!(decide (c1.Kind = 3))) with
             | false =>
              replace hb14 := iteF hb14 hg83
              have hqb14 := Option.some.inj hb14
              subst hqb15
              subst hqb14
              simp (maxSteps := 1000000) only [↓reduceIte, reduceCtorEq, Nat.reduceEqDiff, Nat.reduceLT, Nat.reduceLeDiff, Nat.reduceAdd, Nat.reduceMul, Int.reduceToNat, push_cast, ↓hg16, ↓hg18, ↓hqb5, hvr6, ↓hg54, ↓hqb8, hvr9, ↓hg71, ↓hqb11, ↓hg79, ↓hqb13, ↓hg83]
              try simp only [↓hg16, ↓hg18, ↓hqb5, ↓hg54, ↓hqb8, ↓hg71, ↓hqb11, ↓hg79, ↓hqb13, ↓hg83] at hK
              try have q0 := c_bookendref04_hasKey hvr2
              try have q1 := c_bookendref04_hasRange hvr6
              try have q2 := c_bookendref04_hasHandle hvr9
              all_goals exact rU
             | true =>
              replace hb14 := iteT hb14 hg83
              have hqb14 := Option.some.inj hb14
              subst hqb15
              subst hqb14
              simp (maxSteps := 1000000) only [↓reduceIte, reduceCtorEq, Nat.reduceEqDiff, Nat.reduceLT, Nat.reduceLeDiff, Nat.reduceAdd, Nat.reduceMul, Int.reduceToNat, push_cast, ↓hg16, ↓hg18, ↓hqb5, hvr6, ↓hg54, ↓hqb8, hvr9, ↓hg71, ↓hqb11, ↓hg79, ↓hqb13, ↓hg83]
              try simp only [↓hg16, ↓hg18, ↓hqb5, ↓hg54, ↓hqb8, ↓hg71, ↓hqb11, ↓hg79, ↓hqb13, ↓hg83] at hK
              try have q0 := c_bookendref04_hasKey hvr2
              try have q1 := c_bookendref04_hasRange hvr6
              try have q2 := c_bookendref04_hasHandle hvr9
              all_goals exact rU
            | true =>
             replace hb15 := iteT hb15 rfl
             have hqb15 := Option.some.inj hb15
             subst hqb15
             simp (maxSteps := 1000000) only [↓reduceIte, reduceCtorEq, Nat.reduceEqDiff, Nat.reduceLT, Nat.reduceLeDiff, Nat.reduceAdd, Nat.reduceMul, Int.reduceToNat, push_cast, ↓hg16, ↓hg18, ↓hqb5, hvr6, ↓hg54, ↓hqb8, hvr9, ↓hg71, ↓hqb11, ↓hg79, ↓hqb13]
             try simp only [↓hg16, ↓hg18, ↓hqb5, ↓hg54, ↓hqb8, ↓hg71, ↓hqb11, ↓hg79, ↓hqb13] at hK
             try have q0 := c_bookendref04_hasKey hvr2
             try have q1 := c_bookendref04_hasRange hvr6
             try have q2 := c_bookendref04_hasHandle hvr9
             all_goals exact rU
          | true =>
           replace hb13 := iteT hb13 rfl
           have hqb13 := Option.some.inj hb13
           cases b13 with
           | false =>
            cases hqb13
           | true =>
            replace hb15 := iteT hb15 rfl
            have hqb15 := Option.some.inj hb15
            subst hqb15
            simp (maxSteps := 1000000) only [↓reduceIte, reduceCtorEq, Nat.reduceEqDiff, Nat.reduceLT, Nat.reduceLeDiff, Nat.reduceAdd, Nat.reduceMul, Int.reduceToNat, push_cast, ↓hg16, ↓hg18, ↓hqb5, hvr6, ↓hg54, ↓hqb8, hvr9, ↓hg71, ↓hqb11]
            try simp only [↓hg16, ↓hg18, ↓hqb5, ↓hg54, ↓hqb8, ↓hg71, ↓hqb11] at hK
            try have q0 := c_bookendref04_hasKey hvr2
            try have q1 := c_bookendref04_hasRange hvr6
            try have q2 := c_bookendref04_hasHandle hvr9
            all_goals exact rU
        | true =>
         replace hb11 := iteT hb11 rfl
         have hqb11 := Option.some.inj hb11
         cases b11 with
         | false =>
          cases hqb11
         | true =>
          replace hb13 := iteT hb13 rfl
          have hqb13 := Option.some.inj hb13
          cases b13 with
          | false =>
           cases hqb13
          | true =>
           replace hb15 := iteT hb15 rfl
           have hqb15 := Option.some.inj hb15
           subst hqb15
           simp (maxSteps := 1000000) only [↓reduceIte, reduceCtorEq, Nat.reduceEqDiff, Nat.reduceLT, Nat.reduceLeDiff, Nat.reduceAdd, Nat.reduceMul, Int.reduceToNat, push_cast, ↓hg16, ↓hg18, ↓hqb5, hvr6, ↓hg54, ↓hqb8]
           try simp only [↓hg16, ↓hg18, ↓hqb5, ↓hg54, ↓hqb8] at hK
           try have q0 := c_bookendref04_hasKey hvr2
           try have q1 := c_bookendref04_hasRange hvr6
           try have q2 := c_bookendref04_hasHandle hvr9
           all_goals exact rU
      | true =>
       replace hb8 := iteT hb8 rfl
       have hqb8 := Option.some.inj hb8
       cases b8 with
       | false =>
        cases hqb8
       | true =>
        replace hb11 := iteT hb11 rfl
        have hqb11 := Option.some.inj hb11
        cases b11 with
        | false =>
         cases hqb11
        | true =>
         replace hb13 := iteT hb13 rfl
         have hqb13 := Option.some.inj hb13
         cases b13 with
         | false =>
          cases hqb13
         | true =>
          replace hb15 := iteT hb15 rfl
          have hqb15 := Option.some.inj hb15
          subst hqb15
          simp (maxSteps := 1000000) only [↓reduceIte, reduceCtorEq, Nat.reduceEqDiff, Nat.reduceLT, Nat.reduceLeDiff, Nat.reduceAdd, Nat.reduceMul, Int.reduceToNat, push_cast, ↓hg16, ↓hg18, ↓hqb5]
          try simp only [↓hg16, ↓hg18, ↓hqb5] at hK
          try have q0 := c_bookendref04_hasKey hvr2
          try have q1 := c_bookendref04_hasRange hvr6
          try have q2 := c_bookendref04_hasHandle hvr9
          all_goals exact rU
    | true =>
     cases hqb3
   | true =>
    replace hb3 := iteT hb3 hg16
    have hqb3 := Option.some.inj hb3
    cases b3 with
    | false =>
     replace hb5 := iteF hb5 rfl
     obtain ⟨b4, hb4, hb5⟩ := bindS hb5
     have hqb5 := Option.some.inj hb5
     cases hg91 : (!(decide (c1.Kind = 1))) with
     | false =>
      replace hb4 := iteF hb4 hg91
      have hqb4 := Option.some.inj hb4
      subst hqb4
      cases b5 with
      | false =>
       replace hb8 := iteF hb8 rfl
       obtain ⟨vr6, hvr6, hb8⟩ := bindS hb8
       obtain ⟨b7, hb7, hb8⟩ := bindS hb8
       have hqb8 := Option.some.inj hb8
       cases hg93 : (!vr6) with
       | false =>
        replace hb7 := iteF hb7 hg93
        have hqb7 := Option.some.inj hb7
        subst hqb7
        cases b8 with
        | false =>
         replace hb11 := iteF hb11 rfl
         obtain ⟨vr9, hvr9, hb11⟩ := bindS hb11
         obtain ⟨b10, hb10, hb11⟩ := bindS hb11
         have hqb11 := Option.some.inj hb11
         cases hg95 : (!vr9) with
         | false =>
          replace hb10 := iteF hb10 hg95
          have hqb10 := Option.some.inj hb10
          subst hqb10
          cases b11 with
          | false =>
           replace hb13 := iteF hb13 rfl
           obtain ⟨b12, hb12, hb13⟩ := bindS hb13
           have hqb13 := Option.some.inj hb13
           cases hg97 : (!(decide (c1.Kind = 14))) with
           | false =>
            replace hb12 := iteF hb12 hg97
            have hqb12 := Option.some.inj hb12
            subst hqb12
            cases b13 with
            | false =>
             replace hb15 := iteF hb15 rfl
             obtain ⟨b14, hb14, hb15⟩ := bindS hb15
             have hqb15 := Option.some.inj hb15
             cases hg99 : (!(decide (c1.Kind = 3))) with
             | false =>
              replace hb14 := iteF hb14 hg99
              have hqb14 := Option.some.inj hb14
              subst hqb15
              subst hqb14
              simp (maxSteps := 1000000) only [↓reduceIte, reduceCtorEq, Nat.reduceEqDiff, Nat.reduceLT, Nat.reduceLeDiff, Nat.reduceAdd, Nat.reduceMul, Int.reduceToNat, push_cast, ↓hg16, ↓hqb3, ↓hg91, hvr6, ↓hg93, hvr9, ↓hg95, ↓hg97, ↓hg99]
              try simp only [↓hg16, ↓hqb3, ↓hg91, ↓hg93, ↓hg95, ↓hg97, ↓hg99] at hK
              try have q0 := c_bookendref04_hasKey hvr2
              try have q1 := c_bookendref04_hasRange hvr6
              try have q2 := c_bookendref04_hasHandle hvr9
              all_goals exact rU
             | true =>
              replace hb14 := iteT hb14 hg99
              have hqb14 := Option.some.inj hb14
              subst hqb15
              subst hqb14
              simp (maxSteps := 1000000) only [↓reduceIte, reduceCtorEq, Nat.reduceEqDiff, Nat.reduceLT, Nat.reduceLeDiff, Nat.reduceAdd, Nat.reduceMul, Int.reduceToNat, push_cast, ↓hg16, ↓hqb3, ↓hg91, hvr6, ↓hg93, hvr9, ↓hg95, ↓hg97, ↓hg99]
              try simp only [↓hg16, ↓hqb3, ↓hg91, ↓hg93, ↓hg95, ↓hg97, ↓hg99] at hK
              try have q0 := c_bookendref04_hasKey hvr2
              try have q1 := c_bookendref04_hasRange hvr6
              try have q2 := c_bookendref04_hasHandle hvr9
              all_goals exact rU
            | true =>
             cases hqb13
           | true =>
            replace hb12 := iteT hb12 hg97
            have hqb12 := Option.some.inj hb12
            subst hqb12
            cases b13 with
            | false =>
             replace hb15 := iteF hb15 rfl
             obtain ⟨b14, hb14, hb15⟩ := bindS hb15
             have hqb15 := Option.some.inj hb15
             cases hg101 : (!(decide (c1.Kind = 3))) with
             | false =>
              replace hb14 := iteF hb14 hg101
              have hqb14 := Option.some.inj hb14
              subst hqb15
              subst hqb14
              simp (maxSteps := 1000000) only [↓reduceIte, reduceCtorEq, Nat.reduceEqDiff, Nat.reduceLT, Nat.reduceLeDiff, Nat.reduceAdd, Nat.reduceMul, Int.reduceToNat, push_cast, ↓hg16, ↓hqb3, ↓hg91, hvr6, ↓hg93, hvr9, ↓hg95, ↓hg97, ↓hqb13, ↓hg101]
              try simp only [↓hg16, ↓hqb3, ↓hg91, ↓hg93, ↓hg95, ↓hg97, ↓hqb13, ↓hg101] at hK
              try have q0 := c_bookendref04_hasKey hvr2
              try have q1 := c_bookendref04_hasRange hvr6
              try have q2 := c_bookendref04_hasHandle hvr9
              all_goals exact rU
             | true =>
              replace hb14 := iteT hb14 hg101
              have hqb14 := Option.some.inj hb14
              subst hqb15
              subst hqb14
              simp (maxSteps := 1000000) only [↓reduceIte, reduceCtorEq, Nat.reduceEqDiff, Nat.reduceLT, Nat.reduceLeDiff, Nat.reduceAdd, Nat.reduceMul, Int.reduceToNat, push_cast, ↓hg16, ↓hqb3, ↓hg91, hvr6, ↓hg93, hvr9, ↓hg95, ↓hg97, ↓hqb13, ↓hg101]
              try simp only [↓hg16, ↓hqb3, ↓hg91, ↓hg93, ↓hg95, ↓hg97, ↓hqb13, ↓hg101] at hK
              try have q0 := c_bookendref04_hasKey hvr2
              try have q1 := c_bookendref04_hasRange hvr6
              try have q2 := c_bookendref04_hasHandle hvr9
              all_goals exact rU
            | true =>
             replace hb15 := iteT hb15 rfl
             have hqb15 := Option.some.inj hb15
             subst hqb15
             simp (maxSteps := 1000000) only [↓reduceIte, reduceCtorEq, Nat.reduceEqDiff, Nat.reduceLT, Nat.reduceLeDiff, Nat.reduceAdd, Nat.reduceMul, Int.reduceToNat, push_cast, ↓hg16, ↓hqb3, ↓hg91, hvr6, ↓hg93, hvr9, ↓hg95, ↓hg97, ↓hqb13]
             try simp only [↓hg16, ↓hqb3, ↓hg91, ↓hg93, ↓hg95, ↓hg97, ↓hqb13] at hK
             try have q0 := c_bookendref04_hasKey hvr2
             try have q1 := c_bookendref04_hasRange hvr6
             try have q2 := c_bookendref04_hasHandle hvr9
             all_goals exact rU
          | true =>
           cases hqb11
         | true =>
          replace hb10 := iteT hb10 hg95
          have hqb10 := Option.some.inj hb10
          subst hqb10
          cases b11 with
          | false =>
           replace hb13 := iteF hb13 rfl
           obtain ⟨b12, hb12, hb13⟩ := bindS hb13
           have hqb13 := Option.some.inj hb13
           cases hg103 : (!(decide (c1.Kind = 14))) with
           | false =>
            replace hb12 := iteF hb12 hg103
            have hqb12 := Option.some.inj hb12
            subst hqb12
            cases b13 with
            | false =>
             replace hb15 := iteF hb15 rfl
             obtain ⟨b14, hb14, hb15⟩ := bindS hb15
             have hqb15 := Option.some.inj hb15
             cases hg105 : (!(decide (c1.Kind = 3))) with
             | false =>
              replace hb14 := iteF hb14 hg105
              have hqb14 := Option.some.inj hb14
              subst hqb15
              subst hqb14
              simp (maxSteps := 1000000) only [↓reduceIte, reduceCtorEq, Nat.reduceEqDiff, Nat.reduceLT, Nat.reduceLeDiff, Nat.reduceAdd, Nat.reduceMul, Int.reduceToNat, push_cast, ↓hg16, ↓hqb3, ↓hg91, hvr6, ↓hg93, hvr9, ↓hg95, ↓hqb11, ↓hg103, ↓hg105]
              try simp only [↓hg16, ↓hqb3, ↓hg91, ↓hg93, ↓hg95, ↓hqb11, ↓hg103, ↓hg105] at hK
              try have q0 := c_bookendref04_hasKey hvr2
              try have q1 := c_bookendref04_hasRange hvr6
              try have q2 := c_bookendref04_hasHandle hvr9
              all_goals exact rU
             | true =>
              replace hb14 := iteT hb14 hg105
              have hqb14 := Option.some.inj hb14
              subst hqb15
              subst hqb14
              simp (maxSteps := 1000000) only [↓reduceIte, reduceCtorEq, Nat.reduceEqDiff, Nat.reduceLT, Nat.reduceLeDiff, Nat.reduceAdd, Nat.reduceMul, Int.reduceToNat, push_cast, ↓hg16, ↓hqb3, ↓hg91, hvr6, ↓hg93, hvr9, ↓hg95, ↓hqb11, ↓hg103, ↓hg105]
              try simp only [↓hg16, ↓hqb3, ↓hg91, ↓hg93, ↓hg95, ↓hqb11, ↓hg103, ↓hg105] at hK
              try have q0 := c_bookendref04_hasKey hvr2
              try have q1 := c_bookendref04_hasRange hvr6
              try have q2 := c_bookendref04_hasHandle hvr9
              all_goals exact rU
            | true =>
             cases hqb13
           | true =>
            replace hb12 := iteT hb12 hg103
            have hqb12 := Option.some.inj hb12
            subst hqb12
            cases b13 with
            | false =>
             replace hb15 := iteF hb15 rfl
             obtain ⟨b14, hb14, hb15⟩ := bindS hb15
             have hqb15 := Option.some.inj hb15
             cases hg107 : (!(decide (c1.Kind = 3))) with
             | false =>
              replace hb14 := iteF hb14 hg107
              have hqb14 := Option.some.inj hb14
              subst hqb15
              subst hqb14
              simp (maxSteps := 1000000) only [↓reduceIte, reduceCtorEq, Nat.reduceEqDiff, Nat.reduceLT, Nat.reduceLeDiff, Nat.reduceAdd, Nat.reduceMul, Int.reduceToNat, push_cast, ↓hg16, ↓hqb3, ↓hg91, hvr6, ↓hg93, hvr9, ↓hg95, ↓hqb11, ↓hg103, ↓hqb13, ↓hg107]
              try simp only [↓hg16, ↓hqb3, ↓hg91, ↓hg93, ↓hg95, ↓hqb11, ↓hg103, ↓hqb13, ↓hg107] at hK
              try have q0 := c_bookendref04_hasKey hvr2
              try have q1 := c_bookendref04_hasRange hvr6
              try have q2 := c_bookendref04_hasHandle hvr9
              all_goals exact rU
             | true =>
              replace hb14 := iteT hb14 hg107
              have hqb14 := Option.some.inj hb14
              subst hqb15
              subst hqb14
              simp (maxSteps := 1000000) only [↓reduceIte, reduceCtorEq, Nat.reduceEqDiff, Nat.reduceLT, Nat.reduceLeDiff, Nat.reduceAdd, Nat.reduceMul, Int.reduceToNat, push_cast, ↓hg16, ↓hqb3, ↓hg91, hvr6, ↓hg93, hvr9, ↓hg95, ↓hqb11, ↓hg103, ↓hqb13, ↓hg107]
              try simp only [↓hg16, ↓hqb3, ↓hg91, ↓hg93, ↓hg95, ↓hqb11, ↓hg103, ↓hqb13, ↓hg107] at hK
              try have q0 := c_bookendref04_hasKey hvr2
              try have q1 := c_bookendref04_hasRange hvr6
              try have q2 := c_bookendref04_hasHandle hvr9
              all_goals exact rU
            | true =>
             replace hb15 := iteT hb15 rfl
             have hqb15 := Option.some.inj hb15
             subst hqb15
             simp (maxSteps := 1000000) only [↓reduceIte, reduceCtorEq, Nat.reduceEqDiff, Nat.reduceLT, Nat.reduceLeDiff, Nat.reduceAdd, Nat.reduceMul, Int.reduceToNat, push_cast, ↓hg16, ↓hqb3, ↓hg91, hvr6, ↓hg93, hvr9, ↓hg95, ↓hqb11, ↓hg103, ↓hqb13]
             try simp only [↓hg16, ↓hqb3, ↓hg91, ↓hg93, ↓hg95, ↓hqb11, ↓hg103, ↓hqb13] at hK
             try have q0 := c_bookendref04_hasKey hvr2
             try have q1 := c_bookendref04_hasRange hvr6
             try have q2 := c_bookendref04_hasHandle hvr9
             all_goals exact rU
          | true =>
           replace hb13 := iteT hb13 rfl
           have hqb13 := Option.some.inj hb13
           cases b13 with
           | false =>
            cases hqb13
           | true =>
            replace hb15 := iteT hb15 rfl
            have hqb15 := Option.some.inj hb15
            subst hqb15
            simp (maxSteps := 1000000) only [↓reduceIte, reduceCtorEq, Nat.reduceEqDiff, Nat.reduceLT, Nat.reduceLeDiff, Nat.reduceAdd, Nat.reduceMul, Int.reduceToNat, push_cast, ↓hg16, ↓hqb3, ↓hg91, hvr6, ↓hg93, hvr9, ↓hg95, ↓hqb11]
            try simp only [↓hg16, ↓hqb3, ↓hg91, ↓hg93, ↓hg95, ↓hqb11] at hK
            try have q0 := c_bookendref04_hasKey hvr2
            try have q1 := c_bookendref04_hasRange hvr6
            try have q2 := c_bookendref04_hasHandle hvr9
            all_goals exact rU
        | true =>
         cases hqb8
       | true =>
        replace hb7 := iteT hb7 hg93
        have hqb7 := Option.some.inj hb7
        subst hqb7
        cases b8 with
        | false =>
         replace hb11 := iteF hb11 rfl
         obtain ⟨vr9, hvr9, hb11⟩ := bindS hb11
         obtain ⟨b10, hb10, hb11⟩ := bindS hb11
         have hqb11 := Option.some.inj hb11
         cases hg110 : (!vr9) with
         | false =>
          replace hb10 := iteF hb10 hg110
          have hqb10 := Option.some.inj hb10
          subst hqb10
          cases b11 with
          | false =>
           replace hb13 := iteF hb13 rfl
           obtain ⟨b12, hb12, hb13⟩ := bindS hb13
           have hqb13 := Option.some.inj hb13
           cases hg112 : (!(decide (c1.Kind = 14))) with
           | false =>
            replace hb12 := iteF hb12 hg112
            have hqb12 := Option.some.inj hb12
            subst hqb12
            cases b13 with
            | false =>
             replace hb15 := iteF hb15 rfl
             obtain ⟨b14, hb14, hb15⟩ := bindS hb15
             have hqb15 := Option.some.inj hb15
             cases hg114 : (!(decide (c1.Kind = 3))) with
             | false =>
              replace hb14 := iteF hb14 hg114
              have hqb14 := Option.some.inj hb14
              subst hqb15
              subst hqb14
              simp (maxSteps := 1000000) only [↓reduceIte, reduceCtorEq, Nat.reduceEqDiff, Nat.reduceLT, Nat.reduceLeDiff, Nat.reduceAdd, Nat.reduceMul, Int.reduceToNat, push_cast, ↓hg16, ↓hqb3, ↓hg91, hvr6, ↓hg93, ↓hqb8, hvr9, ↓hg110, ↓hg112, ↓hg114]
              try simp only [↓hg16, ↓hqb3, ↓hg91, ↓hg93, ↓hqb8, ↓hg110, ↓hg112, ↓hg114] at hK
              try have q0 := c_bookendref04_hasKey hvr2
              try have q1 := c_bookendref04_hasRange hvr6
              try have q2 := c_bookendref04_hasHandle hvr9
              all_goals exact rU
             | true =>
              replace hb14 := iteT hb14 hg114
              have hqb14 := Option.some.inj hb14
              subst hqb15
              subst hqb14
              simp (maxSteps := 1000000) only [↓reduceIte, reduceCtorEq, Nat.reduceEqDiff, Nat.reduceLT, Nat.reduceLeDiff, Nat.reduceAdd, Nat.reduceMul, Int.reduceToNat, push_cast, ↓hg16, ↓hqb3, ↓hg91, hvr6, ↓hg93, ↓hqb8, hvr9, ↓hg110, ↓hg112, ↓hg114]
              try simp only [↓hg16, ↓hqb3, ↓hg91, ↓hg93, ↓hqb8, ↓hg110, ↓hg112, ↓hg114] at hK
              try have q0 := c_bookendref04_hasKey hvr2
              try have q1 := c_bookendref04_hasRange hvr6
              try have q2 := c_bookendref04_hasHandle hvr9
              all_goals exact rU
            | true =>
             cases hqb13
           | true =>
            replace hb12 := iteT hb12 hg112
            have hqb12 := Option.some.inj hb12
            subst hqb12
            cases b13 with
            | false =>
             replace hb15 := iteF hb15 rfl
             obtain ⟨b14, hb14, hb15⟩ := bindS hb15
             have hqb15 := Option.some.inj hb15
             cases hg116 : (!(decide (c1.Kind = 3))) with
             | false =>
              replace hb14 := iteF hb14 hg116
              have hqb14 := Option.some.inj hb14
              subst hqb15
              subst hqb14
              simp (maxSteps := 1000000) only [↓reduceIte, reduceCtorEq, Nat.reduceEqDiff, Nat.reduceLT, Nat.reduceLeDiff, Nat.reduceAdd, Nat.reduceMul, Int.reduceToNat, push_cast, ↓hg16, ↓hqb3, ↓hg91, hvr6, ↓hg93, ↓hqb8, hvr9, ↓hg110, ↓hg112, ↓hqb13, ↓hg116]
              try simp only [↓hg16, ↓hqb3, ↓hg91, ↓hg93, ↓hqb8, ↓hg110, ↓hg112, ↓hqb13, ↓hg116] at hK
              try have q0 := c_bookendref04_hasKey hvr2
              try have q1 := c_bookendref04_hasRange hvr6
              try have q2 := c_bookendref04_hasHandle hvr9
              all_goals exact rU
             | true =>
              replace hb14 := iteT hb14 hg116
              have hqb14 := Option.some.inj hb14
              subst hqb15
              subst hqb14
              simp (maxSteps := 1000000) only [↓reduceIte, reduceCtorEq, Nat.reduceEqDiff, Nat.reduceLT, Nat.reduceLeDiff, Nat.reduceAdd, Nat.reduceMul, Int.reduceToNat, push_cast, ↓hg16, ↓hqb3, ↓hg91, hvr6, ↓hg93, ↓hqb8, hvr9, ↓hg110, ↓hg112, ↓hqb13, ↓hg116]
              try simp only [↓hg16, ↓hqb3, ↓hg91, ↓hg93, ↓hqb8, ↓hg110, ↓hg112, ↓hqb13, ↓hg116] at hK
              try have q0 := c_bookendref04_hasKey hvr2
              try have q1 := c_bookendref04_hasRange hvr6
              try have q2 := c_bookendref04_hasHandle hvr9
              all_goals exact rU
            | true =>
             replace hb15 := iteT hb15 rfl
             have hqb15 := Option.some.inj hb15
             subst hqb15
             simp (maxSteps := 1000000) only [↓reduceIte, reduceCtorEq, Nat.reduceEqDiff, Nat.reduceLT, Nat.reduceLeDiff, Nat.reduceAdd, Nat.reduceMul, Int.reduceToNat, push_cast, ↓hg16, ↓hqb3, ↓hg91, hvr6, ↓hg93, ↓hqb8, hvr9, ↓hg110, ↓hg112, ↓hqb13]
             try simp only [↓hg16, ↓hqb3, ↓hg91, ↓hg93, ↓hqb8, ↓hg110, ↓hg112, ↓hqb13] at hK
             try have q0 := c_bookendref04_hasKey hvr2
             try have q1 := c_bookendref04_hasRange hvr6
             try have q2 := c_bookendref04_hasHandle hvr9
             all_goals exact rU
          | true =>
           cases hqb11
         | true =>
          replace hb10 := iteT hb10 hg110
          have hqb10 := Option.some.inj hb10
          subst hqb10
          cases b11 with
          | false =>
           replace hb13 := iteF hb13 rfl
           obtain ⟨b12, hb12, hb13⟩ := bindS hb13
           have hqb13 := Option.some.inj hb13
           cases hg118 : (!(decide (c1.Kind = 14))) with
           | false =>
            replace hb12 := iteF hb12 hg118
            have hqb12 := Option.some.inj hb12
            subst hqb12
            cases b13 with
            | false =>
             replace hb15 := iteF hb15 rfl
             obtain ⟨b14, hb14, hb15⟩ := bindS hb15
             have hqb15 := Option.some.inj hb15
             cases hg120 : (!(decide (c1.Kind = 3))) with
             | false =>
              replace hb14 := iteF hb14 hg120
              have hqb14 := Option.some.inj hb14
              subst hqb15
              subst hqb14
              simp (maxSteps := 1000000) only [↓reduceIte, reduceCtorEq, Nat.reduceEqDiff, Nat.reduceLT, Nat.reduceLeDiff, Nat.reduceAdd, Nat.reduceMul, Int.reduceToNat, push_cast, ↓hg16, ↓hqb3, ↓hg91, hvr6, ↓hg93, ↓hqb8, hvr9, ↓hg110, ↓hqb11, ↓hg118, ↓hg120]
              try simp only [↓hg16, ↓hqb3, ↓hg91, ↓hg93, ↓hqb8, ↓hg110, ↓hqb11, ↓hg118, ↓hg120] at hK
              try have q0 := c_bookendref04_hasKey hvr2
              try have q1 := c_bookendref04_hasRange hvr6
              try have q2 := c_bookendref04_hasHandle hvr9
              all_goals exact rU
             | true =>
              replace hb14 := iteT hb14 hg120
              have hqb14 := Option.some.inj hb14
              subst hqb15
              subst hqb14
              simp (maxSteps := 1000000) only [↓reduceIte, reduceCtorEq, Nat.reduceEqDiff, Nat.reduceLT, Nat.reduceLeDiff, Nat.reduceAdd, Nat.reduceMul, Int.reduceToNat, push_cast, ↓hg16, ↓hqb3, ↓hg91, hvr6, ↓hg93, ↓hqb8, hvr9, ↓hg110, ↓hqb11, ↓hg118, ↓hg120]
              try simp only [↓hg16, ↓hqb3, ↓hg91, ↓hg93, ↓hqb8, ↓hg110, ↓hqb11, ↓hg118, ↓hg120] at hK
              try have q0 := c_bookendref04_hasKey hvr2
              try have q1 := c_bookendref04_hasRange hvr6
              try have q2 := c_bookendref04_hasHandle hvr9
              all_goals exact rU
            | true =>
             cases hqb13
           | true =>
            replace hb12 := iteT hb12 hg118
            have hqb12 := Option.some.inj hb12
            subst hqb12
            cases b13 with
            | false =>
             replace hb15 := iteF hb15 rfl
             obtain ⟨b14, hb14, hb15⟩ := bindS hb15
             have hqb15 := Option.some.inj hb15
             cases hg122 : (!(decide (c1.Kind = 3))) with
             | false =>
              replace hb14 := iteF hb14 hg122
              have hqb14 := Option.some.inj hb14
              subst hqb15
              subst hqb14
              simp (maxSteps := 1000000) only [↓reduceIte, reduceCtorEq, Nat.reduceEqDiff, Nat.reduceLT, Nat.reduceLeDiff, Nat.reduceAdd, Nat.reduceMul, Int.reduceToNat, push_cast, ↓hg16, ↓hqb3, ↓hg91, hvr6, ↓hg93, ↓hqb8, hvr9, ↓hg110, ↓hqb11, ↓hg118, ↓hqb13, ↓hg122]
              try simp only [↓hg16, ↓hqb3, ↓hg91, ↓hg93, ↓hqb8, ↓hg110, ↓hqb11, ↓hg118, ↓hqb13, ↓hg122] at hK
              try have q0 := c_bookendref04_hasKey hvr2
              try have q1 := c_bookendref04_hasRange hvr6
              try have q2 := c_bookendref04_hasHandle hvr9
              all_goals exact rU
             | true =>
              replace hb14 := iteT hb14 hg122
              have hqb14 := Option.some.inj hb14
              subst hqb15
              subst hqb14
              simp (maxSteps := 1000000) only [↓reduceIte, reduceCtorEq, Nat.reduceEqDiff, Nat.reduceLT, Nat.reduceLeDiff, Nat.reduceAdd, Nat.reduceMul, Int.reduceToNat, push_cast, ↓hg16, ↓hqb3, ↓hg91, hvr6, ↓hg93, ↓hqb8, hvr9, ↓hg110, ↓hqb11, ↓hg118, ↓hqb13, ↓hg122]
              try simp only [↓hg16, ↓hqb3, ↓hg91, ↓hg93, ↓hqb8, ↓hg110, ↓hqb11, ↓hg118, ↓hqb13, ↓hg122] at hK
              try have q0 := c_bookendref04_hasKey hvr2
              try have q1 := c_bookendref04_hasRange hvr6
              try have q2 := c_bookendref04_hasHandle hvr9
              all_goals exact rU
            | true =>
             replace hb15 := iteT hb15 rfl
             have hqb15 := Option.some.inj hb15
             subst hqb15
             simp (maxSteps := 1000000) only [↓reduceIte, reduceCtorEq, Nat.reduceEqDiff, Nat.reduceLT, Nat.reduceLeDiff, Nat.reduceAdd, Nat.reduceMul, Int.reduceToNat, push_cast, ↓hg16, ↓hqb3, ↓hg91, hvr6, ↓hg93, ↓hqb8, hvr9, ↓hg110, ↓hqb11, ↓hg118, ↓hqb13]
             try simp only [↓hg16, ↓hqb3, ↓hg91, ↓hg93, ↓hqb8, ↓hg110, ↓hqb11, ↓hg118, ↓hqb13] at hK
             try have q0 := c_bookendref04_hasKey hvr2
             try have q1 := c_bookendref04_hasRange hvr6
             try have q2 := c_bookendref04_hasHandle hvr9
             all_goals exact rU
          | true =>
           replace hb13 := iteT hb13 rfl
           have hqb13 := Option.some.inj hb13
           cases b13 with
           | false =>
            cases hqb13
           | true =>
            replace hb15 := iteT hb15 rfl
            have hqb15 := Option.some.inj hb15
            subst hqb15
            simp (maxSteps := 1000000) only [↓reduceIte, reduceCtorEq, Nat.reduceEqDiff, Nat.reduceLT, Nat.reduceLeDiff, Nat.reduceAdd, Nat.reduceMul, Int.reduceToNat, push_cast, ↓hg16, ↓hqb3, ↓hg91, hvr6, ↓hg93, ↓hqb8, hvr9, ↓hg110, ↓hqb11]
            try simp only [↓hg16, ↓hqb3, ↓hg91, ↓hg93, ↓hqb8, ↓hg110, ↓hqb11] at hK
            try have q0 := c_bookendref04_hasKey hvr2
            try have q1 := c_bookendref04_hasRange hvr6
            try have q2 := c_bookendref04_hasHandle hvr9
            all_goals exact rU
        | true =>
         replace hb11 := iteT hb11 rfl
         have hqb11 := Option.some.inj hb11
         cases b11 with
         | false =>
          cases hqb11
         | true =>
          replace hb13 := iteT hb13 rfl
          have hqb13 := Option.some.inj hb13
          cases b13 with
          | false =>
           cases hqb13
          | true =>
           replace hb15 := iteT hb15 rfl
           have hqb15 := Option.some.inj hb15
           subst hqb15
           simp (maxSteps := 1000000) only [↓reduceIte, reduceCtorEq, Nat.reduceEqDiff, Nat.reduceLT, Nat.reduceLeDiff, Nat.reduceAdd, Nat.reduceMul, Int.reduceToNat, push_cast, ↓hg16, ↓hqb3, ↓hg91, hvr6, ↓hg93, ↓hqb8]
           try simp only [↓hg16, ↓hqb3, ↓hg91, ↓hg93, ↓hqb8] at hK
           try have q0 := c_bookendref04_hasKey hvr2
           try have q1 := c_bookendref04_hasRange hvr6
           try have q2 := c_bookendref04_hasHandle hvr9
           all_goals exact rU
      | true =>
       cases hqb5
     | true =>
      replace hb4 := iteT hb4 hg91
      have hqb4 := Option.some.inj hb4
      subst hqb4
      cases b5 with
      | false =>
       replace hb8 := iteF hb8 rfl
       obtain ⟨vr6, hvr6, hb8⟩ := bindS hb8
       obtain ⟨b7, hb7, hb8⟩ := bindS hb8
       have hqb8 := Option.some.inj hb8
       cases hg127 : (!vr6) with
       | false =>
        replace hb7 := iteF hb7 hg127
        have hqb7 := Option.some.inj hb7
        subst hqb7
        cases b8 with
        | false =>
         replace hb11 := iteF hb11 rfl
         obtain ⟨vr9, hvr9, hb11⟩ := bindS hb11
         obtain ⟨b10, hb10, hb11⟩ := bindS hb11
         have hqb11 := Option.some.inj hb11
         cases hg129 : (!vr9) with
         | false =>
          replace hb10 := iteF hb10 hg129
          have hqb10 := Option.some.inj hb10
          subst hqb10
          cases b11 with
          | false =>
           replace hb13 := iteF hb13 rfl
           obtain ⟨b12, hb12, hb13⟩ := bindS hb13
           have hqb13 := Option.some.inj hb13
           cases hg131 : (!(decide (c1.Kind = 14))) with
           | false =>
            replace hb12 := iteF hb12 hg131
            have hqb12 := Option.some.inj hb12
            subst hqb12
            cases b13 with
            | false =>
             replace hb15 := iteF hb15 rfl
             obtain ⟨b14, hb14, hb15⟩ := bindS hb15
             have hqb15 := Option.some.inj hb15
             cases hg133 : (!(decide (c1.Kind = 3))) with
             | false =>
              replace hb14 := iteF hb14 hg133
              have hqb14 := Option.some.inj hb14
              subst hqb15
              subst hqb14
              simp (maxSteps := 1000000) only [↓reduceIte, reduceCtorEq, Nat.reduceEqDiff, Nat.reduceLT, Nat.reduceLeDiff, Nat.reduceAdd, Nat.reduceMul, Int.reduceToNat, push_cast, ↓hg16, ↓hqb3, ↓hg91, ↓hqb5, hvr6, ↓hg127, hvr9, ↓hg129, ↓hg131, ↓hg133]
              try simp only [↓hg16, ↓hqb3, ↓hg91, ↓hqb5, ↓hg127, ↓hg129, ↓hg131, ↓hg133] at hK
              try have q0 := c_bookendref04_hasKey hvr2
              try have q1 := c_bookendref04_hasRange hvr6
              try have q2 := c_bookendref04_hasHandle hvr9
              all_goals exact rU
             | true =>
              replace hb14 := iteT hb14 hg133
              have hqb14 := Option.some.inj hb14
              subst hqb15
              subst hqb14
              simp (maxSteps := 1000000) only [↓reduceIte, reduceCtorEq, Nat.reduceEqDiff, Nat.reduceLT, Nat.reduceLeDiff, Nat.reduceAdd, Nat.reduceMul, Int.reduceToNat, push_cast, ↓hg16, ↓hqb3, ↓hg91, ↓hqb5, hvr6, ↓hg127, hvr9, ↓hg129, ↓hg131, ↓hg133]
              try simp only [↓hg16, ↓hqb3, ↓hg91, ↓hqb5, ↓hg127, ↓hg129, ↓hg131, ↓hg133] at hK
              try have q0 := c_bookendref04_hasKey hvr2
              try have q1 := c_bookendref04_hasRange hvr6
              try have q2 := c_bookendref04_hasHandle hvr9
              all_goals exact rU
            | true =>
             cases hqb13
           | true =>
            replace hb12 := iteT hb12 hg131
            have hqb12 := Option.some.inj hb12
            subst hqb12
            cases b13 with
            | false =>
             replace hb15 := iteF hb15 rfl
             obtain ⟨b14, hb14, hb15⟩ := bindS hb15
             have hqb15 := Option.some.inj hb15
             cases hg135 : (!(decide (c1.Kind = 3))) with
             | false =>
              replace hb14 := iteF hb14 hg135
              have hqb14 := Option.some.inj hb14
              subst hqb15
              subst hqb14
              simp (maxSteps := 1000000) only [↓reduceIte, reduceCtorEq, Nat.reduceEqDiff, Nat.reduceLT, Nat.reduceLeDiff, Nat.reduceAdd, Nat.reduceMul, Int.reduceToNat, push_cast, ↓hg16, ↓hqb3, ↓hg91, ↓hqb5, hvr6, ↓hg127, hvr9, ↓hg129, ↓hg131, ↓hqb13, ↓hg135]
              try simp only [↓hg16, ↓hqb3, ↓hg91, ↓hqb5, ↓hg127, ↓hg129, ↓hg131, ↓hqb13, ↓hg135] at hK
              try have q0 := c_bookendref04_hasKey hvr2
              try have q1 := c_bookendref04_hasRange hvr6
              try have q2 := c_bookendref04_hasHandle hvr9
              all_goals exact rU
             | true =>
              replace hb14 := iteT hb14 hg135
              have hqb14 := Option.some.inj hb14
              subst hqb15
              subst hqb14
              simp (maxSteps := 1000000) only [↓reduceIte, reduceCtorEq, Nat.reduceEqDiff, Nat.reduceLT, Nat.reduceLeDiff, Nat.reduceAdd, Nat.reduceMul, Int.reduceToNat, push_cast, ↓hg16, ↓hqb3, ↓hg91, ↓hqb5, hvr6, ↓hg127, hvr9, ↓hg129, ↓hg131, ↓hqb13, ↓hg135]
              try simp only [↓hg16, ↓hqb3, ↓hg91, ↓hqb5, ↓hg127, ↓hg129, ↓hg131, ↓hqb13, ↓hg135] at hK
              try have q0 := c_bookendref04_hasKey hvr2
              try have q1 := c_bookendref04_hasRange hvr6
              try have q2 := c_bookendref04_hasHandle hvr9
              all_goals exact rU
            | true =>
             replace hb15 := iteT hb15 rfl
             have hqb15 := Option.some.inj hb15
             subst hqb15
             simp (maxSteps := 1000000) only [↓reduceIte, reduceCtorEq, Nat.reduceEqDiff, Nat.reduceLT, Nat.reduceLeDiff, Nat.reduceAdd, Nat.reduceMul, Int.reduceToNat, push_cast, ↓hg16, ↓hqb3, ↓hg91, ↓hqb5, hvr6, ↓hg127, hvr9, ↓hg129, ↓hg131, ↓hqb13]
             try simp only [↓hg16, ↓hqb3, ↓hg91, ↓hqb5, ↓hg127, ↓hg129, ↓hg131, ↓hqb13] at hK
             try have q0 := c_bookendref04_hasKey hvr2
             try have q1 := c_bookendref04_hasRange hvr6
             try have q2 := c_bookendref04_hasHandle hvr9
             all_goals exact rU
          | true =>
           cases hqb11
         | true =>
          replace hb10 := iteT hb10 hg129
          have hqb10 := Option.some.inj hb10
          subst hqb10
          cases b11 with
          | false =>
           replace hb13 := iteF hb13 rfl
           obtain ⟨b12, hb12, hb13⟩ := bindS hb13
           have hqb13 := Option.some.inj hb13
           cases hg137 : (!(decide (c1.Kind = 14))) with
           | false =>
            replace hb12 := iteF hb12 hg137
            have hqb12 := Option.some.inj hb12
            subst hqb12
            cases b13 with
            | false =>
             replace hb15 := iteF hb15 rfl
             obtain ⟨b14, hb14, hb15⟩ := bindS hb15
             have hqb15 := Option.some.inj hb15
             cases hg139 : (!(decide (c1.Kind = 3))) with
             | false =>
              replace hb14 := iteF hb14 hg139
              have hqb14 := Option.some.inj hb14
              subst hqb15
              subst hqb14
              simp (maxSteps := 1000000) only [↓reduceIte, reduceCtorEq, Nat.reduceEqDiff, Nat.reduceLT, Nat.reduceLeDiff, Nat.reduceAdd, Nat.reduceMul, Int.reduceToNat, push_cast, ↓hg16, ↓hqb3, ↓hg91, ↓hqb5, hvr6, ↓hg127, hvr9, ↓hg129, ↓hqb11, ↓hg137, ↓hg139]
              try simp only [↓hg16, ↓hqb3, ↓hg91, ↓hqb5, ↓hg127, ↓hg129, ↓hqb11, ↓hg137, ↓hg139] at hK
              try have q0 := c_bookendref04_hasKey hvr2
              try have q1 := c_bookendref04_hasRange hvr6
              try have q2 := c_bookendref04_hasHandle hvr9
              all_goals exact rU
             | true =>
              replace hb14 := iteT hb14 hg139
              have hqb14 := Option.some.inj hb14
              subst hqb15
              subst hqb14
              simp (maxSteps := 1000000) only [↓reduceIte, reduceCtorEq, Nat.reduceEqDiff, Nat.reduceLT, Nat.reduceLeDiff, Nat.reduceAdd, Nat.reduceMul, Int.reduceToNat, push_cast, ↓hg16, ↓hqb3, ↓hg91, ↓hqb5, hvr6, ↓hg127, hvr9, ↓hg129, ↓hqb11, ↓hg137, ↓hg139]
              try simp only [↓hg16, ↓hqb3, ↓hg91, ↓hqb5, ↓hg127, ↓hg129, ↓hqb11, ↓hg137, ↓hg139] at hK
              try have q0 := c_bookendref04_hasKey hvr2
              try have q1 := c_bookendref04_hasRange hvr6
              try have q2 := c_bookendref04_hasHandle hvr9
              all_goals exact rU
            | true =>
             cases hqb13
           | true =>
            replace hb12 := iteT hb12 hg137
            have hqb12 := Option.some.inj hb12
            subst hqb12
            cases b13 with
            | false =>
             replace hb15 := iteF hb15 rfl
             obtain ⟨b14, hb14, hb15⟩ := bindS hb15
             have hqb15 := Option.some.inj hb15
             cases hg141 : (!(decide (c1.Kind = 3))) with
             | false =>
              replace hb14 := iteF hb14 hg141
              have hqb14 := Option.some.inj hb14
              subst hqb15
              subst hqb14
              simp (maxSteps := 1000000) only [↓reduceIte, reduceCtorEq, Nat.reduceEqDiff, Nat.reduceLT, Nat.reduceLeDiff, Nat.reduceAdd, Nat.reduceMul, Int.reduceToNat, push_cast, ↓hg16, ↓hqb3, ↓hg91, ↓hqb5, hvr6, ↓hg127, hvr9, ↓hg129, ↓hqb11, ↓hg137, ↓hqb13, ↓hg141]
              try simp only [↓hg16, ↓hqb3, ↓hg91, ↓hqb5, ↓hg127, ↓hg129, ↓hqb11, ↓hg137, ↓hqb13, ↓hg141] at hK
              try have q0 := c_bookendref04_hasKey hvr2
              try have q1 := c_bookendref04_hasRange hvr6
              try have q2 := c_bookendref04_hasHandle hvr9
              all_goals exact rU
             | true =>
              replace hb14 := iteT hb14 hg141
              have hqb14 := Option.some.inj hb14
              subst hqb15
              subst hqb14
              simp (maxSteps := 1000000) only [↓reduceIte, reduceCtorEq, Nat.reduceEqDiff, Nat.reduceLT, Nat.reduceLeDiff, Nat.reduceAdd, Nat.reduceMul, Int.reduceToNat, push_cast, ↓hg16, ↓hqb3, ↓hg91, ↓hqb5, hvr6, ↓hg127, hvr9, ↓hg129, ↓hqb11, ↓hg137, ↓hqb13, ↓hg141]
              try simp only [↓hg16, ↓hqb3, ↓hg91, ↓hqb5, ↓hg127, ↓hg129, ↓hqb11, ↓hg137, ↓hqb13, ↓hg141] at hK
              try have q0 := c_bookendref04_hasKey hvr2
              try have q1 := c_bookendref04_hasRange hvr6
              try have q2 := c_bookendref04_hasHandle hvr9
              all_goals exact rU
            | true =>
             replace hb15 := iteT hb15 rfl
             have hqb15 := Option.some.inj hb15
             subst hqb15
             simp (maxSteps := 1000000) only [↓reduceIte, reduceCtorEq, Nat.reduceEqDiff, Nat.reduceLT, Nat.reduceLeDiff, Nat.reduceAdd, Nat.reduceMul, Int.reduceToNat, push_cast, ↓hg16, ↓hqb3, ↓hg91, ↓hqb5, hvr6, ↓hg127, hvr9, ↓hg129, ↓hqb11, ↓hg137, ↓hqb13]
             try simp only [↓hg16, ↓hqb3, ↓hg91, ↓hqb5, ↓hg127, ↓hg129, ↓hqb11, ↓hg137, ↓hqb13] at hK
             try have q0 := c_bookendref04_hasKey hvr2
             try have q1 := c_bookendref04_hasRange hvr6
             try have q2 := c_bookendref04_hasHandle hvr9
             all_goals exact rU
          | true =>
           replace hb13 := iteT hb13 rfl
           have hqb13 := Option.some.inj hb13
           cases b13 with
           | false =>
            cases hqb13
           | true =>
            replace hb15 := iteT hb15 rfl
            have hqb15 := Option.some.inj hb15
            subst hqb15
            simp (maxSteps := 1000000) only [↓reduceIte, reduceCtorEq, Nat.reduceEqDiff, Nat.reduceLT, Nat.reduceLeDiff, Nat.reduceAdd, Nat.reduceMul, Int.reduceToNat, push_cast, ↓hg16, ↓hqb3, ↓hg91, ↓hqb5, hvr6, ↓hg127, hvr9, ↓hg129, ↓hqb11]
            try simp only [↓hg16, ↓hqb3, ↓hg91, ↓hqb5, ↓hg127, ↓hg129, ↓hqb11] at hK
            try have q0 := c_bookendref04_hasKey hvr2
            try have q1 := c_bookendref04_hasRange hvr6
            try have q2 := c_bookendref04_hasHandle hvr9
            all_goals exact rU
        | true =>
         cases hqb8
       | true =>
        replace hb7 := iteT hb7 hg127
        have hqb7 := Option.some.inj hb7
        subst hqb7
        cases b8 with
        | false =>
         replace hb11 := iteF hb11 rfl
         obtain ⟨vr9, hvr9, hb11⟩ := bindS hb11
         obtain ⟨b10, hb10, hb11⟩ := bindS hb11
         have hqb11 := Option.some.inj hb11
         cases hg144 : (!vr9) with
         | false =>
          replace hb10 := iteF hb10 hg144
          have hqb10 := Option.some.inj hb10
          subst hqb10
          cases b11 with
          | false =>
           replace hb13 := iteF hb13 rfl
           obtain ⟨b12, hb12, hb13⟩ := bindS hb13
           have hqb13 := Option.some.inj hb13
           cases hg146 : (!(decide (c1.Kind = 14))) with
           | false =>
            replace hb12 := iteF hb12 hg146
            have hqb12 := Option.some.inj hb12
            subst hqb12
            cases b13 with
            | false =>
             replace hb15 := iteF hb15 rfl
             obtain ⟨b14, hb14, hb15⟩ := bindS hb15
             have hqb15 := Option.some.inj hb15
             cases hg148 : (!(decide (c1.Kind = 3))) with
             | false =>
              replace hb14 := iteF hb14 hg148
              have hqb14 := Option.some.inj hb14
              subst hqb15
              subst hqb14
              simp (maxSteps := 1000000) only [↓reduceIte, reduceCtorEq, Nat.reduceEqDiff, Nat.reduceLT, Nat.reduceLeDiff, Nat.reduceAdd, Nat.reduceMul, Int.reduceToNat, push_cast, ↓hg16, ↓hqb3, ↓hg91, ↓hqb5, hvr6, ↓hg127, ↓hqb8, hvr9, ↓hg144, ↓hg146, ↓hg148]
              try simp only [↓hg16, ↓hqb3, ↓hg91, ↓hqb5, ↓hg127, ↓hqb8, ↓hg144, ↓hg146, ↓hg148] at hK
              try have q0 := c_bookendref04_hasKey hvr2
              try have q1 := c_bookendref04_hasRange hvr6
              try have q2 := c_bookendref04_hasHandle hvr9
              all_goals exact rU
             | true =>
              replace hb14 := iteT hb14 hg148
              have hqb14 := Option.some.inj hb14
              subst hqb15
              subst hqb14
              simp (maxSteps := 1000000) only [↓reduceIte, reduceCtorEq, Nat.reduceEqDiff, Nat.reduceLT, Nat.reduceLeDiff, Nat.reduceAdd, Nat.reduceMul, Int.reduceToNat, push_cast, ↓hg16, ↓hqb3, ↓hg91, ↓hqb5, hvr6, ↓hg127, ↓hqb8, hvr9, ↓hg144, ↓hg146, ↓hg148]
              try simp only [↓hg16, ↓hqb3, ↓hg91, ↓hqb5, ↓hg127, ↓hqb8, ↓hg144, ↓hg146, ↓hg148] at hK
              try have q0 := c_bookendref04_hasKey hvr2
              try have q1 := c_bookendref04_hasRange hvr6
              try have q2 := c_bookendref04_hasHandle hvr9
              all_goals exact rU
            | true =>
             cases hqb13
           | true =>
            replace hb12 := iteT hb12 hg146
            have hqb12 := Option.some.inj hb12
            subst hqb12
            cases b13 with
            | false =>
             replace hb15 := iteF hb15 rfl
             obtain ⟨b14, hb14, hb15⟩ := bindS hb15
             have hqb15 := Option.some.inj hb15
             cases hg150 : (!(decide (c1.Kind = 3))) with
             | false =>
              replace hb14 := iteF hb14 hg150
              have hqb14 := Option.some.inj hb14
              subst hqb15
              subst hqb14
              simp (maxSteps := 1000000) only [↓reduceIte, reduceCtorEq, Nat.reduceEqDiff, Nat.reduceLT, Nat.reduceLeDiff, Nat.reduceAdd, Nat.reduceMul, Int.reduceToNat, push_cast, ↓hg16, ↓hqb3, ↓hg91, ↓hqb5, hvr6, ↓hg127, ↓hqb8, hvr9, ↓hg144, ↓hg146, ↓hqb13, ↓hg150]
              try simp only [↓hg16, ↓hqb3, ↓hg91, ↓hqb5, ↓hg127, ↓hqb8, ↓hg144, ↓hg146, ↓hqb13, ↓hg150] at hK
              try have q0 := c_bookendref04_hasKey hvr2
              try have q1 := c_bookendref04_hasRange hvr6
              try have q2 := c_bookendref04_hasHandle hvr9
              all_goals exact rU
             | true =>
              replace hb14 := iteT hb14 hg150
              have hqb14 := Option.some.inj hb14
              subst hqb15
              subst hqb14
              simp (maxSteps := 1000000) only [↓reduceIte, reduceCtorEq, Nat.reduceEqDiff, Nat.reduceLT, Nat.reduceLeDiff, Nat.reduceAdd, Nat.reduceMul, Int.reduceToNat, push_cast, ↓hg16, ↓hqb3, ↓hg91, ↓hqb5, hvr6, ↓hg127, ↓hqb8, hvr9, ↓hg144, ↓hg146, ↓hqb13, ↓hg150]
              try simp only [↓hg16, ↓hqb3, ↓hg91, ↓hqb5, ↓hg127, ↓hqb8, ↓hg144, ↓hg146, ↓hqb13, ↓hg150] at hK
              try have q0 := c_bookendref04_hasKey hvr2
              try have q1 := c_bookendref04_hasRange hvr6
              try have q2 := c_bookendref04_hasHandle hvr9
              all_goals exact rU
            | true =>
             replace hb15 := iteT hb15 rfl
             have hqb15 := Option.some.inj hb15
             subst hqb15
             simp (maxSteps := 1000000) only [↓reduceIte, reduceCtorEq, Nat.reduceEqDiff, Nat.reduceLT, Nat.reduceLeDiff, Nat.reduceAdd, Nat.reduceMul, Int.reduceToNat, push_cast, ↓hg16, ↓hqb3, ↓hg91, ↓hqb5, hvr6, ↓hg127, ↓hqb8, hvr9, ↓hg144, ↓hg146, ↓hqb13]
             try simp only [↓hg16, ↓hqb3, ↓hg91, ↓hqb5, ↓hg127, ↓hqb8, ↓hg144, ↓hg146, ↓hqb13] at hK
             try have q0 := c_bookendref04_hasKey hvr2
             try have q1 := c_bookendref04_hasRange hvr6
             try have q2 := c_bookendref04_hasHandle hvr9
             all_goals exact rU
          | true =>
           cases hqb11
         | true =>
          replace hb10 := iteT hb10 hg144
          have hqb10 := Option.some.inj hb10
          subst hqb10
          cases b11 with
          | false =>
           replace hb13 := iteF hb13 rfl
           obtain ⟨b12, hb12, hb13⟩ := bindS hb13
           have hqb13 := Option.some.inj hb13
           cases hg152 : (!(decide (c1.Kind = 14))) with
           | false =>
            replace hb12 := iteF hb12 hg152
            have hqb12 := Option.some.inj hb12
            subst hqb12
            cases b13 with
            | false =>
             replace hb15 := iteF hb15 rfl
             obtain ⟨b14, hb14, hb15⟩ := bindS hb15
             have hqb15 := Option.some.inj hb15
             cases hg154 : (!(decide (c1.Kind = 3))) with
             | false =>
              replace hb14 := iteF hb14 hg154
              have hqb14 := Option.some.inj hb14
              subst hqb15
              subst hqb14
              simp (maxSteps := 1000000) only [↓reduceIte, reduceCtorEq, Nat.reduceEqDiff, Nat.reduceLT, Nat.reduceLeDiff, Nat.reduceAdd, Nat.reduceMul, Int.reduceToNat, push_cast, ↓hg16, ↓hqb3, ↓hg91, ↓hqb5, hvr6, ↓hg127, ↓hqb8, hvr9, ↓hg144, ↓hqb11, ↓hg152, ↓hg154]
              try simp only [↓hg16, ↓hqb3, ↓hg91, ↓hqb5, ↓hg127, ↓hqb8, ↓hg144, ↓hqb11, ↓hg152, ↓hg154] at hK
              try have q0 := c_bookendref04_hasKey hvr2
              try have q1 := c_bookendref04_hasRange hvr6
              try have q2 := c_bookendref04_hasHandle hvr9
              all_goals exact rU
             | true =>
              replace hb14 := iteT hb14 hg154
              have hqb14 := Option.some.inj hb14
              subst hqb15
              subst hqb14
              simp (maxSteps := 1000000) only [↓reduceIte, reduceCtorEq, Nat.reduceEqDiff, Nat.reduceLT, Nat.reduceLeDiff, Nat.reduceAdd, Nat.reduceMul, Int.reduceToNat, push_cast, ↓hg16, ↓hqb3, ↓hg91, ↓hqb5, hvr6, ↓hg127, ↓hqb8, hvr9, ↓hg144, ↓hqb11, ↓hg152, ↓hg154]
              try simp only [↓hg16, ↓hqb3, ↓hg91, ↓hqb5, ↓hg127, ↓hqb8, ↓hg144, ↓hqb11, ↓hg152, ↓hg154] at hK
              try have q0 := c_bookendref04_hasKey hvr2
              try have q1 := c_bookendref04_hasRange hvr6
              try have q2 := c_bookendref04_hasHandle hvr9
              all_goals exact rU
            | true =>
             cases hqb13
           | true =>
            replace hb12 := iteT hb12 hg152
            have hqb12 := Option.some.inj hb12
            subst hqb12
            cases b13 with
            | false =>
             replace hb15 := iteF hb15 rfl
             obtain ⟨b14, hb14, hb15⟩ := bindS hb15
             have hqb15 := Option.some.inj hb15
             cases hg156 : (!(decide (c1.Kind = 3))) with
             | false =>
              replace hb14 := iteF hb14 hg156
              have hqb14 := Option.some.inj hb14
              subst hqb15
              subst hqb14
              simp (maxSteps := 1000000) only [↓reduceIte, reduceCtorEq, Nat.reduceEqDiff, Nat.reduceLT, Nat.reduceLeDiff, Nat.reduceAdd, Nat.reduceMul, Int.reduceToNat, push_cast, ↓hg16, ↓hqb3, ↓hg91, ↓hqb5, hvr6, ↓hg127, ↓hqb8, hvr9, ↓hg144, ↓hqb11, ↓hg152, ↓hqb13, ↓hg156]
              try simp only [↓hg16, ↓hqb3, ↓hg91, ↓hqb5, ↓hg127, ↓hqb8, ↓hg144, ↓hqb11, ↓hg152, ↓hqb13, ↓hg156] at hK
              try have q0 := c_bookendref04_hasKey hvr2
              try have q1 := c_bookendref04_hasRange hvr6
              try have q2 := c_bookendref04_hasHandle hvr9
              all_goals exact rU
             | true =>
              replace hb14 := iteT hb14 hg156
              have hqb14 := Option.some.inj hb14
              subst hqb15
              subst hqb14
              simp (maxSteps := 1000000) only [↓reduceIte, reduceCtorEq, Nat.reduceEqDiff, Nat.reduceLT, Nat.reduceLeDiff, Nat.reduceAdd, Nat.reduceMul, Int.reduceToNat, push_cast, ↓hg16, ↓hqb3, ↓hg91, ↓hqb5, hvr6, ↓hg127, ↓hqb8, hvr9, ↓hg144, ↓hqb11, ↓hg152, ↓hqb13, ↓hg156]
              try simp only [↓hg16, ↓hqb3, ↓hg91, ↓hqb5, ↓hg127, ↓hqb8, ↓hg144, ↓hqb11, ↓hg152, ↓hqb13, ↓hg156] at hK
              try have q0 := c_bookendref04_hasKey hvr2
              try have q1 := c_bookendref04_hasRange hvr6
              try have q2 := c_bookendref04_hasHandle hvr9
              all_goals exact rU
            | true =>
             replace hb15 := iteT hb15 rfl
             have hqb15 := Option.some.inj hb15
             subst hqb15
             simp (maxSteps := 1000000) only [↓reduceIte, reduceCtorEq, Nat.reduceEqDiff, Nat.reduceLT, Nat.reduceLeDiff, Nat.reduceAdd, Nat.reduceMul, Int.reduceToNat, push_cast, ↓hg16, ↓hqb3, ↓hg91, ↓hqb5, hvr6, ↓hg127, ↓hqb8, hvr9, ↓hg144, ↓hqb11, ↓hg152, ↓hqb13]
             try simp only [↓hg16, ↓hqb3, ↓hg91, ↓hqb5, ↓hg127, ↓hqb8, ↓hg144, ↓hqb11, ↓hg152, ↓hqb13] at hK
             try have q0 := c_bookendref04_hasKey hvr2
             try have q1 := c_bookendref04_hasRange hvr6
             try have q2 := c_bookendref04_hasHandle hvr9
             all_goals exact rU
          | true =>
           replace hb13 := iteT hb13 rfl
           have hqb13 := Option.some.inj hb13
           cases b13 with
           | false =>
            cases hqb13
           | true =>
            replace hb15 := iteT hb15 rfl
            have hqb15 := Option.some.inj hb15
            subst hqb15
            simp (maxSteps := 1000000) only [↓reduceIte, reduceCtorEq, Nat.reduceEqDiff, Nat.reduceLT, Nat.reduceLeDiff, Nat.reduceAdd, Nat.reduceMul, Int.reduceToNat, push_cast, ↓hg16, ↓hqb3, ↓hg91, ↓hqb5, hvr6, ↓hg127, ↓hqb8, hvr9, ↓hg144, ↓hqb11]
            try simp only [↓hg16, ↓hqb3, ↓hg91, ↓hqb5, ↓hg127, ↓hqb8, ↓hg144, ↓hqb11] at hK
            try have q0 := c_bookendref04_hasKey hvr2
            try have q1 := c_bookendref04_hasRange hvr6
            try have q2 := c_bookendref04_hasHandle hvr9
            all_goals exact rU
        | true =>
         replace hb11 := iteT hb11 rfl
         have hqb11 := Option.some.inj hb11
         cases b11 with
         | false =>
          cases hqb11
         | true =>
          replace hb13 := iteT hb13 rfl
          have hqb13 := Option.some.inj hb13
          cases b13 with
          | false =>
           cases hqb13
          | true =>
           replace hb15 := iteT hb15 rfl
           have hqb15 := Option.some.inj hb15
           subst hqb15
           simp (maxSteps := 1000000) only [↓reduceIte, reduceCtorEq, Nat.reduceEqDiff, Nat.reduceLT, Nat.reduceLeDiff, Nat.reduceAdd, Nat.reduceMul, Int.reduceToNat, push_cast, ↓hg16, ↓hqb3, ↓hg91, ↓hqb5, hvr6, ↓hg127, ↓hqb8]
           try simp only [↓hg16, ↓hqb3, ↓hg91, ↓hqb5, ↓hg127, ↓hqb8] at hK
           try have q0 := c_bookendref04_hasKey hvr2
           try have q1 := c_bookendref04_hasRange hvr6
           try have q2 := c_bookendref04_hasHandle hvr9
           all_goals exact rU
      | true =>
       replace hb8 := iteT hb8 rfl
       have hqb8 := Option.some.inj hb8
       cases b8 with
       | false =>
        cases hqb8
       | true =>
        replace hb11 := iteT hb11 rfl
        have hqb11 := Option.some.inj hb11
        cases b11 with
        | false =>
         cases hqb11
        | true =>
         replace hb13 := iteT hb13 rfl
         have hqb13 := Option.some.inj hb13
         cases b13 with
         | false =>
          cases hqb13
         | true =>
          replace hb15 := iteT hb15 rfl
          have hqb15 := Option.some.inj hb15
          subst hqb15
          simp (maxSteps := 1000000) only [↓reduceIte, reduceCtorEq, Nat.reduceEqDiff, Nat.reduceLT, Nat.reduceLeDiff, Nat.reduceAdd, Nat.reduceMul, Int.reduceToNat, push_cast, ↓hg16, ↓hqb3, ↓hg91, ↓hqb5]
          try simp only [↓hg16, ↓hqb3, ↓hg91, ↓hqb5] at hK
          try have q0 := c_bookendref04_hasKey hvr2
          try have q1 := c_bookendref04_hasRange hvr6
          try have q2 := c_bookendref04_hasHandle hvr9
          all_goals exact rU
    | true =>
     replace hb5 := iteT hb5 rfl
     have hqb5 := Option.some.inj hb5
     cases b5 with
     | false =>
      cases hqb5
     | true =>
      replace hb8 := iteT hb8 rfl
      have hqb8 := Option.some.inj hb8
      cases b8 with
      | false =>
       cases hqb8
      | true =>
       replace hb11 := iteT hb11 rfl
       have hqb11 := Option.some.inj hb11
       cases b11 with
       | false =>
        cases hqb11
       | true =>
        replace hb13 := iteT hb13 rfl
        have hqb13 := Option.some.inj hb13
        cases b13 with
        | false =>
         cases hqb13
        | true =>
         replace hb15 := iteT hb15 rfl
         have hqb15 := Option.some.inj hb15
         subst hqb15
         simp (maxSteps := 1000000) only [↓reduceIte, reduceCtorEq, Nat.reduceEqDiff, Nat.reduceLT, Nat.reduceLeDiff, Nat.reduceAdd, Nat.reduceMul, Int.reduceToNat, push_cast, ↓hg16, ↓hqb3]
         try simp only [↓hg16, ↓hqb3] at hK
         try have q0 := c_bookendref04_hasKey hvr2
         try have q1 := c_bookendref04_hasRange hvr6
         try have q2 := c_bookendref04_hasHandle hvr9
         all_goals exact rU) ?_
 refine awp_ret ?_
 obtain rfl := Option.some.inj h0
 exact leave_retG [] rG
theorem c_bookendref04_number [Adr] {fu : Nat} {n1 : Int} {r : Bool} (h0 : bookendref04_number fu n1 = some r) : PCall Tryz.prog 72 [.int .i64 n1] (.bool r) [] := by
 refine awp_pcall Tryz.func72 rfl (by decide) rL ?_
 dsimp only [Tryz.f72]
 rw [bookendref04_number] at h0
 refine xS 8 [0] ?_
 obtain ⟨b2, hb2, h0⟩ := bindS h0
 refine awp_sr3 (fr' := [(2, .bool b2)]) (hp' := []) [] 64 [2] (fun _ => none) rfl (fun Kt hK => by
   cases hg3 : (decide (0 ≤ n1)) with
   | false =>
    replace hb2 := iteF hb2 hg3
    have hqb2 := Option.some.inj hb2
    subst hqb2
    exact rW hg3 hK
   | true =>
    replace hb2 := iteT hb2 hg3
    have hqb2 := Option.some.inj hb2
    subst hqb2
    exact rW hg3 hK) ?_
 refine awp_ret ?_
 obtain rfl := Option.some.inj h0
 exact leave_retG [] rG
theorem c_bookendref04_handle [Adr] {fu : Nat} {vh1 : TApiHandle} {r : Bool} (h0 : bookendref04_handle fu vh1 = some r) : PCall Tryz.prog 42 [.agg (TApiHandle.enc vh1)] (.bool r) [] := by
 refine awp_pcall Tryz.func42 rfl (by decide) rL ?_
 dsimp only [Tryz.f42]
 rw [bookendref04_handle] at h0
 refine xS 16 [1] ?_
 obtain ⟨vr2, hvr2, h0⟩ := bindS h0
 obtain ⟨b4, hb4, h0⟩ := bindS h0
 refine awp_sr3 (fr' := [(2, .bool b4)]) (hp' := [(0, ⟨0, true, true, 2, [[.int .i64 vh1.Index, .int .i64 vh1.Gen]], none⟩)]) [0] 88 [2] (fun | 2 => some (.bool vr2, []) | 6 => (bookendref04_number fu vh1.Gen).bind fun vr3 => some (.bool vr3, []) | _ => none) rfl (fun Kt hK => by
   cases vr2 with
   | false =>
    replace hb4 := iteF hb4 rfl
    have hqb4 := Option.some.inj hb4
    subst hqb4
    try have q0 := c_bookendref04_number hvr2
    try have q1 := c_bookendref04_number hvr3
    exact rT
   | true =>
    replace hb4 := iteT hb4 rfl
    obtain ⟨vr3, hvr3, hb4⟩ := bindS hb4
    have hqb4 := Option.some.inj hb4
    subst hqb4
    try have q0 := c_bookendref04_number hvr2
    try have q1 := c_bookendref04_number hvr3
    exact rS hvr3) ?_
 refine awp_ret ?_
 obtain rfl := Option.some.inj h0
 exact leave_retG [] rG
theorem c_bookendref04_long [Adr] {fu : Nat} {vs1 : List UInt8} {r : Bool} (h0 : bookendref04_long fu vs1 = some r) : PCall Tryz.prog 43 [.str vs1] (.bool r) [] := by
 refine awp_pcall Tryz.func43 rfl (by decide) rL ?_
 dsimp only [Tryz.f43]
 rw [bookendref04_long] at h0
 refine xS 8 [0] ?_
 refine xS 40 [2] ?_
 refine awp_ret ?_
 obtain rfl := Option.some.inj h0
 exact leave_retG [] rG
theorem c_bookendref04_Check [Adr] {fu : Nat} {c1 : TApiOpCall} {r : Int} (h0 : bookendref04_Check fu c1 = some r) : PCall Tryz.prog 18 [.agg (TApiOpCall.enc c1)] (.int .i64 r) [] := by
 refine awp_pcall Tryz.func18 rfl (by decide) rL ?_
 dsimp only [Tryz.f18]
 rw [bookendref04_Check] at h0
 refine xS 16 [1] ?_
 refine awp_seq ?_
 obtain ⟨vr2, hvr2, h0⟩ := bindS h0
 refine awp_sr2 48 [1, 8] (fun | 2 => some (.str vr2, []) | _ => none) rfl (fun _ _ => rC (c_bookendref04_word hvr2)) ?_
 refine xI h0 rfl (fun h0 hb3 => ?_) (fun h0 hb3 => ?_)
 ·
  refine xS 56 [2] ?_
  refine awp_ret (kr_then ?_)
  obtain rfl := Option.some.inj h0
  exact leave_retG [] rG
 refine awp_skip (kn_then (awp_seq ?_))
 obtain ⟨b4, hb4, h0⟩ := bindS h0
 refine awp_sr3 (fr' := [(1, .ref 0 0 0 0), (16, .bool b4)]) (hp' := [(0, ⟨0, true, true, 12, [[.int .i64 c1.Kind, .int .i64 c1.Grant, .str c1.Key, .str c1.Val, .str c1.Range.Low, .str c1.Range.High, .bool c1.Range.Bound, .int .i64 c1.Handle.Index, .int .i64 c1.Handle.Gen, .int .i64 c1.Other.Index, .int .i64 c1.Other.Gen, .psl 3 (List.map TApiOpWrite.enc c1.Writes)]], none⟩)]) [0] 112 [1, 16] (fun _ => none) rfl (fun Kt hK => by
   cases hg5 : (decide (c1.Grant < 0)) with
   | false =>
    replace hb4 := iteF hb4 hg5
    have hqb4 := Option.some.inj hb4
    subst hqb4
    exact rW hg5 hK
   | true =>
    replace hb4 := iteT hb4 hg5
    have hqb4 := Option.some.inj hb4
    subst hqb4
    exact rW hg5 hK) ?_
 refine xI h0 rfl (fun h0 hb6 => ?_) (fun h0 hb6 => ?_)
 ·
  refine xS 120 [2] ?_
  refine awp_ret (kr_then ?_)
  obtain rfl := Option.some.inj h0
  exact leave_retG [] rG
 refine awp_skip (kn_then (awp_seq ?_))
 obtain ⟨vr7, hvr7, h0⟩ := bindS h0
 refine awp_sr2 128 [1, 18] (fun | 1 => some (.bool vr7, []) | _ => none) rfl (fun _ _ => rC (c_bookendref04_extra hvr7)) ?_
 refine xI h0 rfl (fun h0 hb8 => ?_) (fun h0 hb8 => ?_)
 ·
  refine xS 136 [2] ?_
  refine awp_ret (kr_then ?_)
  obtain rfl := Option.some.inj h0
  exact leave_retG [] rG
 refine awp_skip (kn_then (awp_seq ?_))
 obtain ⟨vr9, hvr9, h0⟩ := bindS h0
 obtain ⟨b11, hb11, h0⟩ := bindS h0
 refine awp_sr3 (fr' := [(1, .ref 0 0 0 0), (28, .bool b11)]) (hp' := [(0, ⟨0, true, true, 12, [[.int .i64 c1.Kind, .int .i64 c1.Grant, .str c1.Key, .str c1.Val, .str c1.Range.Low, .str c1.Range.High, .bool c1.Range.Bound, .int .i64 c1.Handle.Index, .int .i64 c1.Handle.Gen, .int .i64 c1.Other.Index, .int .i64 c1.Other.Gen, .psl 3 (List.map TApiOpWrite.enc c1.Writes)]], none⟩)]) [0] 208 [1, 28] (fun | 2 => some (.bool vr9, []) | 7 => (bookendref04_handle fu c1.Other).bind fun vr10 => some (.bool vr10, []) | _ => none) rfl (fun Kt hK => by
   cases hg12 : (!vr9) with
   | false =>
    replace hb11 := iteF hb11 hg12
    obtain ⟨vr10, hvr10, hb11⟩ := bindS hb11
    have hqb11 := Option.some.inj hb11
    subst hqb11
    simp (maxSteps := 1000000) only [↓reduceIte, reduceCtorEq, Nat.reduceEqDiff, Nat.reduceLT, Nat.reduceLeDiff, Nat.reduceAdd, Nat.reduceMul, Int.reduceToNat, push_cast, ↓hg12, hvr10]
    try simp only [↓hg12] at hK
    try have q0 := c_bookendref04_handle hvr9
    try have q1 := c_bookendref04_handle hvr10
    all_goals exact rU
   | true =>
    replace hb11 := iteT hb11 hg12
    have hqb11 := Option.some.inj hb11
    subst hqb11
    simp (maxSteps := 1000000) only [↓reduceIte, reduceCtorEq, Nat.reduceEqDiff, Nat.reduceLT, Nat.reduceLeDiff, Nat.reduceAdd, Nat.reduceMul, Int.reduceToNat, push_cast, ↓hg12]
    try simp only [↓hg12] at hK
    try have q0 := c_bookendref04_handle hvr9
    try have q1 := c_bookendref04_handle hvr10
    all_goals exact rU) ?_
 refine xI h0 rfl (fun h0 hb13 => ?_) (fun h0 hb13 => ?_)
 ·
  refine xS 216 [2] ?_
  refine awp_ret (kr_then ?_)
  obtain rfl := Option.some.inj h0
  exact leave_retG [] rG
 refine awp_skip (kn_then (awp_seq ?_))
 obtain ⟨vr14, hvr14, h0⟩ := bindS h0
 obtain ⟨b16, hb16, h0⟩ := bindS h0
 obtain ⟨b18, hb18, h0⟩ := bindS h0
 obtain ⟨b20, hb20, h0⟩ := bindS h0
 obtain ⟨b21, hb21, h0⟩ := bindS h0
 refine awp_sr3 (fr' := [(1, .ref 0 0 0 0), (54, .bool b21)]) (hp' := [(0, ⟨0, true, true, 12, [[.int .i64 c1.Kind, .int .i64 c1.Grant, .str c1.Key, .str c1.Val, .str c1.Range.Low, .str c1.Range.High, .bool c1.Range.Bound, .int .i64 c1.Handle.Index, .int .i64 c1.Handle.Gen, .int .i64 c1.Other.Index, .int .i64 c1.Other.Gen, .psl 3 (List.map TApiOpWrite.enc c1.Writes)]], none⟩)]) [0] 416 [1, 54] (fun | 2 => some (.bool vr14, []) | 6 => (bookendref04_long fu c1.Val).bind fun vr15 => some (.bool vr15, []) | 12 => (bookendref04_long fu c1.Range.Low).bind fun vr17 => some (.bool vr17, []) | 18 => (bookendref04_long fu c1.Range.High).bind fun vr19 => some (.bool vr19, []) | _ => none) rfl (fun Kt hK => by
   cases vr14 with
   | false =>
    replace hb16 := iteF hb16 rfl
    obtain ⟨vr15, hvr15, hb16⟩ := bindS hb16
    have hqb16 := Option.some.inj hb16
    cases b16 with
    | false =>
     subst hqb16
     replace hb18 := iteF hb18 rfl
     obtain ⟨vr17, hvr17, hb18⟩ := bindS hb18
     have hqb18 := Option.some.inj hb18
     cases b18 with
     | false =>
      subst hqb18
      replace hb20 := iteF hb20 rfl
      obtain ⟨vr19, hvr19, hb20⟩ := bindS hb20
      have hqb20 := Option.some.inj hb20
      cases b20 with
      | false =>
       subst hqb20
       replace hb21 := iteF hb21 rfl
       have hqb21 := Option.some.inj hb21
       subst hqb21
       try have q0 := c_bookendref04_long hvr14
       try have q1 := c_bookendref04_long hvr15
       try have q2 := c_bookendref04_long hvr17
       try have q3 := c_bookendref04_long hvr19
       exact rS (rA hvr15 (rA hvr17 hvr19))
      | true =>
       subst hqb20
       replace hb21 := iteT hb21 rfl
       have hqb21 := Option.some.inj hb21
       subst hqb21
       try have q0 := c_bookendref04_long hvr14
       try have q1 := c_bookendref04_long hvr15
       try have q2 := c_bookendref04_long hvr17
       try have q3 := c_bookendref04_long hvr19
       exact rS (rA hvr15 (rA hvr17 hvr19))
     | true =>
      subst hqb18
      replace hb20 := iteT hb20 rfl
      have hqb20 := Option.some.inj hb20
      cases b20 with
      | false =>
       cases hqb20
      | true =>
       replace hb21 := iteT hb21 rfl
       have hqb21 := Option.some.inj hb21
       subst hqb21
       try have q0 := c_bookendref04_long hvr14
       try have q1 := c_bookendref04_long hvr15
       try have q2 := c_bookendref04_long hvr17
       try have q3 := c_bookendref04_long hvr19
       exact rS (rA hvr15 hvr17)
    | true =>
     subst hqb16
     replace hb18 := iteT hb18 rfl
     have hqb18 := Option.some.inj hb18
     cases b18 with
     | false =>
      cases hqb18
     | true =>
      replace hb20 := iteT hb20 rfl
      have hqb20 := Option.some.inj hb20
      cases b20 with
      | false =>
       cases hqb20
      | true =>
       replace hb21 := iteT hb21 rfl
       have hqb21 := Option.some.inj hb21
       subst hqb21
       try have q0 := c_bookendref04_long hvr14
       try have q1 := c_bookendref04_long hvr15
       try have q2 := c_bookendref04_long hvr17
       try have q3 := c_bookendref04_long hvr19
       exact rS hvr15
   | true =>
    replace hb16 := iteT hb16 rfl
    have hqb16 := Option.some.inj hb16
    cases b16 with
    | false =>
     cases hqb16
    | true =>
     replace hb18 := iteT hb18 rfl
     have hqb18 := Option.some.inj hb18
     cases b18 with
     | false =>
      cases hqb18
     | true =>
      replace hb20 := iteT hb20 rfl
      have hqb20 := Option.some.inj hb20
      cases b20 with
      | false =>
       cases hqb20
      | true =>
       replace hb21 := iteT hb21 rfl
       have hqb21 := Option.some.inj hb21
       subst hqb21
       try have q0 := c_bookendref04_long hvr14
       try have q1 := c_bookendref04_long hvr15
       try have q2 := c_bookendref04_long hvr17
       try have q3 := c_bookendref04_long hvr19
       exact rT) ?_
 refine xI h0 rfl (fun h0 hb32 => ?_) (fun h0 hb32 => ?_)
 ·
  refine xS 424 [2] ?_
  refine awp_ret (kr_then ?_)
  obtain rfl := Option.some.inj h0
  exact leave_retG [] rG
 refine awp_skip (kn_then ?_)
 obtain ⟨b33, hb33, h0⟩ := bindS h0
 refine awp_sr3 (fr' := [(1, .ref 0 0 0 0), (3, .bool b33)]) (hp' := [(0, ⟨0, true, true, 12, [[.int .i64 c1.Kind, .int .i64 c1.Grant, .str c1.Key, .str c1.Val, .str c1.Range.Low, .str c1.Range.High, .bool c1.Range.Bound, .int .i64 c1.Handle.Index, .int .i64 c1.Handle.Gen, .int .i64 c1.Other.Index, .int .i64 c1.Other.Gen, .psl 3 (List.map TApiOpWrite.enc c1.Writes)]], none⟩)]) [0] 504 [1, 3] (fun _ => none) rfl (fun Kt hK => by
   cases hg34 : (!c1.Range.Bound) with
   | false =>
    replace hb33 := iteF hb33 hg34
    have hqb33 := Option.some.inj hb33
    subst hqb33
    exact rW hg34 hK
   | true =>
    replace hb33 := iteT hb33 hg34
    have hqb33 := Option.some.inj hb33
    subst hqb33
    exact rW hg34 hK) ?_
 refine awp_seq ?_
 refine xS 512 [1, 3, 4] ?_
 obtain ⟨x59, hxx59, h0⟩ := bindS h0
 refine awp_bloop (fun s' => ∃ o73 : Bool, x59 = .inl o73 ∧ s'.nx ≤ 552 ∧ LeN [] s' ⟨[(1, .ref 0 0 0 0), (3, .bool o73)], [(0, ⟨0, true, true, 12, [[.int .i64 c1.Kind, .int .i64 c1.Grant, .str c1.Key, .str c1.Val, .str c1.Range.Low, .str c1.Range.High, .bool c1.Range.Bound, .int .i64 c1.Handle.Index, .int .i64 c1.Handle.Gen, .int .i64 c1.Other.Index, .int .i64 c1.Other.Gen, .psl 3 (List.map TApiOpWrite.enc c1.Writes)]], none⟩)], 552, []⟩) ?_ ?_
 ·
  intro s' hs
  obtain ⟨o73, rfl, hn, hs⟩ := hs
  refine kn_then ?_
  refine awp_re [] hn hs ?_
  refine awp_seq ?_
  obtain ⟨b74, hb74, h0⟩ := bindS h0
  refine awp_sr3 (fr' := [(3, .bool o73), (114, .bool b74)]) (hp' := [(0, ⟨0, true, true, 12, [[.int .i64 c1.Kind, .int .i64 c1.Grant, .str c1.Key, .str c1.Val, .str c1.Range.Low, .str c1.Range.High, .bool c1.Range.Bound, .int .i64 c1.Handle.Index, .int .i64 c1.Handle.Gen, .int .i64 c1.Other.Index, .int .i64 c1.Other.Gen, .psl 3 (List.map TApiOpWrite.enc c1.Writes)]], none⟩)]) [0] 624 [3, 114] (fun _ => none) rfl (fun Kt hK => by
    cases hg75 : (decide (c1.Kind = 3)) with
    | false =>
     replace hb74 := iteF hb74 hg75
     have hqb74 := Option.some.inj hb74
     subst hqb74
     exact rW hg75 hK
    | true =>
     replace hb74 := iteT hb74 hg75
     have hqb74 := Option.some.inj hb74
     subst hqb74
     exact rW hg75 hK) ?_
  refine xI h0 rfl (fun h0 hb76 => ?_) (fun h0 hb76 => ?_)
  ·
   refine xS 632 [2] ?_
   refine awp_ret (kr_then ?_)
   obtain rfl := Option.some.inj h0
   exact leave_retG [] rG
  refine awp_skip (kn_then (awp_seq ?_))
  refine xS 632 [115] ?_
  refine xI h0 rfl (fun h0 hb77 => ?_) (fun h0 hb77 => ?_)
  ·
   refine xS 640 [2] ?_
   refine awp_ret (kr_then ?_)
   obtain rfl := Option.some.inj h0
   exact leave_retG [] rG
  refine awp_skip (kn_then ?_)
  refine xS 640 [2] ?_
  refine awp_ret ?_
  obtain rfl := Option.some.inj h0
  exact leave_retG [] rG
 refine awp_loopF (ι := { p : Nat × Bool × Int // bookendref04_Check_l1 c1 p.1 p.2.1 p.2.2 = some x59 }) (fun p => ⟨[(1, .ref 0 0 0 0), (3, .bool p.1.2.1), (4, .int .i64 p.1.2.2)], [(0, ⟨0, true, true, 12, [[.int .i64 c1.Kind, .int .i64 c1.Grant, .str c1.Key, .str c1.Val, .str c1.Range.Low, .str c1.Range.High, .bool c1.Range.Bound, .int .i64 c1.Handle.Index, .int .i64 c1.Handle.Gen, .int .i64 c1.Other.Index, .int .i64 c1.Other.Gen, .psl 3 (List.map TApiOpWrite.enc c1.Writes)]], none⟩)], 512, []⟩) (fun p => p.1.1) ⟨(fu, b33, 0), hxx59⟩ ⟨rF, rE, rfl, rfl, trivial, trivial⟩ (fun _ => Nat.le_refl _) ?_
 rintro ⟨⟨fu, form60, i61⟩, h1⟩
 cases fu with
 | zero =>
  replace h1 : bookendref04_Check_l1 c1 0 form60 i61 = some x59 := h1
  rw [bookendref04_Check_l1] at h1; cases h1
 | succ fu =>
  replace h1 : bookendref04_Check_l1 c1 (fu + 1) form60 i61 = some x59 := h1
  rw [bookendref04_Check_l1] at h1
  dsimp only
  refine awp_seq ?_
  refine xS 552 [1, 3, 4, 69] ?_
  refine xI h1 rfl (fun h1 hb62 => ?_) (fun h1 hb62 => ?_)
  ·
   refine awp_skip (kn_then (awp_seq (awp_block (awp_seq ?_))))
   obtain ⟨e63, he63, h1⟩ := bindS h1
   obtain ⟨he63a, he63b, he63c⟩ := idxS he63
   obtain ⟨vr64, hvr64, h1⟩ := bindS h1
   obtain ⟨b66, hb66, h1⟩ := bindS h1
   refine awp_sr3 (fr' := [(1, .ref 0 0 0 0), (3, .bool form60), (4, .int .i64 i61), (87, .bool b66)]) (hp' := [(0, ⟨0, true, true, 12, [[.int .i64 c1.Kind, .int .i64 c1.Grant, .str c1.Key, .str c1.Val, .str c1.Range.Low, .str c1.Range.High, .bool c1.Range.Bound, .int .i64 c1.Handle.Index, .int .i64 c1.Handle.Gen, .int .i64 c1.Other.Index, .int .i64 c1.Other.Gen, .psl 3 (List.map TApiOpWrite.enc c1.Writes)]], none⟩)]) [0] 680 [1, 3, 4, 87] (fun | 6 => some (.bool vr64, []) | 14 => (bookendref04_long fu e63.Val).bind fun vr65 => some (.bool vr65, []) | _ => none) rfl (fun Kt hK => by
     cases vr64 with
     | false =>
      replace hb66 := iteF hb66 rfl
      obtain ⟨vr65, hvr65, hb66⟩ := bindS hb66
      have hqb66 := Option.some.inj hb66
      subst hqb66
      try have q0 := c_bookendref04_long hvr64
      try have q1 := c_bookendref04_long hvr65
      exact rS (rA he63a (rA he63b (rA he63c hvr65)))
     | true =>
      replace hb66 := iteT hb66 rfl
      have hqb66 := Option.some.inj hb66
      subst hqb66
      try have q0 := c_bookendref04_long hvr64
      try have q1 := c_bookendref04_long hvr65
      exact rS (rA he63a (rA he63b he63c))) ?_
   refine xI h1 rfl (fun h1 hb68 => ?_) (fun h1 hb68 => ?_)
   ·
    refine awp_sr2 688 [2] (fun _ => none) rfl (fun _ _ => rS (rA he63a (rA he63b he63c))) ?_
    refine awp_ret ?_
    obtain rfl := Option.some.inj h1
    refine kr_then (kr_block (kr_then (kr_then (kr_loop (kr_then ?_)))))
    obtain rfl := Option.some.inj h0
    refine leave_retG [] ?_
    exact rJ (rA he63a (rA he63b he63c))
   refine awp_skip (kn_then ?_)
   obtain ⟨b70, hb70, h1⟩ := bindS h1
   refine awp_r3 (fr' := [(1, .ref 0 0 0 0), (3, .bool b70), (4, .int .i64 i61)]) (hp' := [(0, ⟨0, true, true, 12, [[.int .i64 c1.Kind, .int .i64 c1.Grant, .str c1.Key, .str c1.Val, .str c1.Range.Low, .str c1.Range.High, .bool c1.Range.Bound, .int .i64 c1.Handle.Index, .int .i64 c1.Handle.Gen, .int .i64 c1.Other.Index, .int .i64 c1.Other.Gen, .psl 3 (List.map TApiOpWrite.enc c1.Writes)]], none⟩)]) [0] 832 [1, 3, 4] (fun _ => none) rfl (fun Kt hK => by
     cases form60 with
     | false =>
      replace hb70 := iteF hb70 rfl
      obtain ⟨b69, hb69, hb70⟩ := bindS hb70
      have hqb70 := Option.some.inj hb70
      cases hg72 : e63.Dead with
      | false =>
       replace hb69 := iteF hb69 hg72
       have hqb69 := Option.some.inj hb69
       subst hqb70
       subst hqb69
       exact rWg hg72 (rA he63a (rA he63b he63c)) hK
      | true =>
       replace hb69 := iteT hb69 hg72
       have hqb69 := Option.some.inj hb69
       subst hqb70
       subst hqb69
       exact rWg hg72 (rA he63a (rA he63b he63c)) hK
     | true =>
      replace hb70 := iteT hb70 rfl
      have hqb70 := Option.some.inj hb70
      subst hqb70
      exact rS (rA he63a (rA he63b he63c))) ?_
   refine kn_block (kn_then ?_)
   refine awp_r2 856 [1, 3, 4] (fun _ => none) rfl (fun _ _ => rS (rA he63a (rA he63b he63c))) ?_
   refine kn_then ?_
   exact ⟨⟨(fu, b70, (IntKind.i64.wrap (i61 + 1))), h1⟩, ⟨rF, rE, rfl, rfl, trivial, trivial⟩, Nat.lt_succ_self _⟩
  refine awp_exit (kx_then (kx_then (kx_done ?_)))
  obtain rfl := Option.some.inj h1
  exact ⟨_, rfl, rL, ⟨rF, rE, rfl, rfl, trivial, trivial⟩⟩
theorem c_bookendref04_Write [Adr] {fu : Nat} {c1 : TApiOpCall} {r : Bool} (h0 : bookendref04_Write fu c1 = some r) : PCall Tryz.prog 19 [.agg (TApiOpCall.enc c1)] (.bool r) [] := by
 refine awp_pcall Tryz.func19 rfl (by decide) rL ?_
 dsimp only [Tryz.f19]
 rw [bookendref04_Write] at h0
 refine xS 16 [1] ?_
 obtain ⟨b2, hb2, h0⟩ := bindS h0
 refine awp_sr3 (fr' := [(2, .bool b2)]) (hp' := [(0, ⟨0, true, true, 12, [[.int .i64 c1.Kind, .int .i64 c1.Grant, .str c1.Key, .str c1.Val, .str c1.Range.Low, .str c1.Range.High, .bool c1.Range.Bound, .int .i64 c1.Handle.Index, .int .i64 c1.Handle.Gen, .int .i64 c1.Other.Index, .int .i64 c1.Other.Gen, .psl 3 (List.map TApiOpWrite.enc c1.Writes)]], none⟩)]) [0] 88 [2] (fun _ => none) rfl (fun Kt hK => by
   cases hg3 : (decide (1 ≤ c1.Kind)) with
   | false =>
    replace hb2 := iteF hb2 hg3
    have hqb2 := Option.some.inj hb2
    subst hqb2
    exact rW hg3 hK
   | true =>
    replace hb2 := iteT hb2 hg3
    have hqb2 := Option.some.inj hb2
    subst hqb2
    exact rW hg3 hK) ?_
 refine awp_ret ?_
 obtain rfl := Option.some.inj h0
 exact leave_retG [] rG
theorem c_bookendref31_many [Adr] {fu : Nat} {c1 : TApiOpCall} {r : Int} (h0 : bookendref31_many fu c1 = some r) : PCall Tryz.prog 20 [.agg (TApiOpCall.enc c1)] (.int .i64 r) [] := by
 refine awp_pcall Tryz.func20 rfl (by decide) rL ?_
 dsimp only [Tryz.f20]
 rw [bookendref31_many] at h0
 refine xS 16 [1] ?_
 refine awp_seq ?_
 refine xS 40 [1, 5] ?_
 refine xI h0 rfl (fun h0 hb2 => ?_) (fun h0 hb2 => ?_)
 ·
  refine xS 72 [2] ?_
  refine awp_ret (kr_then ?_)
  obtain rfl := Option.some.inj h0
  exact leave_retG [] rG
 refine awp_skip (kn_then ?_)
 refine xS 48 [2] ?_
 refine awp_ret ?_
 obtain rfl := Option.some.inj h0
 exact leave_retG [] rG
theorem c_bookendref31_Events [Adr] {fu : Nat} {l1 : List TApiOpCall} {a2 : List TApiOpAnswer} {r : TApiStEvents × Int × Int} (h0 : bookendref31_Events fu l1 a2 = some r) : PCall Tryz.prog 8 [.psl 12 (l1.map TApiOpCall.enc), .psl 24 (a2.map TApiOpAnswer.enc)] (.tup [.agg (TApiStEvents.enc r.1), .int .i64 r.2.1, .int .i64 r.2.2]) [] := by
 refine awp_pcall Tryz.func8 rfl (by decide) rL ?_
 dsimp only [Tryz.f8]
 rw [bookendref31_Events] at h0
 refine xS 24 [0, 1, 4] ?_
 refine awp_seq ?_
 refine xS 48 [0, 1, 4, 13] ?_
 refine xI h0 rfl (fun h0 hb3 => ?_) (fun h0 hb3 => ?_)
 ·
  refine xS 80 [4, 5, 6] ?_
  refine awp_ret (kr_then ?_)
  obtain rfl := Option.some.inj h0
  exact leave_retG [] rG
 refine awp_skip (kn_then (awp_seq ?_))
 refine xS 88 [0, 1, 4, 19] ?_
 refine xI h0 rfl (fun h0 hb4 => ?_) (fun h0 hb4 => ?_)
 ·
  refine xS 120 [4, 5, 6] ?_
  refine awp_ret (kr_then ?_)
  obtain rfl := Option.some.inj h0
  exact leave_retG [] rG
 refine awp_skip (kn_then ?_)
 refine xS 96 [0, 1, 4, 7] ?_
 refine awp_seq ?_
 refine xS 104 [0, 1, 4, 7, 8] ?_
 obtain ⟨x62, hxx62, h0⟩ := bindS h0
 refine awp_bloop (fun s' => ∃ o94 : Int × Int × Int × Int, x62 = .inl o94 ∧ s'.nx ≤ 136 ∧ LeN [] s' ⟨[(4, .ref 0 0 0 0), (7, .ref 88 0 0 0)], [(0, ⟨0, true, true, 4, [[.int .i64 0, .int .i64 0, .int .i64 0, .int .i64 0]], none⟩), (88, ⟨0, true, true, 4, [[.int .i64 o94.1, .int .i64 o94.2.1, .int .i64 o94.2.2.1, .int .i64 o94.2.2.2]], none⟩)], 136, []⟩) ?_ ?_
 ·
  intro s' hs
  obtain ⟨o94, rfl, hn, hs⟩ := hs
  refine kn_then ?_
  refine awp_re [] hn hs ?_
  refine xS 168 [4, 5, 6] ?_
  refine awp_ret ?_
  obtain rfl := Option.some.inj h0
  exact leave_retG [] rG
 refine awp_loopF (ι := { p : Nat × Int × Int × Int × Int × Int // bookendref31_Events_l1 l1 a2 p.1 p.2.1 p.2.2.1 p.2.2.2.1 p.2.2.2.2.1 p.2.2.2.2.2 = some x62 }) (fun p => ⟨[(0, .psl 12 (List.map TApiOpCall.enc l1)), (1, .psl 24 (List.map TApiOpAnswer.enc a2)), (4, .ref 0 0 0 0), (7, .ref 88 0 0 0), (8, .int .i64 p.1.2.1)], [(0, ⟨0, true, true, 4, [[.int .i64 0, .int .i64 0, .int .i64 0, .int .i64 0]], none⟩), (88, ⟨0, true, true, 4, [[.int .i64 p.1.2.2.1, .int .i64 p.1.2.2.2.1, .int .i64 p.1.2.2.2.2.1, .int .i64 p.1.2.2.2.2.2]], none⟩)], 104, []⟩) (fun p => p.1.1) ⟨(fu, 0, 0, 0, 0, 0), hxx62⟩ ⟨rF, rE, rfl, rfl, trivial, trivial⟩ (fun _ => Nat.le_refl _) ?_
 rintro ⟨⟨fu, i63, vx64, vx65, vx66, vx67⟩, h1⟩
 cases fu with
 | zero =>
  replace h1 : bookendref31_Events_l1 l1 a2 0 i63 vx64 vx65 vx66 vx67 = some x62 := h1
  rw [bookendref31_Events_l1] at h1; cases h1
 | succ fu =>
  replace h1 : bookendref31_Events_l1 l1 a2 (fu + 1) i63 vx64 vx65 vx66 vx67 = some x62 := h1
  rw [bookendref31_Events_l1] at h1
  dsimp only
  refine awp_seq ?_
  refine xS 136 [0, 1, 4, 7, 8, 24] ?_
  refine xI h1 rfl (fun h1 hb68 => ?_) (fun h1 hb68 => ?_)
  ·
   refine awp_skip (kn_then (awp_seq (awp_block ?_)))
   obtain ⟨e69, he69, h1⟩ := bindS h1
   obtain ⟨he69a, he69b, he69c⟩ := idxS he69
   obtain ⟨vr70, hvr70, h1⟩ := bindS h1
   refine awp_sr2 184 [0, 1, 4, 7, 8, 9] (fun | 4 => some (.int .i64 vr70, []) | _ => none) rfl (fun _ _ => rB (rA he69a (rA he69b he69c)) (c_bookendref04_Check hvr70)) ?_
   refine awp_seq ?_
   refine awp_sr2 200 [0, 1, 4, 7, 8, 9, 33] (fun _ => none) rfl (fun _ _ => rS (rA he69a (rA he69b he69c))) ?_
   refine xI h1 rfl (fun h1 hb71 => ?_) (fun h1 hb71 => ?_)
   ·
    refine awp_sr2 248 [4, 5, 6] (fun _ => none) rfl (fun _ _ => rS (rA he69a (rA he69b he69c))) ?_
    refine awp_ret ?_
    obtain rfl := Option.some.inj h1
    refine kr_then (kr_block (kr_then (kr_then (kr_loop (kr_then ?_)))))
    obtain rfl := Option.some.inj h0
    refine leave_retG [] ?_
    exact rJ (rA he69a (rA he69b he69c))
   refine awp_skip (kn_then ?_)
   obtain ⟨e72, he72, h1⟩ := bindS h1
   obtain ⟨he72a, he72b, he72c⟩ := idxS he72
   refine awp_sr2 256 [0, 1, 4, 7, 8, 10] (fun _ => none) rfl (fun _ _ => rS (rA he69a (rA he69b (rA he69c (rA he72a (rA he72b he72c)))))) ?_
   refine awp_block ?_
   obtain ⟨vr73, hvr73, h1⟩ := bindS h1
   obtain ⟨b74, hb74, h1⟩ := bindS h1
   refine awp_sr3 (fr' := [(0, .psl 12 (List.map TApiOpCall.enc l1)), (1, .psl 24 (List.map TApiOpAnswer.enc a2)), (4, .ref 0 0 0 0), (7, .ref 88 0 0 0), (8, .int .i64 i63), (10, .bool (decide (e72.E = 0))), (43, .bool b74)]) (hp' := [(0, ⟨0, true, true, 4, [[.int .i64 0, .int .i64 0, .int .i64 0, .int .i64 0]], none⟩), (88, ⟨0, true, true, 4, [[.int .i64 vx64, .int .i64 vx65, .int .i64 vx66, .int .i64 vx67]], none⟩)]) [0, 88] 328 [0, 1, 4, 7, 8, 10, 43] (fun | 4 => some (.bool vr73, []) | _ => none) rfl (fun Kt hK => by
     cases vr73 with
     | false =>
      replace hb74 := iteF hb74 rfl
      have hqb74 := Option.some.inj hb74
      subst hqb74
      try have q0 := c_bookendref04_Write hvr73
      exact rS (rA he69a (rA he69b (rA he69c (rA he72a (rA he72b he72c)))))
     | true =>
      replace hb74 := iteT hb74 rfl
      have hqb74 := Option.some.inj hb74
      subst hqb74
      try have q0 := c_bookendref04_Write hvr73
      exact rS (rA he69a (rA he69b (rA he69c (rA he72a (rA he72b he72c)))))) ?_
   refine xI h1 rfl (fun h1 hb76 => ?_) (fun h1 hb76 => ?_)
   ·
    obtain ⟨vr77, hvr77, h1⟩ := bindS h1
    refine awp_d2 408 [0, 1, 4, 7, 8] (fun | 6 => some (.int .i64 vr77, []) | _ => none) rfl rfl rfl (fun _ _ => rBd (rA he69a (rA he69b (rA he69c (rA he72a (rA he72b he72c))))) (c_bookendref31_many hvr77)) ?_
    refine kn_block (kn_block (kn_then ?_))
    refine awp_r2 432 [0, 1, 4, 7, 8] (fun _ => none) rfl (fun _ _ => rS (rA he69a (rA he69b (rA he69c (rA he72a (rA he72b he72c)))))) ?_
    refine kn_then ?_
    exact ⟨⟨(fu, (IntKind.i64.wrap (i63 + 1)), (IntKind.i64.wrap (vx64 + vr77)), vx65, vx66, vx67), h1⟩, ⟨rF, rE, rfl, rfl, trivial, trivial⟩, Nat.lt_succ_self _⟩
   obtain ⟨vr78, hvr78, h1⟩ := bindS h1
   obtain ⟨b79, hb79, h1⟩ := bindS h1
   refine awp_sr3 (fr' := [(0, .psl 12 (List.map TApiOpCall.enc l1)), (1, .psl 24 (List.map TApiOpAnswer.enc a2)), (4, .ref 0 0 0 0), (7, .ref 88 0 0 0), (8, .int .i64 i63), (10, .bool (decide (e72.E = 0))), (61, .bool b79)]) (hp' := [(0, ⟨0, true, true, 4, [[.int .i64 0, .int .i64 0, .int .i64 0, .int .i64 0]], none⟩), (88, ⟨0, true, true, 4, [[.int .i64 vx64, .int .i64 vx65, .int .i64 vx66, .int .i64 vx67]], none⟩)]) [0, 88] 440 [0, 1, 4, 7, 8, 10, 61] (fun | 4 => some (.bool vr78, []) | _ => none) rfl (fun Kt hK => by
     cases vr78 with
     | false =>
      replace hb79 := iteF hb79 rfl
      have hqb79 := Option.some.inj hb79
      subst hqb79
      try have q0 := c_bookendref04_Write hvr78
      exact rS (rA he69a (rA he69b (rA he69c (rA he72a (rA he72b he72c)))))
     | true =>
      replace hb79 := iteT hb79 rfl
      have hqb79 := Option.some.inj hb79
      subst hqb79
      try have q0 := c_bookendref04_Write hvr78
      exact rS (rA he69a (rA he69b (rA he69c (rA he72a (rA he72b he72c)))))) ?_
   refine xI h1 rfl (fun h1 hb81 => ?_) (fun h1 hb81 => ?_)
   ·
    refine awp_r2 480 [0, 1, 4, 7, 8] (fun _ => none) rfl (fun _ _ => rS (rA he69a (rA he69b (rA he69c (rA he72a (rA he72b he72c)))))) ?_
    refine kn_block (kn_block (kn_then ?_))
    refine awp_r2 504 [0, 1, 4, 7, 8] (fun _ => none) rfl (fun _ _ => rS (rA he69a (rA he69b (rA he69c (rA he72a (rA he72b he72c)))))) ?_
    refine kn_then ?_
    exact ⟨⟨(fu, (IntKind.i64.wrap (i63 + 1)), vx64, (IntKind.i64.wrap (vx65 + 1)), vx66, vx67), h1⟩, ⟨rF, rE, rfl, rfl, trivial, trivial⟩, Nat.lt_succ_self _⟩
   obtain ⟨b82, hb82, h1⟩ := bindS h1
   refine awp_sr3 (fr' := [(0, .psl 12 (List.map TApiOpCall.enc l1)), (1, .psl 24 (List.map TApiOpAnswer.enc a2)), (4, .ref 0 0 0 0), (7, .ref 88 0 0 0), (8, .int .i64 i63), (10, .bool (decide (e72.E = 0))), (79, .bool b82)]) (hp' := [(0, ⟨0, true, true, 4, [[.int .i64 0, .int .i64 0, .int .i64 0, .int .i64 0]], none⟩), (88, ⟨0, true, true, 4, [[.int .i64 vx64, .int .i64 vx65, .int .i64 vx66, .int .i64 vx67]], none⟩)]) [0, 88] 520 [0, 1, 4, 7, 8, 10, 79] (fun _ => none) rfl (fun Kt hK => by
     cases hg83 : (decide (e69.Kind = 8)) with
     | false =>
      replace hb82 := iteF hb82 hg83
      have hqb82 := Option.some.inj hb82
      subst hqb82
      exact rWg hg83 (rA he69a (rA he69b (rA he69c (rA he72a (rA he72b he72c))))) hK
     | true =>
      replace hb82 := iteT hb82 hg83
      have hqb82 := Option.some.inj hb82
      subst hqb82
      exact rWg hg83 (rA he69a (rA he69b (rA he69c (rA he72a (rA he72b he72c))))) hK) ?_
   refine xI h1 rfl (fun h1 hb84 => ?_) (fun h1 hb84 => ?_)
   ·
    refine awp_r2 560 [0, 1, 4, 7, 8] (fun _ => none) rfl (fun _ _ => rS (rA he69a (rA he69b (rA he69c (rA he72a (rA he72b he72c)))))) ?_
    refine kn_block (kn_block (kn_then ?_))
    refine awp_r2 584 [0, 1, 4, 7, 8] (fun _ => none) rfl (fun _ _ => rS (rA he69a (rA he69b (rA he69c (rA he72a (rA he72b he72c)))))) ?_
    refine kn_then ?_
    exact ⟨⟨(fu, (IntKind.i64.wrap (i63 + 1)), vx64, vx65, (IntKind.i64.wrap (vx66 + 1)), vx67), h1⟩, ⟨rF, rE, rfl, rfl, trivial, trivial⟩, Nat.lt_succ_self _⟩
   obtain ⟨b85, hb85, h1⟩ := bindS h1
   refine awp_sr3 (fr' := [(0, .psl 12 (List.map TApiOpCall.enc l1)), (1, .psl 24 (List.map TApiOpAnswer.enc a2)), (4, .ref 0 0 0 0), (7, .ref 88 0 0 0), (8, .int .i64 i63), (10, .bool (decide (e72.E = 0))), (93, .bool b85)]) (hp' := [(0, ⟨0, true, true, 4, [[.int .i64 0, .int .i64 0, .int .i64 0, .int .i64 0]], none⟩), (88, ⟨0, true, true, 4, [[.int .i64 vx64, .int .i64 vx65, .int .i64 vx66, .int .i64 vx67]], none⟩)]) [0, 88] 600 [0, 1, 4, 7, 8, 10, 93] (fun _ => none) rfl (fun Kt hK => by
     cases hg86 : (decide (e69.Kind = 9)) with
     | false =>
      replace hb85 := iteF hb85 hg86
      have hqb85 := Option.some.inj hb85
      subst hqb85
      exact rWg hg86 (rA he69a (rA he69b (rA he69c (rA he72a (rA he72b he72c))))) hK
     | true =>
      replace hb85 := iteT hb85 hg86
      have hqb85 := Option.some.inj hb85
      subst hqb85
      exact rWg hg86 (rA he69a (rA he69b (rA he69c (rA he72a (rA he72b he72c))))) hK) ?_
   refine xI h1 rfl (fun h1 hb87 => ?_) (fun h1 hb87 => ?_)
   ·
    refine awp_r2 640 [0, 1, 4, 7, 8] (fun _ => none) rfl (fun _ _ => rS (rA he69a (rA he69b (rA he69c (rA he72a (rA he72b he72c)))))) ?_
    refine kn_block (kn_block (kn_then ?_))
    refine awp_r2 664 [0, 1, 4, 7, 8] (fun _ => none) rfl (fun _ _ => rS (rA he69a (rA he69b (rA he69c (rA he72a (rA he72b he72c)))))) ?_
    refine kn_then ?_
    exact ⟨⟨(fu, (IntKind.i64.wrap (i63 + 1)), vx64, vx65, (IntKind.i64.wrap (vx66 - 1)), vx67), h1⟩, ⟨rF, rE, rfl, rfl, trivial, trivial⟩, Nat.lt_succ_self _⟩
   obtain ⟨b88, hb88, h1⟩ := bindS h1
   refine awp_sr3 (fr' := [(0, .psl 12 (List.map TApiOpCall.enc l1)), (1, .psl 24 (List.map TApiOpAnswer.enc a2)), (4, .ref 0 0 0 0), (7, .ref 88 0 0 0), (8, .int .i64 i63), (10, .bool (decide (e72.E = 0))), (107, .bool b88)]) (hp' := [(0, ⟨0, true, true, 4, [[.int .i64 0, .int .i64 0, .int .i64 0, .int .i64 0]], none⟩), (88, ⟨0, true, true, 4, [[.int .i64 vx64, .int .i64 vx65, .int .i64 vx66, .int .i64 vx67]], none⟩)]) [0, 88] 680 [0, 1, 4, 7, 8, 10, 107] (fun _ => none) rfl (fun Kt hK => by
     cases hg89 : (decide (e69.Kind = 10)) with
     | false =>
      replace hb88 := iteF hb88 hg89
      have hqb88 := Option.some.inj hb88
      subst hqb88
      exact rWg hg89 (rA he69a (rA he69b (rA he69c (rA he72a (rA he72b he72c))))) hK
     | true =>
      replace hb88 := iteT hb88 hg89
      have hqb88 := Option.some.inj hb88
      subst hqb88
      exact rWg hg89 (rA he69a (rA he69b (rA he69c (rA he72a (rA he72b he72c))))) hK) ?_
   refine xI h1 rfl (fun h1 hb90 => ?_) (fun h1 hb90 => ?_)
   ·
    refine awp_r2 720 [0, 1, 4, 7, 8] (fun _ => none) rfl (fun _ _ => rS (rA he69a (rA he69b (rA he69c (rA he72a (rA he72b he72c)))))) ?_
    refine kn_block (kn_block (kn_then ?_))
    refine awp_r2 744 [0, 1, 4, 7, 8] (fun _ => none) rfl (fun _ _ => rS (rA he69a (rA he69b (rA he69c (rA he72a (rA he72b he72c)))))) ?_
    refine kn_then ?_
    exact ⟨⟨(fu, (IntKind.i64.wrap (i63 + 1)), vx64, vx65, vx66, (IntKind.i64.wrap (vx67 + 1))), h1⟩, ⟨rF, rE, rfl, rfl, trivial, trivial⟩, Nat.lt_succ_self _⟩
   obtain ⟨b91, hb91, h1⟩ := bindS h1
   refine awp_sr3 (fr' := [(0, .psl 12 (List.map TApiOpCall.enc l1)), (1, .psl 24 (List.map TApiOpAnswer.enc a2)), (4, .ref 0 0 0 0), (7, .ref 88 0 0 0), (8, .int .i64 i63), (121, .bool b91)]) (hp' := [(0, ⟨0, true, true, 4, [[.int .i64 0, .int .i64 0, .int .i64 0, .int .i64 0]], none⟩), (88, ⟨0, true, true, 4, [[.int .i64 vx64, .int .i64 vx65, .int .i64 vx66, .int .i64 vx67]], none⟩)]) [0, 88] 760 [0, 1, 4, 7, 8, 121] (fun _ => none) rfl (fun Kt hK => by
     cases hg92 : (decide (e69.Kind = 13)) with
     | false =>
      replace hb91 := iteF hb91 hg92
      have hqb91 := Option.some.inj hb91
      subst hqb91
      exact rWg hg92 (rA he69a (rA he69b (rA he69c (rA he72a (rA he72b he72c))))) hK
     | true =>
      replace hb91 := iteT hb91 hg92
      have hqb91 := Option.some.inj hb91
      subst hqb91
      exact rWg hg92 (rA he69a (rA he69b (rA he69c (rA he72a (rA he72b he72c))))) hK) ?_
   refine xI h1 rfl (fun h1 hb93 => ?_) (fun h1 hb93 => ?_)
   ·
    refine awp_r2 800 [0, 1, 4, 7, 8] (fun _ => none) rfl (fun _ _ => rS (rA he69a (rA he69b (rA he69c (rA he72a (rA he72b he72c)))))) ?_
    refine kn_block (kn_block (kn_then ?_))
    refine awp_r2 824 [0, 1, 4, 7, 8] (fun _ => none) rfl (fun _ _ => rS (rA he69a (rA he69b (rA he69c (rA he72a (rA he72b he72c)))))) ?_
    refine kn_then ?_
    exact ⟨⟨(fu, (IntKind.i64.wrap (i63 + 1)), vx64, vx65, vx66, (IntKind.i64.wrap (vx67 - 1))), h1⟩, ⟨rF, rE, rfl, rfl, trivial, trivial⟩, Nat.lt_succ_self _⟩
   refine awp_skip (kn_block (kn_block (kn_then ?_)))
   refine awp_r2 784 [0, 1, 4, 7, 8] (fun _ => none) rfl (fun _ _ => rS (rA he69a (rA he69b (rA he69c (rA he72a (rA he72b he72c)))))) ?_
   refine kn_then ?_
   exact ⟨⟨(fu, (IntKind.i64.wrap (i63 + 1)), vx64, vx65, vx66, vx67), h1⟩, ⟨rF, rE, rfl, rfl, trivial, trivial⟩, Nat.lt_succ_self _⟩
  refine awp_exit (kx_then (kx_then (kx_done ?_)))
  obtain rfl := Option.some.inj h1
  exact ⟨_, rfl, rL, ⟨rF, rE, rfl, rfl, trivial, trivial⟩⟩
theorem c_bookendlaw31_StatsEvents [Adr] [ShownOk] [BareOk] {fu : Nat} {l1 : List TApiOpCall} {a2 : List TApiOpAnswer} {r : Bool} (h0 : bookendlaw31_StatsEvents fu l1 a2 = some r) : PCall Tryz.prog 3 [.psl 12 (l1.map TApiOpCall.enc), .psl 24 (a2.map TApiOpAnswer.enc)] (.bool r) [] := by
 refine awp_pcall Tryz.func3 rfl (by decide) rL ?_
 dsimp only [Tryz.f3]
 rw [bookendlaw31_StatsEvents] at h0
 refine xS 8 [0, 1] ?_
 refine awp_seq ?_
 obtain ⟨vr3, hvr3, h0⟩ := bindS h0
 obtain ⟨b4, hb4, h0⟩ := bindS h0
 refine awp_sr3 (fr' := [(0, .psl 12 (List.map TApiOpCall.enc l1)), (1, .psl 24 (List.map TApiOpAnswer.enc a2)), (18, .bool b4)]) (hp' := []) [] 64 [0, 1, 18] (fun | 1 => some (.bool vr3, []) | _ => none) rfl (fun Kt hK => by
   cases vr3 with
   | false =>
    replace hb4 := iteF hb4 rfl
    have hqb4 := Option.some.inj hb4
    subst hqb4
    try have q0 := c_bookendlaw04_FarScript hvr3
    exact rT
   | true =>
    replace hb4 := iteT hb4 rfl
    have hqb4 := Option.some.inj hb4
    subst hqb4
    try have q0 := c_bookendlaw04_FarScript hvr3
    exact rT) ?_
 refine xI h0 rfl (fun h0 hb6 => ?_) (fun h0 hb6 => ?_)
 ·
  obtain ⟨vr7, hvr7, h0⟩ := bindS h0
  refine awp_sr2 80 [4] (fun | 0 => some (.bool vr7, []) | _ => none) rfl (fun _ _ => rC (c_bookendlaw31_shown hvr7)) ?_
  refine awp_ret (kr_then ?_)
  obtain rfl := Option.some.inj h0
  exact leave_retG [] rG
 refine awp_skip (kn_then (awp_seq ?_))
 refine xS 72 [0, 1, 5] ?_
 obtain ⟨x19, hxx19, h0⟩ := bindS h0
 refine awp_bloop (fun s' => ∃ o26 : Unit, x19 = .inl o26 ∧ s'.nx ≤ 104 ∧ LeN [] s' ⟨[(0, .psl 12 (List.map TApiOpCall.enc l1)), (1, .psl 24 (List.map TApiOpAnswer.enc a2))], [], 104, []⟩) ?_ ?_
 ·
  intro s' hs
  obtain ⟨o26, rfl, hn, hs⟩ := hs
  refine kn_then ?_
  refine awp_re [] hn hs ?_
  obtain ⟨vr27, hvr27, h0⟩ := bindS h0
  refine awp_sr2 192 [0, 1, 6, 7, 8] (fun | 2 => some (.tup [.agg (TApiStEvents.enc vr27.1), .int .i64 vr27.2.1, .int .i64 vr27.2.2], []) | _ => none) rfl (fun _ _ => rC (c_stats_Events hvr27)) ?_
  obtain ⟨vr28, hvr28, h0⟩ := bindS h0
  refine awp_sr2 280 [6, 7, 8, 9, 10, 11] (fun | 2 => some (.tup [.agg (TApiStEvents.enc vr28.1), .int .i64 vr28.2.1, .int .i64 vr28.2.2], []) | _ => none) rfl (fun _ _ => rC (c_bookendref31_Events hvr28)) ?_
  obtain ⟨b29, hb29, h0⟩ := bindS h0
  obtain ⟨b30, hb30, h0⟩ := bindS h0
  obtain ⟨b32, hb32, h0⟩ := bindS h0
  refine awp_sr3 (fr' := [(4, .bool b32)]) (hp' := [(160, ⟨0, true, true, 4, [[.int .i64 vr27.1.Writes, .int .i64 vr27.1.Busy, .int .i64 vr27.1.Pins, .int .i64 vr27.1.Cursors]], none⟩), (248, ⟨0, true, true, 4, [[.int .i64 vr28.1.Writes, .int .i64 vr28.1.Busy, .int .i64 vr28.1.Pins, .int .i64 vr28.1.Cursors]], none⟩)]) [160, 248] 416 [4] (fun | 14 => (bookendlaw31_shown fu).bind fun vr31 => some (.bool vr31, []) | _ => none) rfl (fun Kt hK => by
    cases hg33 : (TApiStEvents.eqb vr27.1 vr28.1) with
    | false =>
     replace hb29 := iteF hb29 hg33
     have hqb29 := Option.some.inj hb29
     cases b29 with
     | false =>
      replace hb30 := iteF hb30 rfl
      have hqb30 := Option.some.inj hb30
      cases b30 with
      | false =>
       replace hb32 := iteF hb32 rfl
       have hqb32 := Option.some.inj hb32
       subst hqb32
       first | exact rWc hg33 (c_bookendlaw31_shown hvr31) hK | exact rW hg33 hK
      | true =>
       cases hqb30
     | true =>
      cases hqb29
    | true =>
     replace hb29 := iteT hb29 hg33
     have hqb29 := Option.some.inj hb29
     cases b29 with
     | false =>
      replace hb30 := iteF hb30 rfl
      have hqb30 := Option.some.inj hb30
      cases b30 with
      | false =>
       replace hb32 := iteF hb32 rfl
       have hqb32 := Option.some.inj hb32
       subst hqb32
       first | exact rWc (rA hg33 hqb29) (c_bookendlaw31_shown hvr31) hK | exact rW (rA hg33 hqb29) hK
      | true =>
       cases hqb30
     | true =>
      replace hb30 := iteT hb30 rfl
      have hqb30 := Option.some.inj hb30
      cases b30 with
      | false =>
       replace hb32 := iteF hb32 rfl
       have hqb32 := Option.some.inj hb32
       subst hqb32
       first | exact rWc (rA hg33 (rA hqb29 hqb30)) (c_bookendlaw31_shown hvr31) hK | exact rW (rA hg33 (rA hqb29 hqb30)) hK
      | true =>
       replace hb32 := iteT hb32 rfl
       obtain ⟨vr31, hvr31, hb32⟩ := bindS hb32
       have hqb32 := Option.some.inj hb32
       subst hqb32
       first | exact rWgc (rA hg33 (rA hqb29 hqb30)) hvr31 (c_bookendlaw31_shown hvr31) hK | exact rWg (rA hg33 (rA hqb29 hqb30)) hvr31 hK) ?_
  refine awp_ret ?_
  obtain rfl := Option.some.inj h0
  exact leave_retG [] rG
 refine awp_loopF (ι := { p : Nat × Int // bookendlaw31_StatsEvents_l1 a2 p.1 p.2 = some x19 }) (fun p => ⟨[(0, .psl 12 (List.map TApiOpCall.enc l1)), (1, .psl 24 (List.map TApiOpAnswer.enc a2)), (5, .int .i64 p.1.2)], [], 72, []⟩) (fun p => p.1.1) ⟨(fu, 0), hxx19⟩ ⟨rF, rE, rfl, rfl, trivial, trivial⟩ (fun _ => Nat.le_refl _) ?_
 rintro ⟨⟨fu, i20⟩, h1⟩
 cases fu with
 | zero =>
  replace h1 : bookendlaw31_StatsEvents_l1 a2 0 i20 = some x19 := h1
  rw [bookendlaw31_StatsEvents_l1] at h1; cases h1
 | succ fu =>
  replace h1 : bookendlaw31_StatsEvents_l1 a2 (fu + 1) i20 = some x19 := h1
  rw [bookendlaw31_StatsEvents_l1] at h1
  dsimp only
  refine awp_seq ?_
  refine xS 104 [0, 1, 5, 23] ?_
  refine xI h1 rfl (fun h1 hb21 => ?_) (fun h1 hb21 => ?_)
  ·
   refine awp_skip (kn_then (awp_seq (awp_block ?_)))
   obtain ⟨e22, he22, h1⟩ := bindS h1
   obtain ⟨he22a, he22b, he22c⟩ := idxS he22
   obtain ⟨vr23, hvr23, h1⟩ := bindS h1
   refine awp_sr2 144 [0, 1, 5, 30] (fun | 4 => some (.bool vr23, []) | _ => none) rfl (fun _ _ => rB (rA he22a (rA he22b he22c)) (c_bookendlaw04_FarAnswer hvr23)) ?_
   refine xI h1 rfl (fun h1 hb24 => ?_) (fun h1 hb24 => ?_)
   ·
    obtain ⟨vr25, hvr25, h1⟩ := bindS h1
    refine awp_sr2 160 [4] (fun | 0 => some (.bool vr25, []) | _ => none) rfl (fun _ _ => rB (rA he22a (rA he22b he22c)) (c_bookendlaw31_shown hvr25)) ?_
    refine awp_ret ?_
    obtain rfl := Option.some.inj h1
    refine kr_block (kr_then (kr_then (kr_loop (kr_then ?_))))
    obtain rfl := Option.some.inj h0
    refine leave_retG [] ?_
    exact rJ (rA he22a (rA he22b he22c))
   refine awp_skip (kn_block (kn_then ?_))
   refine awp_r2 168 [0, 1, 5] (fun _ => none) rfl (fun _ _ => rS (rA he22a (rA he22b he22c))) ?_
   refine kn_then ?_
   exact ⟨⟨(fu, (IntKind.i64.wrap (i20 + 1))), h1⟩, ⟨rF, rE, rfl, rfl, trivial, trivial⟩, Nat.lt_succ_self _⟩
  refine awp_exit (kx_then (kx_then (kx_done ?_)))
  obtain rfl := Option.some.inj h1
  exact ⟨_, rfl, rL, ⟨rF, rE, rfl, rfl, trivial, trivial⟩⟩
end Go.T
end
section
set_option linter.unusedVariables false
set_option maxRecDepth 100000
namespace Go.T
open Go Go.AM Go.Proofs
theorem PCall_args [Adr] {P : Program} {f : FuncId} {ls bs : List AV} {r : AV} {k : List ABlk} (h : PCall P f bs r k) (hr : ∀ (W : World) (F : Nat → Prop) (vs : List Value), VRels W F Emb.zero ls vs → VRels W F Emb.zero bs vs) : PCall P f ls r k :=
  ⟨h.1, fun w F vs h1 h2 h3 => h.2 w F vs h1 h2 (hr _ _ _ h3)⟩
def encB (c : TApiOpCall) : List AV := match TApiOpCall.enc c with
  | a :: b :: .str k :: .str v :: r => a :: b :: .strb bN k :: .strb bN v :: r
  | l => l
theorem encB_ok [Adr] {P : Program} {f : FuncId} {c : TApiOpCall} {r : AV} {k : List ABlk} (hK : c.Key.length ≤ bN) (hV : c.Val.length ≤ bN) (h : PCall P f [.agg (encB c)] r k) : PCall P f [.agg (TApiOpCall.enc c)] r k := by
  refine PCall_args h fun W F vs h => ?_
  simp only [VRels, VRel, encB, TApiOpCall.enc] at h ⊢
  obtain ⟨v, vs', rfl, ⟨cs, rfl, ⟨a0, r0, rfl, e0, a1, r1, rfl, e1, a2, r2, rfl, e2, a3, r3, rfl, e3, h4⟩, h2⟩, h3⟩ := h
  exact ⟨_, _, rfl, ⟨_, rfl, ⟨_, _, rfl, e0, _, _, rfl, e1, _, _, rfl, ⟨e2, hK⟩, _, _, rfl, ⟨e3, hV⟩, h4⟩, h2⟩, h3⟩
section
variable (ad off : Nat → Nat)
theorem bare_1 (hP : POk Tryz.prog) (h0 : @COk (adrOf ad off) Tryz.prog base0) (c : TApiOpCall) (hk : c.Kind = 1) : @PCall (adrOf ad off) Tryz.prog 37 [.agg (encB c)] (.bool (bareF c)) [] := by
  letI : Adr := adrOf ad off
  obtain ⟨Kind, Grant, Key, Val, ⟨Low, High, Bound⟩, ⟨i, j⟩, ⟨k, l⟩, Writes⟩ := c
  simp only at hk
  subst hk
  rcases i with (_ | i) | i
  rotate_left
  · exact run_pcall (n := 10000000) hP h0 (by kernel_rfl)
  · exact run_pcall (n := 10000000) hP h0 (by kernel_rfl)
  rcases j with (_ | j) | j
  rotate_left
  · exact run_pcall (n := 10000000) hP h0 (by kernel_rfl)
  · exact run_pcall (n := 10000000) hP h0 (by kernel_rfl)
  rcases k with (_ | k) | k
  rotate_left
  · exact run_pcall (n := 10000000) hP h0 (by kernel_rfl)
  · exact run_pcall (n := 10000000) hP h0 (by kernel_rfl)
  rcases l with (_ | l) | l
  rotate_left
  · exact run_pcall (n := 10000000) hP h0 (by kernel_rfl)
  · exact run_pcall (n := 10000000) hP h0 (by kernel_rfl)
  rcases Low with _ | ⟨xLow, Low⟩
  rotate_left
  · exact run_pcall (n := 10000000) hP h0 (by kernel_rfl)
  rcases High with _ | ⟨xHigh, High⟩
  rotate_left
  · exact run_pcall (n := 10000000) hP h0 (by kernel_rfl)
  cases Bound
  rotate_left
  · exact run_pcall (n := 10000000) hP h0 (by kernel_rfl)
  rcases Writes with _ | ⟨xWrites, Writes⟩
  rotate_left
  · exact run_pcall (n := 10000000) hP h0 (by kernel_rfl)
  exact run_pcall (n := 10000000) hP h0 (by kernel_rfl)
theorem bare_2 (hP : POk Tryz.prog) (h0 : @COk (adrOf ad off) Tryz.prog base0) (c : TApiOpCall) (hk : c.Kind = 2) : @PCall (adrOf ad off) Tryz.prog 37 [.agg (encB c)] (.bool (bareF c)) [] := by
  letI : Adr := adrOf ad off
  obtain ⟨Kind, Grant, Key, Val, ⟨Low, High, Bound⟩, ⟨i, j⟩, ⟨k, l⟩, Writes⟩ := c
  simp only at hk
  subst hk
  rcases Val with _ | ⟨xVal, Val⟩
  rotate_left
  · exact run_pcall (n := 10000000) hP h0 (by kernel_rfl)
  rcases i with (_ | i) | i
  rotate_left
  · exact run_pcall (n := 10000000) hP h0 (by kernel_rfl)
  · exact run_pcall (n := 10000000) hP h0 (by kernel_rfl)
  rcases j with (_ | j) | j
  rotate_left
  · exact run_pcall (n := 10000000) hP h0 (by kernel_rfl)
  · exact run_pcall (n := 10000000) hP h0 (by kernel_rfl)
  rcases k with (_ | k) | k
  rotate_left
  · exact run_pcall (n := 10000000) hP h0 (by kernel_rfl)
  · exact run_pcall (n := 10000000) hP h0 (by kernel_rfl)
  rcases l with (_ | l) | l
  rotate_left
  · exact run_pcall (n := 10000000) hP h0 (by kernel_rfl)
  · exact run_pcall (n := 10000000) hP h0 (by kernel_rfl)
  rcases Low with _ | ⟨xLow, Low⟩
  rotate_left
  · exact run_pcall (n := 10000000) hP h0 (by kernel_rfl)
  rcases High with _ | ⟨xHigh, High⟩
  rotate_left
  · exact run_pcall (n := 10000000) hP h0 (by kernel_rfl)
  cases Bound
  rotate_left
  · exact run_pcall (n := 10000000) hP h0 (by kernel_rfl)
  rcases Writes with _ | ⟨xWrites, Writes⟩
  rotate_left
  · exact run_pcall (n := 10000000) hP h0 (by kernel_rfl)
  exact run_pcall (n := 10000000) hP h0 (by kernel_rfl)
theorem bare_3 (hP : POk Tryz.prog) (h0 : @COk (adrOf ad off) Tryz.prog base0) (c : TApiOpCall) (hk : c.Kind = 3) : @PCall (adrOf ad off) Tryz.prog 37 [.agg (encB c)] (.bool (bareF c)) [] := by
  letI : Adr := adrOf ad off
  obtain ⟨Kind, Grant, Key, Val, ⟨Low, High, Bound⟩, ⟨i, j⟩, ⟨k, l⟩, Writes⟩ := c
  simp only at hk
  subst hk
  rcases Key with _ | ⟨xKey, Key⟩
  rotate_left
  · exact run_pcall (n := 10000000) hP h0 (by kernel_rfl)
  rcases Val with _ | ⟨xVal, Val⟩
  rotate_left
  · exact run_pcall (n := 10000000) hP h0 (by kernel_rfl)
  rcases i with (_ | i) | i
  rotate_left
  · exact run_pcall (n := 10000000) hP h0 (by kernel_rfl)
  · exact run_pcall (n := 10000000) hP h0 (by kernel_rfl)
  rcases j with (_ | j) | j
  rotate_left
  · exact run_pcall (n := 10000000) hP h0 (by kernel_rfl)
  · exact run_pcall (n := 10000000) hP h0 (by kernel_rfl)
  rcases k with (_ | k) | k
  rotate_left
  · exact run_pcall (n := 10000000) hP h0 (by kernel_rfl)
  · exact run_pcall (n := 10000000) hP h0 (by kernel_rfl)
  rcases l with (_ | l) | l
  rotate_left
  · exact run_pcall (n := 10000000) hP h0 (by kernel_rfl)
  · exact run_pcall (n := 10000000) hP h0 (by kernel_rfl)
  rcases Low with _ | ⟨xLow, Low⟩
  rotate_left
  · exact run_pcall (n := 10000000) hP h0 (by kernel_rfl)
  rcases High with _ | ⟨xHigh, High⟩
  rotate_left
  · exact run_pcall (n := 10000000) hP h0 (by kernel_rfl)
  cases Bound
  rotate_left
  · exact run_pcall (n := 10000000) hP h0 (by kernel_rfl)
  exact run_pcall (n := 10000000) hP h0 (by kernel_rfl)
theorem bare_4 (hP : POk Tryz.prog) (h0 : @COk (adrOf ad off) Tryz.prog base0) (c : TApiOpCall) (hk : c.Kind = 4) : @PCall (adrOf ad off) Tryz.prog 37 [.agg (encB c)] (.bool (bareF c)) [] := by
  letI : Adr := adrOf ad off
  obtain ⟨Kind, Grant, Key, Val, ⟨Low, High, Bound⟩, ⟨i, j⟩, ⟨k, l⟩, Writes⟩ := c
  simp only at hk
  subst hk
  rcases Val with _ | ⟨xVal, Val⟩
  rotate_left
  · exact run_pcall (n := 10000000) hP h0 (by kernel_rfl)
  rcases k with (_ | k) | k
  rotate_left
  · exact run_pcall (n := 10000000) hP h0 (by kernel_rfl)
  · exact run_pcall (n := 10000000) hP h0 (by kernel_rfl)
  rcases l with (_ | l) | l
  rotate_left
  · exact run_pcall (n := 10000000) hP h0 (by kernel_rfl)
  · exact run_pcall (n := 10000000) hP h0 (by kernel_rfl)
  rcases Low with _ | ⟨xLow, Low⟩
  rotate_left
  · exact run_pcall (n := 10000000) hP h0 (by kernel_rfl)
  rcases High with _ | ⟨xHigh, High⟩
  rotate_left
  · exact run_pcall (n := 10000000) hP h0 (by kernel_rfl)
  cases Bound
  rotate_left
  · exact run_pcall (n := 10000000) hP h0 (by kernel_rfl)
  rcases Writes with _ | ⟨xWrites, Writes⟩
  rotate_left
  · exact run_pcall (n := 10000000) hP h0 (by kernel_rfl)
  exact run_pcall (n := 10000000) hP h0 (by kernel_rfl)
theorem bare_5 (hP : POk Tryz.prog) (h0 : @COk (adrOf ad off) Tryz.prog base0) (c : TApiOpCall) (hk : c.Kind = 5) : @PCall (adrOf ad off) Tryz.prog 37 [.agg (encB c)] (.bool (bareF c)) [] := by
  letI : Adr := adrOf ad off
  obtain ⟨Kind, Grant, Key, Val, ⟨Low, High, Bound⟩, ⟨i, j⟩, ⟨k, l⟩, Writes⟩ := c
  simp only at hk
  subst hk
  rcases Val with _ | ⟨xVal, Val⟩
  rotate_left
  · exact run_pcall (n := 10000000) hP h0 (by kernel_rfl)
  rcases k with (_ | k) | k
  rotate_left
  · exact run_pcall (n := 10000000) hP h0 (by kernel_rfl)
  · exact run_pcall (n := 10000000) hP h0 (by kernel_rfl)
  rcases l with (_ | l) | l
  rotate_left
  · exact run_pcall (n := 10000000) hP h0 (by kernel_rfl)
  · exact run_pcall (n := 10000000) hP h0 (by kernel_rfl)
  rcases Low with _ | ⟨xLow, Low⟩
  rotate_left
  · exact run_pcall (n := 10000000) hP h0 (by kernel_rfl)
  rcases High with _ | ⟨xHigh, High⟩
  rotate_left
  · exact run_pcall (n := 10000000) hP h0 (by kernel_rfl)
  cases Bound
  rotate_left
  · exact run_pcall (n := 10000000) hP h0 (by kernel_rfl)
  rcases Writes with _ | ⟨xWrites, Writes⟩
  rotate_left
  · exact run_pcall (n := 10000000) hP h0 (by kernel_rfl)
  exact run_pcall (n := 10000000) hP h0 (by kernel_rfl)
theorem bare_6 (hP : POk Tryz.prog) (h0 : @COk (adrOf ad off) Tryz.prog base0) (c : TApiOpCall) (hk : c.Kind = 6) : @PCall (adrOf ad off) Tryz.prog 37 [.agg (encB c)] (.bool (bareF c)) [] := by
  letI : Adr := adrOf ad off
  obtain ⟨Kind, Grant, Key, Val, ⟨Low, High, Bound⟩, ⟨i, j⟩, ⟨k, l⟩, Writes⟩ := c
  simp only at hk
  subst hk
  rcases Val with _ | ⟨xVal, Val⟩
  rotate_left
  · exact run_pcall (n := 10000000) hP h0 (by kernel_rfl)
  rcases k with (_ | k) | k
  rotate_left
  · exact run_pcall (n := 10000000) hP h0 (by kernel_rfl)
  · exact run_pcall (n := 10000000) hP h0 (by kernel_rfl)
  rcases l with (_ | l) | l
  rotate_left
  · exact run_pcall (n := 10000000) hP h0 (by kernel_rfl)
  · exact run_pcall (n := 10000000) hP h0 (by kernel_rfl)
  rcases Low with _ | ⟨xLow, Low⟩
  rotate_left
  · exact run_pcall (n := 10000000) hP h0 (by kernel_rfl)
  rcases High with _ | ⟨xHigh, High⟩
  rotate_left
  · exact run_pcall (n := 10000000) hP h0 (by kernel_rfl)
  cases Bound
  rotate_left
  · exact run_pcall (n := 10000000) hP h0 (by kernel_rfl)
  rcases Writes with _ | ⟨xWrites, Writes⟩
  rotate_left
  · exact run_pcall (n := 10000000) hP h0 (by kernel_rfl)
  exact run_pcall (n := 10000000) hP h0 (by kernel_rfl)
theorem bare_7 (hP : POk Tryz.prog) (h0 : @COk (adrOf ad off) Tryz.prog base0) (c : TApiOpCall) (hk : c.Kind = 7) : @PCall (adrOf ad off) Tryz.prog 37 [.agg (encB c)] (.bool (bareF c)) [] := by
  letI : Adr := adrOf ad off
  obtain ⟨Kind, Grant, Key, Val, ⟨Low, High, Bound⟩, ⟨i, j⟩, ⟨k, l⟩, Writes⟩ := c
  simp only at hk
  subst hk
  rcases Key with _ | ⟨xKey, Key⟩
  rotate_left
  · exact run_pcall (n := 10000000) hP h0 (by kernel_rfl)
  rcases Val with _ | ⟨xVal, Val⟩
  rotate_left
  · exact run_pcall (n := 10000000) hP h0 (by kernel_rfl)
  rcases k with (_ | k) | k
  rotate_left
  · exact run_pcall (n := 10000000) hP h0 (by kernel_rfl)
  · exact run_pcall (n := 10000000) hP h0 (by kernel_rfl)
  rcases l with (_ | l) | l
  rotate_left
  · exact run_pcall (n := 10000000) hP h0 (by kernel_rfl)
  · exact run_pcall (n := 10000000) hP h0 (by kernel_rfl)
  rcases Writes with _ | ⟨xWrites, Writes⟩
  rotate_left
  · exact run_pcall (n := 10000000) hP h0 (by kernel_rfl)
  exact run_pcall (n := 10000000) hP h0 (by kernel_rfl)
theorem bare_8 (hP : POk Tryz.prog) (h0 : @COk (adrOf ad off) Tryz.prog base0) (c : TApiOpCall) (hk : c.Kind = 8) : @PCall (adrOf ad off) Tryz.prog 37 [.agg (encB c)] (.bool (bareF c)) [] := by
  letI : Adr := adrOf ad off
  obtain ⟨Kind, Grant, Key, Val, ⟨Low, High, Bound⟩, ⟨i, j⟩, ⟨k, l⟩, Writes⟩ := c
  simp only at hk
  subst hk
  rcases Key with _ | ⟨xKey, Key⟩
  rotate_left
  · exact run_pcall (n := 10000000) hP h0 (by kernel_rfl)
  rcases Val with _ | ⟨xVal, Val⟩
  rotate_left
  · exact run_pcall (n := 10000000) hP h0 (by kernel_rfl)
  rcases i with (_ | i) | i
  rotate_left
  · exact run_pcall (n := 10000000) hP h0 (by kernel_rfl)
  · exact run_pcall (n := 10000000) hP h0 (by kernel_rfl)
  rcases j with (_ | j) | j
  rotate_left
  · exact run_pcall (n := 10000000) hP h0 (by kernel_rfl)
  · exact run_pcall (n := 10000000) hP h0 (by kernel_rfl)
  rcases k with (_ | k) | k
  rotate_left
  · exact run_pcall (n := 10000000) hP h0 (by kernel_rfl)
  · exact run_pcall (n := 10000000) hP h0 (by kernel_rfl)
  rcases l with (_ | l) | l
  rotate_left
  · exact run_pcall (n := 10000000) hP h0 (by kernel_rfl)
  · exact run_pcall (n := 10000000) hP h0 (by kernel_rfl)
  rcases Low with _ | ⟨xLow, Low⟩
  rotate_left
  · exact run_pcall (n := 10000000) hP h0 (by kernel_rfl)
  rcases High with _ | ⟨xHigh, High⟩
  rotate_left
  · exact run_pcall (n := 10000000) hP h0 (by kernel_rfl)
  cases Bound
  rotate_left
  · exact run_pcall (n := 10000000) hP h0 (by kernel_rfl)
  rcases Writes with _ | ⟨xWrites, Writes⟩
  rotate_left
  · exact run_pcall (n := 10000000) hP h0 (by kernel_rfl)
  exact run_pcall (n := 10000000) hP h0 (by kernel_rfl)
theorem bare_9 (hP : POk Tryz.prog) (h0 : @COk (adrOf ad off) Tryz.prog base0) (c : TApiOpCall) (hk : c.Kind = 9) : @PCall (adrOf ad off) Tryz.prog 37 [.agg (encB c)] (.bool (bareF c)) [] := by
  letI : Adr := adrOf ad off
  obtain ⟨Kind, Grant, Key, Val, ⟨Low, High, Bound⟩, ⟨i, j⟩, ⟨k, l⟩, Writes⟩ := c
  simp only at hk
  subst hk
  rcases Key with _ | ⟨xKey, Key⟩
  rotate_left
  · exact run_pcall (n := 10000000) hP h0 (by kernel_rfl)
  rcases Val with _ | ⟨xVal, Val⟩
  rotate_left
  · exact run_pcall (n := 10000000) hP h0 (by kernel_rfl)
  rcases k with (_ | k) | k
  rotate_left
  · exact run_pcall (n := 10000000) hP h0 (by kernel_rfl)
  · exact run_pcall (n := 10000000) hP h0 (by kernel_rfl)
  rcases l with (_ | l) | l
  rotate_left
  · exact run_pcall (n := 10000000) hP h0 (by kernel_rfl)
  · exact run_pcall (n := 10000000) hP h0 (by kernel_rfl)
  rcases Low with _ | ⟨xLow, Low⟩
  rotate_left
  · exact run_pcall (n := 10000000) hP h0 (by kernel_rfl)
  rcases High with _ | ⟨xHigh, High⟩
  rotate_left
  · exact run_pcall (n := 10000000) hP h0 (by kernel_rfl)
  cases Bound
  rotate_left
  · exact run_pcall (n := 10000000) hP h0 (by kernel_rfl)
  rcases Writes with _ | ⟨xWrites, Writes⟩
  rotate_left
  · exact run_pcall (n := 10000000) hP h0 (by kernel_rfl)
  exact run_pcall (n := 10000000) hP h0 (by kernel_rfl)
theorem bare_10 (hP : POk Tryz.prog) (h0 : @COk (adrOf ad off) Tryz.prog base0) (c : TApiOpCall) (hk : c.Kind = 10) : @PCall (adrOf ad off) Tryz.prog 37 [.agg (encB c)] (.bool (bareF c)) [] := by
  letI : Adr := adrOf ad off
  obtain ⟨Kind, Grant, Key, Val, ⟨Low, High, Bound⟩, ⟨i, j⟩, ⟨k, l⟩, Writes⟩ := c
  simp only at hk
  subst hk
  rcases Key with _ | ⟨xKey, Key⟩
  rotate_left
  · exact run_pcall (n := 10000000) hP h0 (by kernel_rfl)
  rcases Val with _ | ⟨xVal, Val⟩
  rotate_left
  · exact run_pcall (n := 10000000) hP h0 (by kernel_rfl)
  rcases k with (_ | k) | k
  rotate_left
  · exact run_pcall (n := 10000000) hP h0 (by kernel_rfl)
  · exact run_pcall (n := 10000000) hP h0 (by kernel_rfl)
  rcases l with (_ | l) | l
  rotate_left
  · exact run_pcall (n := 10000000) hP h0 (by kernel_rfl)
  · exact run_pcall (n := 10000000) hP h0 (by kernel_rfl)
  rcases Writes with _ | ⟨xWrites, Writes⟩
  rotate_left
  · exact run_pcall (n := 10000000) hP h0 (by kernel_rfl)
  exact run_pcall (n := 10000000) hP h0 (by kernel_rfl)
theorem bare_11 (hP : POk Tryz.prog) (h0 : @COk (adrOf ad off) Tryz.prog base0) (c : TApiOpCall) (hk : c.Kind = 11) : @PCall (adrOf ad off) Tryz.prog 37 [.agg (encB c)] (.bool (bareF c)) [] := by
  letI : Adr := adrOf ad off
  obtain ⟨Kind, Grant, Key, Val, ⟨Low, High, Bound⟩, ⟨i, j⟩, ⟨k, l⟩, Writes⟩ := c
  simp only at hk
  subst hk
  rcases Key with _ | ⟨xKey, Key⟩
  rotate_left
  · exact run_pcall (n := 10000000) hP h0 (by kernel_rfl)
  rcases Val with _ | ⟨xVal, Val⟩
  rotate_left
  · exact run_pcall (n := 10000000) hP h0 (by kernel_rfl)
  rcases k with (_ | k) | k
  rotate_left
  · exact run_pcall (n := 10000000) hP h0 (by kernel_rfl)
  · exact run_pcall (n := 10000000) hP h0 (by kernel_rfl)
  rcases l with (_ | l) | l
  rotate_left
  · exact run_pcall (n := 10000000) hP h0 (by kernel_rfl)
  · exact run_pcall (n := 10000000) hP h0 (by kernel_rfl)
  rcases Low with _ | ⟨xLow, Low⟩
  rotate_left
  · exact run_pcall (n := 10000000) hP h0 (by kernel_rfl)
  rcases High with _ | ⟨xHigh, High⟩
  rotate_left
  · exact run_pcall (n := 10000000) hP h0 (by kernel_rfl)
  cases Bound
  rotate_left
  · exact run_pcall (n := 10000000) hP h0 (by kernel_rfl)
  rcases Writes with _ | ⟨xWrites, Writes⟩
  rotate_left
  · exact run_pcall (n := 10000000) hP h0 (by kernel_rfl)
  exact run_pcall (n := 10000000) hP h0 (by kernel_rfl)
theorem bare_12 (hP : POk Tryz.prog) (h0 : @COk (adrOf ad off) Tryz.prog base0) (c : TApiOpCall) (hk : c.Kind = 12) : @PCall (adrOf ad off) Tryz.prog 37 [.agg (encB c)] (.bool (bareF c)) [] := by
  letI : Adr := adrOf ad off
  obtain ⟨Kind, Grant, Key, Val, ⟨Low, High, Bound⟩, ⟨i, j⟩, ⟨k, l⟩, Writes⟩ := c
  simp only at hk
  subst hk
  rcases Key with _ | ⟨xKey, Key⟩
  rotate_left
  · exact run_pcall (n := 10000000) hP h0 (by kernel_rfl)
  rcases Val with _ | ⟨xVal, Val⟩
  rotate_left
  · exact run_pcall (n := 10000000) hP h0 (by kernel_rfl)
  rcases k with (_ | k) | k
  rotate_left
  · exact run_pcall (n := 10000000) hP h0 (by kernel_rfl)
  · exact run_pcall (n := 10000000) hP h0 (by kernel_rfl)
  rcases l with (_ | l) | l
  rotate_left
  · exact run_pcall (n := 10000000) hP h0 (by kernel_rfl)
  · exact run_pcall (n := 10000000) hP h0 (by kernel_rfl)
  rcases Low with _ | ⟨xLow, Low⟩
  rotate_left
  · exact run_pcall (n := 10000000) hP h0 (by kernel_rfl)
  rcases High with _ | ⟨xHigh, High⟩
  rotate_left
  · exact run_pcall (n := 10000000) hP h0 (by kernel_rfl)
  cases Bound
  rotate_left
  · exact run_pcall (n := 10000000) hP h0 (by kernel_rfl)
  rcases Writes with _ | ⟨xWrites, Writes⟩
  rotate_left
  · exact run_pcall (n := 10000000) hP h0 (by kernel_rfl)
  exact run_pcall (n := 10000000) hP h0 (by kernel_rfl)
theorem bare_13 (hP : POk Tryz.prog) (h0 : @COk (adrOf ad off) Tryz.prog base0) (c : TApiOpCall) (hk : c.Kind = 13) : @PCall (adrOf ad off) Tryz.prog 37 [.agg (encB c)] (.bool (bareF c)) [] := by
  letI : Adr := adrOf ad off
  obtain ⟨Kind, Grant, Key, Val, ⟨Low, High, Bound⟩, ⟨i, j⟩, ⟨k, l⟩, Writes⟩ := c
  simp only at hk
  subst hk
  rcases Key with _ | ⟨xKey, Key⟩
  rotate_left
  · exact run_pcall (n := 10000000) hP h0 (by kernel_rfl)
  rcases Val with _ | ⟨xVal, Val⟩
  rotate_left
  · exact run_pcall (n := 10000000) hP h0 (by kernel_rfl)
  rcases k with (_ | k) | k
  rotate_left
  · exact run_pcall (n := 10000000) hP h0 (by kernel_rfl)
  · exact run_pcall (n := 10000000) hP h0 (by kernel_rfl)
  rcases l with (_ | l) | l
  rotate_left
  · exact run_pcall (n := 10000000) hP h0 (by kernel_rfl)
  · exact run_pcall (n := 10000000) hP h0 (by kernel_rfl)
  rcases Low with _ | ⟨xLow, Low⟩
  rotate_left
  · exact run_pcall (n := 10000000) hP h0 (by kernel_rfl)
  rcases High with _ | ⟨xHigh, High⟩
  rotate_left
  · exact run_pcall (n := 10000000) hP h0 (by kernel_rfl)
  cases Bound
  rotate_left
  · exact run_pcall (n := 10000000) hP h0 (by kernel_rfl)
  rcases Writes with _ | ⟨xWrites, Writes⟩
  rotate_left
  · exact run_pcall (n := 10000000) hP h0 (by kernel_rfl)
  exact run_pcall (n := 10000000) hP h0 (by kernel_rfl)
theorem bare_14 (hP : POk Tryz.prog) (h0 : @COk (adrOf ad off) Tryz.prog base0) (c : TApiOpCall) (hk : c.Kind = 14) : @PCall (adrOf ad off) Tryz.prog 37 [.agg (encB c)] (.bool (bareF c)) [] := by
  letI : Adr := adrOf ad off
  obtain ⟨Kind, Grant, Key, Val, ⟨Low, High, Bound⟩, ⟨i, j⟩, ⟨k, l⟩, Writes⟩ := c
  simp only at hk
  subst hk
  rcases Key with _ | ⟨xKey, Key⟩
  rotate_left
  · exact run_pcall (n := 10000000) hP h0 (by kernel_rfl)
  rcases Val with _ | ⟨xVal, Val⟩
  rotate_left
  · exact run_pcall (n := 10000000) hP h0 (by kernel_rfl)
  rcases Low with _ | ⟨xLow, Low⟩
  rotate_left
  · exact run_pcall (n := 10000000) hP h0 (by kernel_rfl)
  rcases High with _ | ⟨xHigh, High⟩
  rotate_left
  · exact run_pcall (n := 10000000) hP h0 (by kernel_rfl)
  cases Bound
  rotate_left
  · exact run_pcall (n := 10000000) hP h0 (by kernel_rfl)
  rcases Writes with _ | ⟨xWrites, Writes⟩
  rotate_left
  · exact run_pcall (n := 10000000) hP h0 (by kernel_rfl)
  exact run_pcall (n := 10000000) hP h0 (by kernel_rfl)
theorem bare_15 (hP : POk Tryz.prog) (h0 : @COk (adrOf ad off) Tryz.prog base0) (c : TApiOpCall) (hk : c.Kind = 15) : @PCall (adrOf ad off) Tryz.prog 37 [.agg (encB c)] (.bool (bareF c)) [] := by
  letI : Adr := adrOf ad off
  obtain ⟨Kind, Grant, Key, Val, ⟨Low, High, Bound⟩, ⟨i, j⟩, ⟨k, l⟩, Writes⟩ := c
  simp only at hk
  subst hk
  rcases Key with _ | ⟨xKey, Key⟩
  rotate_left
  · exact run_pcall (n := 10000000) hP h0 (by kernel_rfl)
  rcases Val with _ | ⟨xVal, Val⟩
  rotate_left
  · exact run_pcall (n := 10000000) hP h0 (by kernel_rfl)
  rcases i with (_ | i) | i
  rotate_left
  · exact run_pcall (n := 10000000) hP h0 (by kernel_rfl)
  · exact run_pcall (n := 10000000) hP h0 (by kernel_rfl)
  rcases j with (_ | j) | j
  rotate_left
  · exact run_pcall (n := 10000000) hP h0 (by kernel_rfl)
  · exact run_pcall (n := 10000000) hP h0 (by kernel_rfl)
  rcases k with (_ | k) | k
  rotate_left
  · exact run_pcall (n := 10000000) hP h0 (by kernel_rfl)
  · exact run_pcall (n := 10000000) hP h0 (by kernel_rfl)
  rcases l with (_ | l) | l
  rotate_left
  · exact run_pcall (n := 10000000) hP h0 (by kernel_rfl)
  · exact run_pcall (n := 10000000) hP h0 (by kernel_rfl)
  rcases Low with _ | ⟨xLow, Low⟩
  rotate_left
  · exact run_pcall (n := 10000000) hP h0 (by kernel_rfl)
  rcases High with _ | ⟨xHigh, High⟩
  rotate_left
  · exact run_pcall (n := 10000000) hP h0 (by kernel_rfl)
  cases Bound
  rotate_left
  · exact run_pcall (n := 10000000) hP h0 (by kernel_rfl)
  rcases Writes with _ | ⟨xWrites, Writes⟩
  rotate_left
  · exact run_pcall (n := 10000000) hP h0 (by kernel_rfl)
  exact run_pcall (n := 10000000) hP h0 (by kernel_rfl)
theorem bare_16 (hP : POk Tryz.prog) (h0 : @COk (adrOf ad off) Tryz.prog base0) (c : TApiOpCall) (hk : c.Kind = 16) : @PCall (adrOf ad off) Tryz.prog 37 [.agg (encB c)] (.bool (bareF c)) [] := by
  letI : Adr := adrOf ad off
  obtain ⟨Kind, Grant, Key, Val, ⟨Low, High, Bound⟩, ⟨i, j⟩, ⟨k, l⟩, Writes⟩ := c
  simp only at hk
  subst hk
  rcases Key with _ | ⟨xKey, Key⟩
  rotate_left
  · exact run_pcall (n := 10000000) hP h0 (by kernel_rfl)
  rcases Val with _ | ⟨xVal, Val⟩
  rotate_left
  · exact run_pcall (n := 10000000) hP h0 (by kernel_rfl)
  rcases i with (_ | i) | i
  rotate_left
  · exact run_pcall (n := 10000000) hP h0 (by kernel_rfl)
  · exact run_pcall (n := 10000000) hP h0 (by kernel_rfl)
  rcases j with (_ | j) | j
  rotate_left
  · exact run_pcall (n := 10000000) hP h0 (by kernel_rfl)
  · exact run_pcall (n := 10000000) hP h0 (by kernel_rfl)
  rcases k with (_ | k) | k
  rotate_left
  · exact run_pcall (n := 10000000) hP h0 (by kernel_rfl)
  · exact run_pcall (n := 10000000) hP h0 (by kernel_rfl)
  rcases l with (_ | l) | l
  rotate_left
  · exact run_pcall (n := 10000000) hP h0 (by kernel_rfl)
  · exact run_pcall (n := 10000000) hP h0 (by kernel_rfl)
  rcases Low with _ | ⟨xLow, Low⟩
  rotate_left
  · exact run_pcall (n := 10000000) hP h0 (by kernel_rfl)
  rcases High with _ | ⟨xHigh, High⟩
  rotate_left
  · exact run_pcall (n := 10000000) hP h0 (by kernel_rfl)
  cases Bound
  rotate_left
  · exact run_pcall (n := 10000000) hP h0 (by kernel_rfl)
  rcases Writes with _ | ⟨xWrites, Writes⟩
  rotate_left
  · exact run_pcall (n := 10000000) hP h0 (by kernel_rfl)
  exact run_pcall (n := 10000000) hP h0 (by kernel_rfl)
theorem bare_17 (hP : POk Tryz.prog) (h0 : @COk (adrOf ad off) Tryz.prog base0) (c : TApiOpCall) (hk : c.Kind = 17) : @PCall (adrOf ad off) Tryz.prog 37 [.agg (encB c)] (.bool (bareF c)) [] := by
  letI : Adr := adrOf ad off
  obtain ⟨Kind, Grant, Key, Val, ⟨Low, High, Bound⟩, ⟨i, j⟩, ⟨k, l⟩, Writes⟩ := c
  simp only at hk
  subst hk
  rcases Key with _ | ⟨xKey, Key⟩
  rotate_left
  · exact run_pcall (n := 10000000) hP h0 (by kernel_rfl)
  rcases Val with _ | ⟨xVal, Val⟩
  rotate_left
  · exact run_pcall (n := 10000000) hP h0 (by kernel_rfl)
  rcases i with (_ | i) | i
  rotate_left
  · exact run_pcall (n := 10000000) hP h0 (by kernel_rfl)
  · exact run_pcall (n := 10000000) hP h0 (by kernel_rfl)
  rcases j with (_ | j) | j
  rotate_left
  · exact run_pcall (n := 10000000) hP h0 (by kernel_rfl)
  · exact run_pcall (n := 10000000) hP h0 (by kernel_rfl)
  rcases k with (_ | k) | k
  rotate_left
  · exact run_pcall (n := 10000000) hP h0 (by kernel_rfl)
  · exact run_pcall (n := 10000000) hP h0 (by kernel_rfl)
  rcases l with (_ | l) | l
  rotate_left
  · exact run_pcall (n := 10000000) hP h0 (by kernel_rfl)
  · exact run_pcall (n := 10000000) hP h0 (by kernel_rfl)
  rcases Low with _ | ⟨xLow, Low⟩
  rotate_left
  · exact run_pcall (n := 10000000) hP h0 (by kernel_rfl)
  rcases High with _ | ⟨xHigh, High⟩
  rotate_left
  · exact run_pcall (n := 10000000) hP h0 (by kernel_rfl)
  cases Bound
  rotate_left
  · exact run_pcall (n := 10000000) hP h0 (by kernel_rfl)
  rcases Writes with _ | ⟨xWrites, Writes⟩
  rotate_left
  · exact run_pcall (n := 10000000) hP h0 (by kernel_rfl)
  exact run_pcall (n := 10000000) hP h0 (by kernel_rfl)
theorem bare_ok (hP : POk Tryz.prog) (h0 : @COk (adrOf ad off) Tryz.prog base0) (c : TApiOpCall) (h1 : 1 ≤ c.Kind) (h2 : c.Kind ≤ 17) (hK : c.Key.length ≤ bN) (hV : c.Val.length ≤ bN) : @PCall (adrOf ad off) Tryz.prog 37 [.agg (TApiOpCall.enc c)] (.bool (bareF c)) [] := by
  have h : c.Kind = 1 ∨ c.Kind = 2 ∨ c.Kind = 3 ∨ c.Kind = 4 ∨ c.Kind = 5 ∨ c.Kind = 6 ∨ c.Kind = 7 ∨ c.Kind = 8 ∨ c.Kind = 9 ∨ c.Kind = 10 ∨ c.Kind = 11 ∨ c.Kind = 12 ∨ c.Kind = 13 ∨ c.Kind = 14 ∨ c.Kind = 15 ∨ c.Kind = 16 ∨ c.Kind = 17 := by omega
  rcases h with h | h | h | h | h | h | h | h | h | h | h | h | h | h | h | h | h
  · exact @encB_ok (adrOf ad off) _ _ _ _ _ hK hV (bare_1 ad off hP h0 c h)
  · exact @encB_ok (adrOf ad off) _ _ _ _ _ hK hV (bare_2 ad off hP h0 c h)
  · exact @encB_ok (adrOf ad off) _ _ _ _ _ hK hV (bare_3 ad off hP h0 c h)
  · exact @encB_ok (adrOf ad off) _ _ _ _ _ hK hV (bare_4 ad off hP h0 c h)
  · exact @encB_ok (adrOf ad off) _ _ _ _ _ hK hV (bare_5 ad off hP h0 c h)
  · exact @encB_ok (adrOf ad off) _ _ _ _ _ hK hV (bare_6 ad off hP h0 c h)
  · exact @encB_ok (adrOf ad off) _ _ _ _ _ hK hV (bare_7 ad off hP h0 c h)
  · exact @encB_ok (adrOf ad off) _ _ _ _ _ hK hV (bare_8 ad off hP h0 c h)
  · exact @encB_ok (adrOf ad off) _ _ _ _ _ hK hV (bare_9 ad off hP h0 c h)
  · exact @encB_ok (adrOf ad off) _ _ _ _ _ hK hV (bare_10 ad off hP h0 c h)
  · exact @encB_ok (adrOf ad off) _ _ _ _ _ hK hV (bare_11 ad off hP h0 c h)
  · exact @encB_ok (adrOf ad off) _ _ _ _ _ hK hV (bare_12 ad off hP h0 c h)
  · exact @encB_ok (adrOf ad off) _ _ _ _ _ hK hV (bare_13 ad off hP h0 c h)
  · exact @encB_ok (adrOf ad off) _ _ _ _ _ hK hV (bare_14 ad off hP h0 c h)
  · exact @encB_ok (adrOf ad off) _ _ _ _ _ hK hV (bare_15 ad off hP h0 c h)
  · exact @encB_ok (adrOf ad off) _ _ _ _ _ hK hV (bare_16 ad off hP h0 c h)
  · exact @encB_ok (adrOf ad off) _ _ _ _ _ hK hV (bare_17 ad off hP h0 c h)
end
end Go.T
end
