/- SlicesStates: Check, Step, Left and Output return what the reference returns, of any state. -/
import Derived.Test.YtjmdbbhkgnlmmaaBLkSlicesStates
import Derived.Test.YtjmdbbhkgnlmmaaB3
set_option linter.unusedSimpArgs false
set_option linter.unusedVariables false
section
namespace Go.T
open Go Go.AM Go.Proofs
set_option maxRecDepth 100000
set_option maxHeartbeats 4000000
set_option linter.unusedVariables false
theorem c_bookendref13_Check {fu : Nat} {vs1 : TApiSlState} {r : Int} (h0 : bookendref13_Check fu vs1 = some r) : PCall Try.prog 25 [.agg (TApiSlState.enc vs1)] (.int .i64 r) [] := by
 refine awp_pcall Try.func25 rfl (by decide) (Nat.le_of_ble_eq_true rfl) ?_
 dsimp only [Try.f25]
 rw [bookendref13_Check] at h0
 refine (show AWP _ _ _ _ ⟨enumFr 0 _, [], 0, []⟩ from ?_)
 refine awp_sr2 16 [1] (fun _ => none) rfl (fun _ _ => rT) ?_
 obtain ⟨vr2, hvr2, h0⟩ := bindS h0
 refine awp_sr2 80 [1, 4] (fun | 2 => some (.tup [.int .i64 vr2.1, .int .i64 vr2.2], []) | _ => none) rfl (fun _ _ => rC (c_bookendref11_Check hvr2)) ?_
 refine awp_seq ?_
 refine awp_sr2 96 [1, 4, 18] (fun _ => none) rfl (fun _ _ => rT) ?_
 refine awp_if rfl (fun hb3 => ?_) (fun hb3 => ?_)
 ·
  replace h0 := iteT h0 hb3
  refine awp_sr2 112 [2] (fun _ => none) rfl (fun _ _ => rT) ?_
  refine awp_ret ?_
  refine kr_then ?_
  obtain rfl := Option.some.inj h0
  refine leave_retG [] ?_
  exact rG
 ·
  replace h0 := iteF h0 hb3
  refine awp_skip ?_
  refine kn_then ?_
  obtain ⟨vr4, hvr4, h0⟩ := bindS h0
  refine awp_sr2 120 [1, 5] (fun | 1 => some (.int .i64 vr4, []) | _ => none) rfl (fun _ _ => rC (c_bookendref13_read hvr4)) ?_
  refine awp_seq ?_
  obtain ⟨b5, hb5, h0⟩ := bindS h0
  refine awp_sr3 (fr' := [(1, .ref 0 0 0 0), (5, .int .i64 vr4), (29, .bool b5)]) (hp' := [(0, ⟨0, true, true, 10, [[.psl 1 (List.map (encSl 4 TApiEntry.enc) vs1.Merge.Runs), .psl 1 (List.map (encInt .i64) vs1.Merge.At), .psl 2 (List.map TApiLsKey.enc vs1.Merge.Tree.Keys), .psl 1 (List.map (encInt .i64) vs1.Merge.Tree.Lose), .int .i64 vs1.Merge.Tree.Win, .bool vs1.Shadow.Some, .str vs1.Shadow.Last, .bool vs1.Shadow.Bottom, .psl 4 (List.map TApiEntry.enc vs1.Out), .int .i64 vs1.Steps]]⟩)]) [0] 184 [1, 5, 29] (fun _ => none) rfl (fun Kt hK => by
    cases hg6 : (decide (20000 < (vs1.Out.length : Int))) with
    | false =>
     replace hb5 := iteF hb5 hg6
     have hqb5 := Option.some.inj hb5
     subst hqb5
     simp (maxSteps := 1000000) only [↓reduceIte, reduceCtorEq, Nat.reduceEqDiff, Nat.reduceLT, Nat.reduceLeDiff, Nat.reduceAdd, Nat.reduceMul, Int.reduceToNat, push_cast, ↓hg6]
     try simp only [↓hg6] at hK
     all_goals exact rU
    | true =>
     replace hb5 := iteT hb5 hg6
     have hqb5 := Option.some.inj hb5
     subst hqb5
     simp (maxSteps := 1000000) only [↓reduceIte, reduceCtorEq, Nat.reduceEqDiff, Nat.reduceLT, Nat.reduceLeDiff, Nat.reduceAdd, Nat.reduceMul, Int.reduceToNat, push_cast, ↓hg6]
     try simp only [↓hg6] at hK
     all_goals exact rU) ?_
  refine awp_if rfl (fun hb7 => ?_) (fun hb7 => ?_)
  ·
   replace h0 := iteT h0 hb7
   refine awp_sr2 192 [2] (fun _ => none) rfl (fun _ _ => rT) ?_
   refine awp_ret ?_
   refine kr_then ?_
   obtain rfl := Option.some.inj h0
   refine leave_retG [] ?_
   exact rG
  ·
   replace h0 := iteF h0 hb7
   refine awp_skip ?_
   refine kn_then ?_
   refine awp_seq ?_
   refine awp_sr2 216 [1, 5, 33] (fun _ => none) rfl (fun _ _ => rT) ?_
   refine awp_if rfl (fun hb8 => ?_) (fun hb8 => ?_)
   ·
    replace h0 := iteT h0 hb8
    refine awp_sr2 224 [2] (fun _ => none) rfl (fun _ _ => rT) ?_
    refine awp_ret ?_
    refine kr_then ?_
    obtain rfl := Option.some.inj h0
    refine leave_retG [] ?_
    exact rG
   ·
    replace h0 := iteF h0 hb8
    refine awp_skip ?_
    refine kn_then ?_
    obtain ⟨vr9, hvr9, h0⟩ := bindS h0
    refine awp_sr2 304 [1, 5, 6] (fun | 3 => some (.tup [.psl 4 (vr9.1.map TApiEntry.enc), .psl 1 (vr9.2.1.map (encInt .i64)), .int .i64 vr9.2.2], []) | _ => none) rfl (fun _ _ => rC (c_bookendref11_All hvr9)) ?_
    obtain ⟨hc10, h0⟩ := guS h0
    obtain ⟨vr11, hvr11, h0⟩ := bindS h0
    refine awp_sd2 408 [1, 9, 10] (fun | 6 => some (.tup [.psl 4 (vr11.1.map TApiEntry.enc), .agg (TApiShState.enc vr11.2)], []) | _ => none) rfl rfl rfl (fun _ _ => rCd (c_bookendref13_behind hvr11)) ?_
    refine awp_seq ?_
    obtain ⟨vr12, hvr12, h0⟩ := bindS h0
    obtain ⟨b13, hb13, h0⟩ := bindS h0
    refine awp_sr3 (fr' := [(62, .bool b13)]) (hp' := [(0, ⟨0, true, true, 10, [[.psl 1 (List.map (encSl 4 TApiEntry.enc) vs1.Merge.Runs), .psl 1 (List.map (encInt .i64) vs1.Merge.At), .psl 2 (List.map TApiLsKey.enc vs1.Merge.Tree.Keys), .psl 1 (List.map (encInt .i64) vs1.Merge.Tree.Lose), .int .i64 vs1.Merge.Tree.Win, .bool vs1.Shadow.Some, .str vs1.Shadow.Last, .bool vs1.Shadow.Bottom, .psl 4 (List.map TApiEntry.enc vs1.Out), .int .i64 vs1.Steps]]⟩), (384, ⟨0, true, true, 3, [[.bool vr11.2.Some, .str vr11.2.Last, .bool vr11.2.Bottom]]⟩)]) [0, 384] 496 [62] (fun | 3 => some (.bool vr12, []) | _ => none) rfl (fun Kt hK => by
      cases hg14 : (!vr12) with
      | false =>
       replace hb13 := iteF hb13 hg14
       have hqb13 := Option.some.inj hb13
       subst hqb13
       simp (maxSteps := 1000000) only [↓reduceIte, reduceCtorEq, Nat.reduceEqDiff, Nat.reduceLT, Nat.reduceLeDiff, Nat.reduceAdd, Nat.reduceMul, Int.reduceToNat, push_cast, ↓hg14]
       try simp only [↓hg14] at hK
       try have q0 := c_bookendref11_SameEntries hvr12
       all_goals exact rU
      | true =>
       replace hb13 := iteT hb13 hg14
       have hqb13 := Option.some.inj hb13
       subst hqb13
       simp (maxSteps := 1000000) only [↓reduceIte, reduceCtorEq, Nat.reduceEqDiff, Nat.reduceLT, Nat.reduceLeDiff, Nat.reduceAdd, Nat.reduceMul, Int.reduceToNat, push_cast, ↓hg14]
       try simp only [↓hg14] at hK
       try have q0 := c_bookendref11_SameEntries hvr12
       all_goals exact rU) ?_
    refine awp_if rfl (fun hb15 => ?_) (fun hb15 => ?_)
    ·
     replace h0 := iteT h0 hb15
     refine awp_sr2 504 [2] (fun _ => none) rfl (fun _ _ => rT) ?_
     refine awp_ret ?_
     refine kr_then ?_
     obtain rfl := Option.some.inj h0
     refine leave_retG [] ?_
     exact rG
    ·
     replace h0 := iteF h0 hb15
     refine awp_skip ?_
     refine kn_then ?_
     refine awp_sr2 504 [2] (fun _ => none) rfl (fun _ _ => rT) ?_
     refine awp_ret ?_
     obtain rfl := Option.some.inj h0
     refine leave_retG [] ?_
     exact rG
end Go.T
end
section
namespace Go.T
open Go Go.AM Go.Proofs
set_option maxRecDepth 100000
set_option maxHeartbeats 4000000
set_option linter.unusedVariables false
theorem c_bookendref11_Left {fu : Nat} {vs1 : TApiMgState} {r : Int × Int} (h0 : bookendref11_Left fu vs1 = some r) : PCall Try.prog 43 [.agg (TApiMgState.enc vs1)] (.tup [.int .i64 r.1, .int .i64 r.2]) [] := by
 refine awp_pcall Try.func43 rfl (by decide) (Nat.le_of_ble_eq_true rfl) ?_
 dsimp only [Try.f43]
 rw [bookendref11_Left] at h0
 refine (show AWP _ _ _ _ ⟨enumFr 0 _, [], 0, []⟩ from ?_)
 refine awp_sr2 24 [1] (fun _ => none) rfl (fun _ _ => rT) ?_
 obtain ⟨vr2, hvr2, h0⟩ := bindS h0
 refine awp_sr2 80 [1, 5] (fun | 1 => some (.tup [.int .i64 vr2.1, .int .i64 vr2.2], []) | _ => none) rfl (fun _ _ => rC (c_bookendref11_Check hvr2)) ?_
 refine awp_seq ?_
 refine awp_sr2 96 [1, 5, 14] (fun _ => none) rfl (fun _ _ => rT) ?_
 refine awp_if rfl (fun hb3 => ?_) (fun hb3 => ?_)
 ·
  replace h0 := iteT h0 hb3
  refine awp_sr2 120 [2, 3] (fun _ => none) rfl (fun _ _ => rT) ?_
  refine awp_ret ?_
  refine kr_then ?_
  obtain rfl := Option.some.inj h0
  refine leave_retG [] ?_
  exact rG
 ·
  replace h0 := iteF h0 hb3
  refine awp_skip ?_
  refine kn_then ?_
  refine awp_sr2 104 [1, 6] (fun _ => none) rfl (fun _ _ => rT) ?_
  refine awp_seq ?_
  refine awp_sr2 112 [1, 6, 7] (fun _ => none) rfl (fun _ _ => rT) ?_
  obtain ⟨x12, hxx12, h0⟩ := bindS h0
  refine awp_bloop (fun s' => s'.nx ≤ 152 ∧ LeN [] s' ⟨[(6, .int .i64 x12)], [(0, ⟨0, true, true, 5, [[.psl 1 (List.map (encSl 4 TApiEntry.enc) vs1.Runs), .psl 1 (List.map (encInt .i64) vs1.At), .psl 2 (List.map TApiLsKey.enc vs1.Tree.Keys), .psl 1 (List.map (encInt .i64) vs1.Tree.Lose), .int .i64 vs1.Tree.Win]]⟩)], 152, []⟩) ?_ ?_
  ·
   intro s' hs
   obtain ⟨hn, hs⟩ := hs
   refine kn_then ?_
   refine awp_re [] hn hs ?_
   refine awp_sr2 176 [2, 3] (fun _ => none) rfl (fun _ _ => rT) ?_
   refine awp_ret ?_
   obtain rfl := Option.some.inj h0
   refine leave_retG [] ?_
   exact rG
  ·
   refine awp_loopF (ι := { p : Nat × Int × Int // bookendref11_Left_l1 vs1 p.1 p.2.1 p.2.2 = some x12 }) (fun p => ⟨[(1, .ref 0 0 0 0), (6, .int .i64 p.1.2.1), (7, .int .i64 p.1.2.2)], [(0, ⟨0, true, true, 5, [[.psl 1 (List.map (encSl 4 TApiEntry.enc) vs1.Runs), .psl 1 (List.map (encInt .i64) vs1.At), .psl 2 (List.map TApiLsKey.enc vs1.Tree.Keys), .psl 1 (List.map (encInt .i64) vs1.Tree.Lose), .int .i64 vs1.Tree.Win]]⟩)], 112, []⟩) (fun p => p.1.1) ⟨(fu, 0, 0), hxx12⟩ ⟨rF, rE, rfl, rfl, trivial, trivial⟩ (fun _ => Nat.le_refl _) ?_
   rintro ⟨⟨fu, n13, i14⟩, h1⟩
   cases fu with
   | zero =>
   replace h1 : bookendref11_Left_l1 vs1 0 n13 i14 = some x12 := h1
   rw [bookendref11_Left_l1] at h1; cases h1
   | succ fu =>
    replace h1 : bookendref11_Left_l1 vs1 (fu + 1) n13 i14 = some x12 := h1
    rw [bookendref11_Left_l1] at h1
    refine (show AWP _ _ _ _ ⟨[(1, .ref 0 0 0 0), (6, .int .i64 n13), (7, .int .i64 i14)], [(0, ⟨0, true, true, 5, [[.psl 1 (List.map (encSl 4 TApiEntry.enc) vs1.Runs), .psl 1 (List.map (encInt .i64) vs1.At), .psl 2 (List.map TApiLsKey.enc vs1.Tree.Keys), .psl 1 (List.map (encInt .i64) vs1.Tree.Lose), .int .i64 vs1.Tree.Win]]⟩)], 112, []⟩ from ?_)
    refine awp_seq ?_
    refine awp_sr2 152 [1, 6, 7, 20] (fun _ => none) rfl (fun _ _ => rT) ?_
    refine awp_if rfl (fun hb15 => ?_) (fun hb15 => ?_)
    ·
     replace h1 := iteT h1 hb15
     refine awp_skip ?_
     refine kn_then ?_
     refine awp_seq ?_
     refine awp_block ?_
     obtain ⟨e16, he16, h1⟩ := bindS h1
     obtain ⟨he16a, he16b, he16c⟩ := idxS he16
     obtain ⟨e17, he17, h1⟩ := bindS h1
     obtain ⟨he17a, he17b, he17c⟩ := idxS he17
     refine awp_d2 272 [1, 6, 7] (fun _ => none) rfl rfl rfl (fun _ _ => rSd (rA he16a (rA he16b (rA he16c (rA he17a (rA he17b he17c)))))) ?_
     refine kn_block ?_
     refine kn_then ?_
     refine awp_r2 296 [1, 6, 7] (fun _ => none) rfl (fun _ _ => rS (rA he16a (rA he16b (rA he16c (rA he17a (rA he17b he17c)))))) ?_
     refine kn_then ?_
     exact ⟨⟨(fu, (IntKind.i64.wrap ((IntKind.i64.wrap (n13 + (e16.length : Int))) - e17)), (IntKind.i64.wrap (i14 + 1))), h1⟩, ⟨rF, rE, rfl, rfl, trivial, trivial⟩, Nat.lt_succ_self _⟩
    ·
     replace h1 := iteF h1 hb15
     refine awp_exit ?_
     refine kx_then ?_
     refine kx_then ?_
     refine kx_done ?_
     obtain rfl := Option.some.inj h1
     exact ⟨Nat.le_of_ble_eq_true rfl, ⟨rF, rE, rfl, rfl, trivial, trivial⟩⟩
end Go.T
end
section
namespace Go.T
open Go Go.AM Go.Proofs
set_option maxRecDepth 100000
set_option maxHeartbeats 4000000
set_option linter.unusedVariables false
theorem c_bookendref13_Left {fu : Nat} {vs1 : TApiSlState} {r : Int × Int} (h0 : bookendref13_Left fu vs1 = some r) : PCall Try.prog 21 [.agg (TApiSlState.enc vs1)] (.tup [.int .i64 r.1, .int .i64 r.2]) [] := by
 refine awp_pcall Try.func21 rfl (by decide) (Nat.le_of_ble_eq_true rfl) ?_
 dsimp only [Try.f21]
 rw [bookendref13_Left] at h0
 refine (show AWP _ _ _ _ ⟨enumFr 0 _, [], 0, []⟩ from ?_)
 refine awp_sr2 24 [1] (fun _ => none) rfl (fun _ _ => rT) ?_
 obtain ⟨vr2, hvr2, h0⟩ := bindS h0
 refine awp_sr2 48 [1, 4] (fun | 1 => some (.int .i64 vr2, []) | _ => none) rfl (fun _ _ => rC (c_bookendref13_Check hvr2)) ?_
 refine awp_seq ?_
 refine awp_sr2 64 [1, 4, 8] (fun _ => none) rfl (fun _ _ => rT) ?_
 refine awp_if rfl (fun hb3 => ?_) (fun hb3 => ?_)
 ·
  replace h0 := iteT h0 hb3
  refine awp_sr2 88 [2, 3] (fun _ => none) rfl (fun _ _ => rT) ?_
  refine awp_ret ?_
  refine kr_then ?_
  obtain rfl := Option.some.inj h0
  refine leave_retG [] ?_
  exact rG
 ·
  replace h0 := iteF h0 hb3
  refine awp_skip ?_
  refine kn_then ?_
  obtain ⟨vr4, hvr4, h0⟩ := bindS h0
  refine awp_sr2 120 [2, 3] (fun | 2 => some (.tup [.int .i64 vr4.1, .int .i64 vr4.2], []) | _ => none) rfl (fun _ _ => rC (c_bookendref11_Left hvr4)) ?_
  refine awp_ret ?_
  obtain rfl := Option.some.inj h0
  refine leave_retG [] ?_
  exact rG
end Go.T
end
section
namespace Go.T
open Go Go.AM Go.Proofs
set_option maxRecDepth 100000
set_option maxHeartbeats 4000000
set_option linter.unusedVariables false
theorem c_bookendref11_Next {fu : Nat} {vs1 : TApiMgState} {r : TApiEntry × Int × TApiMgState × Int} (h0 : bookendref11_Next fu vs1 = some r) : PCall Try.prog 41 [.agg (TApiMgState.enc vs1)] (.tup [.agg (TApiEntry.enc r.1), .int .i64 r.2.1, .agg (TApiMgState.enc r.2.2.1), .int .i64 r.2.2.2]) [] := by
 refine awp_pcall Try.func41 rfl (by decide) (Nat.le_of_ble_eq_true rfl) ?_
 dsimp only [Try.f41]
 rw [bookendref11_Next] at h0
 refine (show AWP _ _ _ _ ⟨enumFr 0 _, [], 0, []⟩ from ?_)
 refine awp_sr2 40 [1, 2, 4] (fun _ => none) rfl (fun _ _ => rT) ?_
 obtain ⟨vr2, hvr2, h0⟩ := bindS h0
 refine awp_sr2 96 [1, 2, 4, 7] (fun | 1 => some (.tup [.int .i64 vr2.1, .int .i64 vr2.2], []) | _ => none) rfl (fun _ _ => rC (c_bookendref11_Check hvr2)) ?_
 refine awp_seq ?_
 refine awp_sr2 112 [1, 2, 4, 7, 16] (fun _ => none) rfl (fun _ _ => rT) ?_
 refine awp_if rfl (fun hb3 => ?_) (fun hb3 => ?_)
 ·
  replace h0 := iteT h0 hb3
  refine awp_sr2 168 [2, 3, 4, 5] (fun _ => none) rfl (fun _ _ => rT) ?_
  refine awp_ret ?_
  refine kr_then ?_
  obtain rfl := Option.some.inj h0
  refine leave_retG [] ?_
  exact rG
 ·
  replace h0 := iteF h0 hb3
  refine awp_skip ?_
  refine kn_then ?_
  obtain ⟨vr4, hvr4, h0⟩ := bindS h0
  refine awp_sr2 160 [1, 2, 4, 8] (fun | 4 => some (.int .i64 vr4, []) | _ => none) rfl (fun _ _ => rC (c_bookendref11_first hvr4)) ?_
  refine awp_seq ?_
  refine awp_sr2 176 [1, 2, 4, 8, 26] (fun _ => none) rfl (fun _ _ => rT) ?_
  refine awp_if rfl (fun hb5 => ?_) (fun hb5 => ?_)
  ·
   replace h0 := iteT h0 hb5
   refine awp_sr2 224 [2, 3, 4, 5] (fun _ => none) rfl (fun _ _ => rT) ?_
   refine awp_ret ?_
   refine kr_then ?_
   obtain rfl := Option.some.inj h0
   refine leave_retG [] ?_
   exact rG
  ·
   replace h0 := iteF h0 hb5
   refine awp_skip ?_
   refine kn_then ?_
   obtain ⟨hc6, h0⟩ := guS h0
   refine awp_sr2 216 [1, 2, 4, 8, 9] (fun _ => none) rfl (fun _ _ => rT) ?_
   refine awp_re (s2 := ⟨[(1, .ref 0 0 0 0), (2, .ref 8 0 0 0), (4, .ref 24 0 0 0), (8, .int .i64 vr4), (9, .sl 176 1 1 0 vs1.At.length)], [(0, ⟨0, true, true, 5, [[.psl 1 (List.map (encSl 4 TApiEntry.enc) vs1.Runs), .psl 1 (List.map (encInt .i64) vs1.At), .psl 2 (List.map TApiLsKey.enc vs1.Tree.Keys), .psl 1 (List.map (encInt .i64) vs1.Tree.Lose), .int .i64 vs1.Tree.Win]]⟩), (8, ⟨0, true, true, 4, [[.str [], .str [], .bool false, .int .i64 0]]⟩), (24, ⟨0, true, true, 5, [[.nils, .nils, .nils, .nils, .int .i64 0]]⟩), (176, ⟨1, true, true, 1, List.map (encInt .i64) vs1.At⟩)], 216, []⟩) [] (Nat.le_of_ble_eq_true rfl) ⟨rF, rE, rfl, rfl, trivial, trivial⟩ ?_
   obtain ⟨e7, he7, h0⟩ := bindS h0
   obtain ⟨he7a, he7b, he7c⟩ := idxS he7
   refine awp_sr2 272 [1, 2, 4, 8, 9] (fun _ => none) rfl (fun _ _ => rS (rA he7a (rA he7b he7c))) ?_
   refine awp_re (s2 := ⟨[(1, .ref 0 0 0 0), (2, .ref 8 0 0 0), (4, .ref 24 0 0 0), (8, .int .i64 vr4), (9, .sl 176 1 1 0 ((vs1.At.set vr4.toNat (IntKind.i64.wrap (e7 + 1))).length))], [(0, ⟨0, true, true, 5, [[.psl 1 (List.map (encSl 4 TApiEntry.enc) vs1.Runs), .psl 1 (List.map (encInt .i64) vs1.At), .psl 2 (List.map TApiLsKey.enc vs1.Tree.Keys), .psl 1 (List.map (encInt .i64) vs1.Tree.Lose), .int .i64 vs1.Tree.Win]]⟩), (8, ⟨0, true, true, 4, [[.str [], .str [], .bool false, .int .i64 0]]⟩), (24, ⟨0, true, true, 5, [[.nils, .nils, .nils, .nils, .int .i64 0]]⟩), (176, ⟨1, true, true, 1, List.map (encInt .i64) (vs1.At.set vr4.toNat (IntKind.i64.wrap (e7 + 1)))⟩)], 272, []⟩) [] (Nat.le_of_ble_eq_true rfl) ⟨rF, rE, rfl, rfl, trivial, trivial⟩ ?_
   obtain ⟨e8, he8, h0⟩ := bindS h0
   obtain ⟨he8a, he8b, he8c⟩ := idxS he8
   obtain ⟨e9, he9, h0⟩ := bindS h0
   obtain ⟨he9a, he9b, he9c⟩ := idxS he9
   obtain ⟨vr10, hvr10, h0⟩ := bindS h0
   refine awp_sd2 440 [2, 3, 4, 5] (fun | 16 => some (.agg (TApiMgState.enc vr10), []) | _ => none) rfl rfl rfl (fun _ _ => rBd (rA he7a (rA he7b (rA he7c (rA he8a (rA he8b (rA he8c (rA he9a (rA he9b he9c)))))))) (c_bookendref11_state hvr10)) ?_
   refine awp_ret ?_
   obtain rfl := Option.some.inj h0
   refine leave_retG [] ?_
   simp (maxSteps := 1000000) only [↓reduceIte, reduceCtorEq, Nat.reduceEqDiff, Nat.reduceLT, Nat.reduceLeDiff, Nat.reduceAdd, Nat.reduceMul, Int.reduceToNat, push_cast, Gives, he7a, he7b, he7c, he8a, he8b, he8c, he9a, he9b, he9c]
   all_goals exact rH
end Go.T
end
section
namespace Go.T
open Go Go.AM Go.Proofs
set_option maxRecDepth 100000
set_option maxHeartbeats 4000000
set_option linter.unusedVariables false
theorem c_bookendref13_Step {fu : Nat} {vs1 : TApiSlState} {n2 : Int} {r : TApiSlState × Int × Int} (h0 : bookendref13_Step fu vs1 n2 = some r) : PCall Try.prog 19 [.agg (TApiSlState.enc vs1), .int .i64 n2] (.tup [.agg (TApiSlState.enc r.1), .int .i64 r.2.1, .int .i64 r.2.2]) [] := by
 refine awp_pcall Try.func19 rfl (by decide) (Nat.le_of_ble_eq_true rfl) ?_
 dsimp only [Try.f19]
 rw [bookendref13_Step] at h0
 refine (show AWP _ _ _ _ ⟨enumFr 0 _, [], 0, []⟩ from ?_)
 refine awp_sr2 32 [1, 2, 4] (fun _ => none) rfl (fun _ _ => rT) ?_
 obtain ⟨vr3, hvr3, h0⟩ := bindS h0
 refine awp_sr2 88 [1, 2, 4, 7, 8] (fun | 1 => some (.tup [.int .i64 vr3.1, .int .i64 vr3.2], []) | _ => none) rfl (fun _ _ => rC (c_bookendref13_Left hvr3)) ?_
 refine awp_seq ?_
 obtain ⟨b4, hb4, h0⟩ := bindS h0
 refine awp_sr3 (fr' := [(1, .int .i64 n2), (2, .ref 0 0 0 0), (4, .ref 8 0 0 0), (7, .int .i64 vr3.1), (8, .int .i64 vr3.2), (25, .bool b4)]) (hp' := [(0, ⟨0, true, true, 10, [[.psl 1 (List.map (encSl 4 TApiEntry.enc) vs1.Merge.Runs), .psl 1 (List.map (encInt .i64) vs1.Merge.At), .psl 2 (List.map TApiLsKey.enc vs1.Merge.Tree.Keys), .psl 1 (List.map (encInt .i64) vs1.Merge.Tree.Lose), .int .i64 vs1.Merge.Tree.Win, .bool vs1.Shadow.Some, .str vs1.Shadow.Last, .bool vs1.Shadow.Bottom, .psl 4 (List.map TApiEntry.enc vs1.Out), .int .i64 vs1.Steps]]⟩), (8, ⟨0, true, true, 10, [[.nils, .nils, .nils, .nils, .int .i64 0, .bool false, .str [], .bool false, .nils, .int .i64 0]]⟩)]) [0, 8] 136 [1, 2, 4, 7, 8, 25] (fun _ => none) rfl (fun Kt hK => by
   cases hg5 : (decide (vr3.2 = 0)) with
   | false =>
    replace hb4 := iteF hb4 hg5
    have hqb4 := Option.some.inj hb4
    subst hqb4
    simp (maxSteps := 1000000) only [↓reduceIte, reduceCtorEq, Nat.reduceEqDiff, Nat.reduceLT, Nat.reduceLeDiff, Nat.reduceAdd, Nat.reduceMul, Int.reduceToNat, push_cast, ↓hg5]
    try simp only [↓hg5] at hK
    all_goals exact rU
   | true =>
    replace hb4 := iteT hb4 hg5
    have hqb4 := Option.some.inj hb4
    subst hqb4
    simp (maxSteps := 1000000) only [↓reduceIte, reduceCtorEq, Nat.reduceEqDiff, Nat.reduceLT, Nat.reduceLeDiff, Nat.reduceAdd, Nat.reduceMul, Int.reduceToNat, push_cast, ↓hg5]
    try simp only [↓hg5] at hK
    all_goals exact rU) ?_
 refine awp_if rfl (fun hb6 => ?_) (fun hb6 => ?_)
 ·
  replace h0 := iteT h0 hb6
  refine awp_r2 144 [1, 2, 4, 7, 8] (fun _ => none) rfl (fun _ _ => rT) ?_
  refine kn_then ?_
  refine awp_seq ?_
  refine awp_sr2 160 [1, 2, 4, 7, 8, 27] (fun _ => none) rfl (fun _ _ => rT) ?_
  refine awp_condT rfl ?_
  refine awp_sr2 200 [4, 5, 6] (fun _ => none) rfl (fun _ _ => rT) ?_
  refine awp_ret ?_
  refine kr_then ?_
  obtain rfl := Option.some.inj h0
  refine leave_retG [] ?_
  exact rG
 ·
  replace h0 := iteF h0 hb6
  refine awp_skip ?_
  refine kn_then ?_
  refine awp_seq ?_
  refine awp_sr2 152 [1, 2, 4, 7, 8, 27] (fun _ => none) rfl (fun _ _ => rT) ?_
  refine awp_if rfl (fun hb7 => ?_) (fun hb7 => ?_)
  ·
   replace h0 := iteT h0 hb7
   refine awp_sr2 192 [4, 5, 6] (fun _ => none) rfl (fun _ _ => rT) ?_
   refine awp_ret ?_
   refine kr_then ?_
   obtain rfl := Option.some.inj h0
   refine leave_retG [] ?_
   exact rG
  ·
   replace h0 := iteF h0 hb7
   refine awp_skip ?_
   refine kn_then ?_
   refine awp_sr2 184 [2, 4, 9] (fun _ => none) rfl (fun _ _ => rT) ?_
   refine awp_seq ?_
   obtain ⟨vr8, hvr8, h0⟩ := bindS h0
   refine awp_sr2 224 [2, 4, 9, 37] (fun | 1 => some (.int .i64 vr8, []) | _ => none) rfl (fun _ _ => rC (c_bookendref13_read hvr8)) ?_
   refine awp_if rfl (fun hb9 => ?_) (fun hb9 => ?_)
   ·
    replace h0 := iteT h0 hb9
    refine awp_sr2 256 [4, 5, 6] (fun _ => none) rfl (fun _ _ => rT) ?_
    refine awp_ret ?_
    refine kr_then ?_
    obtain rfl := Option.some.inj h0
    refine leave_retG [] ?_
    exact rG
   ·
    replace h0 := iteF h0 hb9
    refine awp_skip ?_
    refine kn_then ?_
    refine awp_sr2 248 [2, 4, 9, 10] (fun _ => none) rfl (fun _ _ => rT) ?_
    refine awp_seq ?_
    refine awp_sr2 256 [2, 4, 9, 10, 11] (fun _ => none) rfl (fun _ _ => rT) ?_
    obtain ⟨x20, hxx20, h0⟩ := bindS h0
    refine awp_bloop (fun s' => s'.nx ≤ 280 ∧ LeN [] s' ⟨[(2, .ref 0 0 0 0), (4, .ref 8 0 0 0), (9, .int .i64 (if vr3.1 < n2 then vr3.1 else n2)), (10, .ref 232 0 0 0)], [(0, ⟨0, true, true, 10, [[.psl 1 (List.map (encSl 4 TApiEntry.enc) vs1.Merge.Runs), .psl 1 (List.map (encInt .i64) vs1.Merge.At), .psl 2 (List.map TApiLsKey.enc vs1.Merge.Tree.Keys), .psl 1 (List.map (encInt .i64) vs1.Merge.Tree.Lose), .int .i64 vs1.Merge.Tree.Win, .bool vs1.Shadow.Some, .str vs1.Shadow.Last, .bool vs1.Shadow.Bottom, .psl 4 (List.map TApiEntry.enc vs1.Out), .int .i64 vs1.Steps]]⟩), (8, ⟨0, true, true, 10, [[.nils, .nils, .nils, .nils, .int .i64 0, .bool false, .str [], .bool false, .nils, .int .i64 0]]⟩), (232, ⟨0, true, true, 10, [[.psl 1 (List.map (encSl 4 TApiEntry.enc) x20.1), .psl 1 (List.map (encInt .i64) x20.2.1), .psl 2 (List.map TApiLsKey.enc x20.2.2.1), .psl 1 (List.map (encInt .i64) x20.2.2.2.1), .int .i64 x20.2.2.2.2, .bool vs1.Shadow.Some, .str vs1.Shadow.Last, .bool vs1.Shadow.Bottom, .psl 4 (List.map TApiEntry.enc vs1.Out), .int .i64 vs1.Steps]]⟩)], 280, []⟩) ?_ ?_
    ·
     intro s' hs
     obtain ⟨hn, hs⟩ := hs
     refine kn_then ?_
     refine awp_re [] hn hs ?_
     refine awp_sr2 328 [2, 4, 9, 10] (fun _ => none) rfl (fun _ _ => rT) ?_
     obtain ⟨vr29, hvr29, h0⟩ := bindS h0
     refine awp_sr2 416 [2, 4, 9, 10, 12] (fun | 3 => some (.tup [.psl 4 (vr29.1.map TApiEntry.enc), .psl 1 (vr29.2.1.map (encInt .i64)), .int .i64 vr29.2.2], []) | _ => none) rfl (fun _ _ => rC (c_bookendref11_All hvr29)) ?_
     obtain ⟨hc30, h0⟩ := guS h0
     obtain ⟨vr31, hvr31, h0⟩ := bindS h0
     refine awp_sd2 536 [4, 9, 10] (fun | 7 => some (.tup [.psl 4 (vr31.1.map TApiEntry.enc), .agg (TApiShState.enc vr31.2)], []) | _ => none) rfl rfl rfl (fun _ _ => rCd (c_bookendref13_behind hvr31)) ?_
     refine awp_sr2 576 [4, 5, 6] (fun _ => none) rfl (fun _ _ => rT) ?_
     refine awp_ret ?_
     obtain rfl := Option.some.inj h0
     refine leave_retG [] ?_
     exact rG
    ·
     refine awp_loopF (ι := { p : Nat × Int × List (List TApiEntry) × List Int × List TApiLsKey × List Int × Int // bookendref13_Step_l1 vr3 n2 p.1 p.2.1 p.2.2.1 p.2.2.2.1 p.2.2.2.2.1 p.2.2.2.2.2.1 p.2.2.2.2.2.2 = some x20 }) (fun p => ⟨[(2, .ref 0 0 0 0), (4, .ref 8 0 0 0), (9, .int .i64 (if vr3.1 < n2 then vr3.1 else n2)), (10, .ref 232 0 0 0), (11, .int .i64 p.1.2.1)], [(0, ⟨0, true, true, 10, [[.psl 1 (List.map (encSl 4 TApiEntry.enc) vs1.Merge.Runs), .psl 1 (List.map (encInt .i64) vs1.Merge.At), .psl 2 (List.map TApiLsKey.enc vs1.Merge.Tree.Keys), .psl 1 (List.map (encInt .i64) vs1.Merge.Tree.Lose), .int .i64 vs1.Merge.Tree.Win, .bool vs1.Shadow.Some, .str vs1.Shadow.Last, .bool vs1.Shadow.Bottom, .psl 4 (List.map TApiEntry.enc vs1.Out), .int .i64 vs1.Steps]]⟩), (8, ⟨0, true, true, 10, [[.nils, .nils, .nils, .nils, .int .i64 0, .bool false, .str [], .bool false, .nils, .int .i64 0]]⟩), (232, ⟨0, true, true, 10, [[.psl 1 (List.map (encSl 4 TApiEntry.enc) p.1.2.2.1), .psl 1 (List.map (encInt .i64) p.1.2.2.2.1), .psl 2 (List.map TApiLsKey.enc p.1.2.2.2.2.1), .psl 1 (List.map (encInt .i64) p.1.2.2.2.2.2.1), .int .i64 p.1.2.2.2.2.2.2, .bool vs1.Shadow.Some, .str vs1.Shadow.Last, .bool vs1.Shadow.Bottom, .psl 4 (List.map TApiEntry.enc vs1.Out), .int .i64 vs1.Steps]]⟩)], 256, []⟩) (fun p => p.1.1) ⟨(fu, 0, vs1.Merge.Runs, vs1.Merge.At, vs1.Merge.Tree.Keys, vs1.Merge.Tree.Lose, vs1.Merge.Tree.Win), hxx20⟩ ⟨rF, rE, rfl, rfl, trivial, trivial⟩ (fun _ => Nat.le_refl _) ?_
     rintro ⟨⟨fu, i21, t22, t23, t24, t25, t26⟩, h1⟩
     cases fu with
     | zero =>
   replace h1 : bookendref13_Step_l1 vr3 n2 0 i21 t22 t23 t24 t25 t26 = some x20 := h1
   rw [bookendref13_Step_l1] at h1; cases h1
     | succ fu =>
      replace h1 : bookendref13_Step_l1 vr3 n2 (fu + 1) i21 t22 t23 t24 t25 t26 = some x20 := h1
      rw [bookendref13_Step_l1] at h1
      refine (show AWP _ _ _ _ ⟨[(2, .ref 0 0 0 0), (4, .ref 8 0 0 0), (9, .int .i64 (if vr3.1 < n2 then vr3.1 else n2)), (10, .ref 232 0 0 0), (11, .int .i64 i21)], [(0, ⟨0, true, true, 10, [[.psl 1 (List.map (encSl 4 TApiEntry.enc) vs1.Merge.Runs), .psl 1 (List.map (encInt .i64) vs1.Merge.At), .psl 2 (List.map TApiLsKey.enc vs1.Merge.Tree.Keys), .psl 1 (List.map (encInt .i64) vs1.Merge.Tree.Lose), .int .i64 vs1.Merge.Tree.Win, .bool vs1.Shadow.Some, .str vs1.Shadow.Last, .bool vs1.Shadow.Bottom, .psl 4 (List.map TApiEntry.enc vs1.Out), .int .i64 vs1.Steps]]⟩), (8, ⟨0, true, true, 10, [[.nils, .nils, .nils, .nils, .int .i64 0, .bool false, .str [], .bool false, .nils, .int .i64 0]]⟩), (232, ⟨0, true, true, 10, [[.psl 1 (List.map (encSl 4 TApiEntry.enc) t22), .psl 1 (List.map (encInt .i64) t23), .psl 2 (List.map TApiLsKey.enc t24), .psl 1 (List.map (encInt .i64) t25), .int .i64 t26, .bool vs1.Shadow.Some, .str vs1.Shadow.Last, .bool vs1.Shadow.Bottom, .psl 4 (List.map TApiEntry.enc vs1.Out), .int .i64 vs1.Steps]]⟩)], 256, []⟩ from ?_)
      refine awp_seq ?_
      refine awp_sr2 280 [2, 4, 9, 10, 11, 42] (fun _ => none) rfl (fun _ _ => rT) ?_
      refine awp_if rfl (fun hb27 => ?_) (fun hb27 => ?_)
      ·
       replace h1 := iteT h1 hb27
       refine awp_skip ?_
       refine kn_then ?_
       refine awp_seq ?_
       refine awp_block ?_
       obtain ⟨vr28, hvr28, h1⟩ := bindS h1
       refine awp_r2 360 [2, 4, 9, 10, 11] (fun | 2 => some (.tup [.agg (TApiEntry.enc vr28.1), .int .i64 vr28.2.1, .agg (TApiMgState.enc vr28.2.2.1), .int .i64 vr28.2.2.2], []) | _ => none) rfl (fun _ _ => rC (c_bookendref11_Next hvr28)) ?_
       refine kn_block ?_
       refine kn_then ?_
       refine awp_r2 384 [2, 4, 9, 10, 11] (fun _ => none) rfl (fun _ _ => rT) ?_
       refine kn_then ?_
       exact ⟨⟨(fu, (IntKind.i64.wrap (i21 + 1)), vr28.2.2.1.Runs, vr28.2.2.1.At, vr28.2.2.1.Tree.Keys, vr28.2.2.1.Tree.Lose, vr28.2.2.1.Tree.Win), h1⟩, ⟨rF, rE, rfl, rfl, trivial, trivial⟩, Nat.lt_succ_self _⟩
      ·
       replace h1 := iteF h1 hb27
       refine awp_exit ?_
       refine kx_then ?_
       refine kx_then ?_
       refine kx_done ?_
       obtain rfl := Option.some.inj h1
       exact ⟨Nat.le_of_ble_eq_true rfl, ⟨rF, rE, rfl, rfl, trivial, trivial⟩⟩
end Go.T
end
section
namespace Go.T
open Go Go.AM Go.Proofs
set_option maxRecDepth 100000
set_option maxHeartbeats 4000000
set_option linter.unusedVariables false
theorem c_bookendref13_Output {fu : Nat} {vs1 : TApiSlState} {r : List TApiEntry × Int} (h0 : bookendref13_Output fu vs1 = some r) : PCall Try.prog 23 [.agg (TApiSlState.enc vs1)] (.tup [.psl 4 (r.1.map TApiEntry.enc), .int .i64 r.2]) [] := by
 refine awp_pcall Try.func23 rfl (by decide) (Nat.le_of_ble_eq_true rfl) ?_
 dsimp only [Try.f23]
 rw [bookendref13_Output] at h0
 refine (show AWP _ _ _ _ ⟨enumFr 0 _, [], 0, []⟩ from ?_)
 refine awp_sr2 24 [1] (fun _ => none) rfl (fun _ _ => rT) ?_
 obtain ⟨vr2, hvr2, h0⟩ := bindS h0
 refine awp_sr2 80 [1, 4, 5] (fun | 1 => some (.tup [.int .i64 vr2.1, .int .i64 vr2.2], []) | _ => none) rfl (fun _ _ => rC (c_bookendref13_Left hvr2)) ?_
 refine awp_seq ?_
 obtain ⟨b3, hb3, h0⟩ := bindS h0
 refine awp_sr3 (fr' := [(1, .ref 0 0 0 0), (5, .int .i64 vr2.2), (16, .bool b3)]) (hp' := [(0, ⟨0, true, true, 10, [[.psl 1 (List.map (encSl 4 TApiEntry.enc) vs1.Merge.Runs), .psl 1 (List.map (encInt .i64) vs1.Merge.At), .psl 2 (List.map TApiLsKey.enc vs1.Merge.Tree.Keys), .psl 1 (List.map (encInt .i64) vs1.Merge.Tree.Lose), .int .i64 vs1.Merge.Tree.Win, .bool vs1.Shadow.Some, .str vs1.Shadow.Last, .bool vs1.Shadow.Bottom, .psl 4 (List.map TApiEntry.enc vs1.Out), .int .i64 vs1.Steps]]⟩)]) [0] 128 [1, 5, 16] (fun _ => none) rfl (fun Kt hK => by
   cases hg4 : (decide (vr2.2 = 0)) with
   | false =>
    replace hb3 := iteF hb3 hg4
    have hqb3 := Option.some.inj hb3
    subst hqb3
    simp (maxSteps := 1000000) only [↓reduceIte, reduceCtorEq, Nat.reduceEqDiff, Nat.reduceLT, Nat.reduceLeDiff, Nat.reduceAdd, Nat.reduceMul, Int.reduceToNat, push_cast, ↓hg4]
    try simp only [↓hg4] at hK
    all_goals exact rU
   | true =>
    replace hb3 := iteT hb3 hg4
    have hqb3 := Option.some.inj hb3
    subst hqb3
    simp (maxSteps := 1000000) only [↓reduceIte, reduceCtorEq, Nat.reduceEqDiff, Nat.reduceLT, Nat.reduceLeDiff, Nat.reduceAdd, Nat.reduceMul, Int.reduceToNat, push_cast, ↓hg4]
    try simp only [↓hg4] at hK
    all_goals exact rU) ?_
 refine awp_if rfl (fun hb5 => ?_) (fun hb5 => ?_)
 ·
  replace h0 := iteT h0 hb5
  refine awp_r2 136 [1, 5] (fun _ => none) rfl (fun _ _ => rT) ?_
  refine kn_then ?_
  refine awp_seq ?_
  refine awp_sr2 152 [1, 5, 18] (fun _ => none) rfl (fun _ _ => rT) ?_
  refine awp_condT rfl ?_
  refine awp_sr2 176 [2, 3] (fun _ => none) rfl (fun _ _ => rT) ?_
  refine awp_ret ?_
  refine kr_then ?_
  obtain rfl := Option.some.inj h0
  refine leave_retG [] ?_
  exact rG
 ·
  replace h0 := iteF h0 hb5
  refine awp_skip ?_
  refine kn_then ?_
  refine awp_seq ?_
  refine awp_sr2 144 [1, 5, 18] (fun _ => none) rfl (fun _ _ => rT) ?_
  refine awp_if rfl (fun hb6 => ?_) (fun hb6 => ?_)
  ·
   replace h0 := iteT h0 hb6
   refine awp_sr2 168 [2, 3] (fun _ => none) rfl (fun _ _ => rT) ?_
   refine awp_ret ?_
   refine kr_then ?_
   obtain rfl := Option.some.inj h0
   refine leave_retG [] ?_
   exact rG
  ·
   replace h0 := iteF h0 hb6
   refine awp_skip ?_
   refine kn_then ?_
   obtain ⟨hc7, h0⟩ := guS h0
   refine awp_sr2 192 [2, 3] (fun _ => none) rfl (fun _ _ => rT) ?_
   refine awp_re (s2 := ⟨[(2, .sl 144 1 4 0 vs1.Out.length), (3, .int .i64 0)], [(0, ⟨0, true, true, 10, [[.psl 1 (List.map (encSl 4 TApiEntry.enc) vs1.Merge.Runs), .psl 1 (List.map (encInt .i64) vs1.Merge.At), .psl 2 (List.map TApiLsKey.enc vs1.Merge.Tree.Keys), .psl 1 (List.map (encInt .i64) vs1.Merge.Tree.Lose), .int .i64 vs1.Merge.Tree.Win, .bool vs1.Shadow.Some, .str vs1.Shadow.Last, .bool vs1.Shadow.Bottom, .psl 4 (List.map TApiEntry.enc vs1.Out), .int .i64 vs1.Steps]]⟩), (144, ⟨1, true, true, 4, List.map TApiEntry.enc vs1.Out⟩)], 192, []⟩) [] (Nat.le_of_ble_eq_true rfl) ⟨rF, rE, rfl, rfl, trivial, trivial⟩ ?_
   refine awp_ret ?_
   obtain rfl := Option.some.inj h0
   refine leave_retG [] ?_
   exact rG
end Go.T
end
section
namespace Go.T
open Go Go.AM Go.Proofs
set_option maxRecDepth 100000
set_option maxHeartbeats 4000000
set_option linter.unusedVariables false
theorem c_bookendlaw13_SlicesStates {fu : Nat} {vs1 : TApiSlState} {n2 : Int} {r : Bool} (h0 : bookendlaw13_SlicesStates fu vs1 n2 = some r) : PCall Try.prog 4 [.agg (TApiSlState.enc vs1), .int .i64 n2] (.bool r) [] := by
 refine awp_pcall Try.func4 rfl (by decide) (Nat.le_of_ble_eq_true rfl) ?_
 dsimp only [Try.f4, List.append]
 rw [bookendlaw13_SlicesStates] at h0
 refine (show AWP _ _ _ _ ⟨enumFr 0 _, [], 0, []⟩ from ?_)
 refine awp_sr2 16 [1, 2] (fun _ => none) rfl (fun _ _ => rT) ?_
 refine awp_seq ?_
 obtain ⟨vr3, hvr3, h0⟩ := bindS h0
 refine awp_sr2 32 [1, 2, 20] (fun | 1 => some (.bool vr3, []) | _ => none) rfl (fun _ _ => rC (c_bookendlaw13_Far hvr3)) ?_
 refine awp_if rfl (fun hb4 => ?_) (fun hb4 => ?_)
 ·
  replace h0 := iteT h0 hb4
  obtain ⟨vr5, hvr5, h0⟩ := bindS h0
  refine awp_sr2 48 [4] (fun | 0 => some (.bool vr5, []) | _ => none) rfl (fun _ _ => rC (c_bookendlaw13_awake hvr5)) ?_
  refine awp_ret ?_
  refine kr_then ?_
  obtain rfl := Option.some.inj h0
  refine leave_retG [] ?_
  exact rG
 ·
  replace h0 := iteF h0 hb4
  refine awp_skip ?_
  refine kn_then ?_
  obtain ⟨vr6, hvr6, h0⟩ := bindS h0
  refine awp_sr2 120 [1, 2, 5, 6, 7] (fun | 2 => some (.tup [.agg (TApiSlState.enc vr6.1), .int .i64 vr6.2.1, .int .i64 vr6.2.2], []) | _ => none) rfl (fun _ _ => rC (c_slices_Step hvr6)) ?_
  obtain ⟨vr7, hvr7, h0⟩ := bindS h0
  refine awp_sr2 208 [2, 5, 6, 7, 8, 9, 10] (fun | 2 => some (.tup [.agg (TApiSlState.enc vr7.1), .int .i64 vr7.2.1, .int .i64 vr7.2.2], []) | _ => none) rfl (fun _ _ => rC (c_bookendref13_Step hvr7)) ?_
  obtain ⟨vr8, hvr8, h0⟩ := bindS h0
  refine awp_sr2 264 [2, 5, 6, 7, 8, 9, 10, 11, 12] (fun | 1 => some (.tup [.int .i64 vr8.1, .int .i64 vr8.2], []) | _ => none) rfl (fun _ _ => rC (c_slices_Left hvr8)) ?_
  obtain ⟨vr9, hvr9, h0⟩ := bindS h0
  refine awp_sr2 320 [2, 5, 6, 7, 8, 9, 10, 11, 12, 13, 14] (fun | 1 => some (.tup [.int .i64 vr9.1, .int .i64 vr9.2], []) | _ => none) rfl (fun _ _ => rC (c_bookendref13_Left hvr9)) ?_
  obtain ⟨vr10, hvr10, h0⟩ := bindS h0
  refine awp_sr2 376 [2, 5, 6, 7, 8, 9, 10, 11, 12, 13, 14, 15, 16] (fun | 1 => some (.tup [.psl 4 (vr10.1.map TApiEntry.enc), .int .i64 vr10.2], []) | _ => none) rfl (fun _ _ => rC (c_slices_Output hvr10)) ?_
  obtain ⟨vr11, hvr11, h0⟩ := bindS h0
  refine awp_sr2 432 [2, 5, 6, 7, 8, 9, 10, 11, 12, 13, 14, 15, 16, 17, 18] (fun | 1 => some (.tup [.psl 4 (vr11.1.map TApiEntry.enc), .int .i64 vr11.2], []) | _ => none) rfl (fun _ _ => rC (c_bookendref13_Output hvr11)) ?_
  obtain ⟨vr12, hvr12, h0⟩ := bindS h0
  obtain ⟨vr13, hvr13, h0⟩ := bindS h0
  obtain ⟨b15, hb15, h0⟩ := bindS h0
  obtain ⟨b16, hb16, h0⟩ := bindS h0
  obtain ⟨b17, hb17, h0⟩ := bindS h0
  obtain ⟨b18, hb18, h0⟩ := bindS h0
  obtain ⟨b19, hb19, h0⟩ := bindS h0
  obtain ⟨b21, hb21, h0⟩ := bindS h0
  obtain ⟨b22, hb22, h0⟩ := bindS h0
  obtain ⟨b24, hb24, h0⟩ := bindS h0
  refine awp_sd3 (fr' := [(4, .bool b24)]) (hp' := [(0, ⟨0, true, true, 10, [[.psl 1 (List.map (encSl 4 TApiEntry.enc) vs1.Merge.Runs), .psl 1 (List.map (encInt .i64) vs1.Merge.At), .psl 2 (List.map TApiLsKey.enc vs1.Merge.Tree.Keys), .psl 1 (List.map (encInt .i64) vs1.Merge.Tree.Lose), .int .i64 vs1.Merge.Tree.Win, .bool vs1.Shadow.Some, .str vs1.Shadow.Last, .bool vs1.Shadow.Bottom, .psl 4 (List.map TApiEntry.enc vs1.Out), .int .i64 vs1.Steps]]⟩), (88, ⟨0, true, true, 10, [[.psl 1 (List.map (encSl 4 TApiEntry.enc) vr6.1.Merge.Runs), .psl 1 (List.map (encInt .i64) vr6.1.Merge.At), .psl 2 (List.map TApiLsKey.enc vr6.1.Merge.Tree.Keys), .psl 1 (List.map (encInt .i64) vr6.1.Merge.Tree.Lose), .int .i64 vr6.1.Merge.Tree.Win, .bool vr6.1.Shadow.Some, .str vr6.1.Shadow.Last, .bool vr6.1.Shadow.Bottom, .psl 4 (List.map TApiEntry.enc vr6.1.Out), .int .i64 vr6.1.Steps]]⟩), (176, ⟨0, true, true, 10, [[.psl 1 (List.map (encSl 4 TApiEntry.enc) vr7.1.Merge.Runs), .psl 1 (List.map (encInt .i64) vr7.1.Merge.At), .psl 2 (List.map TApiLsKey.enc vr7.1.Merge.Tree.Keys), .psl 1 (List.map (encInt .i64) vr7.1.Merge.Tree.Lose), .int .i64 vr7.1.Merge.Tree.Win, .bool vr7.1.Shadow.Some, .str vr7.1.Shadow.Last, .bool vr7.1.Shadow.Bottom, .psl 4 (List.map TApiEntry.enc vr7.1.Out), .int .i64 vr7.1.Steps]]⟩)]) [0, 88, 176] 784 [4] (fun | 1 => some (.int .i64 vr12, []) | 3 => some (.int .i64 vr13, []) | 8 => (bookendref13_Same fu vr6.1 vr7.1).bind fun vr14 => some (.bool vr14, []) | 33 => (bookendref11_SameEntries fu vr10.1 vr11.1).bind fun vr20 => some (.bool vr20, []) | 41 => (bookendlaw13_awake fu).bind fun vr23 => some (.bool vr23, []) | _ => none) rfl rfl rfl (fun Kt hK => by
    cases hg25 : (decide (vr12 = vr13)) with
    | false =>
     replace hb15 := iteF hb15 hg25
     have hqb15 := Option.some.inj hb15
     cases b15 with
     | false =>
      replace hb16 := iteF hb16 rfl
      have hqb16 := Option.some.inj hb16
      cases b16 with
      | false =>
       replace hb17 := iteF hb17 rfl
       have hqb17 := Option.some.inj hb17
       cases b17 with
       | false =>
        replace hb18 := iteF hb18 rfl
        have hqb18 := Option.some.inj hb18
        cases b18 with
        | false =>
         replace hb19 := iteF hb19 rfl
         have hqb19 := Option.some.inj hb19
         cases b19 with
         | false =>
          replace hb21 := iteF hb21 rfl
          have hqb21 := Option.some.inj hb21
          cases b21 with
          | false =>
           replace hb22 := iteF hb22 rfl
           have hqb22 := Option.some.inj hb22
           cases b22 with
           | false =>
            replace hb24 := iteF hb24 rfl
            have hqb24 := Option.some.inj hb24
            subst hqb24
            simp (maxSteps := 1000000) only [↓reduceIte, reduceCtorEq, Nat.reduceEqDiff, Nat.reduceLT, Nat.reduceLeDiff, Nat.reduceAdd, Nat.reduceMul, Int.reduceToNat, push_cast, ↓hg25]
            try simp only [↓hg25] at hK
            try have q0 := c_slices_Check hvr12
            try have q1 := c_bookendref13_Check hvr13
            try have q2 := c_bookendref13_Same hvr14
            try have q3 := c_bookendref11_SameEntries hvr20
            try have q4 := c_bookendlaw13_awake hvr23
            all_goals exact rUd
           | true =>
            cases hqb22
          | true =>
           cases hqb21
         | true =>
          cases hqb19
        | true =>
         cases hqb18
       | true =>
        cases hqb17
      | true =>
       cases hqb16
     | true =>
      cases hqb15
    | true =>
     replace hb15 := iteT hb15 hg25
     obtain ⟨vr14, hvr14, hb15⟩ := bindS hb15
     have hqb15 := Option.some.inj hb15
     cases b15 with
     | false =>
      subst hqb15
      replace hb16 := iteF hb16 rfl
      have hqb16 := Option.some.inj hb16
      cases b16 with
      | false =>
       replace hb17 := iteF hb17 rfl
       have hqb17 := Option.some.inj hb17
       cases b17 with
       | false =>
        replace hb18 := iteF hb18 rfl
        have hqb18 := Option.some.inj hb18
        cases b18 with
        | false =>
         replace hb19 := iteF hb19 rfl
         have hqb19 := Option.some.inj hb19
         cases b19 with
         | false =>
          replace hb21 := iteF hb21 rfl
          have hqb21 := Option.some.inj hb21
          cases b21 with
          | false =>
           replace hb22 := iteF hb22 rfl
           have hqb22 := Option.some.inj hb22
           cases b22 with
           | false =>
            replace hb24 := iteF hb24 rfl
            have hqb24 := Option.some.inj hb24
            subst hqb24
            simp (maxSteps := 1000000) only [↓reduceIte, reduceCtorEq, Nat.reduceEqDiff, Nat.reduceLT, Nat.reduceLeDiff, Nat.reduceAdd, Nat.reduceMul, Int.reduceToNat, push_cast, ↓hg25, hvr14]
            try simp only [↓hg25] at hK
            try have q0 := c_slices_Check hvr12
            try have q1 := c_bookendref13_Check hvr13
            try have q2 := c_bookendref13_Same hvr14
            try have q3 := c_bookendref11_SameEntries hvr20
            try have q4 := c_bookendlaw13_awake hvr23
            all_goals exact rUd
           | true =>
            cases hqb22
          | true =>
           cases hqb21
         | true =>
          cases hqb19
        | true =>
         cases hqb18
       | true =>
        cases hqb17
      | true =>
       cases hqb16
     | true =>
      subst hqb15
      replace hb16 := iteT hb16 rfl
      have hqb16 := Option.some.inj hb16
      cases b16 with
      | false =>
       replace hb17 := iteF hb17 rfl
       have hqb17 := Option.some.inj hb17
       cases b17 with
       | false =>
        replace hb18 := iteF hb18 rfl
        have hqb18 := Option.some.inj hb18
        cases b18 with
        | false =>
         replace hb19 := iteF hb19 rfl
         have hqb19 := Option.some.inj hb19
         cases b19 with
         | false =>
          replace hb21 := iteF hb21 rfl
          have hqb21 := Option.some.inj hb21
          cases b21 with
          | false =>
           replace hb22 := iteF hb22 rfl
           have hqb22 := Option.some.inj hb22
           cases b22 with
           | false =>
            replace hb24 := iteF hb24 rfl
            have hqb24 := Option.some.inj hb24
            subst hqb24
            simp (maxSteps := 1000000) only [↓reduceIte, reduceCtorEq, Nat.reduceEqDiff, Nat.reduceLT, Nat.reduceLeDiff, Nat.reduceAdd, Nat.reduceMul, Int.reduceToNat, push_cast, ↓hg25, hvr14, ↓hqb16]
            try simp only [↓hg25, ↓hqb16] at hK
            try have q0 := c_slices_Check hvr12
            try have q1 := c_bookendref13_Check hvr13
            try have q2 := c_bookendref13_Same hvr14
            try have q3 := c_bookendref11_SameEntries hvr20
            try have q4 := c_bookendlaw13_awake hvr23
            all_goals exact rUd
           | true =>
            cases hqb22
          | true =>
           cases hqb21
         | true =>
          cases hqb19
        | true =>
         cases hqb18
       | true =>
        cases hqb17
      | true =>
       replace hb17 := iteT hb17 rfl
       have hqb17 := Option.some.inj hb17
       cases b17 with
       | false =>
        replace hb18 := iteF hb18 rfl
        have hqb18 := Option.some.inj hb18
        cases b18 with
        | false =>
         replace hb19 := iteF hb19 rfl
         have hqb19 := Option.some.inj hb19
         cases b19 with
         | false =>
          replace hb21 := iteF hb21 rfl
          have hqb21 := Option.some.inj hb21
          cases b21 with
          | false =>
           replace hb22 := iteF hb22 rfl
           have hqb22 := Option.some.inj hb22
           cases b22 with
           | false =>
            replace hb24 := iteF hb24 rfl
            have hqb24 := Option.some.inj hb24
            subst hqb24
            simp (maxSteps := 1000000) only [↓reduceIte, reduceCtorEq, Nat.reduceEqDiff, Nat.reduceLT, Nat.reduceLeDiff, Nat.reduceAdd, Nat.reduceMul, Int.reduceToNat, push_cast, ↓hg25, hvr14, ↓hqb16, ↓hqb17]
            try simp only [↓hg25, ↓hqb16, ↓hqb17] at hK
            try have q0 := c_slices_Check hvr12
            try have q1 := c_bookendref13_Check hvr13
            try have q2 := c_bookendref13_Same hvr14
            try have q3 := c_bookendref11_SameEntries hvr20
            try have q4 := c_bookendlaw13_awake hvr23
            all_goals exact rUd
           | true =>
            cases hqb22
          | true =>
           cases hqb21
         | true =>
          cases hqb19
        | true =>
         cases hqb18
       | true =>
        replace hb18 := iteT hb18 rfl
        have hqb18 := Option.some.inj hb18
        cases b18 with
        | false =>
         replace hb19 := iteF hb19 rfl
         have hqb19 := Option.some.inj hb19
         cases b19 with
         | false =>
          replace hb21 := iteF hb21 rfl
          have hqb21 := Option.some.inj hb21
          cases b21 with
          | false =>
           replace hb22 := iteF hb22 rfl
           have hqb22 := Option.some.inj hb22
           cases b22 with
           | false =>
            replace hb24 := iteF hb24 rfl
            have hqb24 := Option.some.inj hb24
            subst hqb24
            simp (maxSteps := 1000000) only [↓reduceIte, reduceCtorEq, Nat.reduceEqDiff, Nat.reduceLT, Nat.reduceLeDiff, Nat.reduceAdd, Nat.reduceMul, Int.reduceToNat, push_cast, ↓hg25, hvr14, ↓hqb16, ↓hqb17, ↓hqb18]
            try simp only [↓hg25, ↓hqb16, ↓hqb17, ↓hqb18] at hK
            try have q0 := c_slices_Check hvr12
            try have q1 := c_bookendref13_Check hvr13
            try have q2 := c_bookendref13_Same hvr14
            try have q3 := c_bookendref11_SameEntries hvr20
            try have q4 := c_bookendlaw13_awake hvr23
            all_goals exact rUd
           | true =>
            cases hqb22
          | true =>
           cases hqb21
         | true =>
          cases hqb19
        | true =>
         replace hb19 := iteT hb19 rfl
         have hqb19 := Option.some.inj hb19
         cases b19 with
         | false =>
          replace hb21 := iteF hb21 rfl
          have hqb21 := Option.some.inj hb21
          cases b21 with
          | false =>
           replace hb22 := iteF hb22 rfl
           have hqb22 := Option.some.inj hb22
           cases b22 with
           | false =>
            replace hb24 := iteF hb24 rfl
            have hqb24 := Option.some.inj hb24
            subst hqb24
            simp (maxSteps := 1000000) only [↓reduceIte, reduceCtorEq, Nat.reduceEqDiff, Nat.reduceLT, Nat.reduceLeDiff, Nat.reduceAdd, Nat.reduceMul, Int.reduceToNat, push_cast, ↓hg25, hvr14, ↓hqb16, ↓hqb17, ↓hqb18, ↓hqb19]
            try simp only [↓hg25, ↓hqb16, ↓hqb17, ↓hqb18, ↓hqb19] at hK
            try have q0 := c_slices_Check hvr12
            try have q1 := c_bookendref13_Check hvr13
            try have q2 := c_bookendref13_Same hvr14
            try have q3 := c_bookendref11_SameEntries hvr20
            try have q4 := c_bookendlaw13_awake hvr23
            all_goals exact rUd
           | true =>
            cases hqb22
          | true =>
           cases hqb21
         | true =>
          replace hb21 := iteT hb21 rfl
          obtain ⟨vr20, hvr20, hb21⟩ := bindS hb21
          have hqb21 := Option.some.inj hb21
          cases b21 with
          | false =>
           subst hqb21
           replace hb22 := iteF hb22 rfl
           have hqb22 := Option.some.inj hb22
           cases b22 with
           | false =>
            replace hb24 := iteF hb24 rfl
            have hqb24 := Option.some.inj hb24
            subst hqb24
            simp (maxSteps := 1000000) only [↓reduceIte, reduceCtorEq, Nat.reduceEqDiff, Nat.reduceLT, Nat.reduceLeDiff, Nat.reduceAdd, Nat.reduceMul, Int.reduceToNat, push_cast, ↓hg25, hvr14, ↓hqb16, ↓hqb17, ↓hqb18, ↓hqb19, hvr20]
            try simp only [↓hg25, ↓hqb16, ↓hqb17, ↓hqb18, ↓hqb19] at hK
            try have q0 := c_slices_Check hvr12
            try have q1 := c_bookendref13_Check hvr13
            try have q2 := c_bookendref13_Same hvr14
            try have q3 := c_bookendref11_SameEntries hvr20
            try have q4 := c_bookendlaw13_awake hvr23
            all_goals exact rUd
           | true =>
            cases hqb22
          | true =>
           subst hqb21
           replace hb22 := iteT hb22 rfl
           have hqb22 := Option.some.inj hb22
           cases b22 with
           | false =>
            replace hb24 := iteF hb24 rfl
            have hqb24 := Option.some.inj hb24
            subst hqb24
            simp (maxSteps := 1000000) only [↓reduceIte, reduceCtorEq, Nat.reduceEqDiff, Nat.reduceLT, Nat.reduceLeDiff, Nat.reduceAdd, Nat.reduceMul, Int.reduceToNat, push_cast, ↓hg25, hvr14, ↓hqb16, ↓hqb17, ↓hqb18, ↓hqb19, hvr20, ↓hqb22]
            try simp only [↓hg25, ↓hqb16, ↓hqb17, ↓hqb18, ↓hqb19, ↓hqb22] at hK
            try have q0 := c_slices_Check hvr12
            try have q1 := c_bookendref13_Check hvr13
            try have q2 := c_bookendref13_Same hvr14
            try have q3 := c_bookendref11_SameEntries hvr20
            try have q4 := c_bookendlaw13_awake hvr23
            all_goals exact rUd
           | true =>
            replace hb24 := iteT hb24 rfl
            obtain ⟨vr23, hvr23, hb24⟩ := bindS hb24
            have hqb24 := Option.some.inj hb24
            subst hqb24
            simp (maxSteps := 1000000) only [↓reduceIte, reduceCtorEq, Nat.reduceEqDiff, Nat.reduceLT, Nat.reduceLeDiff, Nat.reduceAdd, Nat.reduceMul, Int.reduceToNat, push_cast, ↓hg25, hvr14, ↓hqb16, ↓hqb17, ↓hqb18, ↓hqb19, hvr20, ↓hqb22, hvr23]
            try simp only [↓hg25, ↓hqb16, ↓hqb17, ↓hqb18, ↓hqb19, ↓hqb22] at hK
            try have q0 := c_slices_Check hvr12
            try have q1 := c_bookendref13_Check hvr13
            try have q2 := c_bookendref13_Same hvr14
            try have q3 := c_bookendref11_SameEntries hvr20
            try have q4 := c_bookendlaw13_awake hvr23
            all_goals exact rUd) ?_
  refine awp_ret ?_
  obtain rfl := Option.some.inj h0
  refine leave_retG [] ?_
  exact rG
end Go.T
end
section
namespace Go.Proofs.Ytjmdbbhkgnlmmaa
open Go.T
theorem slicesStates : Rows.SlicesStatesSaid :=
  slicesStates_over (fun x0 x1 w0 w1 => by
    obtain ⟨fu, h⟩ := (slicesStates_ev x0 x1).one
    exact ⟨_, c_bookendlaw13_SlicesStates h⟩)
end Go.Proofs.Ytjmdbbhkgnlmmaa
end
