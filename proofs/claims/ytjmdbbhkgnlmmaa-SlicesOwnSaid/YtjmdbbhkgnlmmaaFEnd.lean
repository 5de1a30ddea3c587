/- A state that was kept is the same after steps of it were made and their entries changed, and two ways on from it do not meet, of runs that are not far and numbers modulo 30; no other condition. -/
import Derived.Test.YtjmdbbhkgnlmmaaFGt
import Derived.Test.YtjmdbbhkgnlmmaaFAmZh
import Derived.Test.YtjmdbbhkgnlmmaaFLkSlicesOwn
import Derived.Test.YtjmdbbhkgnlmmaaF2
set_option linter.unusedSimpArgs false
set_option linter.unusedVariables false
section
namespace Go.T
open Go Go.AM Go.Proofs
set_option maxRecDepth 100000
set_option maxHeartbeats 4000000
set_option linter.unusedVariables false
theorem c_shadow_Step {fu : Nat} {vs1 : TApiShState} {vx2 : TApiEntry} {r : Bool × TApiShState × Int} (h0 : shadow_Step fu vs1 vx2 = some r) : PCall Try.prog 62 [.agg (TApiShState.enc vs1), .agg (TApiEntry.enc vx2)] (.tup [.bool r.1, .agg (TApiShState.enc r.2.1), .int .i64 r.2.2]) [] := by
 refine awp_pcall Try.func62 rfl (by decide) (Nat.le_of_ble_eq_true rfl) ?_
 dsimp only [Try.f62]
 rw [shadow_Step] at h0
 refine (show AWP _ _ _ _ ⟨enumFr 0 _, [], 0, []⟩ from ?_)
 refine awp_sr2 40 [2, 3, 5] (fun _ => none) rfl (fun _ _ => rT) ?_
 refine awp_sops2 10 rfl ?_
 refine awpo_cut (l' := List.range' 0 2 ++ (2 :: (List.range' 3 7 ++ []))) rfl ?_
 refine awpo_seg 0 2 56 (2 :: (List.range' 3 7 ++ [])) (fun _ => none) rfl rfl rfl (fun _ _ => rT) ?_
 refine awpo_in rfl rfl rfl rfl rfl Try.func77 rfl (by decide) rfl (Nat.le_of_ble_eq_true rfl) ?_
 dsimp only [Try.f77]
 refine awp_re (s2 := ⟨[(0, .agg [.bool vs1.Some, .str vs1.Last, .bool vs1.Bottom]), (1, .agg [.str vx2.Key, .str vx2.Val, .bool vx2.Dead, .int .i64 vx2.Seq])], [(0, ⟨0, true, true, 3, [[.bool vs1.Some, .str vs1.Last, .bool vs1.Bottom]]⟩), (8, ⟨0, true, true, 4, [[.str vx2.Key, .str vx2.Val, .bool vx2.Dead, .int .i64 vx2.Seq]]⟩), (24, ⟨0, true, true, 3, [[.bool false, .str [], .bool false]]⟩)], 56, []⟩) [] (Nat.le_of_ble_eq_true rfl) ⟨rF, rE, rfl, rfl, trivial, trivial⟩ ?_
 refine awp_sr2 96 [2, 3, 5] (fun _ => none) rfl (fun _ _ => rT) ?_
 refine awp_seq ?_
 obtain ⟨vr3, hvr3, h0⟩ := bindS h0
 refine awp_sr2 120 [2, 3, 5, 7] (fun | 1 => some (.int .i64 vr3, []) | _ => none) rfl (fun _ _ => rC (c_shadow_Check hvr3)) ?_
 refine awp_sr2 136 [2, 3, 5, 7, 13] (fun _ => none) rfl (fun _ _ => rT) ?_
 refine awp_if rfl (fun hb4 => ?_) (fun hb4 => ?_)
 ·
  replace h0 := iteT h0 hb4
  refine awp_sr2 176 [4, 5, 6] (fun _ => none) rfl (fun _ _ => rT) ?_
  refine awp_ret ?_
  refine kr_then ?_
  refine leave_retK (fun _ _ => rT) ?_
  refine awpo_re (s2 := ⟨[(2, .ref 0 0 0 0), (3, .ref 8 0 0 0), (5, .ref 24 0 0 0), (9, .agg [.bool vs1.Some, .str vs1.Last, .bool vs1.Bottom]), (10, .agg [.str vx2.Key, .str vx2.Val, .bool vx2.Dead, .int .i64 vx2.Seq]), (11, .tup [.nili, .agg [.bool false, .str [], .bool false], .int .i64 vr3])], [(0, ⟨0, true, true, 3, [[.bool vs1.Some, .str vs1.Last, .bool vs1.Bottom]]⟩), (8, ⟨0, true, true, 4, [[.str vx2.Key, .str vx2.Val, .bool vx2.Dead, .int .i64 vx2.Seq]]⟩), (24, ⟨0, true, true, 3, [[.bool false, .str [], .bool false]]⟩)], 176, []⟩) [] (Nat.le_of_ble_eq_true rfl) ⟨rF, rE, rfl, rfl, trivial, trivial⟩ ?_
  refine awpo_cut (l' := List.range' 3 7 ++ []) rfl ?_
  refine awpo_seg 3 7 232 [] (fun _ => none) rfl rfl rfl (fun _ _ => rT) ?_
  refine awpo_nil ?_
  refine kn_then ?_
  refine awp_re (s2 := ⟨[(5, .ref 24 0 0 0), (6, .int .i64 vr3), (7, .nili)], [(0, ⟨0, true, true, 3, [[.bool vs1.Some, .str vs1.Last, .bool vs1.Bottom]]⟩), (8, ⟨0, true, true, 4, [[.str vx2.Key, .str vx2.Val, .bool vx2.Dead, .int .i64 vx2.Seq]]⟩), (24, ⟨0, true, true, 3, [[.bool false, .str [], .bool false]]⟩)], 232, []⟩) [] (Nat.le_of_ble_eq_true rfl) ⟨rF, rE, rfl, rfl, trivial, trivial⟩ ?_
  refine awp_sr2 280 [4, 5, 6] (fun _ => none) rfl (fun _ _ => rT) ?_
  refine awp_sd2 328 [4, 5, 6] (fun _ => none) rfl rfl rfl (fun _ _ => rTd) ?_
  refine awp_ret ?_
  obtain rfl := Option.some.inj h0
  refine leave_retG [] ?_
  exact rG
 ·
  replace h0 := iteF h0 hb4
  refine awp_skip ?_
  refine kn_then ?_
  refine awp_seq ?_
  obtain ⟨vr5, hvr5, h0⟩ := bindS h0
  refine awp_sr2 160 [2, 3, 5, 8] (fun | 1 => some (.int .i64 vr5, []) | _ => none) rfl (fun _ _ => rC (c_entries_Check hvr5)) ?_
  refine awp_sr2 176 [2, 3, 5, 8, 19] (fun _ => none) rfl (fun _ _ => rT) ?_
  refine awp_if rfl (fun hb6 => ?_) (fun hb6 => ?_)
  ·
   replace h0 := iteT h0 hb6
   refine awp_sr2 216 [4, 5, 6] (fun _ => none) rfl (fun _ _ => rT) ?_
   refine awp_ret ?_
   refine kr_then ?_
   refine leave_retK (fun _ _ => rT) ?_
   refine awpo_re (s2 := ⟨[(2, .ref 0 0 0 0), (3, .ref 8 0 0 0), (5, .ref 24 0 0 0), (9, .agg [.bool vs1.Some, .str vs1.Last, .bool vs1.Bottom]), (10, .agg [.str vx2.Key, .str vx2.Val, .bool vx2.Dead, .int .i64 vx2.Seq]), (11, .tup [.nili, .agg [.bool false, .str [], .bool false], .int .i64 vr5])], [(0, ⟨0, true, true, 3, [[.bool vs1.Some, .str vs1.Last, .bool vs1.Bottom]]⟩), (8, ⟨0, true, true, 4, [[.str vx2.Key, .str vx2.Val, .bool vx2.Dead, .int .i64 vx2.Seq]]⟩), (24, ⟨0, true, true, 3, [[.bool false, .str [], .bool false]]⟩)], 216, []⟩) [] (Nat.le_of_ble_eq_true rfl) ⟨rF, rE, rfl, rfl, trivial, trivial⟩ ?_
   refine awpo_cut (l' := List.range' 3 7 ++ []) rfl ?_
   refine awpo_seg 3 7 272 [] (fun _ => none) rfl rfl rfl (fun _ _ => rT) ?_
   refine awpo_nil ?_
   refine kn_then ?_
   refine awp_re (s2 := ⟨[(5, .ref 24 0 0 0), (6, .int .i64 vr5), (7, .nili)], [(0, ⟨0, true, true, 3, [[.bool vs1.Some, .str vs1.Last, .bool vs1.Bottom]]⟩), (8, ⟨0, true, true, 4, [[.str vx2.Key, .str vx2.Val, .bool vx2.Dead, .int .i64 vx2.Seq]]⟩), (24, ⟨0, true, true, 3, [[.bool false, .str [], .bool false]]⟩)], 272, []⟩) [] (Nat.le_of_ble_eq_true rfl) ⟨rF, rE, rfl, rfl, trivial, trivial⟩ ?_
   refine awp_sr2 320 [4, 5, 6] (fun _ => none) rfl (fun _ _ => rT) ?_
   refine awp_sd2 368 [4, 5, 6] (fun _ => none) rfl rfl rfl (fun _ _ => rTd) ?_
   refine awp_ret ?_
   obtain rfl := Option.some.inj h0
   refine leave_retG [] ?_
   exact rG
  ·
   replace h0 := iteF h0 hb6
   refine awp_skip ?_
   refine kn_then ?_
   refine awp_seq ?_
   obtain ⟨b7, hb7, h0⟩ := bindS h0
   refine awp_sr3 (fr' := [(2, .ref 56 0 0 0), (3, .ref 64 0 0 0), (5, .ref 80 0 0 0), (30, .bool b7)]) (hp' := [(0, ⟨0, true, true, 3, [[.bool vs1.Some, .str vs1.Last, .bool vs1.Bottom]]⟩), (8, ⟨0, true, true, 4, [[.str vx2.Key, .str vx2.Val, .bool vx2.Dead, .int .i64 vx2.Seq]]⟩), (24, ⟨0, true, true, 3, [[.bool false, .str [], .bool false]]⟩), (56, ⟨0, true, true, 3, [[.bool vs1.Some, .str vs1.Last, .bool vs1.Bottom]]⟩), (64, ⟨0, true, true, 4, [[.str vx2.Key, .str vx2.Val, .bool vx2.Dead, .int .i64 vx2.Seq]]⟩), (80, ⟨0, true, true, 3, [[.bool false, .str [], .bool false]]⟩)]) [0, 8, 24, 56, 64, 80] 248 [2, 3, 5, 30] (fun _ => none) rfl (fun Kt hK => by
     cases hg8 : vs1.Some with
     | false =>
      replace hb7 := iteF hb7 hg8
      have hqb7 := Option.some.inj hb7
      subst hqb7
      simp (maxSteps := 1000000) only [↓reduceIte, reduceCtorEq, Nat.reduceEqDiff, Nat.reduceLT, Nat.reduceLeDiff, Nat.reduceAdd, Nat.reduceMul, Int.reduceToNat, push_cast, ↓hg8]
      try simp only [↓hg8] at hK
      all_goals exact rU
     | true =>
      replace hb7 := iteT hb7 hg8
      have hqb7 := Option.some.inj hb7
      subst hqb7
      simp (maxSteps := 1000000) only [↓reduceIte, reduceCtorEq, Nat.reduceEqDiff, Nat.reduceLT, Nat.reduceLeDiff, Nat.reduceAdd, Nat.reduceMul, Int.reduceToNat, push_cast, ↓hg8]
      try simp only [↓hg8] at hK
      all_goals exact rU) ?_
   refine awp_if rfl (fun hb9 => ?_) (fun hb9 => ?_)
   ·
    replace h0 := iteT h0 hb9
    refine awp_sr2 280 [4, 5, 6] (fun _ => none) rfl (fun _ _ => rT) ?_
    refine awp_ret ?_
    refine kr_then ?_
    refine leave_retK (fun _ _ => rT) ?_
    refine awpo_re (s2 := ⟨[(2, .ref 0 0 0 0), (3, .ref 8 0 0 0), (5, .ref 24 0 0 0), (9, .agg [.bool vs1.Some, .str vs1.Last, .bool vs1.Bottom]), (10, .agg [.str vx2.Key, .str vx2.Val, .bool vx2.Dead, .int .i64 vx2.Seq]), (11, .tup [.nili, .agg [.bool false, .str [], .bool false], .int .i64 6])], [(0, ⟨0, true, true, 3, [[.bool vs1.Some, .str vs1.Last, .bool vs1.Bottom]]⟩), (8, ⟨0, true, true, 4, [[.str vx2.Key, .str vx2.Val, .bool vx2.Dead, .int .i64 vx2.Seq]]⟩), (24, ⟨0, true, true, 3, [[.bool false, .str [], .bool false]]⟩)], 280, []⟩) [] (Nat.le_of_ble_eq_true rfl) ⟨rF, rE, rfl, rfl, trivial, trivial⟩ ?_
    refine awpo_cut (l' := List.range' 3 7 ++ []) rfl ?_
    refine awpo_seg 3 7 336 [] (fun _ => none) rfl rfl rfl (fun _ _ => rT) ?_
    refine awpo_nil ?_
    refine kn_then ?_
    refine awp_re (s2 := ⟨[(5, .ref 24 0 0 0), (6, .int .i64 6), (7, .nili)], [(0, ⟨0, true, true, 3, [[.bool vs1.Some, .str vs1.Last, .bool vs1.Bottom]]⟩), (8, ⟨0, true, true, 4, [[.str vx2.Key, .str vx2.Val, .bool vx2.Dead, .int .i64 vx2.Seq]]⟩), (24, ⟨0, true, true, 3, [[.bool false, .str [], .bool false]]⟩)], 336, []⟩) [] (Nat.le_of_ble_eq_true rfl) ⟨rF, rE, rfl, rfl, trivial, trivial⟩ ?_
    refine awp_sr2 384 [4, 5, 6] (fun _ => none) rfl (fun _ _ => rT) ?_
    refine awp_sd2 432 [4, 5, 6] (fun _ => none) rfl rfl rfl (fun _ _ => rTd) ?_
    refine awp_ret ?_
    obtain rfl := Option.some.inj h0
    refine leave_retG [] ?_
    exact rG
   ·
    replace h0 := iteF h0 hb9
    refine awp_skip ?_
    refine kn_then ?_
    refine awp_sr2 304 [2, 3, 5, 9] (fun _ => none) rfl (fun _ _ => rT) ?_
    refine awp_seq ?_
    refine awp_block ?_
    obtain ⟨b10, hb10, h0⟩ := bindS h0
    refine awp_sr3 (fr' := [(2, .ref 56 0 0 0), (3, .ref 64 0 0 0), (5, .ref 80 0 0 0), (9, .ref 288 0 0 0), (37, .bool b10)]) (hp' := [(0, ⟨0, true, true, 3, [[.bool vs1.Some, .str vs1.Last, .bool vs1.Bottom]]⟩), (8, ⟨0, true, true, 4, [[.str vx2.Key, .str vx2.Val, .bool vx2.Dead, .int .i64 vx2.Seq]]⟩), (24, ⟨0, true, true, 3, [[.bool false, .str [], .bool false]]⟩), (56, ⟨0, true, true, 3, [[.bool vs1.Some, .str vs1.Last, .bool vs1.Bottom]]⟩), (64, ⟨0, true, true, 4, [[.str vx2.Key, .str vx2.Val, .bool vx2.Dead, .int .i64 vx2.Seq]]⟩), (80, ⟨0, true, true, 3, [[.bool false, .str [], .bool false]]⟩), (288, ⟨0, true, true, 3, [[.bool true, .str vx2.Key, .bool vs1.Bottom]]⟩)]) [0, 8, 24, 56, 64, 80, 288] 384 [2, 3, 5, 9, 37] (fun _ => none) rfl (fun Kt hK => by
      cases hg11 : vs1.Some with
      | false =>
       replace hb10 := iteF hb10 hg11
       have hqb10 := Option.some.inj hb10
       subst hqb10
       simp (maxSteps := 1000000) only [↓reduceIte, reduceCtorEq, Nat.reduceEqDiff, Nat.reduceLT, Nat.reduceLeDiff, Nat.reduceAdd, Nat.reduceMul, Int.reduceToNat, push_cast, ↓hg11]
       try simp only [↓hg11] at hK
       all_goals exact rU
      | true =>
       replace hb10 := iteT hb10 hg11
       have hqb10 := Option.some.inj hb10
       subst hqb10
       simp (maxSteps := 1000000) only [↓reduceIte, reduceCtorEq, Nat.reduceEqDiff, Nat.reduceLT, Nat.reduceLeDiff, Nat.reduceAdd, Nat.reduceMul, Int.reduceToNat, push_cast, ↓hg11]
       try simp only [↓hg11] at hK
       all_goals exact rU) ?_
    refine awp_if rfl (fun hb12 => ?_) (fun hb12 => ?_)
    ·
     replace h0 := iteT h0 hb12
     refine awp_sd2 432 [4, 5, 6] (fun _ => none) rfl rfl rfl (fun _ _ => rTd) ?_
     refine awp_ret ?_
     refine kr_block ?_
     refine kr_then ?_
     refine leave_retK (fun _ _ => rT) ?_
     refine awpo_re (s2 := ⟨[(2, .ref 0 0 0 0), (3, .ref 8 0 0 0), (5, .ref 24 0 0 0), (9, .agg [.bool vs1.Some, .str vs1.Last, .bool vs1.Bottom]), (10, .agg [.str vx2.Key, .str vx2.Val, .bool vx2.Dead, .int .i64 vx2.Seq]), (11, .tup [.iface 129 (.agg [.str vx2.Key, .str vx2.Val, .bool vx2.Dead, .int .i64 vx2.Seq]), .agg [.bool true, .str vx2.Key, .bool vs1.Bottom], .int .i64 0])], [(0, ⟨0, true, true, 3, [[.bool vs1.Some, .str vs1.Last, .bool vs1.Bottom]]⟩), (8, ⟨0, true, true, 4, [[.str vx2.Key, .str vx2.Val, .bool vx2.Dead, .int .i64 vx2.Seq]]⟩), (24, ⟨0, true, true, 3, [[.bool false, .str [], .bool false]]⟩)], 432, []⟩) [] (Nat.le_of_ble_eq_true rfl) ⟨rF, rE, rfl, rfl, trivial, trivial⟩ ?_
     refine awpo_cut (l' := List.range' 3 7 ++ []) rfl ?_
     refine awpo_seg 3 7 488 [] (fun _ => none) rfl rfl rfl (fun _ _ => rT) ?_
     refine awpo_nil ?_
     refine kn_then ?_
     refine awp_re (s2 := ⟨[(5, .ref 24 0 0 0), (6, .int .i64 0), (7, .iface 129 (.agg [.str vx2.Key, .str vx2.Val, .bool vx2.Dead, .int .i64 vx2.Seq]))], [(0, ⟨0, true, true, 3, [[.bool vs1.Some, .str vs1.Last, .bool vs1.Bottom]]⟩), (8, ⟨0, true, true, 4, [[.str vx2.Key, .str vx2.Val, .bool vx2.Dead, .int .i64 vx2.Seq]]⟩), (24, ⟨0, true, true, 3, [[.bool true, .str vx2.Key, .bool vs1.Bottom]]⟩)], 488, []⟩) [] (Nat.le_of_ble_eq_true rfl) ⟨rF, rE, rfl, rfl, trivial, trivial⟩ ?_
     refine awp_sr2 536 [4, 5, 6] (fun _ => none) rfl (fun _ _ => rT) ?_
     refine awp_sd2 584 [4, 5, 6] (fun _ => none) rfl rfl rfl (fun _ _ => rTd) ?_
     refine awp_ret ?_
     obtain rfl := Option.some.inj h0
     refine leave_retG [] ?_
     exact rG
    ·
     replace h0 := iteF h0 hb12
     obtain ⟨b13, hb13, h0⟩ := bindS h0
     refine awp_sr3 (fr' := [(3, .ref 64 0 0 0), (5, .ref 80 0 0 0), (9, .ref 288 0 0 0), (50, .bool b13)]) (hp' := [(0, ⟨0, true, true, 3, [[.bool vs1.Some, .str vs1.Last, .bool vs1.Bottom]]⟩), (8, ⟨0, true, true, 4, [[.str vx2.Key, .str vx2.Val, .bool vx2.Dead, .int .i64 vx2.Seq]]⟩), (24, ⟨0, true, true, 3, [[.bool false, .str [], .bool false]]⟩), (56, ⟨0, true, true, 3, [[.bool vs1.Some, .str vs1.Last, .bool vs1.Bottom]]⟩), (64, ⟨0, true, true, 4, [[.str vx2.Key, .str vx2.Val, .bool vx2.Dead, .int .i64 vx2.Seq]]⟩), (80, ⟨0, true, true, 3, [[.bool false, .str [], .bool false]]⟩), (288, ⟨0, true, true, 3, [[.bool true, .str vx2.Key, .bool vs1.Bottom]]⟩)]) [0, 8, 24, 56, 64, 80, 288] 440 [3, 5, 9, 50] (fun _ => none) rfl (fun Kt hK => by
       cases hg14 : vs1.Bottom with
       | false =>
        replace hb13 := iteF hb13 hg14
        have hqb13 := Option.some.inj hb13
        subst hqb13
        simp (maxSteps := 1000000) only [↓reduceIte, reduceCtorEq, Nat.reduceEqDiff, Nat.reduceLT, Nat.reduceLeDiff, Nat.reduceAdd, Nat.reduceMul, Int.reduceToNat, push_cast, ↓hg14]
        try simp only [↓hg14] at hK
        all_goals exact rU
       | true =>
        replace hb13 := iteT hb13 hg14
        have hqb13 := Option.some.inj hb13
        subst hqb13
        simp (maxSteps := 1000000) only [↓reduceIte, reduceCtorEq, Nat.reduceEqDiff, Nat.reduceLT, Nat.reduceLeDiff, Nat.reduceAdd, Nat.reduceMul, Int.reduceToNat, push_cast, ↓hg14]
        try simp only [↓hg14] at hK
        all_goals exact rU) ?_
     refine awp_if rfl (fun hb15 => ?_) (fun hb15 => ?_)
     ·
      replace h0 := iteT h0 hb15
      refine awp_sd2 488 [4, 5, 6] (fun _ => none) rfl rfl rfl (fun _ _ => rTd) ?_
      refine awp_ret ?_
      refine kr_block ?_
      refine kr_then ?_
      refine leave_retK (fun _ _ => rT) ?_
      refine awpo_re (s2 := ⟨[(2, .ref 0 0 0 0), (3, .ref 8 0 0 0), (5, .ref 24 0 0 0), (9, .agg [.bool vs1.Some, .str vs1.Last, .bool vs1.Bottom]), (10, .agg [.str vx2.Key, .str vx2.Val, .bool vx2.Dead, .int .i64 vx2.Seq]), (11, .tup [.iface 130 (.agg [.str vx2.Key, .str vx2.Val, .bool vx2.Dead, .int .i64 vx2.Seq]), .agg [.bool true, .str vx2.Key, .bool vs1.Bottom], .int .i64 0])], [(0, ⟨0, true, true, 3, [[.bool vs1.Some, .str vs1.Last, .bool vs1.Bottom]]⟩), (8, ⟨0, true, true, 4, [[.str vx2.Key, .str vx2.Val, .bool vx2.Dead, .int .i64 vx2.Seq]]⟩), (24, ⟨0, true, true, 3, [[.bool false, .str [], .bool false]]⟩)], 488, []⟩) [] (Nat.le_of_ble_eq_true rfl) ⟨rF, rE, rfl, rfl, trivial, trivial⟩ ?_
      refine awpo_cut (l' := List.range' 3 7 ++ []) rfl ?_
      refine awpo_seg 3 7 544 [] (fun _ => none) rfl rfl rfl (fun _ _ => rT) ?_
      refine awpo_nil ?_
      refine kn_then ?_
      refine awp_re (s2 := ⟨[(5, .ref 24 0 0 0), (6, .int .i64 0), (7, .iface 130 (.agg [.str vx2.Key, .str vx2.Val, .bool vx2.Dead, .int .i64 vx2.Seq]))], [(0, ⟨0, true, true, 3, [[.bool vs1.Some, .str vs1.Last, .bool vs1.Bottom]]⟩), (8, ⟨0, true, true, 4, [[.str vx2.Key, .str vx2.Val, .bool vx2.Dead, .int .i64 vx2.Seq]]⟩), (24, ⟨0, true, true, 3, [[.bool true, .str vx2.Key, .bool vs1.Bottom]]⟩)], 544, []⟩) [] (Nat.le_of_ble_eq_true rfl) ⟨rF, rE, rfl, rfl, trivial, trivial⟩ ?_
      refine awp_sr2 592 [4, 5, 6] (fun _ => none) rfl (fun _ _ => rT) ?_
      refine awp_sd2 640 [4, 5, 6] (fun _ => none) rfl rfl rfl (fun _ _ => rTd) ?_
      refine awp_ret ?_
      obtain rfl := Option.some.inj h0
      refine leave_retG [] ?_
      exact rG
     ·
      replace h0 := iteF h0 hb15
      refine awp_skip ?_
      refine kn_block ?_
      refine kn_then ?_
      refine awp_sd2 488 [4, 5, 6] (fun _ => none) rfl rfl rfl (fun _ _ => rTd) ?_
      refine awp_ret ?_
      refine leave_retK (fun _ _ => rT) ?_
      refine awpo_re (s2 := ⟨[(2, .ref 0 0 0 0), (3, .ref 8 0 0 0), (5, .ref 24 0 0 0), (9, .agg [.bool vs1.Some, .str vs1.Last, .bool vs1.Bottom]), (10, .agg [.str vx2.Key, .str vx2.Val, .bool vx2.Dead, .int .i64 vx2.Seq]), (11, .tup [.iface 98 (.agg [.str vx2.Key, .str vx2.Val, .bool vx2.Dead, .int .i64 vx2.Seq]), .agg [.bool true, .str vx2.Key, .bool vs1.Bottom], .int .i64 0])], [(0, ⟨0, true, true, 3, [[.bool vs1.Some, .str vs1.Last, .bool vs1.Bottom]]⟩), (8, ⟨0, true, true, 4, [[.str vx2.Key, .str vx2.Val, .bool vx2.Dead, .int .i64 vx2.Seq]]⟩), (24, ⟨0, true, true, 3, [[.bool false, .str [], .bool false]]⟩)], 488, []⟩) [] (Nat.le_of_ble_eq_true rfl) ⟨rF, rE, rfl, rfl, trivial, trivial⟩ ?_
      refine awpo_cut (l' := List.range' 3 7 ++ []) rfl ?_
      refine awpo_seg 3 7 544 [] (fun _ => none) rfl rfl rfl (fun _ _ => rT) ?_
      refine awpo_nil ?_
      refine kn_then ?_
      refine awp_re (s2 := ⟨[(5, .ref 24 0 0 0), (6, .int .i64 0), (7, .iface 98 (.agg [.str vx2.Key, .str vx2.Val, .bool vx2.Dead, .int .i64 vx2.Seq]))], [(0, ⟨0, true, true, 3, [[.bool vs1.Some, .str vs1.Last, .bool vs1.Bottom]]⟩), (8, ⟨0, true, true, 4, [[.str vx2.Key, .str vx2.Val, .bool vx2.Dead, .int .i64 vx2.Seq]]⟩), (24, ⟨0, true, true, 3, [[.bool true, .str vx2.Key, .bool vs1.Bottom]]⟩)], 544, []⟩) [] (Nat.le_of_ble_eq_true rfl) ⟨rF, rE, rfl, rfl, trivial, trivial⟩ ?_
      refine awp_sr2 592 [4, 5, 6] (fun _ => none) rfl (fun _ _ => rT) ?_
      refine awp_sd2 640 [4, 5, 6] (fun _ => none) rfl rfl rfl (fun _ _ => rTd) ?_
      refine awp_ret ?_
      obtain rfl := Option.some.inj h0
      refine leave_retG [] ?_
      exact rG
end Go.T
end
section
namespace Go.T
open Go Go.AM Go.Proofs
set_option maxRecDepth 100000
set_option maxHeartbeats 4000000
set_option linter.unusedVariables false
theorem c_slices_Step {fu : Nat} {vs1 : TApiSlState} {n2 : Int} {r : TApiSlState × Int × Int} (h0 : slices_Step fu vs1 n2 = some r) : PCall Try.prog 18 [.agg (TApiSlState.enc vs1), .int .i64 n2] (.tup [.agg (TApiSlState.enc r.1), .int .i64 r.2.1, .int .i64 r.2.2]) [] := by
 refine awp_pcall Try.func18 rfl (by decide) (Nat.le_of_ble_eq_true rfl) ?_
 dsimp only [Try.f18]
 rw [slices_Step] at h0
 refine (show AWP _ _ _ _ ⟨enumFr 0 _, [], 0, []⟩ from ?_)
 refine awp_sr2 32 [1, 2, 4] (fun _ => none) rfl (fun _ _ => rT) ?_
 obtain ⟨vr3, hvr3, h0⟩ := bindS h0
 refine awp_sr2 88 [1, 2, 4, 6, 7] (fun | 1 => some (.tup [.int .i64 vr3.1, .int .i64 vr3.2], []) | _ => none) rfl (fun _ _ => rC (c_slices_Left hvr3)) ?_
 refine awp_seq ?_
 refine awp_block ?_
 refine awp_sr2 112 [1, 2, 4, 6, 7, 15] (fun _ => none) rfl (fun _ _ => rT) ?_
 refine awp_if rfl (fun hb4 => ?_) (fun hb4 => ?_)
 ·
  replace h0 := iteT h0 hb4
  refine awp_sr2 152 [4, 5, 6] (fun _ => none) rfl (fun _ _ => rT) ?_
  refine awp_ret ?_
  refine kr_block ?_
  refine kr_then ?_
  obtain rfl := Option.some.inj h0
  refine leave_retG [] ?_
  exact rG
 ·
  replace h0 := iteF h0 hb4
  refine awp_sr2 136 [1, 2, 4, 7, 20] (fun _ => none) rfl (fun _ _ => rT) ?_
  refine awp_if rfl (fun hb5 => ?_) (fun hb5 => ?_)
  ·
   replace h0 := iteT h0 hb5
   refine awp_sr2 168 [4, 5, 6] (fun _ => none) rfl (fun _ _ => rT) ?_
   refine awp_ret ?_
   refine kr_block ?_
   refine kr_then ?_
   obtain rfl := Option.some.inj h0
   refine leave_retG [] ?_
   exact rG
  ·
   replace h0 := iteF h0 hb5
   refine awp_skip ?_
   refine kn_block ?_
   refine kn_then ?_
   refine awp_sr2 168 [2, 4, 5] (fun _ => none) rfl (fun _ _ => rT) ?_
   refine awp_seq ?_
   refine awp_sr2 208 [2, 4, 5, 31] (fun _ => none) rfl (fun _ _ => rT) ?_
   refine awp_if rfl (fun hb6 => ?_) (fun hb6 => ?_)
   ·
    replace h0 := iteT h0 hb6
    refine awp_sr2 240 [4, 5, 6] (fun _ => none) rfl (fun _ _ => rT) ?_
    refine awp_ret ?_
    refine kr_then ?_
    obtain rfl := Option.some.inj h0
    refine leave_retG [] ?_
    exact rG
   ·
    replace h0 := iteF h0 hb6
    refine awp_skip ?_
    refine kn_then ?_
    refine awp_sr2 240 [2, 4, 5, 8] (fun _ => none) rfl (fun _ _ => rT) ?_
    obtain ⟨hc7, h0⟩ := guS h0
    refine awp_sr2 288 [2, 4, 5, 8] (fun _ => none) rfl (fun _ _ => rT) ?_
    refine awp_re (s2 := ⟨[(2, .ref 0 0 0 0), (4, .ref 8 0 0 0), (5, .int .i64 (if vr3.1 < n2 then vr3.1 else n2)), (8, .ref 224 0 0 0)], [(0, ⟨0, true, true, 10, [[.psl 1 (List.map (encSl 4 TApiEntry.enc) vs1.Merge.Runs), .psl 1 (List.map (encInt .i64) vs1.Merge.At), .psl 2 (List.map TApiLsKey.enc vs1.Merge.Tree.Keys), .psl 1 (List.map (encInt .i64) vs1.Merge.Tree.Lose), .int .i64 vs1.Merge.Tree.Win, .bool vs1.Shadow.Some, .str vs1.Shadow.Last, .bool vs1.Shadow.Bottom, .psl 4 (List.map TApiEntry.enc vs1.Out), .int .i64 vs1.Steps]]⟩), (8, ⟨0, true, true, 10, [[.nils, .nils, .nils, .nils, .int .i64 0, .bool false, .str [], .bool false, .nils, .int .i64 0]]⟩), (224, ⟨0, true, false, 10, [[.psl 1 (List.map (encSl 4 TApiEntry.enc) vs1.Merge.Runs), .psl 1 (List.map (encInt .i64) vs1.Merge.At), .psl 2 (List.map TApiLsKey.enc vs1.Merge.Tree.Keys), .psl 1 (List.map (encInt .i64) vs1.Merge.Tree.Lose), .int .i64 vs1.Merge.Tree.Win, .bool vs1.Shadow.Some, .str vs1.Shadow.Last, .bool vs1.Shadow.Bottom, .sl 256 0 4 0 vs1.Out.length, .int .i64 vs1.Steps]]⟩), (256, ⟨0, true, true, 4, List.map TApiEntry.enc vs1.Out⟩)], 288, []⟩) [] (Nat.le_of_ble_eq_true rfl) ⟨rF, rE, rfl, rfl, trivial, trivial⟩ ?_
    obtain ⟨hc8, h0⟩ := guS h0
    refine awp_sr2 352 [4, 5, 8] (fun _ => none) rfl (fun _ _ => rT) ?_
    refine awp_re (s2 := ⟨[(4, .ref 8 0 0 0), (5, .int .i64 (if vr3.1 < n2 then vr3.1 else n2)), (8, .ref 224 0 0 0)], [(0, ⟨0, true, true, 10, [[.psl 1 (List.map (encSl 4 TApiEntry.enc) vs1.Merge.Runs), .psl 1 (List.map (encInt .i64) vs1.Merge.At), .psl 2 (List.map TApiLsKey.enc vs1.Merge.Tree.Keys), .psl 1 (List.map (encInt .i64) vs1.Merge.Tree.Lose), .int .i64 vs1.Merge.Tree.Win, .bool vs1.Shadow.Some, .str vs1.Shadow.Last, .bool vs1.Shadow.Bottom, .psl 4 (List.map TApiEntry.enc vs1.Out), .int .i64 vs1.Steps]]⟩), (8, ⟨0, true, true, 10, [[.nils, .nils, .nils, .nils, .int .i64 0, .bool false, .str [], .bool false, .nils, .int .i64 0]]⟩), (224, ⟨0, true, false, 10, [[.psl 1 (List.map (encSl 4 TApiEntry.enc) vs1.Merge.Runs), .sl 312 0 1 0 vs1.Merge.At.length, .psl 2 (List.map TApiLsKey.enc vs1.Merge.Tree.Keys), .psl 1 (List.map (encInt .i64) vs1.Merge.Tree.Lose), .int .i64 vs1.Merge.Tree.Win, .bool vs1.Shadow.Some, .str vs1.Shadow.Last, .bool vs1.Shadow.Bottom, .sl 256 0 4 0 vs1.Out.length, .int .i64 vs1.Steps]]⟩), (256, ⟨0, true, true, 4, List.map TApiEntry.enc vs1.Out⟩), (312, ⟨0, true, true, 1, List.map (encInt .i64) vs1.Merge.At⟩)], 352, []⟩) [] (Nat.le_of_ble_eq_true rfl) ⟨rF, rE, rfl, rfl, trivial, trivial⟩ ?_
    refine awp_seq ?_
    refine awp_sops2 4 rfl ?_
    refine awpo_cut (l' := List.range' 0 2 ++ (2 :: (List.range' 3 1 ++ []))) rfl ?_
    refine awpo_seg 0 2 368 (2 :: (List.range' 3 1 ++ [])) (fun _ => none) rfl rfl rfl (fun _ _ => rT) ?_
    refine awpo_in rfl rfl rfl rfl rfl Try.func38 rfl (by decide) rfl (Nat.le_of_ble_eq_true rfl) ?_
    dsimp only [Try.f38]
    refine awp_re (s2 := ⟨[(0, .int .i64 (if vr3.1 < n2 then vr3.1 else n2)), (1, .fn 39 [.ref 224 0 0 0] [])], [(0, ⟨0, true, true, 10, [[.psl 1 (List.map (encSl 4 TApiEntry.enc) vs1.Merge.Runs), .psl 1 (List.map (encInt .i64) vs1.Merge.At), .psl 2 (List.map TApiLsKey.enc vs1.Merge.Tree.Keys), .psl 1 (List.map (encInt .i64) vs1.Merge.Tree.Lose), .int .i64 vs1.Merge.Tree.Win, .bool vs1.Shadow.Some, .str vs1.Shadow.Last, .bool vs1.Shadow.Bottom, .psl 4 (List.map TApiEntry.enc vs1.Out), .int .i64 vs1.Steps]]⟩), (8, ⟨0, true, true, 10, [[.nils, .nils, .nils, .nils, .int .i64 0, .bool false, .str [], .bool false, .nils, .int .i64 0]]⟩), (224, ⟨0, true, false, 10, [[.psl 1 (List.map (encSl 4 TApiEntry.enc) vs1.Merge.Runs), .sl 312 0 1 0 vs1.Merge.At.length, .psl 2 (List.map TApiLsKey.enc vs1.Merge.Tree.Keys), .psl 1 (List.map (encInt .i64) vs1.Merge.Tree.Lose), .int .i64 vs1.Merge.Tree.Win, .bool vs1.Shadow.Some, .str vs1.Shadow.Last, .bool vs1.Shadow.Bottom, .sl 256 0 4 0 vs1.Out.length, .int .i64 vs1.Steps]]⟩), (256, ⟨0, true, true, 4, List.map TApiEntry.enc vs1.Out⟩), (312, ⟨0, true, true, 1, List.map (encInt .i64) vs1.Merge.At⟩)], 368, []⟩) [] (Nat.le_of_ble_eq_true rfl) ⟨rF, rE, rfl, rfl, trivial, trivial⟩ ?_
    refine awp_sr2 376 [0, 1] (fun _ => none) rfl (fun _ _ => rT) ?_
    refine awp_seq ?_
    refine awp_sr2 392 [1, 6, 7] (fun _ => none) rfl (fun _ _ => rT) ?_
    refine awp_frz2 [312] (fun Kt hK => by simp only [↓reduceIte, reduceCtorEq, Nat.reduceEqDiff, Nat.reduceLT, Nat.reduceLeDiff, Nat.reduceAdd, Nat.reduceMul, Int.reduceToNat, Nat.reduceBEq, push_cast]; exact hK) ?_
    refine awp_re (s2 := ⟨[(1, .fn 39 [.ref 224 0 0 0] []), (6, .int .i64 (if vr3.1 < n2 then vr3.1 else n2)), (7, .int .i64 0)], [(0, ⟨0, true, true, 10, [[.psl 1 (List.map (encSl 4 TApiEntry.enc) vs1.Merge.Runs), .psl 1 (List.map (encInt .i64) vs1.Merge.At), .psl 2 (List.map TApiLsKey.enc vs1.Merge.Tree.Keys), .psl 1 (List.map (encInt .i64) vs1.Merge.Tree.Lose), .int .i64 vs1.Merge.Tree.Win, .bool vs1.Shadow.Some, .str vs1.Shadow.Last, .bool vs1.Shadow.Bottom, .psl 4 (List.map TApiEntry.enc vs1.Out), .int .i64 vs1.Steps]]⟩), (8, ⟨0, true, true, 10, [[.nils, .nils, .nils, .nils, .int .i64 0, .bool false, .str [], .bool false, .nils, .int .i64 0]]⟩), (224, ⟨0, true, false, 10, [[.psl 1 (List.map (encSl 4 TApiEntry.enc) vs1.Merge.Runs), .psl 1 (List.map (encInt .i64) vs1.Merge.At), .psl 2 (List.map TApiLsKey.enc vs1.Merge.Tree.Keys), .psl 1 (List.map (encInt .i64) vs1.Merge.Tree.Lose), .int .i64 vs1.Merge.Tree.Win, .bool vs1.Shadow.Some, .str vs1.Shadow.Last, .bool vs1.Shadow.Bottom, .sl 256 0 4 0 vs1.Out.length, .int .i64 vs1.Steps]]⟩), (256, ⟨0, true, true, 4, List.map TApiEntry.enc vs1.Out⟩), (312, ⟨0, false, true, 1, List.map (encInt .i64) vs1.Merge.At⟩)], 392, []⟩) [] (Nat.le_of_ble_eq_true rfl) ⟨rF, rE, rfl, rfl, trivial, trivial⟩ ?_
    obtain ⟨x42, hxx42, h0⟩ := bindS h0
    refine awp_bloop (fun s' => ∃ o62 : List (List TApiEntry) × List Int × List TApiLsKey × List Int × Int × Bool × List UInt8 × Bool × Int × List TApiEntry, ∃ g63 : Nat, x42 = .inl o62 ∧ s'.nx ≤ 400 ∧ LeN [] s' ⟨[], [(0, ⟨0, true, true, 10, [[.psl 1 (List.map (encSl 4 TApiEntry.enc) vs1.Merge.Runs), .psl 1 (List.map (encInt .i64) vs1.Merge.At), .psl 2 (List.map TApiLsKey.enc vs1.Merge.Tree.Keys), .psl 1 (List.map (encInt .i64) vs1.Merge.Tree.Lose), .int .i64 vs1.Merge.Tree.Win, .bool vs1.Shadow.Some, .str vs1.Shadow.Last, .bool vs1.Shadow.Bottom, .psl 4 (List.map TApiEntry.enc vs1.Out), .int .i64 vs1.Steps]]⟩), (8, ⟨0, true, true, 10, [[.nils, .nils, .nils, .nils, .int .i64 0, .bool false, .str [], .bool false, .nils, .int .i64 0]]⟩), (224, ⟨0, true, false, 10, [[.psl 1 (List.map (encSl 4 TApiEntry.enc) o62.1), .psl 1 (List.map (encInt .i64) o62.2.1), .psl 2 (List.map TApiLsKey.enc o62.2.2.1), .psl 1 (List.map (encInt .i64) o62.2.2.2.1), .int .i64 o62.2.2.2.2.1, .bool o62.2.2.2.2.2.1, .str o62.2.2.2.2.2.2.1, .bool o62.2.2.2.2.2.2.2.1, .sl 256 g63 4 0 o62.2.2.2.2.2.2.2.2.2.length, .int .i64 o62.2.2.2.2.2.2.2.2.1]]⟩), (256, ⟨g63, true, true, 4, List.map TApiEntry.enc o62.2.2.2.2.2.2.2.2.2⟩), (312, ⟨0, false, true, 1, List.map (encInt .i64) vs1.Merge.At⟩)], 400, []⟩) ?_ ?_
    ·
     intro s' hs
     obtain ⟨o62, g63, rfl, hn, hs⟩ := hs
     refine kn_then ?_
     refine awp_re [] hn hs ?_
     refine awp_sr2 408 [4] (fun _ => none) rfl (fun _ _ => rT) ?_
     refine awp_ret ?_
     refine leave_retK (fun _ _ => rT) ?_
     refine awpo_re (s2 := ⟨[(4, .ref 8 0 0 0), (5, .int .i64 (if vr3.1 < n2 then vr3.1 else n2)), (8, .ref 224 0 0 0), (47, .int .i64 (if vr3.1 < n2 then vr3.1 else n2)), (48, .fn 39 [.ref 224 0 0 0] []), (49, .int .i64 0)], [(0, ⟨0, true, true, 10, [[.psl 1 (List.map (encSl 4 TApiEntry.enc) vs1.Merge.Runs), .psl 1 (List.map (encInt .i64) vs1.Merge.At), .psl 2 (List.map TApiLsKey.enc vs1.Merge.Tree.Keys), .psl 1 (List.map (encInt .i64) vs1.Merge.Tree.Lose), .int .i64 vs1.Merge.Tree.Win, .bool vs1.Shadow.Some, .str vs1.Shadow.Last, .bool vs1.Shadow.Bottom, .psl 4 (List.map TApiEntry.enc vs1.Out), .int .i64 vs1.Steps]]⟩), (8, ⟨0, true, true, 10, [[.nils, .nils, .nils, .nils, .int .i64 0, .bool false, .str [], .bool false, .nils, .int .i64 0]]⟩), (224, ⟨0, true, false, 10, [[.psl 1 (List.map (encSl 4 TApiEntry.enc) o62.1), .psl 1 (List.map (encInt .i64) o62.2.1), .psl 2 (List.map TApiLsKey.enc o62.2.2.1), .psl 1 (List.map (encInt .i64) o62.2.2.2.1), .int .i64 o62.2.2.2.2.1, .bool o62.2.2.2.2.2.1, .str o62.2.2.2.2.2.2.1, .bool o62.2.2.2.2.2.2.2.1, .sl 256 g63 4 0 o62.2.2.2.2.2.2.2.2.2.length, .int .i64 o62.2.2.2.2.2.2.2.2.1]]⟩), (256, ⟨g63, true, true, 4, List.map TApiEntry.enc o62.2.2.2.2.2.2.2.2.2⟩), (312, ⟨0, false, true, 1, List.map (encInt .i64) vs1.Merge.At⟩)], 408, []⟩) [] (Nat.le_of_ble_eq_true rfl) ⟨rF, rE, rfl, rfl, trivial, trivial⟩ ?_
     refine awpo_cut (l' := List.range' 3 1 ++ []) rfl ?_
     refine awpo_seg 3 1 416 [] (fun _ => none) rfl rfl rfl (fun _ _ => rT) ?_
     refine awpo_nil ?_
     refine kn_then ?_
     refine awp_re (s2 := ⟨[(4, .ref 8 0 0 0), (5, .int .i64 (if vr3.1 < n2 then vr3.1 else n2)), (8, .ref 224 0 0 0), (9, .int .i64 0)], [(0, ⟨0, true, true, 10, [[.psl 1 (List.map (encSl 4 TApiEntry.enc) vs1.Merge.Runs), .psl 1 (List.map (encInt .i64) vs1.Merge.At), .psl 2 (List.map TApiLsKey.enc vs1.Merge.Tree.Keys), .psl 1 (List.map (encInt .i64) vs1.Merge.Tree.Lose), .int .i64 vs1.Merge.Tree.Win, .bool vs1.Shadow.Some, .str vs1.Shadow.Last, .bool vs1.Shadow.Bottom, .psl 4 (List.map TApiEntry.enc vs1.Out), .int .i64 vs1.Steps]]⟩), (8, ⟨0, true, true, 10, [[.nils, .nils, .nils, .nils, .int .i64 0, .bool false, .str [], .bool false, .nils, .int .i64 0]]⟩), (224, ⟨0, true, false, 10, [[.psl 1 (List.map (encSl 4 TApiEntry.enc) o62.1), .psl 1 (List.map (encInt .i64) o62.2.1), .psl 2 (List.map TApiLsKey.enc o62.2.2.1), .psl 1 (List.map (encInt .i64) o62.2.2.2.1), .int .i64 o62.2.2.2.2.1, .bool o62.2.2.2.2.2.1, .str o62.2.2.2.2.2.2.1, .bool o62.2.2.2.2.2.2.2.1, .sl 256 g63 4 0 o62.2.2.2.2.2.2.2.2.2.length, .int .i64 o62.2.2.2.2.2.2.2.2.1]]⟩), (256, ⟨g63, true, true, 4, List.map TApiEntry.enc o62.2.2.2.2.2.2.2.2.2⟩), (312, ⟨0, false, true, 1, List.map (encInt .i64) vs1.Merge.At⟩)], 416, []⟩) [] (Nat.le_of_ble_eq_true rfl) ⟨rF, rE, rfl, rfl, trivial, trivial⟩ ?_
     refine awp_sr2 432 [4, 5, 8, 9, 51] (fun _ => none) rfl (fun _ _ => rT) ?_
     refine awp_condF rfl ?_
     refine awp_skip ?_
     refine kn_then ?_
     refine awp_sr2 480 [4, 5, 6] (fun _ => none) rfl (fun _ _ => rT) ?_
     refine awp_ret ?_
     obtain rfl := Option.some.inj h0
     refine leave_retG [] ?_
     exact rG
    ·
     refine awp_loopF (ι := { p : Nat × Int × List (List TApiEntry) × List Int × List TApiLsKey × List Int × Int × Bool × List UInt8 × Bool × Int × List TApiEntry × Nat // slices_Step_l1 vr3 n2 p.1 p.2.1 p.2.2.1 p.2.2.2.1 p.2.2.2.2.1 p.2.2.2.2.2.1 p.2.2.2.2.2.2.1 p.2.2.2.2.2.2.2.1 p.2.2.2.2.2.2.2.2.1 p.2.2.2.2.2.2.2.2.2.1 p.2.2.2.2.2.2.2.2.2.2.1 p.2.2.2.2.2.2.2.2.2.2.2.1 = some x42 }) (fun p => ⟨[(1, .fn 39 [.ref 224 0 0 0] []), (6, .int .i64 (if vr3.1 < n2 then vr3.1 else n2)), (7, .int .i64 p.1.2.1)], [(0, ⟨0, true, true, 10, [[.psl 1 (List.map (encSl 4 TApiEntry.enc) vs1.Merge.Runs), .psl 1 (List.map (encInt .i64) vs1.Merge.At), .psl 2 (List.map TApiLsKey.enc vs1.Merge.Tree.Keys), .psl 1 (List.map (encInt .i64) vs1.Merge.Tree.Lose), .int .i64 vs1.Merge.Tree.Win, .bool vs1.Shadow.Some, .str vs1.Shadow.Last, .bool vs1.Shadow.Bottom, .psl 4 (List.map TApiEntry.enc vs1.Out), .int .i64 vs1.Steps]]⟩), (8, ⟨0, true, true, 10, [[.nils, .nils, .nils, .nils, .int .i64 0, .bool false, .str [], .bool false, .nils, .int .i64 0]]⟩), (224, ⟨0, true, false, 10, [[.psl 1 (List.map (encSl 4 TApiEntry.enc) p.1.2.2.1), .psl 1 (List.map (encInt .i64) p.1.2.2.2.1), .psl 2 (List.map TApiLsKey.enc p.1.2.2.2.2.1), .psl 1 (List.map (encInt .i64) p.1.2.2.2.2.2.1), .int .i64 p.1.2.2.2.2.2.2.1, .bool p.1.2.2.2.2.2.2.2.1, .str p.1.2.2.2.2.2.2.2.2.1, .bool p.1.2.2.2.2.2.2.2.2.2.1, .sl 256 p.1.2.2.2.2.2.2.2.2.2.2.2.2 4 0 p.1.2.2.2.2.2.2.2.2.2.2.2.1.length, .int .i64 p.1.2.2.2.2.2.2.2.2.2.2.1]]⟩), (256, ⟨p.1.2.2.2.2.2.2.2.2.2.2.2.2, true, true, 4, List.map TApiEntry.enc p.1.2.2.2.2.2.2.2.2.2.2.2.1⟩), (312, ⟨0, false, true, 1, List.map (encInt .i64) vs1.Merge.At⟩)], 392, []⟩) (fun p => p.1.1) ⟨(fu, 0, vs1.Merge.Runs, vs1.Merge.At, vs1.Merge.Tree.Keys, vs1.Merge.Tree.Lose, vs1.Merge.Tree.Win, vs1.Shadow.Some, vs1.Shadow.Last, vs1.Shadow.Bottom, vs1.Steps, vs1.Out, 0), hxx42⟩ ⟨rF, rE, rfl, rfl, trivial, trivial⟩ (fun _ => Nat.le_refl _) ?_
     rintro ⟨⟨fu, left43, v44, v45, v46, v47, v48, v49, v50, v51, v52, v53, g54⟩, h1⟩
     cases fu with
     | zero =>
   replace h1 : slices_Step_l1 vr3 n2 0 left43 v44 v45 v46 v47 v48 v49 v50 v51 v52 v53 = some x42 := h1
   rw [slices_Step_l1] at h1; cases h1
     | succ fu =>
      replace h1 : slices_Step_l1 vr3 n2 (fu + 1) left43 v44 v45 v46 v47 v48 v49 v50 v51 v52 v53 = some x42 := h1
      rw [slices_Step_l1] at h1
      refine (show AWP _ _ _ _ ⟨[(1, .fn 39 [.ref 224 0 0 0] []), (6, .int .i64 (if vr3.1 < n2 then vr3.1 else n2)), (7, .int .i64 left43)], [(0, ⟨0, true, true, 10, [[.psl 1 (List.map (encSl 4 TApiEntry.enc) vs1.Merge.Runs), .psl 1 (List.map (encInt .i64) vs1.Merge.At), .psl 2 (List.map TApiLsKey.enc vs1.Merge.Tree.Keys), .psl 1 (List.map (encInt .i64) vs1.Merge.Tree.Lose), .int .i64 vs1.Merge.Tree.Win, .bool vs1.Shadow.Some, .str vs1.Shadow.Last, .bool vs1.Shadow.Bottom, .psl 4 (List.map TApiEntry.enc vs1.Out), .int .i64 vs1.Steps]]⟩), (8, ⟨0, true, true, 10, [[.nils, .nils, .nils, .nils, .int .i64 0, .bool false, .str [], .bool false, .nils, .int .i64 0]]⟩), (224, ⟨0, true, false, 10, [[.psl 1 (List.map (encSl 4 TApiEntry.enc) v44), .psl 1 (List.map (encInt .i64) v45), .psl 2 (List.map TApiLsKey.enc v46), .psl 1 (List.map (encInt .i64) v47), .int .i64 v48, .bool v49, .str v50, .bool v51, .sl 256 g54 4 0 v53.length, .int .i64 v52]]⟩), (256, ⟨g54, true, true, 4, List.map TApiEntry.enc v53⟩), (312, ⟨0, false, true, 1, List.map (encInt .i64) vs1.Merge.At⟩)], 392, []⟩ from ?_)
      refine awp_sr2 400 [1, 6, 7, 8] (fun _ => none) rfl (fun _ _ => rT) ?_
      refine awp_seq ?_
      refine awp_if rfl (fun hb55 => ?_) (fun hb55 => ?_)
      ·
       replace h1 := iteT h1 hb55
       refine awp_skip ?_
       refine kn_then ?_
       refine awp_seq ?_
       refine awp_block ?_
       refine awp_sops2 3 rfl ?_
       refine awpo_cut (l' := List.range' 0 1 ++ (1 :: (List.range' 2 1 ++ []))) rfl ?_
       refine awpo_seg 0 1 408 (1 :: (List.range' 2 1 ++ [])) (fun _ => none) rfl rfl rfl (fun _ _ => rT) ?_
       refine awpo_in rfl rfl rfl rfl rfl Try.func39 rfl (by decide) rfl (Nat.le_of_ble_eq_true rfl) ?_
       dsimp only [Try.f39]
       refine awp_re (s2 := ⟨[(0, .ref 224 0 0 0)], [(0, ⟨0, true, true, 10, [[.psl 1 (List.map (encSl 4 TApiEntry.enc) vs1.Merge.Runs), .psl 1 (List.map (encInt .i64) vs1.Merge.At), .psl 2 (List.map TApiLsKey.enc vs1.Merge.Tree.Keys), .psl 1 (List.map (encInt .i64) vs1.Merge.Tree.Lose), .int .i64 vs1.Merge.Tree.Win, .bool vs1.Shadow.Some, .str vs1.Shadow.Last, .bool vs1.Shadow.Bottom, .psl 4 (List.map TApiEntry.enc vs1.Out), .int .i64 vs1.Steps]]⟩), (8, ⟨0, true, true, 10, [[.nils, .nils, .nils, .nils, .int .i64 0, .bool false, .str [], .bool false, .nils, .int .i64 0]]⟩), (224, ⟨0, true, false, 10, [[.psl 1 (List.map (encSl 4 TApiEntry.enc) v44), .psl 1 (List.map (encInt .i64) v45), .psl 2 (List.map TApiLsKey.enc v46), .psl 1 (List.map (encInt .i64) v47), .int .i64 v48, .bool v49, .str v50, .bool v51, .sl 256 g54 4 0 v53.length, .int .i64 v52]]⟩), (256, ⟨g54, true, true, 4, List.map TApiEntry.enc v53⟩), (312, ⟨0, false, true, 1, List.map (encInt .i64) vs1.Merge.At⟩)], 408, []⟩) [] (Nat.le_of_ble_eq_true rfl) ⟨rF, rE, rfl, rfl, trivial, trivial⟩ ?_
       refine awp_sr2 416 [0] (fun _ => none) rfl (fun _ _ => rT) ?_
       obtain ⟨vr56, hvr56, h1⟩ := bindS h1
       refine awp_sr2 552 [0, 3, 5, 6] (fun | 5 => some (.tup [.agg (TApiEntry.enc vr56.1), .int .i64 vr56.2.1, .agg (TApiMgState.enc vr56.2.2.1), .int .i64 vr56.2.2.2], []) | _ => none) rfl (fun _ _ => rC (c_merge_Next hvr56)) ?_
       refine awp_seq ?_
       refine awp_sr2 568 [0, 3, 5, 6, 21] (fun _ => none) rfl (fun _ _ => rT) ?_
       refine awp_if rfl (fun hb57 => ?_) (fun hb57 => ?_)
       ·
        replace h1 := iteT h1 hb57
        refine awp_sr2 584 [2] (fun _ => none) rfl (fun _ _ => rT) ?_
        refine awp_ret ?_
        refine kr_then ?_
        refine leave_retK (fun _ _ => rT) ?_
        refine awpo_re (s2 := ⟨[(1, .fn 39 [.ref 224 0 0 0] []), (6, .int .i64 (if vr3.1 < n2 then vr3.1 else n2)), (7, .int .i64 left43), (8, .bool (decide (left43 < (if vr3.1 < n2 then vr3.1 else n2)))), (9, .fn 39 [.ref 224 0 0 0] []), (10, .int .i64 vr56.2.2.2)], [(0, ⟨0, true, true, 10, [[.psl 1 (List.map (encSl 4 TApiEntry.enc) vs1.Merge.Runs), .psl 1 (List.map (encInt .i64) vs1.Merge.At), .psl 2 (List.map TApiLsKey.enc vs1.Merge.Tree.Keys), .psl 1 (List.map (encInt .i64) vs1.Merge.Tree.Lose), .int .i64 vs1.Merge.Tree.Win, .bool vs1.Shadow.Some, .str vs1.Shadow.Last, .bool vs1.Shadow.Bottom, .psl 4 (List.map TApiEntry.enc vs1.Out), .int .i64 vs1.Steps]]⟩), (8, ⟨0, true, true, 10, [[.nils, .nils, .nils, .nils, .int .i64 0, .bool false, .str [], .bool false, .nils, .int .i64 0]]⟩), (224, ⟨0, true, false, 10, [[.psl 1 (List.map (encSl 4 TApiEntry.enc) v44), .psl 1 (List.map (encInt .i64) v45), .psl 2 (List.map TApiLsKey.enc v46), .psl 1 (List.map (encInt .i64) v47), .int .i64 v48, .bool v49, .str v50, .bool v51, .sl 256 g54 4 0 v53.length, .int .i64 v52]]⟩), (256, ⟨g54, true, true, 4, List.map TApiEntry.enc v53⟩), (312, ⟨0, false, true, 1, List.map (encInt .i64) vs1.Merge.At⟩)], 584, []⟩) [] (Nat.le_of_ble_eq_true rfl) ⟨rF, rE, rfl, rfl, trivial, trivial⟩ ?_
        refine awpo_cut (l' := List.range' 2 1 ++ []) rfl ?_
        refine awpo_seg 2 1 592 [] (fun _ => none) rfl rfl rfl (fun _ _ => rT) ?_
        refine awpo_nil ?_
        refine kn_then ?_
        refine awp_re (s2 := ⟨[(1, .fn 39 [.ref 224 0 0 0] []), (5, .int .i64 vr56.2.2.2), (6, .int .i64 (if vr3.1 < n2 then vr3.1 else n2)), (7, .int .i64 left43)], [(0, ⟨0, true, true, 10, [[.psl 1 (List.map (encSl 4 TApiEntry.enc) vs1.Merge.Runs), .psl 1 (List.map (encInt .i64) vs1.Merge.At), .psl 2 (List.map TApiLsKey.enc vs1.Merge.Tree.Keys), .psl 1 (List.map (encInt .i64) vs1.Merge.Tree.Lose), .int .i64 vs1.Merge.Tree.Win, .bool vs1.Shadow.Some, .str vs1.Shadow.Last, .bool vs1.Shadow.Bottom, .psl 4 (List.map TApiEntry.enc vs1.Out), .int .i64 vs1.Steps]]⟩), (8, ⟨0, true, true, 10, [[.nils, .nils, .nils, .nils, .int .i64 0, .bool false, .str [], .bool false, .nils, .int .i64 0]]⟩), (224, ⟨0, true, false, 10, [[.psl 1 (List.map (encSl 4 TApiEntry.enc) v44), .psl 1 (List.map (encInt .i64) v45), .psl 2 (List.map TApiLsKey.enc v46), .psl 1 (List.map (encInt .i64) v47), .int .i64 v48, .bool v49, .str v50, .bool v51, .sl 256 g54 4 0 v53.length, .int .i64 v52]]⟩), (256, ⟨g54, true, true, 4, List.map TApiEntry.enc v53⟩), (312, ⟨0, false, true, 1, List.map (encInt .i64) vs1.Merge.At⟩)], 592, []⟩) [] (Nat.le_of_ble_eq_true rfl) ⟨rF, rE, rfl, rfl, trivial, trivial⟩ ?_
        refine awp_sr2 608 [1, 5, 6, 7, 12] (fun _ => none) rfl (fun _ _ => rT) ?_
        refine awp_condKT rfl hb57 ?_
        refine awp_sr2 624 [4] (fun _ => none) rfl (fun _ _ => rT) ?_
        refine awp_ret ?_
        obtain rfl := Option.some.inj h1
        refine kr_block ?_
        refine kr_then ?_
        refine kr_then ?_
        refine kr_loop ?_
        refine kr_then ?_
        refine leave_retK (fun _ _ => rT) ?_
        refine awpo_re (s2 := ⟨[(4, .ref 8 0 0 0), (5, .int .i64 (if vr3.1 < n2 then vr3.1 else n2)), (8, .ref 224 0 0 0), (47, .int .i64 (if vr3.1 < n2 then vr3.1 else n2)), (48, .fn 39 [.ref 224 0 0 0] []), (49, .int .i64 vr56.2.2.2)], [(0, ⟨0, true, true, 10, [[.psl 1 (List.map (encSl 4 TApiEntry.enc) vs1.Merge.Runs), .psl 1 (List.map (encInt .i64) vs1.Merge.At), .psl 2 (List.map TApiLsKey.enc vs1.Merge.Tree.Keys), .psl 1 (List.map (encInt .i64) vs1.Merge.Tree.Lose), .int .i64 vs1.Merge.Tree.Win, .bool vs1.Shadow.Some, .str vs1.Shadow.Last, .bool vs1.Shadow.Bottom, .psl 4 (List.map TApiEntry.enc vs1.Out), .int .i64 vs1.Steps]]⟩), (8, ⟨0, true, true, 10, [[.nils, .nils, .nils, .nils, .int .i64 0, .bool false, .str [], .bool false, .nils, .int .i64 0]]⟩), (224, ⟨0, true, false, 10, [[.psl 1 (List.map (encSl 4 TApiEntry.enc) v44), .psl 1 (List.map (encInt .i64) v45), .psl 2 (List.map TApiLsKey.enc v46), .psl 1 (List.map (encInt .i64) v47), .int .i64 v48, .bool v49, .str v50, .bool v51, .sl 256 g54 4 0 v53.length, .int .i64 v52]]⟩), (256, ⟨g54, true, true, 4, List.map TApiEntry.enc v53⟩), (312, ⟨0, false, true, 1, List.map (encInt .i64) vs1.Merge.At⟩)], 624, []⟩) [] (Nat.le_of_ble_eq_true rfl) ⟨rF, rE, rfl, rfl, trivial, trivial⟩ ?_
        refine awpo_cut (l' := List.range' 3 1 ++ []) rfl ?_
        refine awpo_seg 3 1 632 [] (fun _ => none) rfl rfl rfl (fun _ _ => rT) ?_
        refine awpo_nil ?_
        refine kn_then ?_
        refine awp_re (s2 := ⟨[(4, .ref 8 0 0 0), (5, .int .i64 (if vr3.1 < n2 then vr3.1 else n2)), (8, .ref 224 0 0 0), (9, .int .i64 vr56.2.2.2)], [(0, ⟨0, true, true, 10, [[.psl 1 (List.map (encSl 4 TApiEntry.enc) vs1.Merge.Runs), .psl 1 (List.map (encInt .i64) vs1.Merge.At), .psl 2 (List.map TApiLsKey.enc vs1.Merge.Tree.Keys), .psl 1 (List.map (encInt .i64) vs1.Merge.Tree.Lose), .int .i64 vs1.Merge.Tree.Win, .bool vs1.Shadow.Some, .str vs1.Shadow.Last, .bool vs1.Shadow.Bottom, .psl 4 (List.map TApiEntry.enc vs1.Out), .int .i64 vs1.Steps]]⟩), (8, ⟨0, true, true, 10, [[.nils, .nils, .nils, .nils, .int .i64 0, .bool false, .str [], .bool false, .nils, .int .i64 0]]⟩), (224, ⟨0, true, false, 10, [[.psl 1 (List.map (encSl 4 TApiEntry.enc) v44), .psl 1 (List.map (encInt .i64) v45), .psl 2 (List.map TApiLsKey.enc v46), .psl 1 (List.map (encInt .i64) v47), .int .i64 v48, .bool v49, .str v50, .bool v51, .sl 256 g54 4 0 v53.length, .int .i64 v52]]⟩), (256, ⟨g54, true, true, 4, List.map TApiEntry.enc v53⟩), (312, ⟨0, false, true, 1, List.map (encInt .i64) vs1.Merge.At⟩)], 632, []⟩) [] (Nat.le_of_ble_eq_true rfl) ⟨rF, rE, rfl, rfl, trivial, trivial⟩ ?_
        refine awp_sr2 648 [4, 5, 8, 9, 51] (fun _ => none) rfl (fun _ _ => rT) ?_
        refine awp_condKT rfl hb57 ?_
        refine awp_sr2 688 [4, 5, 6] (fun _ => none) rfl (fun _ _ => rT) ?_
        refine awp_ret ?_
        refine kr_then ?_
        obtain rfl := Option.some.inj h0
        refine leave_retG [] ?_
        exact rG
       ·
        replace h1 := iteF h1 hb57
        refine awp_skip ?_
        refine kn_then ?_
        obtain ⟨vr58, hvr58, h1⟩ := bindS h1
        refine awp_sd2 688 [0, 3, 5, 6, 7, 8] (fun | 6 => some (.tup [.bool vr58.1, .agg (TApiShState.enc vr58.2.1), .int .i64 vr58.2.2], []) | _ => none) rfl rfl rfl (fun _ _ => rCd (c_shadow_Step hvr58)) ?_
        refine awp_seq ?_
        refine awp_sr2 704 [0, 3, 5, 6, 7, 8, 35] (fun _ => none) rfl (fun _ _ => rT) ?_
        refine awp_if rfl (fun hb59 => ?_) (fun hb59 => ?_)
        ·
         replace h1 := iteT h1 hb59
         refine awp_sr2 720 [2] (fun _ => none) rfl (fun _ _ => rT) ?_
         refine awp_ret ?_
         refine kr_then ?_
         refine leave_retK (fun _ _ => rT) ?_
         refine awpo_re (s2 := ⟨[(1, .fn 39 [.ref 224 0 0 0] []), (6, .int .i64 (if vr3.1 < n2 then vr3.1 else n2)), (7, .int .i64 left43), (8, .bool (decide (left43 < (if vr3.1 < n2 then vr3.1 else n2)))), (9, .fn 39 [.ref 224 0 0 0] []), (10, .int .i64 vr58.2.2)], [(0, ⟨0, true, true, 10, [[.psl 1 (List.map (encSl 4 TApiEntry.enc) vs1.Merge.Runs), .psl 1 (List.map (encInt .i64) vs1.Merge.At), .psl 2 (List.map TApiLsKey.enc vs1.Merge.Tree.Keys), .psl 1 (List.map (encInt .i64) vs1.Merge.Tree.Lose), .int .i64 vs1.Merge.Tree.Win, .bool vs1.Shadow.Some, .str vs1.Shadow.Last, .bool vs1.Shadow.Bottom, .psl 4 (List.map TApiEntry.enc vs1.Out), .int .i64 vs1.Steps]]⟩), (8, ⟨0, true, true, 10, [[.nils, .nils, .nils, .nils, .int .i64 0, .bool false, .str [], .bool false, .nils, .int .i64 0]]⟩), (224, ⟨0, true, false, 10, [[.psl 1 (List.map (encSl 4 TApiEntry.enc) v44), .psl 1 (List.map (encInt .i64) v45), .psl 2 (List.map TApiLsKey.enc v46), .psl 1 (List.map (encInt .i64) v47), .int .i64 v48, .bool v49, .str v50, .bool v51, .sl 256 g54 4 0 v53.length, .int .i64 v52]]⟩), (256, ⟨g54, true, true, 4, List.map TApiEntry.enc v53⟩), (312, ⟨0, false, true, 1, List.map (encInt .i64) vs1.Merge.At⟩)], 720, []⟩) [] (Nat.le_of_ble_eq_true rfl) ⟨rF, rE, rfl, rfl, trivial, trivial⟩ ?_
         refine awpo_cut (l' := List.range' 2 1 ++ []) rfl ?_
         refine awpo_seg 2 1 728 [] (fun _ => none) rfl rfl rfl (fun _ _ => rT) ?_
         refine awpo_nil ?_
         refine kn_then ?_
         refine awp_re (s2 := ⟨[(1, .fn 39 [.ref 224 0 0 0] []), (5, .int .i64 vr58.2.2), (6, .int .i64 (if vr3.1 < n2 then vr3.1 else n2)), (7, .int .i64 left43)], [(0, ⟨0, true, true, 10, [[.psl 1 (List.map (encSl 4 TApiEntry.enc) vs1.Merge.Runs), .psl 1 (List.map (encInt .i64) vs1.Merge.At), .psl 2 (List.map TApiLsKey.enc vs1.Merge.Tree.Keys), .psl 1 (List.map (encInt .i64) vs1.Merge.Tree.Lose), .int .i64 vs1.Merge.Tree.Win, .bool vs1.Shadow.Some, .str vs1.Shadow.Last, .bool vs1.Shadow.Bottom, .psl 4 (List.map TApiEntry.enc vs1.Out), .int .i64 vs1.Steps]]⟩), (8, ⟨0, true, true, 10, [[.nils, .nils, .nils, .nils, .int .i64 0, .bool false, .str [], .bool false, .nils, .int .i64 0]]⟩), (224, ⟨0, true, false, 10, [[.psl 1 (List.map (encSl 4 TApiEntry.enc) v44), .psl 1 (List.map (encInt .i64) v45), .psl 2 (List.map TApiLsKey.enc v46), .psl 1 (List.map (encInt .i64) v47), .int .i64 v48, .bool v49, .str v50, .bool v51, .sl 256 g54 4 0 v53.length, .int .i64 v52]]⟩), (256, ⟨g54, true, true, 4, List.map TApiEntry.enc v53⟩), (312, ⟨0, false, true, 1, List.map (encInt .i64) vs1.Merge.At⟩)], 728, []⟩) [] (Nat.le_of_ble_eq_true rfl) ⟨rF, rE, rfl, rfl, trivial, trivial⟩ ?_
         refine awp_sr2 744 [1, 5, 6, 7, 12] (fun _ => none) rfl (fun _ _ => rT) ?_
         refine awp_condKT rfl hb59 ?_
         refine awp_sr2 760 [4] (fun _ => none) rfl (fun _ _ => rT) ?_
         refine awp_ret ?_
         obtain rfl := Option.some.inj h1
         refine kr_block ?_
         refine kr_then ?_
         refine kr_then ?_
         refine kr_loop ?_
         refine kr_then ?_
         refine leave_retK (fun _ _ => rT) ?_
         refine awpo_re (s2 := ⟨[(4, .ref 8 0 0 0), (5, .int .i64 (if vr3.1 < n2 then vr3.1 else n2)), (8, .ref 224 0 0 0), (47, .int .i64 (if vr3.1 < n2 then vr3.1 else n2)), (48, .fn 39 [.ref 224 0 0 0] []), (49, .int .i64 vr58.2.2)], [(0, ⟨0, true, true, 10, [[.psl 1 (List.map (encSl 4 TApiEntry.enc) vs1.Merge.Runs), .psl 1 (List.map (encInt .i64) vs1.Merge.At), .psl 2 (List.map TApiLsKey.enc vs1.Merge.Tree.Keys), .psl 1 (List.map (encInt .i64) vs1.Merge.Tree.Lose), .int .i64 vs1.Merge.Tree.Win, .bool vs1.Shadow.Some, .str vs1.Shadow.Last, .bool vs1.Shadow.Bottom, .psl 4 (List.map TApiEntry.enc vs1.Out), .int .i64 vs1.Steps]]⟩), (8, ⟨0, true, true, 10, [[.nils, .nils, .nils, .nils, .int .i64 0, .bool false, .str [], .bool false, .nils, .int .i64 0]]⟩), (224, ⟨0, true, false, 10, [[.psl 1 (List.map (encSl 4 TApiEntry.enc) v44), .psl 1 (List.map (encInt .i64) v45), .psl 2 (List.map TApiLsKey.enc v46), .psl 1 (List.map (encInt .i64) v47), .int .i64 v48, .bool v49, .str v50, .bool v51, .sl 256 g54 4 0 v53.length, .int .i64 v52]]⟩), (256, ⟨g54, true, true, 4, List.map TApiEntry.enc v53⟩), (312, ⟨0, false, true, 1, List.map (encInt .i64) vs1.Merge.At⟩)], 760, []⟩) [] (Nat.le_of_ble_eq_true rfl) ⟨rF, rE, rfl, rfl, trivial, trivial⟩ ?_
         refine awpo_cut (l' := List.range' 3 1 ++ []) rfl ?_
         refine awpo_seg 3 1 768 [] (fun _ => none) rfl rfl rfl (fun _ _ => rT) ?_
         refine awpo_nil ?_
         refine kn_then ?_
         refine awp_re (s2 := ⟨[(4, .ref 8 0 0 0), (5, .int .i64 (if vr3.1 < n2 then vr3.1 else n2)), (8, .ref 224 0 0 0), (9, .int .i64 vr58.2.2)], [(0, ⟨0, true, true, 10, [[.psl 1 (List.map (encSl 4 TApiEntry.enc) vs1.Merge.Runs), .psl 1 (List.map (encInt .i64) vs1.Merge.At), .psl 2 (List.map TApiLsKey.enc vs1.Merge.Tree.Keys), .psl 1 (List.map (encInt .i64) vs1.Merge.Tree.Lose), .int .i64 vs1.Merge.Tree.Win, .bool vs1.Shadow.Some, .str vs1.Shadow.Last, .bool vs1.Shadow.Bottom, .psl 4 (List.map TApiEntry.enc vs1.Out), .int .i64 vs1.Steps]]⟩), (8, ⟨0, true, true, 10, [[.nils, .nils, .nils, .nils, .int .i64 0, .bool false, .str [], .bool false, .nils, .int .i64 0]]⟩), (224, ⟨0, true, false, 10, [[.psl 1 (List.map (encSl 4 TApiEntry.enc) v44), .psl 1 (List.map (encInt .i64) v45), .psl 2 (List.map TApiLsKey.enc v46), .psl 1 (List.map (encInt .i64) v47), .int .i64 v48, .bool v49, .str v50, .bool v51, .sl 256 g54 4 0 v53.length, .int .i64 v52]]⟩), (256, ⟨g54, true, true, 4, List.map TApiEntry.enc v53⟩), (312, ⟨0, false, true, 1, List.map (encInt .i64) vs1.Merge.At⟩)], 768, []⟩) [] (Nat.le_of_ble_eq_true rfl) ⟨rF, rE, rfl, rfl, trivial, trivial⟩ ?_
         refine awp_sr2 784 [4, 5, 8, 9, 51] (fun _ => none) rfl (fun _ _ => rT) ?_
         refine awp_condKT rfl hb59 ?_
         refine awp_sr2 824 [4, 5, 6] (fun _ => none) rfl (fun _ _ => rT) ?_
         refine awp_ret ?_
         refine kr_then ?_
         obtain rfl := Option.some.inj h0
         refine leave_retG [] ?_
         exact rG
        ·
         replace h1 := iteF h1 hb59
         refine awp_skip ?_
         refine kn_then ?_
         refine awp_sd2 800 [0, 3, 7] (fun _ => none) rfl rfl rfl (fun _ _ => rTd) ?_
         refine awp_sr2 880 [0, 3, 7] (fun _ => none) rfl (fun _ _ => rT) ?_
         refine awp_seq ?_
         refine awp_sr2 888 [0, 3, 56] (fun _ => none) rfl (fun _ _ => rT) ?_
         refine awp_if rfl (fun hb60 => ?_) (fun hb60 => ?_)
         ·
          replace h1 := iteT h1 hb60
          obtain ⟨hc61, h1⟩ := guS h1
          refine awp_d2 992 [] (fun _ => none) rfl rfl rfl (fun _ _ => rTd) ?_
          refine kn_then ?_
          refine awp_re (s2 := ⟨[], [(0, ⟨0, true, true, 10, [[.psl 1 (List.map (encSl 4 TApiEntry.enc) vs1.Merge.Runs), .psl 1 (List.map (encInt .i64) vs1.Merge.At), .psl 2 (List.map TApiLsKey.enc vs1.Merge.Tree.Keys), .psl 1 (List.map (encInt .i64) vs1.Merge.Tree.Lose), .int .i64 vs1.Merge.Tree.Win, .bool vs1.Shadow.Some, .str vs1.Shadow.Last, .bool vs1.Shadow.Bottom, .psl 4 (List.map TApiEntry.enc vs1.Out), .int .i64 vs1.Steps]]⟩), (8, ⟨0, true, true, 10, [[.nils, .nils, .nils, .nils, .int .i64 0, .bool false, .str [], .bool false, .nils, .int .i64 0]]⟩), (224, ⟨0, true, false, 10, [[.psl 1 (List.map (encSl 4 TApiEntry.enc) vr56.2.2.1.Runs), .psl 1 (List.map (encInt .i64) vr56.2.2.1.At), .psl 2 (List.map TApiLsKey.enc vr56.2.2.1.Tree.Keys), .psl 1 (List.map (encInt .i64) vr56.2.2.1.Tree.Lose), .int .i64 vr56.2.2.1.Tree.Win, .bool vr58.2.1.Some, .str vr58.2.1.Last, .bool vr58.2.1.Bottom, .sl 256 (g54 + 1) 4 0 ((v53 ++ [vr56.1]).length), .int .i64 (IntKind.i64.wrap (v52 + 1))]]⟩), (256, ⟨(g54 + 1), true, true, 4, List.map TApiEntry.enc (v53 ++ [vr56.1])⟩), (312, ⟨0, false, true, 1, List.map (encInt .i64) vs1.Merge.At⟩), (504, ⟨0, true, true, 4, [[.str vr56.1.Key, .str vr56.1.Val, .bool vr56.1.Dead, .int .i64 vr56.1.Seq]]⟩), (512, ⟨0, true, true, 5, [[.psl 1 (List.map (encSl 4 TApiEntry.enc) vr56.2.2.1.Runs), .psl 1 (List.map (encInt .i64) vr56.2.2.1.At), .psl 2 (List.map TApiLsKey.enc vr56.2.2.1.Tree.Keys), .psl 1 (List.map (encInt .i64) vr56.2.2.1.Tree.Lose), .int .i64 vr56.2.2.1.Tree.Win]]⟩), (656, ⟨0, true, true, 3, [[.bool vr58.2.1.Some, .str vr58.2.1.Last, .bool vr58.2.1.Bottom]]⟩), (944, ⟨0, true, true, 4, List.map TApiEntry.enc [vr56.1]⟩)], 992, []⟩) [] (Nat.le_of_ble_eq_true rfl) ⟨rF, rE, rfl, rfl, trivial, trivial⟩ ?_
          refine awp_sr2 1000 [2] (fun _ => none) rfl (fun _ _ => rT) ?_
          refine awp_ret ?_
          refine leave_retK (fun _ _ => rT) ?_
          refine awpo_re (s2 := ⟨[(1, .fn 39 [.ref 224 0 0 0] []), (6, .int .i64 (if vr3.1 < n2 then vr3.1 else n2)), (7, .int .i64 left43), (8, .bool (decide (left43 < (if vr3.1 < n2 then vr3.1 else n2)))), (9, .fn 39 [.ref 224 0 0 0] []), (10, .int .i64 0)], [(0, ⟨0, true, true, 10, [[.psl 1 (List.map (encSl 4 TApiEntry.enc) vs1.Merge.Runs), .psl 1 (List.map (encInt .i64) vs1.Merge.At), .psl 2 (List.map TApiLsKey.enc vs1.Merge.Tree.Keys), .psl 1 (List.map (encInt .i64) vs1.Merge.Tree.Lose), .int .i64 vs1.Merge.Tree.Win, .bool vs1.Shadow.Some, .str vs1.Shadow.Last, .bool vs1.Shadow.Bottom, .psl 4 (List.map TApiEntry.enc vs1.Out), .int .i64 vs1.Steps]]⟩), (8, ⟨0, true, true, 10, [[.nils, .nils, .nils, .nils, .int .i64 0, .bool false, .str [], .bool false, .nils, .int .i64 0]]⟩), (224, ⟨0, true, false, 10, [[.psl 1 (List.map (encSl 4 TApiEntry.enc) vr56.2.2.1.Runs), .psl 1 (List.map (encInt .i64) vr56.2.2.1.At), .psl 2 (List.map TApiLsKey.enc vr56.2.2.1.Tree.Keys), .psl 1 (List.map (encInt .i64) vr56.2.2.1.Tree.Lose), .int .i64 vr56.2.2.1.Tree.Win, .bool vr58.2.1.Some, .str vr58.2.1.Last, .bool vr58.2.1.Bottom, .sl 256 (g54 + 1) 4 0 ((v53 ++ [vr56.1]).length), .int .i64 (IntKind.i64.wrap (v52 + 1))]]⟩), (256, ⟨(g54 + 1), true, true, 4, List.map TApiEntry.enc (v53 ++ [vr56.1])⟩), (312, ⟨0, false, true, 1, List.map (encInt .i64) vs1.Merge.At⟩)], 1000, []⟩) [] (Nat.le_of_ble_eq_true rfl) ⟨rF, rE, rfl, rfl, trivial, trivial⟩ ?_
          refine awpo_cut (l' := List.range' 2 1 ++ []) rfl ?_
          refine awpo_seg 2 1 1008 [] (fun _ => none) rfl rfl rfl (fun _ _ => rT) ?_
          refine awpo_nil ?_
          refine kn_then ?_
          refine awp_re (s2 := ⟨[(1, .fn 39 [.ref 224 0 0 0] []), (5, .int .i64 0), (6, .int .i64 (if vr3.1 < n2 then vr3.1 else n2)), (7, .int .i64 left43)], [(0, ⟨0, true, true, 10, [[.psl 1 (List.map (encSl 4 TApiEntry.enc) vs1.Merge.Runs), .psl 1 (List.map (encInt .i64) vs1.Merge.At), .psl 2 (List.map TApiLsKey.enc vs1.Merge.Tree.Keys), .psl 1 (List.map (encInt .i64) vs1.Merge.Tree.Lose), .int .i64 vs1.Merge.Tree.Win, .bool vs1.Shadow.Some, .str vs1.Shadow.Last, .bool vs1.Shadow.Bottom, .psl 4 (List.map TApiEntry.enc vs1.Out), .int .i64 vs1.Steps]]⟩), (8, ⟨0, true, true, 10, [[.nils, .nils, .nils, .nils, .int .i64 0, .bool false, .str [], .bool false, .nils, .int .i64 0]]⟩), (224, ⟨0, true, false, 10, [[.psl 1 (List.map (encSl 4 TApiEntry.enc) vr56.2.2.1.Runs), .psl 1 (List.map (encInt .i64) vr56.2.2.1.At), .psl 2 (List.map TApiLsKey.enc vr56.2.2.1.Tree.Keys), .psl 1 (List.map (encInt .i64) vr56.2.2.1.Tree.Lose), .int .i64 vr56.2.2.1.Tree.Win, .bool vr58.2.1.Some, .str vr58.2.1.Last, .bool vr58.2.1.Bottom, .sl 256 (g54 + 1) 4 0 ((v53 ++ [vr56.1]).length), .int .i64 (IntKind.i64.wrap (v52 + 1))]]⟩), (256, ⟨(g54 + 1), true, true, 4, List.map TApiEntry.enc (v53 ++ [vr56.1])⟩), (312, ⟨0, false, true, 1, List.map (encInt .i64) vs1.Merge.At⟩)], 1008, []⟩) [] (Nat.le_of_ble_eq_true rfl) ⟨rF, rE, rfl, rfl, trivial, trivial⟩ ?_
          refine awp_sr2 1024 [1, 5, 6, 7, 12] (fun _ => none) rfl (fun _ _ => rT) ?_
          refine awp_condF rfl ?_
          refine awp_skip ?_
          refine kn_block ?_
          refine kn_then ?_
          refine awp_r2 1040 [1, 6, 7] (fun _ => none) rfl (fun _ _ => rT) ?_
          refine kn_then ?_
          exact ⟨⟨(fu, (IntKind.i64.wrap (left43 + 1)), vr56.2.2.1.Runs, vr56.2.2.1.At, vr56.2.2.1.Tree.Keys, vr56.2.2.1.Tree.Lose, vr56.2.2.1.Tree.Win, vr58.2.1.Some, vr58.2.1.Last, vr58.2.1.Bottom, (IntKind.i64.wrap (v52 + 1)), (v53 ++ [vr56.1]), (g54 + 1)), h1⟩, ⟨rF, rE, rfl, rfl, trivial, trivial⟩, Nat.lt_succ_self _⟩
         ·
          replace h1 := iteF h1 hb60
          refine awp_skip ?_
          refine kn_then ?_
          refine awp_sr2 896 [2] (fun _ => none) rfl (fun _ _ => rT) ?_
          refine awp_ret ?_
          refine leave_retK (fun _ _ => rT) ?_
          refine awpo_re (s2 := ⟨[(1, .fn 39 [.ref 224 0 0 0] []), (6, .int .i64 (if vr3.1 < n2 then vr3.1 else n2)), (7, .int .i64 left43), (8, .bool (decide (left43 < (if vr3.1 < n2 then vr3.1 else n2)))), (9, .fn 39 [.ref 224 0 0 0] []), (10, .int .i64 0)], [(0, ⟨0, true, true, 10, [[.psl 1 (List.map (encSl 4 TApiEntry.enc) vs1.Merge.Runs), .psl 1 (List.map (encInt .i64) vs1.Merge.At), .psl 2 (List.map TApiLsKey.enc vs1.Merge.Tree.Keys), .psl 1 (List.map (encInt .i64) vs1.Merge.Tree.Lose), .int .i64 vs1.Merge.Tree.Win, .bool vs1.Shadow.Some, .str vs1.Shadow.Last, .bool vs1.Shadow.Bottom, .psl 4 (List.map TApiEntry.enc vs1.Out), .int .i64 vs1.Steps]]⟩), (8, ⟨0, true, true, 10, [[.nils, .nils, .nils, .nils, .int .i64 0, .bool false, .str [], .bool false, .nils, .int .i64 0]]⟩), (224, ⟨0, true, false, 10, [[.psl 1 (List.map (encSl 4 TApiEntry.enc) vr56.2.2.1.Runs), .psl 1 (List.map (encInt .i64) vr56.2.2.1.At), .psl 2 (List.map TApiLsKey.enc vr56.2.2.1.Tree.Keys), .psl 1 (List.map (encInt .i64) vr56.2.2.1.Tree.Lose), .int .i64 vr56.2.2.1.Tree.Win, .bool vr58.2.1.Some, .str vr58.2.1.Last, .bool vr58.2.1.Bottom, .sl 256 g54 4 0 v53.length, .int .i64 (IntKind.i64.wrap (v52 + 1))]]⟩), (256, ⟨g54, true, true, 4, List.map TApiEntry.enc v53⟩), (312, ⟨0, false, true, 1, List.map (encInt .i64) vs1.Merge.At⟩)], 896, []⟩) [] (Nat.le_of_ble_eq_true rfl) ⟨rF, rE, rfl, rfl, trivial, trivial⟩ ?_
          refine awpo_cut (l' := List.range' 2 1 ++ []) rfl ?_
          refine awpo_seg 2 1 904 [] (fun _ => none) rfl rfl rfl (fun _ _ => rT) ?_
          refine awpo_nil ?_
          refine kn_then ?_
          refine awp_re (s2 := ⟨[(1, .fn 39 [.ref 224 0 0 0] []), (5, .int .i64 0), (6, .int .i64 (if vr3.1 < n2 then vr3.1 else n2)), (7, .int .i64 left43)], [(0, ⟨0, true, true, 10, [[.psl 1 (List.map (encSl 4 TApiEntry.enc) vs1.Merge.Runs), .psl 1 (List.map (encInt .i64) vs1.Merge.At), .psl 2 (List.map TApiLsKey.enc vs1.Merge.Tree.Keys), .psl 1 (List.map (encInt .i64) vs1.Merge.Tree.Lose), .int .i64 vs1.Merge.Tree.Win, .bool vs1.Shadow.Some, .str vs1.Shadow.Last, .bool vs1.Shadow.Bottom, .psl 4 (List.map TApiEntry.enc vs1.Out), .int .i64 vs1.Steps]]⟩), (8, ⟨0, true, true, 10, [[.nils, .nils, .nils, .nils, .int .i64 0, .bool false, .str [], .bool false, .nils, .int .i64 0]]⟩), (224, ⟨0, true, false, 10, [[.psl 1 (List.map (encSl 4 TApiEntry.enc) vr56.2.2.1.Runs), .psl 1 (List.map (encInt .i64) vr56.2.2.1.At), .psl 2 (List.map TApiLsKey.enc vr56.2.2.1.Tree.Keys), .psl 1 (List.map (encInt .i64) vr56.2.2.1.Tree.Lose), .int .i64 vr56.2.2.1.Tree.Win, .bool vr58.2.1.Some, .str vr58.2.1.Last, .bool vr58.2.1.Bottom, .sl 256 g54 4 0 v53.length, .int .i64 (IntKind.i64.wrap (v52 + 1))]]⟩), (256, ⟨g54, true, true, 4, List.map TApiEntry.enc v53⟩), (312, ⟨0, false, true, 1, List.map (encInt .i64) vs1.Merge.At⟩)], 904, []⟩) [] (Nat.le_of_ble_eq_true rfl) ⟨rF, rE, rfl, rfl, trivial, trivial⟩ ?_
          refine awp_sr2 920 [1, 5, 6, 7, 12] (fun _ => none) rfl (fun _ _ => rT) ?_
          refine awp_condF rfl ?_
          refine awp_skip ?_
          refine kn_block ?_
          refine kn_then ?_
          refine awp_r2 936 [1, 6, 7] (fun _ => none) rfl (fun _ _ => rT) ?_
          refine kn_then ?_
          exact ⟨⟨(fu, (IntKind.i64.wrap (left43 + 1)), vr56.2.2.1.Runs, vr56.2.2.1.At, vr56.2.2.1.Tree.Keys, vr56.2.2.1.Tree.Lose, vr56.2.2.1.Tree.Win, vr58.2.1.Some, vr58.2.1.Last, vr58.2.1.Bottom, (IntKind.i64.wrap (v52 + 1)), v53, g54), h1⟩, ⟨rF, rE, rfl, rfl, trivial, trivial⟩, Nat.lt_succ_self _⟩
      ·
       replace h1 := iteF h1 hb55
       refine awp_exit ?_
       refine kx_then ?_
       refine kx_then ?_
       refine kx_done ?_
       obtain rfl := Option.some.inj h1
       exact ⟨_, g54, rfl, Nat.le_of_ble_eq_true rfl, ⟨rF, rE, rfl, rfl, trivial, trivial⟩⟩
end Go.T
end
section
namespace Go.T
open Go Go.AM Go.Proofs
set_option maxRecDepth 100000
set_option maxHeartbeats 4000000
set_option linter.unusedVariables false
theorem c_bookendref11_SameEntries {fu : Nat} {a1 : List TApiEntry} {b2 : List TApiEntry} {r : Bool} (h0 : bookendref11_SameEntries fu a1 b2 = some r) : PCall Try.prog 16 [.psl 4 (a1.map TApiEntry.enc), .psl 4 (b2.map TApiEntry.enc)] (.bool r) [] := by
 refine awp_pcall Try.func16 rfl (by decide) (Nat.le_of_ble_eq_true rfl) ?_
 dsimp only [Try.f16]
 rw [bookendref11_SameEntries] at h0
 refine (show AWP _ _ _ _ ⟨enumFr 0 _, [], 0, []⟩ from ?_)
 refine awp_sr2 8 [0, 1] (fun _ => none) rfl (fun _ _ => rT) ?_
 refine awp_seq ?_
 refine awp_sr2 48 [0, 1, 10] (fun _ => none) rfl (fun _ _ => rT) ?_
 refine awp_if rfl (fun hb3 => ?_) (fun hb3 => ?_)
 ·
  replace h0 := iteT h0 hb3
  refine awp_sr2 56 [4] (fun _ => none) rfl (fun _ _ => rT) ?_
  refine awp_ret ?_
  refine kr_then ?_
  obtain rfl := Option.some.inj h0
  refine leave_retG [] ?_
  exact rG
 ·
  replace h0 := iteF h0 hb3
  refine awp_skip ?_
  refine kn_then ?_
  refine awp_seq ?_
  refine awp_sr2 56 [0, 1, 5] (fun _ => none) rfl (fun _ _ => rT) ?_
  obtain ⟨x13, hxx13, h0⟩ := bindS h0
  refine awp_bloop (fun s' => ∃ o19 : Unit, x13 = .inl o19 ∧ s'.nx ≤ 88 ∧ LeN [] s' ⟨[], [], 88, []⟩) ?_ ?_
  ·
   intro s' hs
   obtain ⟨o19, rfl, hn, hs⟩ := hs
   refine kn_then ?_
   refine awp_re [] hn hs ?_
   refine awp_sr2 96 [4] (fun _ => none) rfl (fun _ _ => rT) ?_
   refine awp_ret ?_
   obtain rfl := Option.some.inj h0
   refine leave_retG [] ?_
   exact rG
  ·
   refine awp_loopF (ι := { p : Nat × Int // bookendref11_SameEntries_l1 a1 b2 p.1 p.2 = some x13 }) (fun p => ⟨[(0, .psl 4 (List.map TApiEntry.enc a1)), (1, .psl 4 (List.map TApiEntry.enc b2)), (5, .int .i64 p.1.2)], [], 56, []⟩) (fun p => p.1.1) ⟨(fu, 0), hxx13⟩ ⟨rF, rE, rfl, rfl, trivial, trivial⟩ (fun _ => Nat.le_refl _) ?_
   rintro ⟨⟨fu, i14⟩, h1⟩
   cases fu with
   | zero =>
   replace h1 : bookendref11_SameEntries_l1 a1 b2 0 i14 = some x13 := h1
   rw [bookendref11_SameEntries_l1] at h1; cases h1
   | succ fu =>
    replace h1 : bookendref11_SameEntries_l1 a1 b2 (fu + 1) i14 = some x13 := h1
    rw [bookendref11_SameEntries_l1] at h1
    refine (show AWP _ _ _ _ ⟨[(0, .psl 4 (List.map TApiEntry.enc a1)), (1, .psl 4 (List.map TApiEntry.enc b2)), (5, .int .i64 i14)], [], 56, []⟩ from ?_)
    refine awp_seq ?_
    refine awp_sr2 88 [0, 1, 5, 14] (fun _ => none) rfl (fun _ _ => rT) ?_
    refine awp_if rfl (fun hb15 => ?_) (fun hb15 => ?_)
    ·
     replace h1 := iteT h1 hb15
     refine awp_skip ?_
     refine kn_then ?_
     refine awp_seq ?_
     refine awp_block ?_
     obtain ⟨e16, he16, h1⟩ := bindS h1
     obtain ⟨he16a, he16b, he16c⟩ := idxS he16
     obtain ⟨e17, he17, h1⟩ := bindS h1
     obtain ⟨he17a, he17b, he17c⟩ := idxS he17
     refine awp_sd2 160 [0, 1, 5, 25] (fun _ => none) rfl rfl rfl (fun _ _ => rSd (rA he16a (rA he16b (rA he16c (rA he17a (rA he17b he17c)))))) ?_
     refine awp_if rfl (fun hb18 => ?_) (fun hb18 => ?_)
     ·
      replace h1 := iteT h1 hb18
      refine awp_sr2 168 [4] (fun _ => none) rfl (fun _ _ => rS (rA he16a (rA he16b (rA he16c (rA he17a (rA he17b he17c)))))) ?_
      refine awp_ret ?_
      obtain rfl := Option.some.inj h1
      refine kr_block ?_
      refine kr_then ?_
      refine kr_then ?_
      refine kr_loop ?_
      refine kr_then ?_
      obtain rfl := Option.some.inj h0
      refine leave_retG [] ?_
      simp (maxSteps := 1000000) only [↓reduceIte, reduceCtorEq, Nat.reduceEqDiff, Nat.reduceLT, Nat.reduceLeDiff, Nat.reduceAdd, Nat.reduceMul, Int.reduceToNat, push_cast, Gives, he16a, he16b, he16c, he17a, he17b, he17c]
      all_goals exact rH
     ·
      replace h1 := iteF h1 hb18
      refine awp_skip ?_
      refine kn_block ?_
      refine kn_then ?_
      refine awp_r2 184 [0, 1, 5] (fun _ => none) rfl (fun _ _ => rS (rA he16a (rA he16b (rA he16c (rA he17a (rA he17b he17c)))))) ?_
      refine kn_then ?_
      exact ⟨⟨(fu, (IntKind.i64.wrap (i14 + 1))), h1⟩, ⟨rF, rE, rfl, rfl, trivial, trivial⟩, Nat.lt_succ_self _⟩
    ·
     replace h1 := iteF h1 hb15
     refine awp_exit ?_
     refine kx_then ?_
     refine kx_then ?_
     refine kx_done ?_
     obtain rfl := Option.some.inj h1
     exact ⟨_, rfl, Nat.le_of_ble_eq_true rfl, ⟨rF, rE, rfl, rfl, trivial, trivial⟩⟩
end Go.T
end
section
namespace Go.T
open Go Go.AM Go.Proofs
set_option maxRecDepth 100000
set_option maxHeartbeats 4000000
set_option linter.unusedVariables false
theorem c_bookendlaw11_Example {fu : Nat} {r : List (List TApiEntry)} (h0 : bookendlaw11_Example fu = some r) : PCall Try.prog 29 [] (.psl 1 (r.map (encSl 4 TApiEntry.enc))) [] := by
 refine awp_pcall Try.func29 rfl (by decide) (Nat.le_of_ble_eq_true rfl) ?_
 dsimp only [Try.f29]
 rw [bookendlaw11_Example] at h0
 refine (show AWP _ _ _ _ ⟨enumFr 0 _, [], 0, []⟩ from ?_)
 refine awp_sr2 8 [] (fun _ => none) rfl (fun _ _ => rT) ?_
 refine awp_sr2 72 [0] (fun _ => none) rfl (fun _ _ => rT) ?_
 refine awp_frz2 [16, 48] (fun Kt hK => by simp only [↓reduceIte, reduceCtorEq, Nat.reduceEqDiff, Nat.reduceLT, Nat.reduceLeDiff, Nat.reduceAdd, Nat.reduceMul, Int.reduceToNat, Nat.reduceBEq, push_cast]; exact hK) ?_
 refine awp_re (s2 := ⟨[(0, .sl 56 0 1 0 2)], [(16, ⟨0, false, true, 4, List.map TApiEntry.enc [(TApiEntry.mk [98] [] true 9)]⟩), (48, ⟨0, false, true, 4, List.map TApiEntry.enc [(TApiEntry.mk [97] [49] false 1), (TApiEntry.mk [98] [50] false 2), (TApiEntry.mk [99] [51] false 3)]⟩), (56, ⟨0, true, true, 1, List.map (encSl 4 TApiEntry.enc) [[(TApiEntry.mk [98] [] true 9)], [(TApiEntry.mk [97] [49] false 1), (TApiEntry.mk [98] [50] false 2), (TApiEntry.mk [99] [51] false 3)]]⟩)], 72, []⟩) [] (Nat.le_of_ble_eq_true rfl) ⟨rF, rE, rfl, rfl, trivial, trivial⟩ ?_
 refine awp_ret ?_
 obtain rfl := Option.some.inj h0
 refine leave_retG [] ?_
 exact rG
end Go.T
end
section
namespace Go.T
open Go Go.AM Go.Proofs
set_option maxRecDepth 100000
set_option maxHeartbeats 4000000
set_option linter.unusedVariables false
theorem c_slices_Output {fu : Nat} {vs1 : TApiSlState} {r : List TApiEntry × Int} (h0 : slices_Output fu vs1 = some r) : PCall Try.prog 22 [.agg (TApiSlState.enc vs1)] (.tup [.psl 4 (r.1.map TApiEntry.enc), .int .i64 r.2]) [] := by
 refine awp_pcall Try.func22 rfl (by decide) (Nat.le_of_ble_eq_true rfl) ?_
 dsimp only [Try.f22]
 rw [slices_Output] at h0
 refine (show AWP _ _ _ _ ⟨enumFr 0 _, [], 0, []⟩ from ?_)
 refine awp_sr2 24 [1] (fun _ => none) rfl (fun _ _ => rT) ?_
 obtain ⟨vr2, hvr2, h0⟩ := bindS h0
 refine awp_sr2 80 [1, 4, 5] (fun | 1 => some (.tup [.int .i64 vr2.1, .int .i64 vr2.2], []) | _ => none) rfl (fun _ _ => rC (c_slices_Left hvr2)) ?_
 refine awp_seq ?_
 refine awp_block ?_
 refine awp_sr2 104 [1, 4, 5, 11] (fun _ => none) rfl (fun _ _ => rT) ?_
 refine awp_if rfl (fun hb3 => ?_) (fun hb3 => ?_)
 ·
  replace h0 := iteT h0 hb3
  refine awp_sr2 128 [2, 3] (fun _ => none) rfl (fun _ _ => rT) ?_
  refine awp_ret ?_
  refine kr_block ?_
  refine kr_then ?_
  obtain rfl := Option.some.inj h0
  refine leave_retG [] ?_
  exact rG
 ·
  replace h0 := iteF h0 hb3
  refine awp_sr2 128 [1, 15] (fun _ => none) rfl (fun _ _ => rT) ?_
  refine awp_if rfl (fun hb4 => ?_) (fun hb4 => ?_)
  ·
   replace h0 := iteT h0 hb4
   refine awp_sr2 144 [2, 3] (fun _ => none) rfl (fun _ _ => rT) ?_
   refine awp_ret ?_
   refine kr_block ?_
   refine kr_then ?_
   obtain rfl := Option.some.inj h0
   refine leave_retG [] ?_
   exact rG
  ·
   replace h0 := iteF h0 hb4
   refine awp_skip ?_
   refine kn_block ?_
   refine kn_then ?_
   obtain ⟨hc5, h0⟩ := guS h0
   refine awp_sr2 168 [2, 3] (fun _ => none) rfl (fun _ _ => rT) ?_
   refine awp_re (s2 := ⟨[(2, .sl 144 0 4 0 vs1.Out.length), (3, .int .i64 0)], [(0, ⟨0, true, true, 10, [[.psl 1 (List.map (encSl 4 TApiEntry.enc) vs1.Merge.Runs), .psl 1 (List.map (encInt .i64) vs1.Merge.At), .psl 2 (List.map TApiLsKey.enc vs1.Merge.Tree.Keys), .psl 1 (List.map (encInt .i64) vs1.Merge.Tree.Lose), .int .i64 vs1.Merge.Tree.Win, .bool vs1.Shadow.Some, .str vs1.Shadow.Last, .bool vs1.Shadow.Bottom, .psl 4 (List.map TApiEntry.enc vs1.Out), .int .i64 vs1.Steps]]⟩), (144, ⟨0, true, true, 4, List.map TApiEntry.enc vs1.Out⟩)], 168, []⟩) [] (Nat.le_of_ble_eq_true rfl) ⟨rF, rE, rfl, rfl, trivial, trivial⟩ ?_
   refine awp_ret ?_
   obtain rfl := Option.some.inj h0
   refine leave_retG [] ?_
   exact rG
end Go.T
end
section
namespace Go.T
open Go Go.AM Go.Proofs
set_option maxRecDepth 100000
set_option maxHeartbeats 4000000
set_option linter.unusedVariables false
theorem c_slices_All {fu : Nat} {runs1 : List (List TApiEntry)} {bottom2 : Bool} {r : List TApiEntry × Int × Int} (h0 : slices_All fu runs1 bottom2 = some r) : PCall Try.prog 13 [.psl 1 (runs1.map (encSl 4 TApiEntry.enc)), .bool bottom2] (.tup [.psl 4 (r.1.map TApiEntry.enc), .int .i64 r.2.1, .int .i64 r.2.2]) [] := by
 refine awp_pcall Try.func13 rfl (by decide) (Nat.le_of_ble_eq_true rfl) ?_
 dsimp only [Try.f13]
 rw [slices_All] at h0
 refine (show AWP _ _ _ _ ⟨enumFr 0 _, [], 0, []⟩ from ?_)
 refine awp_sr2 24 [0, 1] (fun _ => none) rfl (fun _ _ => rT) ?_
 obtain ⟨vr3, hvr3, h0⟩ := bindS h0
 refine awp_sr2 96 [1, 6, 7] (fun | 1 => some (.tup [.psl 4 (vr3.1.map TApiEntry.enc), .psl 1 (vr3.2.1.map (encInt .i64)), .int .i64 vr3.2.2], []) | _ => none) rfl (fun _ _ => rC (c_merge_All hvr3)) ?_
 refine awp_seq ?_
 refine awp_sr2 112 [1, 6, 7, 16] (fun _ => none) rfl (fun _ _ => rT) ?_
 refine awp_if rfl (fun hb4 => ?_) (fun hb4 => ?_)
 ·
  replace h0 := iteT h0 hb4
  refine awp_sr2 144 [4, 5, 6] (fun _ => none) rfl (fun _ _ => rT) ?_
  refine awp_ret ?_
  refine kr_then ?_
  obtain rfl := Option.some.inj h0
  refine leave_retG [] ?_
  exact rG
 ·
  replace h0 := iteF h0 hb4
  refine awp_skip ?_
  refine kn_then ?_
  obtain ⟨vr5, hvr5, h0⟩ := bindS h0
  refine awp_sr2 184 [4, 6, 7] (fun | 2 => some (.tup [.psl 4 (vr5.1.map TApiEntry.enc), .int .i64 vr5.2.1, .int .i64 vr5.2.2], []) | _ => none) rfl (fun _ _ => rC (c_shadow_Filter hvr5)) ?_
  refine awp_seq ?_
  refine awp_sr2 200 [4, 6, 7, 26] (fun _ => none) rfl (fun _ _ => rT) ?_
  refine awp_if rfl (fun hb6 => ?_) (fun hb6 => ?_)
  ·
   replace h0 := iteT h0 hb6
   refine awp_sr2 232 [4, 5, 6] (fun _ => none) rfl (fun _ _ => rT) ?_
   refine awp_ret ?_
   refine kr_then ?_
   obtain rfl := Option.some.inj h0
   refine leave_retG [] ?_
   exact rG
  ·
   replace h0 := iteF h0 hb6
   refine awp_skip ?_
   refine kn_then ?_
   refine awp_sr2 248 [4, 5, 6] (fun _ => none) rfl (fun _ _ => rT) ?_
   refine awp_ret ?_
   obtain rfl := Option.some.inj h0
   refine leave_retG [] ?_
   exact rG
end Go.T
end
section
namespace Go.T
open Go Go.AM Go.Proofs
set_option maxRecDepth 100000
set_option maxHeartbeats 4000000
set_option linter.unusedVariables false
theorem c_bookendlaw13_awake {fu : Nat} {r : Bool} (h0 : bookendlaw13_awake fu = some r) : PCall Try.prog 10 [] (.bool r) [] := by
 refine awp_pcall Try.func10 rfl (by decide) (Nat.le_of_ble_eq_true rfl) ?_
 dsimp only [Try.f10, List.append]
 rw [bookendlaw13_awake] at h0
 refine (show AWP _ _ _ _ ⟨enumFr 0 _, [], 0, []⟩ from ?_)
 refine awp_sr2 8 [] (fun _ => none) rfl (fun _ _ => rT) ?_
 obtain ⟨vr1, hvr1, h0⟩ := bindS h0
 refine awp_sr2 24 [1] (fun | 0 => some (.psl 1 (vr1.map (encSl 4 TApiEntry.enc)), []) | _ => none) rfl (fun _ _ => rC (c_bookendlaw11_Example hvr1)) ?_
 obtain ⟨vr2, hvr2, h0⟩ := bindS h0
 refine awp_sr2 104 [1, 2, 4] (fun | 1 => some (.tup [.agg (TApiSlState.enc vr2.1), .int .i64 vr2.2.1, .int .i64 vr2.2.2], []) | _ => none) rfl (fun _ _ => rC (c_slices_Begin hvr2)) ?_
 obtain ⟨vr3, hvr3, h0⟩ := bindS h0
 refine awp_sr2 160 [1, 2, 4, 5, 6] (fun | 1 => some (.tup [.int .i64 vr3.1, .int .i64 vr3.2], []) | _ => none) rfl (fun _ _ => rC (c_slices_Left hvr3)) ?_
 obtain ⟨vr4, hvr4, h0⟩ := bindS h0
 refine awp_sr2 240 [1, 2, 4, 5, 6, 7, 8, 9] (fun | 1 => some (.tup [.agg (TApiSlState.enc vr4.1), .int .i64 vr4.2.1, .int .i64 vr4.2.2], []) | _ => none) rfl (fun _ _ => rC (c_slices_Step hvr4)) ?_
 obtain ⟨vr5, hvr5, h0⟩ := bindS h0
 refine awp_sr2 320 [1, 2, 4, 5, 6, 7, 8, 9, 10, 11, 12] (fun | 1 => some (.tup [.agg (TApiSlState.enc vr5.1), .int .i64 vr5.2.1, .int .i64 vr5.2.2], []) | _ => none) rfl (fun _ _ => rC (c_slices_Step hvr5)) ?_
 obtain ⟨vr6, hvr6, h0⟩ := bindS h0
 refine awp_sr2 376 [1, 2, 4, 5, 6, 7, 8, 9, 11, 12, 13, 14] (fun | 1 => some (.tup [.psl 4 (vr6.1.map TApiEntry.enc), .int .i64 vr6.2], []) | _ => none) rfl (fun _ _ => rC (c_slices_Output hvr6)) ?_
 obtain ⟨vr7, hvr7, h0⟩ := bindS h0
 refine awp_sr2 432 [1, 4, 5, 6, 7, 8, 9, 11, 12, 13, 14, 16] (fun | 1 => some (.tup [.psl 4 (vr7.1.map TApiEntry.enc), .int .i64 vr7.2], []) | _ => none) rfl (fun _ _ => rC (c_slices_Output hvr7)) ?_
 obtain ⟨vr8, hvr8, h0⟩ := bindS h0
 refine awp_sr2 504 [1, 4, 5, 6, 7, 8, 9, 11, 12, 13, 14, 16, 17, 18, 19] (fun | 1 => some (.tup [.psl 4 (vr8.1.map TApiEntry.enc), .int .i64 vr8.2.1, .int .i64 vr8.2.2], []) | _ => none) rfl (fun _ _ => rC (c_slices_All hvr8)) ?_
 obtain ⟨b9, hb9, h0⟩ := bindS h0
 obtain ⟨b10, hb10, h0⟩ := bindS h0
 obtain ⟨b11, hb11, h0⟩ := bindS h0
 obtain ⟨b12, hb12, h0⟩ := bindS h0
 obtain ⟨b18, hb18, h0⟩ := bindS h0
 obtain ⟨b19, hb19, h0⟩ := bindS h0
 obtain ⟨b20, hb20, h0⟩ := bindS h0
 obtain ⟨b27, hb27, h0⟩ := bindS h0
 obtain ⟨b28, hb28, h0⟩ := bindS h0
 obtain ⟨b29, hb29, h0⟩ := bindS h0
 obtain ⟨b34, hb34, h0⟩ := bindS h0
 obtain ⟨b35, hb35, h0⟩ := bindS h0
 obtain ⟨b36, hb36, h0⟩ := bindS h0
 refine awp_sd3 (fr' := [(0, .bool b36)]) (hp' := [(72, ⟨0, true, true, 10, [[.psl 1 (List.map (encSl 4 TApiEntry.enc) vr2.1.Merge.Runs), .psl 1 (List.map (encInt .i64) vr2.1.Merge.At), .psl 2 (List.map TApiLsKey.enc vr2.1.Merge.Tree.Keys), .psl 1 (List.map (encInt .i64) vr2.1.Merge.Tree.Lose), .int .i64 vr2.1.Merge.Tree.Win, .bool vr2.1.Shadow.Some, .str vr2.1.Shadow.Last, .bool vr2.1.Shadow.Bottom, .psl 4 (List.map TApiEntry.enc vr2.1.Out), .int .i64 vr2.1.Steps]]⟩), (208, ⟨0, true, true, 10, [[.psl 1 (List.map (encSl 4 TApiEntry.enc) vr4.1.Merge.Runs), .psl 1 (List.map (encInt .i64) vr4.1.Merge.At), .psl 2 (List.map TApiLsKey.enc vr4.1.Merge.Tree.Keys), .psl 1 (List.map (encInt .i64) vr4.1.Merge.Tree.Lose), .int .i64 vr4.1.Merge.Tree.Win, .bool vr4.1.Shadow.Some, .str vr4.1.Shadow.Last, .bool vr4.1.Shadow.Bottom, .psl 4 (List.map TApiEntry.enc vr4.1.Out), .int .i64 vr4.1.Steps]]⟩), (288, ⟨0, true, true, 10, [[.psl 1 (List.map (encSl 4 TApiEntry.enc) vr5.1.Merge.Runs), .psl 1 (List.map (encInt .i64) vr5.1.Merge.At), .psl 2 (List.map TApiLsKey.enc vr5.1.Merge.Tree.Keys), .psl 1 (List.map (encInt .i64) vr5.1.Merge.Tree.Lose), .int .i64 vr5.1.Merge.Tree.Win, .bool vr5.1.Shadow.Some, .str vr5.1.Shadow.Last, .bool vr5.1.Shadow.Bottom, .psl 4 (List.map TApiEntry.enc vr5.1.Out), .int .i64 vr5.1.Steps]]⟩)]) [72, 208, 288] 1256 [0] (fun | 32 => (ix vr1 1).bind fun e13 => (ix e13 0).bind fun e14 => (ix vr1 0).bind fun e15 => (ix e15 0).bind fun e16 => (bookendref11_SameEntries fu vr4.1.Out [e14, e16]).bind fun vr17 => some (.bool vr17, []) | 60 => (ix vr1 1).bind fun e21 => (ix e21 0).bind fun e22 => (ix vr1 0).bind fun e23 => (ix e23 0).bind fun e24 => (ix e21 2).bind fun e25 => (bookendref11_SameEntries fu vr6.1 [e22, e24, e25]).bind fun vr26 => some (.bool vr26, []) | 83 => (ix vr1 1).bind fun e30 => (ix e30 0).bind fun e31 => (ix e30 2).bind fun e32 => (bookendref11_SameEntries fu vr8.1 [e31, e32]).bind fun vr33 => some (.bool vr33, []) | _ => none) rfl rfl rfl (fun Kt hK => by
   cases hg37 : (decide (vr2.2.2 = 0)) with
   | false =>
    replace hb9 := iteF hb9 hg37
    have hqb9 := Option.some.inj hb9
    cases b9 with
    | false =>
     replace hb10 := iteF hb10 rfl
     have hqb10 := Option.some.inj hb10
     cases b10 with
     | false =>
      replace hb11 := iteF hb11 rfl
      have hqb11 := Option.some.inj hb11
      cases b11 with
      | false =>
       replace hb12 := iteF hb12 rfl
       have hqb12 := Option.some.inj hb12
       cases b12 with
       | false =>
        replace hb18 := iteF hb18 rfl
        have hqb18 := Option.some.inj hb18
        cases b18 with
        | false =>
         replace hb19 := iteF hb19 rfl
         have hqb19 := Option.some.inj hb19
         cases b19 with
         | false =>
          replace hb20 := iteF hb20 rfl
          have hqb20 := Option.some.inj hb20
          cases b20 with
          | false =>
           replace hb27 := iteF hb27 rfl
           have hqb27 := Option.some.inj hb27
           cases b27 with
           | false =>
            replace hb28 := iteF hb28 rfl
            have hqb28 := Option.some.inj hb28
            cases b28 with
            | false =>
             replace hb29 := iteF hb29 rfl
             have hqb29 := Option.some.inj hb29
             cases b29 with
             | false =>
              replace hb34 := iteF hb34 rfl
              have hqb34 := Option.some.inj hb34
              cases b34 with
              | false =>
               replace hb35 := iteF hb35 rfl
               have hqb35 := Option.some.inj hb35
               cases b35 with
               | false =>
                replace hb36 := iteF hb36 rfl
                have hqb36 := Option.some.inj hb36
                subst hqb36
                simp (maxSteps := 1000000) only [↓reduceIte, reduceCtorEq, Nat.reduceEqDiff, Nat.reduceLT, Nat.reduceLeDiff, Nat.reduceAdd, Nat.reduceMul, Int.reduceToNat, push_cast, ↓hg37]
                try simp only [↓hg37] at hK
                try have q0 := c_bookendref11_SameEntries hvr17
                try have q1 := c_bookendref11_SameEntries hvr26
                try have q2 := c_bookendref11_SameEntries hvr33
                all_goals exact rUd
               | true =>
                cases hqb35
              | true =>
               cases hqb34
             | true =>
              cases hqb29
            | true =>
             cases hqb28
           | true =>
            cases hqb27
          | true =>
           cases hqb20
         | true =>
          cases hqb19
        | true =>
         cases hqb18
       | true =>
        cases hqb12
      | true =>
       cases hqb11
     | true =>
      cases hqb10
    | true =>
     cases hqb9
   | true =>
    replace hb9 := iteT hb9 hg37
    have hqb9 := Option.some.inj hb9
    cases b9 with
    | false =>
     replace hb10 := iteF hb10 rfl
     have hqb10 := Option.some.inj hb10
     cases b10 with
     | false =>
      replace hb11 := iteF hb11 rfl
      have hqb11 := Option.some.inj hb11
      cases b11 with
      | false =>
       replace hb12 := iteF hb12 rfl
       have hqb12 := Option.some.inj hb12
       cases b12 with
       | false =>
        replace hb18 := iteF hb18 rfl
        have hqb18 := Option.some.inj hb18
        cases b18 with
        | false =>
         replace hb19 := iteF hb19 rfl
         have hqb19 := Option.some.inj hb19
         cases b19 with
         | false =>
          replace hb20 := iteF hb20 rfl
          have hqb20 := Option.some.inj hb20
          cases b20 with
          | false =>
           replace hb27 := iteF hb27 rfl
           have hqb27 := Option.some.inj hb27
           cases b27 with
           | false =>
            replace hb28 := iteF hb28 rfl
            have hqb28 := Option.some.inj hb28
            cases b28 with
            | false =>
             replace hb29 := iteF hb29 rfl
             have hqb29 := Option.some.inj hb29
             cases b29 with
             | false =>
              replace hb34 := iteF hb34 rfl
              have hqb34 := Option.some.inj hb34
              cases b34 with
              | false =>
               replace hb35 := iteF hb35 rfl
               have hqb35 := Option.some.inj hb35
               cases b35 with
               | false =>
                replace hb36 := iteF hb36 rfl
                have hqb36 := Option.some.inj hb36
                subst hqb36
                simp (maxSteps := 1000000) only [↓reduceIte, reduceCtorEq, Nat.reduceEqDiff, Nat.reduceLT, Nat.reduceLeDiff, Nat.reduceAdd, Nat.reduceMul, Int.reduceToNat, push_cast, ↓hg37, ↓hqb9]
                try simp only [↓hg37, ↓hqb9] at hK
                try have q0 := c_bookendref11_SameEntries hvr17
                try have q1 := c_bookendref11_SameEntries hvr26
                try have q2 := c_bookendref11_SameEntries hvr33
                all_goals exact rUd
               | true =>
                cases hqb35
              | true =>
               cases hqb34
             | true =>
              cases hqb29
            | true =>
             cases hqb28
           | true =>
            cases hqb27
          | true =>
           cases hqb20
         | true =>
          cases hqb19
        | true =>
         cases hqb18
       | true =>
        cases hqb12
      | true =>
       cases hqb11
     | true =>
      cases hqb10
    | true =>
     replace hb10 := iteT hb10 rfl
     have hqb10 := Option.some.inj hb10
     cases b10 with
     | false =>
      replace hb11 := iteF hb11 rfl
      have hqb11 := Option.some.inj hb11
      cases b11 with
      | false =>
       replace hb12 := iteF hb12 rfl
       have hqb12 := Option.some.inj hb12
       cases b12 with
       | false =>
        replace hb18 := iteF hb18 rfl
        have hqb18 := Option.some.inj hb18
        cases b18 with
        | false =>
         replace hb19 := iteF hb19 rfl
         have hqb19 := Option.some.inj hb19
         cases b19 with
         | false =>
          replace hb20 := iteF hb20 rfl
          have hqb20 := Option.some.inj hb20
          cases b20 with
          | false =>
           replace hb27 := iteF hb27 rfl
           have hqb27 := Option.some.inj hb27
           cases b27 with
           | false =>
            replace hb28 := iteF hb28 rfl
            have hqb28 := Option.some.inj hb28
            cases b28 with
            | false =>
             replace hb29 := iteF hb29 rfl
             have hqb29 := Option.some.inj hb29
             cases b29 with
             | false =>
              replace hb34 := iteF hb34 rfl
              have hqb34 := Option.some.inj hb34
              cases b34 with
              | false =>
               replace hb35 := iteF hb35 rfl
               have hqb35 := Option.some.inj hb35
               cases b35 with
               | false =>
                replace hb36 := iteF hb36 rfl
                have hqb36 := Option.some.inj hb36
                subst hqb36
                simp (maxSteps := 1000000) only [↓reduceIte, reduceCtorEq, Nat.reduceEqDiff, Nat.reduceLT, Nat.reduceLeDiff, Nat.reduceAdd, Nat.reduceMul, Int.reduceToNat, push_cast, ↓hg37, ↓hqb9, ↓hqb10]
                try simp only [↓hg37, ↓hqb9, ↓hqb10] at hK
                try have q0 := c_bookendref11_SameEntries hvr17
                try have q1 := c_bookendref11_SameEntries hvr26
                try have q2 := c_bookendref11_SameEntries hvr33
                all_goals exact rUd
               | true =>
                cases hqb35
              | true =>
               cases hqb34
             | true =>
              cases hqb29
            | true =>
             cases hqb28
           | true =>
            cases hqb27
          | true =>
           cases hqb20
         | true =>
          cases hqb19
        | true =>
         cases hqb18
       | true =>
        cases hqb12
      | true =>
       cases hqb11
     | true =>
      replace hb11 := iteT hb11 rfl
      have hqb11 := Option.some.inj hb11
      cases b11 with
      | false =>
       replace hb12 := iteF hb12 rfl
       have hqb12 := Option.some.inj hb12
       cases b12 with
       | false =>
        replace hb18 := iteF hb18 rfl
        have hqb18 := Option.some.inj hb18
        cases b18 with
        | false =>
         replace hb19 := iteF hb19 rfl
         have hqb19 := Option.some.inj hb19
         cases b19 with
         | false =>
          replace hb20 := iteF hb20 rfl
          have hqb20 := Option.some.inj hb20
          cases b20 with
          | false =>
           replace hb27 := iteF hb27 rfl
           have hqb27 := Option.some.inj hb27
           cases b27 with
           | false =>
            replace hb28 := iteF hb28 rfl
            have hqb28 := Option.some.inj hb28
            cases b28 with
            | false =>
             replace hb29 := iteF hb29 rfl
             have hqb29 := Option.some.inj hb29
             cases b29 with
             | false =>
              replace hb34 := iteF hb34 rfl
              have hqb34 := Option.some.inj hb34
              cases b34 with
              | false =>
               replace hb35 := iteF hb35 rfl
               have hqb35 := Option.some.inj hb35
               cases b35 with
               | false =>
                replace hb36 := iteF hb36 rfl
                have hqb36 := Option.some.inj hb36
                subst hqb36
                simp (maxSteps := 1000000) only [↓reduceIte, reduceCtorEq, Nat.reduceEqDiff, Nat.reduceLT, Nat.reduceLeDiff, Nat.reduceAdd, Nat.reduceMul, Int.reduceToNat, push_cast, ↓hg37, ↓hqb9, ↓hqb10, ↓hqb11]
                try simp only [↓hg37, ↓hqb9, ↓hqb10, ↓hqb11] at hK
                try have q0 := c_bookendref11_SameEntries hvr17
                try have q1 := c_bookendref11_SameEntries hvr26
                try have q2 := c_bookendref11_SameEntries hvr33
                all_goals exact rUd
               | true =>
                cases hqb35
              | true =>
               cases hqb34
             | true =>
              cases hqb29
            | true =>
             cases hqb28
           | true =>
            cases hqb27
          | true =>
           cases hqb20
         | true =>
          cases hqb19
        | true =>
         cases hqb18
       | true =>
        cases hqb12
      | true =>
       replace hb12 := iteT hb12 rfl
       have hqb12 := Option.some.inj hb12
       cases b12 with
       | false =>
        replace hb18 := iteF hb18 rfl
        have hqb18 := Option.some.inj hb18
        cases b18 with
        | false =>
         replace hb19 := iteF hb19 rfl
         have hqb19 := Option.some.inj hb19
         cases b19 with
         | false =>
          replace hb20 := iteF hb20 rfl
          have hqb20 := Option.some.inj hb20
          cases b20 with
          | false =>
           replace hb27 := iteF hb27 rfl
           have hqb27 := Option.some.inj hb27
           cases b27 with
           | false =>
            replace hb28 := iteF hb28 rfl
            have hqb28 := Option.some.inj hb28
            cases b28 with
            | false =>
             replace hb29 := iteF hb29 rfl
             have hqb29 := Option.some.inj hb29
             cases b29 with
             | false =>
              replace hb34 := iteF hb34 rfl
              have hqb34 := Option.some.inj hb34
              cases b34 with
              | false =>
               replace hb35 := iteF hb35 rfl
               have hqb35 := Option.some.inj hb35
               cases b35 with
               | false =>
                replace hb36 := iteF hb36 rfl
                have hqb36 := Option.some.inj hb36
                subst hqb36
                simp (maxSteps := 1000000) only [↓reduceIte, reduceCtorEq, Nat.reduceEqDiff, Nat.reduceLT, Nat.reduceLeDiff, Nat.reduceAdd, Nat.reduceMul, Int.reduceToNat, push_cast, ↓hg37, ↓hqb9, ↓hqb10, ↓hqb11, ↓hqb12]
                try simp only [↓hg37, ↓hqb9, ↓hqb10, ↓hqb11, ↓hqb12] at hK
                try have q0 := c_bookendref11_SameEntries hvr17
                try have q1 := c_bookendref11_SameEntries hvr26
                try have q2 := c_bookendref11_SameEntries hvr33
                all_goals exact rUd
               | true =>
                cases hqb35
              | true =>
               cases hqb34
             | true =>
              cases hqb29
            | true =>
             cases hqb28
           | true =>
            cases hqb27
          | true =>
           cases hqb20
         | true =>
          cases hqb19
        | true =>
         cases hqb18
       | true =>
        replace hb18 := iteT hb18 rfl
        obtain ⟨e13, he13, hb18⟩ := bindS hb18
        have he13b := (idxS he13).2.1
        have he13c := (idxL 1 he13 rfl).1
        have he13a := (idxL 1 he13 rfl).2
        obtain ⟨e14, he14, hb18⟩ := bindS hb18
        have he14b := (idxS he14).2.1
        have he14c := (idxL 0 he14 rfl).1
        have he14a := (idxL 0 he14 rfl).2
        obtain ⟨e15, he15, hb18⟩ := bindS hb18
        have he15b := (idxS he15).2.1
        have he15c := (idxL 0 he15 rfl).1
        have he15a := (idxL 0 he15 rfl).2
        obtain ⟨e16, he16, hb18⟩ := bindS hb18
        have he16b := (idxS he16).2.1
        have he16c := (idxL 0 he16 rfl).1
        have he16a := (idxL 0 he16 rfl).2
        obtain ⟨vr17, hvr17, hb18⟩ := bindS hb18
        have hqb18 := Option.some.inj hb18
        cases b18 with
        | false =>
         subst hqb18
         replace hb19 := iteF hb19 rfl
         have hqb19 := Option.some.inj hb19
         cases b19 with
         | false =>
          replace hb20 := iteF hb20 rfl
          have hqb20 := Option.some.inj hb20
          cases b20 with
          | false =>
           replace hb27 := iteF hb27 rfl
           have hqb27 := Option.some.inj hb27
           cases b27 with
           | false =>
            replace hb28 := iteF hb28 rfl
            have hqb28 := Option.some.inj hb28
            cases b28 with
            | false =>
             replace hb29 := iteF hb29 rfl
             have hqb29 := Option.some.inj hb29
             cases b29 with
             | false =>
              replace hb34 := iteF hb34 rfl
              have hqb34 := Option.some.inj hb34
              cases b34 with
              | false =>
               replace hb35 := iteF hb35 rfl
               have hqb35 := Option.some.inj hb35
               cases b35 with
               | false =>
                replace hb36 := iteF hb36 rfl
                have hqb36 := Option.some.inj hb36
                subst hqb36
                simp (maxSteps := 1000000) only [↓reduceIte, reduceCtorEq, Nat.reduceEqDiff, Nat.reduceLT, Nat.reduceLeDiff, Nat.reduceAdd, Nat.reduceMul, Int.reduceToNat, push_cast, ↓hg37, ↓hqb9, ↓hqb10, ↓hqb11, ↓hqb12, he13a, he13b, he13c, he13, he14a, he14b, he14c, he14, he15a, he15b, he15c, he15, he16a, he16b, he16c, he16, hvr17]
                try simp only [↓hg37, ↓hqb9, ↓hqb10, ↓hqb11, ↓hqb12] at hK
                try have q0 := c_bookendref11_SameEntries hvr17
                try have q1 := c_bookendref11_SameEntries hvr26
                try have q2 := c_bookendref11_SameEntries hvr33
                all_goals exact rUd
               | true =>
                cases hqb35
              | true =>
               cases hqb34
             | true =>
              cases hqb29
            | true =>
             cases hqb28
           | true =>
            cases hqb27
          | true =>
           cases hqb20
         | true =>
          cases hqb19
        | true =>
         subst hqb18
         replace hb19 := iteT hb19 rfl
         have hqb19 := Option.some.inj hb19
         cases b19 with
         | false =>
          replace hb20 := iteF hb20 rfl
          have hqb20 := Option.some.inj hb20
          cases b20 with
          | false =>
           replace hb27 := iteF hb27 rfl
           have hqb27 := Option.some.inj hb27
           cases b27 with
           | false =>
            replace hb28 := iteF hb28 rfl
            have hqb28 := Option.some.inj hb28
            cases b28 with
            | false =>
             replace hb29 := iteF hb29 rfl
             have hqb29 := Option.some.inj hb29
             cases b29 with
             | false =>
              replace hb34 := iteF hb34 rfl
              have hqb34 := Option.some.inj hb34
              cases b34 with
              | false =>
               replace hb35 := iteF hb35 rfl
               have hqb35 := Option.some.inj hb35
               cases b35 with
               | false =>
                replace hb36 := iteF hb36 rfl
                have hqb36 := Option.some.inj hb36
                subst hqb36
                simp (maxSteps := 1000000) only [↓reduceIte, reduceCtorEq, Nat.reduceEqDiff, Nat.reduceLT, Nat.reduceLeDiff, Nat.reduceAdd, Nat.reduceMul, Int.reduceToNat, push_cast, ↓hg37, ↓hqb9, ↓hqb10, ↓hqb11, ↓hqb12, he13a, he13b, he13c, he13, he14a, he14b, he14c, he14, he15a, he15b, he15c, he15, he16a, he16b, he16c, he16, hvr17, ↓hqb19]
                try simp only [↓hg37, ↓hqb9, ↓hqb10, ↓hqb11, ↓hqb12, ↓hqb19] at hK
                try have q0 := c_bookendref11_SameEntries hvr17
                try have q1 := c_bookendref11_SameEntries hvr26
                try have q2 := c_bookendref11_SameEntries hvr33
                all_goals exact rUd
               | true =>
                cases hqb35
              | true =>
               cases hqb34
             | true =>
              cases hqb29
            | true =>
             cases hqb28
           | true =>
            cases hqb27
          | true =>
           cases hqb20
         | true =>
          replace hb20 := iteT hb20 rfl
          have hqb20 := Option.some.inj hb20
          cases b20 with
          | false =>
           replace hb27 := iteF hb27 rfl
           have hqb27 := Option.some.inj hb27
           cases b27 with
           | false =>
            replace hb28 := iteF hb28 rfl
            have hqb28 := Option.some.inj hb28
            cases b28 with
            | false =>
             replace hb29 := iteF hb29 rfl
             have hqb29 := Option.some.inj hb29
             cases b29 with
             | false =>
              replace hb34 := iteF hb34 rfl
              have hqb34 := Option.some.inj hb34
              cases b34 with
              | false =>
               replace hb35 := iteF hb35 rfl
               have hqb35 := Option.some.inj hb35
               cases b35 with
               | false =>
                replace hb36 := iteF hb36 rfl
                have hqb36 := Option.some.inj hb36
                subst hqb36
                simp (maxSteps := 1000000) only [↓reduceIte, reduceCtorEq, Nat.reduceEqDiff, Nat.reduceLT, Nat.reduceLeDiff, Nat.reduceAdd, Nat.reduceMul, Int.reduceToNat, push_cast, ↓hg37, ↓hqb9, ↓hqb10, ↓hqb11, ↓hqb12, he13a, he13b, he13c, he13, he14a, he14b, he14c, he14, he15a, he15b, he15c, he15, he16a, he16b, he16c, he16, hvr17, ↓hqb19, ↓hqb20]
                try simp only [↓hg37, ↓hqb9, ↓hqb10, ↓hqb11, ↓hqb12, ↓hqb19, ↓hqb20] at hK
                try have q0 := c_bookendref11_SameEntries hvr17
                try have q1 := c_bookendref11_SameEntries hvr26
                try have q2 := c_bookendref11_SameEntries hvr33
                all_goals exact rUd
               | true =>
                cases hqb35
              | true =>
               cases hqb34
             | true =>
              cases hqb29
            | true =>
             cases hqb28
           | true =>
            cases hqb27
          | true =>
           replace hb27 := iteT hb27 rfl
           obtain ⟨e21, he21, hb27⟩ := bindS hb27
           have he21b := (idxS he21).2.1
           have he21c := (idxL 1 he21 rfl).1
           have he21a := (idxL 1 he21 rfl).2
           obtain rfl := Option.some.inj (he13.symm.trans he21)
           obtain ⟨e22, he22, hb27⟩ := bindS hb27
           have he22b := (idxS he22).2.1
           have he22c := (idxL 0 he22 rfl).1
           have he22a := (idxL 0 he22 rfl).2
           obtain rfl := Option.some.inj (he14.symm.trans he22)
           obtain ⟨e23, he23, hb27⟩ := bindS hb27
           have he23b := (idxS he23).2.1
           have he23c := (idxL 0 he23 rfl).1
           have he23a := (idxL 0 he23 rfl).2
           obtain rfl := Option.some.inj (he15.symm.trans he23)
           obtain ⟨e24, he24, hb27⟩ := bindS hb27
           have he24b := (idxS he24).2.1
           have he24c := (idxL 0 he24 rfl).1
           have he24a := (idxL 0 he24 rfl).2
           obtain rfl := Option.some.inj (he16.symm.trans he24)
           obtain ⟨e25, he25, hb27⟩ := bindS hb27
           have he25b := (idxS he25).2.1
           have he25c := (idxL 2 he25 rfl).1
           have he25a := (idxL 2 he25 rfl).2
           obtain ⟨vr26, hvr26, hb27⟩ := bindS hb27
           have hqb27 := Option.some.inj hb27
           cases b27 with
           | false =>
            subst hqb27
            replace hb28 := iteF hb28 rfl
            have hqb28 := Option.some.inj hb28
            cases b28 with
            | false =>
             replace hb29 := iteF hb29 rfl
             have hqb29 := Option.some.inj hb29
             cases b29 with
             | false =>
              replace hb34 := iteF hb34 rfl
              have hqb34 := Option.some.inj hb34
              cases b34 with
              | false =>
               replace hb35 := iteF hb35 rfl
               have hqb35 := Option.some.inj hb35
               cases b35 with
               | false =>
                replace hb36 := iteF hb36 rfl
                have hqb36 := Option.some.inj hb36
                subst hqb36
                simp (maxSteps := 1000000) only [↓reduceIte, reduceCtorEq, Nat.reduceEqDiff, Nat.reduceLT, Nat.reduceLeDiff, Nat.reduceAdd, Nat.reduceMul, Int.reduceToNat, push_cast, ↓hg37, ↓hqb9, ↓hqb10, ↓hqb11, ↓hqb12, he13a, he13b, he13c, he13, he14a, he14b, he14c, he14, he15a, he15b, he15c, he15, he16a, he16b, he16c, he16, hvr17, ↓hqb19, ↓hqb20, he21a, he21b, he21c, he21, he22a, he22b, he22c, he22, he23a, he23b, he23c, he23, he24a, he24b, he24c, he24, he25a, he25b, he25c, he25, hvr26]
                try simp only [↓hg37, ↓hqb9, ↓hqb10, ↓hqb11, ↓hqb12, ↓hqb19, ↓hqb20] at hK
                try have q0 := c_bookendref11_SameEntries hvr17
                try have q1 := c_bookendref11_SameEntries hvr26
                try have q2 := c_bookendref11_SameEntries hvr33
                all_goals exact rUd
               | true =>
                cases hqb35
              | true =>
               cases hqb34
             | true =>
              cases hqb29
            | true =>
             cases hqb28
           | true =>
            subst hqb27
            replace hb28 := iteT hb28 rfl
            have hqb28 := Option.some.inj hb28
            cases b28 with
            | false =>
             replace hb29 := iteF hb29 rfl
             have hqb29 := Option.some.inj hb29
             cases b29 with
             | false =>
              replace hb34 := iteF hb34 rfl
              have hqb34 := Option.some.inj hb34
              cases b34 with
              | false =>
               replace hb35 := iteF hb35 rfl
               have hqb35 := Option.some.inj hb35
               cases b35 with
               | false =>
                replace hb36 := iteF hb36 rfl
                have hqb36 := Option.some.inj hb36
                subst hqb36
                simp (maxSteps := 1000000) only [↓reduceIte, reduceCtorEq, Nat.reduceEqDiff, Nat.reduceLT, Nat.reduceLeDiff, Nat.reduceAdd, Nat.reduceMul, Int.reduceToNat, push_cast, ↓hg37, ↓hqb9, ↓hqb10, ↓hqb11, ↓hqb12, he13a, he13b, he13c, he13, he14a, he14b, he14c, he14, he15a, he15b, he15c, he15, he16a, he16b, he16c, he16, hvr17, ↓hqb19, ↓hqb20, he21a, he21b, he21c, he21, he22a, he22b, he22c, he22, he23a, he23b, he23c, he23, he24a, he24b, he24c, he24, he25a, he25b, he25c, he25, hvr26, ↓hqb28]
                try simp only [↓hg37, ↓hqb9, ↓hqb10, ↓hqb11, ↓hqb12, ↓hqb19, ↓hqb20, ↓hqb28] at hK
                try have q0 := c_bookendref11_SameEntries hvr17
                try have q1 := c_bookendref11_SameEntries hvr26
                try have q2 := c_bookendref11_SameEntries hvr33
                all_goals exact rUd
               | true =>
                cases hqb35
              | true =>
               cases hqb34
             | true =>
              cases hqb29
            | true =>
             replace hb29 := iteT hb29 rfl
             have hqb29 := Option.some.inj hb29
             cases b29 with
             | false =>
              replace hb34 := iteF hb34 rfl
              have hqb34 := Option.some.inj hb34
              cases b34 with
              | false =>
               replace hb35 := iteF hb35 rfl
               have hqb35 := Option.some.inj hb35
               cases b35 with
               | false =>
                replace hb36 := iteF hb36 rfl
                have hqb36 := Option.some.inj hb36
                subst hqb36
                simp (maxSteps := 1000000) only [↓reduceIte, reduceCtorEq, Nat.reduceEqDiff, Nat.reduceLT, Nat.reduceLeDiff, Nat.reduceAdd, Nat.reduceMul, Int.reduceToNat, push_cast, ↓hg37, ↓hqb9, ↓hqb10, ↓hqb11, ↓hqb12, he13a, he13b, he13c, he13, he14a, he14b, he14c, he14, he15a, he15b, he15c, he15, he16a, he16b, he16c, he16, hvr17, ↓hqb19, ↓hqb20, he21a, he21b, he21c, he21, he22a, he22b, he22c, he22, he23a, he23b, he23c, he23, he24a, he24b, he24c, he24, he25a, he25b, he25c, he25, hvr26, ↓hqb28, ↓hqb29]
                try simp only [↓hg37, ↓hqb9, ↓hqb10, ↓hqb11, ↓hqb12, ↓hqb19, ↓hqb20, ↓hqb28, ↓hqb29] at hK
                try have q0 := c_bookendref11_SameEntries hvr17
                try have q1 := c_bookendref11_SameEntries hvr26
                try have q2 := c_bookendref11_SameEntries hvr33
                all_goals exact rUd
               | true =>
                cases hqb35
              | true =>
               cases hqb34
             | true =>
              replace hb34 := iteT hb34 rfl
              obtain ⟨e30, he30, hb34⟩ := bindS hb34
              have he30b := (idxS he30).2.1
              have he30c := (idxL 1 he30 rfl).1
              have he30a := (idxL 1 he30 rfl).2
              obtain rfl := Option.some.inj (he13.symm.trans he30)
              obtain ⟨e31, he31, hb34⟩ := bindS hb34
              have he31b := (idxS he31).2.1
              have he31c := (idxL 0 he31 rfl).1
              have he31a := (idxL 0 he31 rfl).2
              obtain rfl := Option.some.inj (he14.symm.trans he31)
              obtain ⟨e32, he32, hb34⟩ := bindS hb34
              have he32b := (idxS he32).2.1
              have he32c := (idxL 2 he32 rfl).1
              have he32a := (idxL 2 he32 rfl).2
              obtain rfl := Option.some.inj (he25.symm.trans he32)
              obtain ⟨vr33, hvr33, hb34⟩ := bindS hb34
              have hqb34 := Option.some.inj hb34
              cases b34 with
              | false =>
               subst hqb34
               replace hb35 := iteF hb35 rfl
               have hqb35 := Option.some.inj hb35
               cases b35 with
               | false =>
                replace hb36 := iteF hb36 rfl
                have hqb36 := Option.some.inj hb36
                subst hqb36
                simp (maxSteps := 1000000) only [↓reduceIte, reduceCtorEq, Nat.reduceEqDiff, Nat.reduceLT, Nat.reduceLeDiff, Nat.reduceAdd, Nat.reduceMul, Int.reduceToNat, push_cast, ↓hg37, ↓hqb9, ↓hqb10, ↓hqb11, ↓hqb12, he13a, he13b, he13c, he13, he14a, he14b, he14c, he14, he15a, he15b, he15c, he15, he16a, he16b, he16c, he16, hvr17, ↓hqb19, ↓hqb20, he21a, he21b, he21c, he21, he22a, he22b, he22c, he22, he23a, he23b, he23c, he23, he24a, he24b, he24c, he24, he25a, he25b, he25c, he25, hvr26, ↓hqb28, ↓hqb29, he30a, he30b, he30c, he30, he31a, he31b, he31c, he31, he32a, he32b, he32c, he32, hvr33]
                try simp only [↓hg37, ↓hqb9, ↓hqb10, ↓hqb11, ↓hqb12, ↓hqb19, ↓hqb20, ↓hqb28, ↓hqb29] at hK
                try have q0 := c_bookendref11_SameEntries hvr17
                try have q1 := c_bookendref11_SameEntries hvr26
                try have q2 := c_bookendref11_SameEntries hvr33
                all_goals exact rUd
               | true =>
                cases hqb35
              | true =>
               subst hqb34
               replace hb35 := iteT hb35 rfl
               have hqb35 := Option.some.inj hb35
               cases b35 with
               | false =>
                replace hb36 := iteF hb36 rfl
                have hqb36 := Option.some.inj hb36
                subst hqb36
                simp (maxSteps := 1000000) only [↓reduceIte, reduceCtorEq, Nat.reduceEqDiff, Nat.reduceLT, Nat.reduceLeDiff, Nat.reduceAdd, Nat.reduceMul, Int.reduceToNat, push_cast, ↓hg37, ↓hqb9, ↓hqb10, ↓hqb11, ↓hqb12, he13a, he13b, he13c, he13, he14a, he14b, he14c, he14, he15a, he15b, he15c, he15, he16a, he16b, he16c, he16, hvr17, ↓hqb19, ↓hqb20, he21a, he21b, he21c, he21, he22a, he22b, he22c, he22, he23a, he23b, he23c, he23, he24a, he24b, he24c, he24, he25a, he25b, he25c, he25, hvr26, ↓hqb28, ↓hqb29, he30a, he30b, he30c, he30, he31a, he31b, he31c, he31, he32a, he32b, he32c, he32, hvr33, ↓hqb35]
                try simp only [↓hg37, ↓hqb9, ↓hqb10, ↓hqb11, ↓hqb12, ↓hqb19, ↓hqb20, ↓hqb28, ↓hqb29, ↓hqb35] at hK
                try have q0 := c_bookendref11_SameEntries hvr17
                try have q1 := c_bookendref11_SameEntries hvr26
                try have q2 := c_bookendref11_SameEntries hvr33
                all_goals exact rUd
               | true =>
                replace hb36 := iteT hb36 rfl
                have hqb36 := Option.some.inj hb36
                subst hqb36
                simp (maxSteps := 1000000) only [↓reduceIte, reduceCtorEq, Nat.reduceEqDiff, Nat.reduceLT, Nat.reduceLeDiff, Nat.reduceAdd, Nat.reduceMul, Int.reduceToNat, push_cast, ↓hg37, ↓hqb9, ↓hqb10, ↓hqb11, ↓hqb12, he13a, he13b, he13c, he13, he14a, he14b, he14c, he14, he15a, he15b, he15c, he15, he16a, he16b, he16c, he16, hvr17, ↓hqb19, ↓hqb20, he21a, he21b, he21c, he21, he22a, he22b, he22c, he22, he23a, he23b, he23c, he23, he24a, he24b, he24c, he24, he25a, he25b, he25c, he25, hvr26, ↓hqb28, ↓hqb29, he30a, he30b, he30c, he30, he31a, he31b, he31c, he31, he32a, he32b, he32c, he32, hvr33, ↓hqb35]
                try simp only [↓hg37, ↓hqb9, ↓hqb10, ↓hqb11, ↓hqb12, ↓hqb19, ↓hqb20, ↓hqb28, ↓hqb29, ↓hqb35] at hK
                try have q0 := c_bookendref11_SameEntries hvr17
                try have q1 := c_bookendref11_SameEntries hvr26
                try have q2 := c_bookendref11_SameEntries hvr33
                all_goals exact rUd) ?_
 refine awp_re (s2 := ⟨[(0, .bool b36)], [(72, ⟨0, true, true, 10, [[.psl 1 (List.map (encSl 4 TApiEntry.enc) vr2.1.Merge.Runs), .psl 1 (List.map (encInt .i64) vr2.1.Merge.At), .psl 2 (List.map TApiLsKey.enc vr2.1.Merge.Tree.Keys), .psl 1 (List.map (encInt .i64) vr2.1.Merge.Tree.Lose), .int .i64 vr2.1.Merge.Tree.Win, .bool vr2.1.Shadow.Some, .str vr2.1.Shadow.Last, .bool vr2.1.Shadow.Bottom, .psl 4 (List.map TApiEntry.enc vr2.1.Out), .int .i64 vr2.1.Steps]]⟩), (208, ⟨0, true, true, 10, [[.psl 1 (List.map (encSl 4 TApiEntry.enc) vr4.1.Merge.Runs), .psl 1 (List.map (encInt .i64) vr4.1.Merge.At), .psl 2 (List.map TApiLsKey.enc vr4.1.Merge.Tree.Keys), .psl 1 (List.map (encInt .i64) vr4.1.Merge.Tree.Lose), .int .i64 vr4.1.Merge.Tree.Win, .bool vr4.1.Shadow.Some, .str vr4.1.Shadow.Last, .bool vr4.1.Shadow.Bottom, .psl 4 (List.map TApiEntry.enc vr4.1.Out), .int .i64 vr4.1.Steps]]⟩), (288, ⟨0, true, true, 10, [[.psl 1 (List.map (encSl 4 TApiEntry.enc) vr5.1.Merge.Runs), .psl 1 (List.map (encInt .i64) vr5.1.Merge.At), .psl 2 (List.map TApiLsKey.enc vr5.1.Merge.Tree.Keys), .psl 1 (List.map (encInt .i64) vr5.1.Merge.Tree.Lose), .int .i64 vr5.1.Merge.Tree.Win, .bool vr5.1.Shadow.Some, .str vr5.1.Shadow.Last, .bool vr5.1.Shadow.Bottom, .psl 4 (List.map TApiEntry.enc vr5.1.Out), .int .i64 vr5.1.Steps]]⟩)], 1256, []⟩) [] (Nat.le_of_ble_eq_true rfl) ⟨rF, rE, rfl, rfl, trivial, trivial⟩ ?_
 refine awp_ret ?_
 obtain rfl := Option.some.inj h0
 refine leave_retG [] ?_
 exact rG
end Go.T
end
section
namespace Go.T
open Go Go.AM Go.Proofs
set_option maxRecDepth 100000
set_option maxHeartbeats 4000000
set_option linter.unusedVariables false
theorem c_merge_Next_2 {fu : Nat} {vs1 : TApiMgState} {r : TApiEntry × Int × TApiMgState × Int} (h0 : merge_Next_2 fu vs1 = some r) : PCall Try.prog 61 [.agg (TApiMgState.enc vs1)] (.tup [.agg [.str r.1.Key, .str r.1.Val, .bool r.1.Dead, .int .i64 r.1.Seq], .int .i64 r.2.1, .agg [.psl 1 (List.map (encSl 4 TApiEntry.enc) r.2.2.1.Runs), .sl 0 0 1 0 r.2.2.1.At.length, .psl 2 (List.map TApiLsKey.enc r.2.2.1.Tree.Keys), .psl 1 (List.map (encInt .i64) r.2.2.1.Tree.Lose), .int .i64 r.2.2.1.Tree.Win], .int .i64 r.2.2.2]) [⟨0, true, true, 1, r.2.2.1.At.map (encInt .i64)⟩] := by
 refine awp_pcall Try.func61 rfl (by decide) (Nat.le_of_ble_eq_true rfl) ?_
 dsimp only [Try.f61]
 rw [merge_Next_2] at h0
 refine (show AWP _ _ _ _ ⟨enumFr 0 _, [], 0, []⟩ from ?_)
 refine awp_sr2 40 [1, 2, 4] (fun _ => none) rfl (fun _ _ => rT) ?_
 refine awp_sops2 7 rfl ?_
 refine awpo_cut (l' := List.range' 0 1 ++ (1 :: (List.range' 2 5 ++ []))) rfl ?_
 refine awpo_seg 0 1 48 (1 :: (List.range' 2 5 ++ [])) (fun _ => none) rfl rfl rfl (fun _ _ => rT) ?_
 refine awpo_in rfl rfl rfl rfl rfl Try.func78 rfl (by decide) rfl (Nat.le_of_ble_eq_true rfl) ?_
 dsimp only [Try.f78]
 refine awp_re (s2 := ⟨[(0, .agg [.psl 1 (List.map (encSl 4 TApiEntry.enc) vs1.Runs), .psl 1 (List.map (encInt .i64) vs1.At), .psl 2 (List.map TApiLsKey.enc vs1.Tree.Keys), .psl 1 (List.map (encInt .i64) vs1.Tree.Lose), .int .i64 vs1.Tree.Win])], [(0, ⟨0, true, true, 5, [[.psl 1 (List.map (encSl 4 TApiEntry.enc) vs1.Runs), .psl 1 (List.map (encInt .i64) vs1.At), .psl 2 (List.map TApiLsKey.enc vs1.Tree.Keys), .psl 1 (List.map (encInt .i64) vs1.Tree.Lose), .int .i64 vs1.Tree.Win]]⟩), (8, ⟨0, true, true, 4, [[.str [], .str [], .bool false, .int .i64 0]]⟩), (24, ⟨0, true, true, 5, [[.nils, .nils, .nils, .nils, .int .i64 0]]⟩)], 48, []⟩) [] (Nat.le_of_ble_eq_true rfl) ⟨rF, rE, rfl, rfl, trivial, trivial⟩ ?_
 refine awp_sr2 72 [1] (fun _ => none) rfl (fun _ _ => rT) ?_
 refine awp_seq ?_
 obtain ⟨vr2, hvr2, h0⟩ := bindS h0
 refine awp_sr2 128 [1, 5] (fun | 1 => some (.tup [.int .i64 vr2.1, .int .i64 vr2.2], []) | _ => none) rfl (fun _ _ => rC (c_merge_Check hvr2)) ?_
 refine awp_sr2 144 [1, 5, 12] (fun _ => none) rfl (fun _ _ => rT) ?_
 refine awp_if rfl (fun hb3 => ?_) (fun hb3 => ?_)
 ·
  replace h0 := iteT h0 hb3
  refine awp_sr2 168 [2, 3] (fun _ => none) rfl (fun _ _ => rT) ?_
  refine awp_ret ?_
  refine kr_then ?_
  refine leave_retK (fun _ _ => rT) ?_
  refine awpo_re (s2 := ⟨[(1, .ref 0 0 0 0), (2, .ref 8 0 0 0), (4, .ref 24 0 0 0), (8, .agg [.psl 1 (List.map (encSl 4 TApiEntry.enc) vs1.Runs), .psl 1 (List.map (encInt .i64) vs1.At), .psl 2 (List.map TApiLsKey.enc vs1.Tree.Keys), .psl 1 (List.map (encInt .i64) vs1.Tree.Lose), .int .i64 vs1.Tree.Win]), (9, .tup [.nilp, .int .i64 vr2.2])], [(0, ⟨0, true, true, 5, [[.psl 1 (List.map (encSl 4 TApiEntry.enc) vs1.Runs), .psl 1 (List.map (encInt .i64) vs1.At), .psl 2 (List.map TApiLsKey.enc vs1.Tree.Keys), .psl 1 (List.map (encInt .i64) vs1.Tree.Lose), .int .i64 vs1.Tree.Win]]⟩), (8, ⟨0, true, true, 4, [[.str [], .str [], .bool false, .int .i64 0]]⟩), (24, ⟨0, true, true, 5, [[.nils, .nils, .nils, .nils, .int .i64 0]]⟩)], 168, []⟩) [] (Nat.le_of_ble_eq_true rfl) ⟨rF, rE, rfl, rfl, trivial, trivial⟩ ?_
  refine awpo_cut (l' := List.range' 2 5 ++ []) rfl ?_
  refine awpo_seg 2 5 208 [] (fun _ => none) rfl rfl rfl (fun _ _ => rT) ?_
  refine awpo_nil ?_
  refine kn_then ?_
  refine awp_re (s2 := ⟨[(2, .ref 8 0 0 0), (4, .ref 24 0 0 0), (5, .int .i64 vr2.2), (6, .nilp)], [(0, ⟨0, true, true, 5, [[.psl 1 (List.map (encSl 4 TApiEntry.enc) vs1.Runs), .psl 1 (List.map (encInt .i64) vs1.At), .psl 2 (List.map TApiLsKey.enc vs1.Tree.Keys), .psl 1 (List.map (encInt .i64) vs1.Tree.Lose), .int .i64 vs1.Tree.Win]]⟩), (8, ⟨0, true, true, 4, [[.str [], .str [], .bool false, .int .i64 0]]⟩), (24, ⟨0, true, true, 5, [[.nils, .nils, .nils, .nils, .int .i64 0]]⟩)], 208, []⟩) [] (Nat.le_of_ble_eq_true rfl) ⟨rF, rE, rfl, rfl, trivial, trivial⟩ ?_
  refine awp_seq ?_
  refine awp_sr2 224 [2, 4, 5, 6, 13] (fun _ => none) rfl (fun _ _ => rT) ?_
  refine awp_condKT rfl hb3 ?_
  refine awp_sr2 280 [2, 3, 4, 5] (fun _ => none) rfl (fun _ _ => rT) ?_
  refine awp_re (s2 := ⟨[(2, .ref 8 0 0 0), (3, .int .i64 0), (4, .ref 24 0 0 0), (5, .int .i64 vr2.2)], [(0, ⟨0, true, true, 5, [[.psl 1 (List.map (encSl 4 TApiEntry.enc) vs1.Runs), .psl 1 (List.map (encInt .i64) vs1.At), .psl 2 (List.map TApiLsKey.enc vs1.Tree.Keys), .psl 1 (List.map (encInt .i64) vs1.Tree.Lose), .int .i64 vs1.Tree.Win]]⟩), (8, ⟨0, true, true, 4, [[.str [], .str [], .bool false, .int .i64 0]]⟩), (24, ⟨0, true, false, 5, [[.nils, .sl 280 0 1 0 0, .nils, .nils, .int .i64 0]]⟩), (280, ⟨0, true, true, 1, List.map (encInt .i64) []⟩)], 281, []⟩) [(280, 1)] (Nat.le_of_ble_eq_true rfl) ⟨rF, rE, rfl, rfl, trivial, rN⟩ ?_
  refine awp_ret ?_
  refine kr_then ?_
  obtain rfl := Option.some.inj h0
  refine leave_retG [280] ?_
  exact rG
 ·
  replace h0 := iteF h0 hb3
  refine awp_skip ?_
  refine kn_then ?_
  obtain ⟨vr4, hvr4, h0⟩ := bindS h0
  obtain ⟨vr5, hvr5, h0⟩ := bindS h0
  refine awp_sd2 248 [2, 3] (fun | 2 => some (.psl 1 (vr4.map (encSl 4 TApiEntry.enc)), []) | 5 => some (.sl 0 0 1 0 vr5.length, [⟨0, true, true, 1, vr5.map (encInt .i64)⟩]) | _ => none) rfl rfl rfl (fun Kt hK => by
    try have q0 := c_slices_Clone_apiEntry hvr4
    try have q1 := c_slices_Clone_int_2 hvr5
    exact rTd) ?_
  refine awp_ret ?_
  refine leave_retK (fun _ _ => rT) ?_
  refine awpo_re (s2 := ⟨[(1, .ref 0 0 0 0), (2, .ref 8 0 0 0), (4, .ref 24 0 0 0), (8, .agg [.psl 1 (List.map (encSl 4 TApiEntry.enc) vs1.Runs), .psl 1 (List.map (encInt .i64) vs1.At), .psl 2 (List.map TApiLsKey.enc vs1.Tree.Keys), .psl 1 (List.map (encInt .i64) vs1.Tree.Lose), .int .i64 vs1.Tree.Win]), (9, .tup [.ref 224 0 0 0, .int .i64 0])], [(0, ⟨0, true, true, 5, [[.psl 1 (List.map (encSl 4 TApiEntry.enc) vs1.Runs), .psl 1 (List.map (encInt .i64) vs1.At), .psl 2 (List.map TApiLsKey.enc vs1.Tree.Keys), .psl 1 (List.map (encInt .i64) vs1.Tree.Lose), .int .i64 vs1.Tree.Win]]⟩), (8, ⟨0, true, true, 4, [[.str [], .str [], .bool false, .int .i64 0]]⟩), (24, ⟨0, true, true, 5, [[.nils, .nils, .nils, .nils, .int .i64 0]]⟩), (184, ⟨0, true, true, 1, List.map (encInt .i64) vr5⟩), (224, ⟨0, true, false, 5, [[.psl 1 (List.map (encSl 4 TApiEntry.enc) vr4), .sl 184 0 1 0 vr5.length, .psl 2 (List.map TApiLsKey.enc vs1.Tree.Keys), .psl 1 (List.map (encInt .i64) vs1.Tree.Lose), .int .i64 vs1.Tree.Win]]⟩)], 248, []⟩) [] (Nat.le_of_ble_eq_true rfl) ⟨rF, rE, rfl, rfl, trivial, trivial⟩ ?_
  refine awpo_cut (l' := List.range' 2 5 ++ []) rfl ?_
  refine awpo_seg 2 5 288 [] (fun _ => none) rfl rfl rfl (fun _ _ => rT) ?_
  refine awpo_nil ?_
  refine kn_then ?_
  refine awp_re (s2 := ⟨[(2, .ref 8 0 0 0), (4, .ref 24 0 0 0), (5, .int .i64 0), (6, .ref 224 0 0 0)], [(0, ⟨0, true, true, 5, [[.psl 1 (List.map (encSl 4 TApiEntry.enc) vs1.Runs), .psl 1 (List.map (encInt .i64) vs1.At), .psl 2 (List.map TApiLsKey.enc vs1.Tree.Keys), .psl 1 (List.map (encInt .i64) vs1.Tree.Lose), .int .i64 vs1.Tree.Win]]⟩), (8, ⟨0, true, true, 4, [[.str [], .str [], .bool false, .int .i64 0]]⟩), (24, ⟨0, true, true, 5, [[.nils, .nils, .nils, .nils, .int .i64 0]]⟩), (184, ⟨0, true, true, 1, List.map (encInt .i64) vr5⟩), (224, ⟨0, true, false, 5, [[.psl 1 (List.map (encSl 4 TApiEntry.enc) vr4), .sl 184 0 1 0 vr5.length, .psl 2 (List.map TApiLsKey.enc vs1.Tree.Keys), .psl 1 (List.map (encInt .i64) vs1.Tree.Lose), .int .i64 vs1.Tree.Win]]⟩)], 288, []⟩) [] (Nat.le_of_ble_eq_true rfl) ⟨rF, rE, rfl, rfl, trivial, trivial⟩ ?_
  refine awp_seq ?_
  refine awp_sr2 304 [2, 4, 5, 6, 13] (fun _ => none) rfl (fun _ _ => rT) ?_
  refine awp_condF rfl ?_
  refine awp_skip ?_
  refine kn_then ?_
  obtain ⟨vr6, hvr6, h0⟩ := bindS h0
  refine awp_sr2 376 [2, 3, 4, 5, 6] (fun | 1 => some (.tup [.agg (TApiEntry.enc vr6.1), .int .i64 vr6.2.1, .int .i64 vr6.2.2], []) | _ => none) rfl (fun _ _ => rC (c_merge_reader_peek hvr6)) ?_
  refine awp_seq ?_
  refine awp_sr2 392 [2, 3, 4, 5, 6, 24] (fun _ => none) rfl (fun _ _ => rT) ?_
  refine awp_if rfl (fun hb7 => ?_) (fun hb7 => ?_)
  ·
   replace h0 := iteT h0 hb7
   refine awp_sr2 448 [2, 3, 4, 5] (fun _ => none) rfl (fun _ _ => rT) ?_
   refine awp_re (s2 := ⟨[(2, .ref 8 0 0 0), (3, .int .i64 0), (4, .ref 24 0 0 0), (5, .int .i64 vr6.2.2)], [(0, ⟨0, true, true, 5, [[.psl 1 (List.map (encSl 4 TApiEntry.enc) vs1.Runs), .psl 1 (List.map (encInt .i64) vs1.At), .psl 2 (List.map TApiLsKey.enc vs1.Tree.Keys), .psl 1 (List.map (encInt .i64) vs1.Tree.Lose), .int .i64 vs1.Tree.Win]]⟩), (8, ⟨0, true, true, 4, [[.str [], .str [], .bool false, .int .i64 0]]⟩), (24, ⟨0, true, false, 5, [[.nils, .sl 448 0 1 0 0, .nils, .nils, .int .i64 0]]⟩), (184, ⟨0, true, true, 1, List.map (encInt .i64) vr5⟩), (224, ⟨0, true, false, 5, [[.psl 1 (List.map (encSl 4 TApiEntry.enc) vr4), .sl 184 0 1 0 vr5.length, .psl 2 (List.map TApiLsKey.enc vs1.Tree.Keys), .psl 1 (List.map (encInt .i64) vs1.Tree.Lose), .int .i64 vs1.Tree.Win]]⟩), (448, ⟨0, true, true, 1, List.map (encInt .i64) []⟩)], 449, []⟩) [(448, 1)] (Nat.le_of_ble_eq_true rfl) ⟨rF, rE, rfl, rfl, trivial, rN⟩ ?_
   refine awp_ret ?_
   refine kr_then ?_
   obtain rfl := Option.some.inj h0
   refine leave_retG [448] ?_
   exact rG
  ·
   replace h0 := iteF h0 hb7
   refine awp_skip ?_
   refine kn_then ?_
   refine awp_sops2 3 rfl ?_
   refine awpo_cut (l' := List.range' 0 2 ++ (2 :: (List.range' 3 0 ++ []))) rfl ?_
   refine awpo_seg 0 2 408 (2 :: (List.range' 3 0 ++ [])) (fun _ => none) rfl rfl rfl (fun _ _ => rT) ?_
   refine awpo_in rfl rfl rfl rfl rfl Try.func76 rfl (by decide) rfl (Nat.le_of_ble_eq_true rfl) ?_
   dsimp only [Try.f76]
   refine awp_re (s2 := ⟨[(0, .ref 224 0 0 0), (1, .int .i64 vr6.2.1)], [(0, ⟨0, true, true, 5, [[.psl 1 (List.map (encSl 4 TApiEntry.enc) vs1.Runs), .psl 1 (List.map (encInt .i64) vs1.At), .psl 2 (List.map TApiLsKey.enc vs1.Tree.Keys), .psl 1 (List.map (encInt .i64) vs1.Tree.Lose), .int .i64 vs1.Tree.Win]]⟩), (8, ⟨0, true, true, 4, [[.str vr6.1.Key, .str vr6.1.Val, .bool vr6.1.Dead, .int .i64 vr6.1.Seq]]⟩), (24, ⟨0, true, true, 5, [[.nils, .nils, .nils, .nils, .int .i64 0]]⟩), (184, ⟨0, true, true, 1, List.map (encInt .i64) vr5⟩), (224, ⟨0, true, false, 5, [[.psl 1 (List.map (encSl 4 TApiEntry.enc) vr4), .sl 184 0 1 0 vr5.length, .psl 2 (List.map TApiLsKey.enc vs1.Tree.Keys), .psl 1 (List.map (encInt .i64) vs1.Tree.Lose), .int .i64 vs1.Tree.Win]]⟩)], 408, []⟩) [] (Nat.le_of_ble_eq_true rfl) ⟨rF, rE, rfl, rfl, trivial, trivial⟩ ?_
   obtain ⟨e8, he8, h0⟩ := bindS h0
   obtain ⟨he8a, he8b, he8c⟩ := idxS he8
   refine awp_sr2 496 [0, 1] (fun _ => none) rfl (fun _ _ => rS (rA he8a (rA he8b he8c))) ?_
   refine awp_re (s2 := ⟨[(0, .ref 224 0 0 0), (1, .int .i64 vr6.2.1)], [(0, ⟨0, true, true, 5, [[.psl 1 (List.map (encSl 4 TApiEntry.enc) vs1.Runs), .psl 1 (List.map (encInt .i64) vs1.At), .psl 2 (List.map TApiLsKey.enc vs1.Tree.Keys), .psl 1 (List.map (encInt .i64) vs1.Tree.Lose), .int .i64 vs1.Tree.Win]]⟩), (8, ⟨0, true, true, 4, [[.str vr6.1.Key, .str vr6.1.Val, .bool vr6.1.Dead, .int .i64 vr6.1.Seq]]⟩), (24, ⟨0, true, true, 5, [[.nils, .nils, .nils, .nils, .int .i64 0]]⟩), (184, ⟨0, true, true, 1, List.map (encInt .i64) (vr5.set vr6.2.1.toNat (IntKind.i64.wrap (e8 + 1)))⟩), (224, ⟨0, true, false, 5, [[.psl 1 (List.map (encSl 4 TApiEntry.enc) vr4), .sl 184 0 1 0 ((vr5.set vr6.2.1.toNat (IntKind.i64.wrap (e8 + 1))).length), .psl 2 (List.map TApiLsKey.enc vs1.Tree.Keys), .psl 1 (List.map (encInt .i64) vs1.Tree.Lose), .int .i64 vs1.Tree.Win]]⟩)], 496, []⟩) [] (Nat.le_of_ble_eq_true rfl) ⟨rF, rE, rfl, rfl, trivial, trivial⟩ ?_
   obtain ⟨e9, he9, h0⟩ := bindS h0
   obtain ⟨he9a, he9b, he9c⟩ := idxS he9
   obtain ⟨e10, he10, h0⟩ := bindS h0
   obtain ⟨he10a, he10b, he10c⟩ := idxS he10
   obtain ⟨vr11, hvr11, h0⟩ := bindS h0
   obtain ⟨vr12, hvr12, h0⟩ := bindS h0
   refine awp_d2 752 [] (fun | 22 => some (.agg (TApiLsKey.enc vr11), []) | 23 => some (.tup [.agg (TApiLsTree.enc vr12.1), .int .i64 vr12.2.1, .int .i64 vr12.2.2], []) | _ => none) rfl rfl rfl (fun Kt hK => by
     try have q0 := c_merge_next hvr11
     try have q1 := c_loser_Replace hvr12
     exact rSd (rA he8a (rA he8b (rA he8c (rA he9a (rA he9b (rA he9c (rA he10a (rA he10b he10c))))))))) ?_
   refine leave_endK (fun _ _ => rS (rA he8a (rA he8b (rA he8c (rA he9a (rA he9b (rA he9c (rA he10a (rA he10b he10c))))))))) ?_
   refine awpo_re (s2 := ⟨[(2, .ref 8 0 0 0), (3, .int .i64 vr6.2.1), (4, .ref 24 0 0 0), (5, .int .i64 vr6.2.2), (6, .ref 224 0 0 0), (24, .bool (!(decide (vr6.2.2 = 0)))), (28, .ref 224 0 0 0), (29, .int .i64 vr6.2.1), (30, .tup [])], [(0, ⟨0, true, true, 5, [[.psl 1 (List.map (encSl 4 TApiEntry.enc) vs1.Runs), .psl 1 (List.map (encInt .i64) vs1.At), .psl 2 (List.map TApiLsKey.enc vs1.Tree.Keys), .psl 1 (List.map (encInt .i64) vs1.Tree.Lose), .int .i64 vs1.Tree.Win]]⟩), (8, ⟨0, true, true, 4, [[.str vr6.1.Key, .str vr6.1.Val, .bool vr6.1.Dead, .int .i64 vr6.1.Seq]]⟩), (24, ⟨0, true, true, 5, [[.nils, .nils, .nils, .nils, .int .i64 0]]⟩), (184, ⟨0, true, true, 1, List.map (encInt .i64) (vr5.set vr6.2.1.toNat (IntKind.i64.wrap (e8 + 1)))⟩), (224, ⟨0, true, false, 5, [[.psl 1 (List.map (encSl 4 TApiEntry.enc) vr4), .sl 184 0 1 0 ((vr5.set vr6.2.1.toNat (IntKind.i64.wrap (e8 + 1))).length), .psl 2 (List.map TApiLsKey.enc vr12.1.Keys), .psl 1 (List.map (encInt .i64) vr12.1.Lose), .int .i64 vr12.1.Win]]⟩)], 752, []⟩) [] (Nat.le_of_ble_eq_true rfl) ⟨rF, rE, rfl, rfl, trivial, trivial⟩ ?_
   refine awpo_cut (l' := []) rfl ?_
   refine awpo_nil ?_
   refine kn_then ?_
   refine awp_re (s2 := ⟨[(2, .ref 8 0 0 0), (3, .int .i64 vr6.2.1), (4, .ref 24 0 0 0), (6, .ref 224 0 0 0)], [(0, ⟨0, true, true, 5, [[.psl 1 (List.map (encSl 4 TApiEntry.enc) vs1.Runs), .psl 1 (List.map (encInt .i64) vs1.At), .psl 2 (List.map TApiLsKey.enc vs1.Tree.Keys), .psl 1 (List.map (encInt .i64) vs1.Tree.Lose), .int .i64 vs1.Tree.Win]]⟩), (8, ⟨0, true, true, 4, [[.str vr6.1.Key, .str vr6.1.Val, .bool vr6.1.Dead, .int .i64 vr6.1.Seq]]⟩), (24, ⟨0, true, true, 5, [[.nils, .nils, .nils, .nils, .int .i64 0]]⟩), (184, ⟨0, true, true, 1, List.map (encInt .i64) (vr5.set vr6.2.1.toNat (IntKind.i64.wrap (e8 + 1)))⟩), (224, ⟨0, true, false, 5, [[.psl 1 (List.map (encSl 4 TApiEntry.enc) vr4), .sl 184 0 1 0 ((vr5.set vr6.2.1.toNat (IntKind.i64.wrap (e8 + 1))).length), .psl 2 (List.map TApiLsKey.enc vr12.1.Keys), .psl 1 (List.map (encInt .i64) vr12.1.Lose), .int .i64 vr12.1.Win]]⟩)], 752, []⟩) [] (Nat.le_of_ble_eq_true rfl) ⟨rF, rE, rfl, rfl, trivial, trivial⟩ ?_
   refine awp_sd2 832 [2, 3, 4, 5] (fun _ => none) rfl rfl rfl (fun _ _ => rSd (rA he8a (rA he8b (rA he8c (rA he9a (rA he9b (rA he9c (rA he10a (rA he10b he10c))))))))) ?_
   refine awp_ret ?_
   obtain rfl := Option.some.inj h0
   refine leave_retG [184] ?_
   simp (maxSteps := 1000000) only [↓reduceIte, reduceCtorEq, Nat.reduceEqDiff, Nat.reduceLT, Nat.reduceLeDiff, Nat.reduceAdd, Nat.reduceMul, Int.reduceToNat, push_cast, Gives, he8a, he8b, he8c, he9a, he9b, he9c, he10a, he10b, he10c]
   all_goals exact rH
end Go.T
end
section
namespace Go.T
open Go Go.AM Go.Proofs
set_option maxRecDepth 100000
set_option maxHeartbeats 4000000
set_option linter.unusedVariables false
theorem c_slices_Step_3 {fu : Nat} {vs1 : TApiSlState} {n2 : Int} {r : TApiSlState × Int × Int} (h0 : slices_Step_3 fu vs1 n2 = some r) : PCall Try.prog 18 [.agg (TApiSlState.enc vs1), .int .i64 n2] (.tup [.agg [.psl 1 (List.map (encSl 4 TApiEntry.enc) r.1.Merge.Runs), .sl 0 0 1 0 r.1.Merge.At.length, .psl 2 (List.map TApiLsKey.enc r.1.Merge.Tree.Keys), .psl 1 (List.map (encInt .i64) r.1.Merge.Tree.Lose), .int .i64 r.1.Merge.Tree.Win, .bool r.1.Shadow.Some, .str r.1.Shadow.Last, .bool r.1.Shadow.Bottom, .sl 1 0 4 0 r.1.Out.length, .int .i64 r.1.Steps], .int .i64 r.2.1, .int .i64 r.2.2]) [⟨0, true, true, 1, r.1.Merge.At.map (encInt .i64)⟩, ⟨0, true, true, 4, r.1.Out.map TApiEntry.enc⟩] := by
 refine awp_pcall Try.func18 rfl (by decide) (Nat.le_of_ble_eq_true rfl) ?_
 dsimp only [Try.f18]
 rw [slices_Step_3] at h0
 refine (show AWP _ _ _ _ ⟨enumFr 0 _, [], 0, []⟩ from ?_)
 refine awp_sr2 32 [1, 2, 4] (fun _ => none) rfl (fun _ _ => rT) ?_
 obtain ⟨vr3, hvr3, h0⟩ := bindS h0
 refine awp_sr2 88 [1, 2, 4, 6, 7] (fun | 1 => some (.tup [.int .i64 vr3.1, .int .i64 vr3.2], []) | _ => none) rfl (fun _ _ => rC (c_slices_Left hvr3)) ?_
 refine awp_seq ?_
 refine awp_block ?_
 refine awp_sr2 112 [1, 2, 4, 6, 7, 15] (fun _ => none) rfl (fun _ _ => rT) ?_
 refine awp_if rfl (fun hb4 => ?_) (fun hb4 => ?_)
 ·
  replace h0 := iteT h0 hb4
  refine awp_sr2 152 [4, 5, 6] (fun _ => none) rfl (fun _ _ => rT) ?_
  refine awp_re (s2 := ⟨[(4, .ref 8 0 0 0), (5, .int .i64 0), (6, .int .i64 vr3.2)], [(0, ⟨0, true, true, 10, [[.psl 1 (List.map (encSl 4 TApiEntry.enc) vs1.Merge.Runs), .psl 1 (List.map (encInt .i64) vs1.Merge.At), .psl 2 (List.map TApiLsKey.enc vs1.Merge.Tree.Keys), .psl 1 (List.map (encInt .i64) vs1.Merge.Tree.Lose), .int .i64 vs1.Merge.Tree.Win, .bool vs1.Shadow.Some, .str vs1.Shadow.Last, .bool vs1.Shadow.Bottom, .psl 4 (List.map TApiEntry.enc vs1.Out), .int .i64 vs1.Steps]]⟩), (8, ⟨0, true, false, 10, [[.nils, .sl 152 0 1 0 0, .nils, .nils, .int .i64 0, .bool false, .str [], .bool false, .sl 153 0 4 0 0, .int .i64 0]]⟩), (152, ⟨0, true, true, 1, List.map (encInt .i64) []⟩), (153, ⟨0, true, true, 4, List.map TApiEntry.enc []⟩)], 154, []⟩) [(152, 1), (153, 4)] (Nat.le_of_ble_eq_true rfl) ⟨rF, rE, rfl, rfl, trivial, rN⟩ ?_
  refine awp_ret ?_
  refine kr_block ?_
  refine kr_then ?_
  obtain rfl := Option.some.inj h0
  refine leave_retG [152, 153] ?_
  exact rG
 ·
  replace h0 := iteF h0 hb4
  refine awp_sr2 136 [1, 2, 4, 7, 20] (fun _ => none) rfl (fun _ _ => rT) ?_
  refine awp_if rfl (fun hb5 => ?_) (fun hb5 => ?_)
  ·
   replace h0 := iteT h0 hb5
   refine awp_sr2 168 [4, 5, 6] (fun _ => none) rfl (fun _ _ => rT) ?_
   refine awp_re (s2 := ⟨[(4, .ref 8 0 0 0), (5, .int .i64 0), (6, .int .i64 7)], [(0, ⟨0, true, true, 10, [[.psl 1 (List.map (encSl 4 TApiEntry.enc) vs1.Merge.Runs), .psl 1 (List.map (encInt .i64) vs1.Merge.At), .psl 2 (List.map TApiLsKey.enc vs1.Merge.Tree.Keys), .psl 1 (List.map (encInt .i64) vs1.Merge.Tree.Lose), .int .i64 vs1.Merge.Tree.Win, .bool vs1.Shadow.Some, .str vs1.Shadow.Last, .bool vs1.Shadow.Bottom, .psl 4 (List.map TApiEntry.enc vs1.Out), .int .i64 vs1.Steps]]⟩), (8, ⟨0, true, false, 10, [[.nils, .sl 168 0 1 0 0, .nils, .nils, .int .i64 0, .bool false, .str [], .bool false, .sl 169 0 4 0 0, .int .i64 0]]⟩), (168, ⟨0, true, true, 1, List.map (encInt .i64) []⟩), (169, ⟨0, true, true, 4, List.map TApiEntry.enc []⟩)], 170, []⟩) [(168, 1), (169, 4)] (Nat.le_of_ble_eq_true rfl) ⟨rF, rE, rfl, rfl, trivial, rN⟩ ?_
   refine awp_ret ?_
   refine kr_block ?_
   refine kr_then ?_
   obtain rfl := Option.some.inj h0
   refine leave_retG [168, 169] ?_
   exact rG
  ·
   replace h0 := iteF h0 hb5
   refine awp_skip ?_
   refine kn_block ?_
   refine kn_then ?_
   refine awp_sr2 168 [2, 4, 5] (fun _ => none) rfl (fun _ _ => rT) ?_
   refine awp_seq ?_
   refine awp_sr2 208 [2, 4, 5, 31] (fun _ => none) rfl (fun _ _ => rT) ?_
   refine awp_if rfl (fun hb6 => ?_) (fun hb6 => ?_)
   ·
    replace h0 := iteT h0 hb6
    refine awp_sr2 240 [4, 5, 6] (fun _ => none) rfl (fun _ _ => rT) ?_
    refine awp_re (s2 := ⟨[(4, .ref 8 0 0 0), (5, .int .i64 0), (6, .int .i64 3)], [(0, ⟨0, true, true, 10, [[.psl 1 (List.map (encSl 4 TApiEntry.enc) vs1.Merge.Runs), .psl 1 (List.map (encInt .i64) vs1.Merge.At), .psl 2 (List.map TApiLsKey.enc vs1.Merge.Tree.Keys), .psl 1 (List.map (encInt .i64) vs1.Merge.Tree.Lose), .int .i64 vs1.Merge.Tree.Win, .bool vs1.Shadow.Some, .str vs1.Shadow.Last, .bool vs1.Shadow.Bottom, .psl 4 (List.map TApiEntry.enc vs1.Out), .int .i64 vs1.Steps]]⟩), (8, ⟨0, true, false, 10, [[.nils, .sl 240 0 1 0 0, .nils, .nils, .int .i64 0, .bool false, .str [], .bool false, .sl 241 0 4 0 0, .int .i64 0]]⟩), (240, ⟨0, true, true, 1, List.map (encInt .i64) []⟩), (241, ⟨0, true, true, 4, List.map TApiEntry.enc []⟩)], 242, []⟩) [(240, 1), (241, 4)] (Nat.le_of_ble_eq_true rfl) ⟨rF, rE, rfl, rfl, trivial, rN⟩ ?_
    refine awp_ret ?_
    refine kr_then ?_
    obtain rfl := Option.some.inj h0
    refine leave_retG [240, 241] ?_
    exact rG
   ·
    replace h0 := iteF h0 hb6
    refine awp_skip ?_
    refine kn_then ?_
    refine awp_sr2 240 [2, 4, 5, 8] (fun _ => none) rfl (fun _ _ => rT) ?_
    obtain ⟨hc7, h0⟩ := guS h0
    refine awp_sr2 288 [2, 4, 5, 8] (fun _ => none) rfl (fun _ _ => rT) ?_
    refine awp_re (s2 := ⟨[(2, .ref 0 0 0 0), (4, .ref 8 0 0 0), (5, .int .i64 (if vr3.1 < n2 then vr3.1 else n2)), (8, .ref 224 0 0 0)], [(0, ⟨0, true, true, 10, [[.psl 1 (List.map (encSl 4 TApiEntry.enc) vs1.Merge.Runs), .psl 1 (List.map (encInt .i64) vs1.Merge.At), .psl 2 (List.map TApiLsKey.enc vs1.Merge.Tree.Keys), .psl 1 (List.map (encInt .i64) vs1.Merge.Tree.Lose), .int .i64 vs1.Merge.Tree.Win, .bool vs1.Shadow.Some, .str vs1.Shadow.Last, .bool vs1.Shadow.Bottom, .psl 4 (List.map TApiEntry.enc vs1.Out), .int .i64 vs1.Steps]]⟩), (8, ⟨0, true, true, 10, [[.nils, .nils, .nils, .nils, .int .i64 0, .bool false, .str [], .bool false, .nils, .int .i64 0]]⟩), (224, ⟨0, true, false, 10, [[.psl 1 (List.map (encSl 4 TApiEntry.enc) vs1.Merge.Runs), .psl 1 (List.map (encInt .i64) vs1.Merge.At), .psl 2 (List.map TApiLsKey.enc vs1.Merge.Tree.Keys), .psl 1 (List.map (encInt .i64) vs1.Merge.Tree.Lose), .int .i64 vs1.Merge.Tree.Win, .bool vs1.Shadow.Some, .str vs1.Shadow.Last, .bool vs1.Shadow.Bottom, .sl 256 0 4 0 vs1.Out.length, .int .i64 vs1.Steps]]⟩), (256, ⟨0, true, true, 4, List.map TApiEntry.enc vs1.Out⟩)], 288, []⟩) [] (Nat.le_of_ble_eq_true rfl) ⟨rF, rE, rfl, rfl, trivial, trivial⟩ ?_
    obtain ⟨hc8, h0⟩ := guS h0
    refine awp_sr2 352 [4, 5, 8] (fun _ => none) rfl (fun _ _ => rT) ?_
    refine awp_re (s2 := ⟨[(4, .ref 8 0 0 0), (5, .int .i64 (if vr3.1 < n2 then vr3.1 else n2)), (8, .ref 224 0 0 0)], [(0, ⟨0, true, true, 10, [[.psl 1 (List.map (encSl 4 TApiEntry.enc) vs1.Merge.Runs), .psl 1 (List.map (encInt .i64) vs1.Merge.At), .psl 2 (List.map TApiLsKey.enc vs1.Merge.Tree.Keys), .psl 1 (List.map (encInt .i64) vs1.Merge.Tree.Lose), .int .i64 vs1.Merge.Tree.Win, .bool vs1.Shadow.Some, .str vs1.Shadow.Last, .bool vs1.Shadow.Bottom, .psl 4 (List.map TApiEntry.enc vs1.Out), .int .i64 vs1.Steps]]⟩), (8, ⟨0, true, true, 10, [[.nils, .nils, .nils, .nils, .int .i64 0, .bool false, .str [], .bool false, .nils, .int .i64 0]]⟩), (224, ⟨0, true, false, 10, [[.psl 1 (List.map (encSl 4 TApiEntry.enc) vs1.Merge.Runs), .sl 312 0 1 0 vs1.Merge.At.length, .psl 2 (List.map TApiLsKey.enc vs1.Merge.Tree.Keys), .psl 1 (List.map (encInt .i64) vs1.Merge.Tree.Lose), .int .i64 vs1.Merge.Tree.Win, .bool vs1.Shadow.Some, .str vs1.Shadow.Last, .bool vs1.Shadow.Bottom, .sl 256 0 4 0 vs1.Out.length, .int .i64 vs1.Steps]]⟩), (256, ⟨0, true, true, 4, List.map TApiEntry.enc vs1.Out⟩), (312, ⟨0, true, true, 1, List.map (encInt .i64) vs1.Merge.At⟩)], 352, []⟩) [] (Nat.le_of_ble_eq_true rfl) ⟨rF, rE, rfl, rfl, trivial, trivial⟩ ?_
    refine awp_seq ?_
    refine awp_sops2 4 rfl ?_
    refine awpo_cut (l' := List.range' 0 2 ++ (2 :: (List.range' 3 1 ++ []))) rfl ?_
    refine awpo_seg 0 2 368 (2 :: (List.range' 3 1 ++ [])) (fun _ => none) rfl rfl rfl (fun _ _ => rT) ?_
    refine awpo_in rfl rfl rfl rfl rfl Try.func38 rfl (by decide) rfl (Nat.le_of_ble_eq_true rfl) ?_
    dsimp only [Try.f38]
    refine awp_re (s2 := ⟨[(0, .int .i64 (if vr3.1 < n2 then vr3.1 else n2)), (1, .fn 39 [.ref 224 0 0 0] [])], [(0, ⟨0, true, true, 10, [[.psl 1 (List.map (encSl 4 TApiEntry.enc) vs1.Merge.Runs), .psl 1 (List.map (encInt .i64) vs1.Merge.At), .psl 2 (List.map TApiLsKey.enc vs1.Merge.Tree.Keys), .psl 1 (List.map (encInt .i64) vs1.Merge.Tree.Lose), .int .i64 vs1.Merge.Tree.Win, .bool vs1.Shadow.Some, .str vs1.Shadow.Last, .bool vs1.Shadow.Bottom, .psl 4 (List.map TApiEntry.enc vs1.Out), .int .i64 vs1.Steps]]⟩), (8, ⟨0, true, true, 10, [[.nils, .nils, .nils, .nils, .int .i64 0, .bool false, .str [], .bool false, .nils, .int .i64 0]]⟩), (224, ⟨0, true, false, 10, [[.psl 1 (List.map (encSl 4 TApiEntry.enc) vs1.Merge.Runs), .sl 312 0 1 0 vs1.Merge.At.length, .psl 2 (List.map TApiLsKey.enc vs1.Merge.Tree.Keys), .psl 1 (List.map (encInt .i64) vs1.Merge.Tree.Lose), .int .i64 vs1.Merge.Tree.Win, .bool vs1.Shadow.Some, .str vs1.Shadow.Last, .bool vs1.Shadow.Bottom, .sl 256 0 4 0 vs1.Out.length, .int .i64 vs1.Steps]]⟩), (256, ⟨0, true, true, 4, List.map TApiEntry.enc vs1.Out⟩), (312, ⟨0, true, true, 1, List.map (encInt .i64) vs1.Merge.At⟩)], 368, []⟩) [] (Nat.le_of_ble_eq_true rfl) ⟨rF, rE, rfl, rfl, trivial, trivial⟩ ?_
    refine awp_sr2 376 [0, 1] (fun _ => none) rfl (fun _ _ => rT) ?_
    refine awp_seq ?_
    refine awp_sr2 392 [1, 6, 7] (fun _ => none) rfl (fun _ _ => rT) ?_
    obtain ⟨x38, hxx38, h0⟩ := bindS h0
    refine awp_bloop (fun s' => ∃ o59 : List (List TApiEntry) × List TApiLsKey × List Int × Int × Bool × List UInt8 × Bool × Int × List TApiEntry × List Int, ∃ g60 : Nat, ∃ g61 : Nat, x38 = .inl o59 ∧ s'.nx ≤ 400 ∧ LeN [] s' ⟨[], [(0, ⟨0, true, true, 10, [[.psl 1 (List.map (encSl 4 TApiEntry.enc) vs1.Merge.Runs), .psl 1 (List.map (encInt .i64) vs1.Merge.At), .psl 2 (List.map TApiLsKey.enc vs1.Merge.Tree.Keys), .psl 1 (List.map (encInt .i64) vs1.Merge.Tree.Lose), .int .i64 vs1.Merge.Tree.Win, .bool vs1.Shadow.Some, .str vs1.Shadow.Last, .bool vs1.Shadow.Bottom, .psl 4 (List.map TApiEntry.enc vs1.Out), .int .i64 vs1.Steps]]⟩), (8, ⟨0, true, true, 10, [[.nils, .nils, .nils, .nils, .int .i64 0, .bool false, .str [], .bool false, .nils, .int .i64 0]]⟩), (224, ⟨0, true, false, 10, [[.psl 1 (List.map (encSl 4 TApiEntry.enc) o59.1), .sl 312 g61 1 0 o59.2.2.2.2.2.2.2.2.2.length, .psl 2 (List.map TApiLsKey.enc o59.2.1), .psl 1 (List.map (encInt .i64) o59.2.2.1), .int .i64 o59.2.2.2.1, .bool o59.2.2.2.2.1, .str o59.2.2.2.2.2.1, .bool o59.2.2.2.2.2.2.1, .sl 256 g60 4 0 o59.2.2.2.2.2.2.2.2.1.length, .int .i64 o59.2.2.2.2.2.2.2.1]]⟩), (256, ⟨g60, true, true, 4, List.map TApiEntry.enc o59.2.2.2.2.2.2.2.2.1⟩), (312, ⟨g61, true, true, 1, List.map (encInt .i64) o59.2.2.2.2.2.2.2.2.2⟩)], 400, []⟩) ?_ ?_
    ·
     intro s' hs
     obtain ⟨o59, g60, g61, rfl, hn, hs⟩ := hs
     refine kn_then ?_
     refine awp_re [] hn hs ?_
     refine awp_sr2 408 [4] (fun _ => none) rfl (fun _ _ => rT) ?_
     refine awp_ret ?_
     refine leave_retK (fun _ _ => rT) ?_
     refine awpo_re (s2 := ⟨[(4, .ref 8 0 0 0), (5, .int .i64 (if vr3.1 < n2 then vr3.1 else n2)), (8, .ref 224 0 0 0), (47, .int .i64 (if vr3.1 < n2 then vr3.1 else n2)), (48, .fn 39 [.ref 224 0 0 0] []), (49, .int .i64 0)], [(0, ⟨0, true, true, 10, [[.psl 1 (List.map (encSl 4 TApiEntry.enc) vs1.Merge.Runs), .psl 1 (List.map (encInt .i64) vs1.Merge.At), .psl 2 (List.map TApiLsKey.enc vs1.Merge.Tree.Keys), .psl 1 (List.map (encInt .i64) vs1.Merge.Tree.Lose), .int .i64 vs1.Merge.Tree.Win, .bool vs1.Shadow.Some, .str vs1.Shadow.Last, .bool vs1.Shadow.Bottom, .psl 4 (List.map TApiEntry.enc vs1.Out), .int .i64 vs1.Steps]]⟩), (8, ⟨0, true, true, 10, [[.nils, .nils, .nils, .nils, .int .i64 0, .bool false, .str [], .bool false, .nils, .int .i64 0]]⟩), (224, ⟨0, true, false, 10, [[.psl 1 (List.map (encSl 4 TApiEntry.enc) o59.1), .sl 312 g61 1 0 o59.2.2.2.2.2.2.2.2.2.length, .psl 2 (List.map TApiLsKey.enc o59.2.1), .psl 1 (List.map (encInt .i64) o59.2.2.1), .int .i64 o59.2.2.2.1, .bool o59.2.2.2.2.1, .str o59.2.2.2.2.2.1, .bool o59.2.2.2.2.2.2.1, .sl 256 g60 4 0 o59.2.2.2.2.2.2.2.2.1.length, .int .i64 o59.2.2.2.2.2.2.2.1]]⟩), (256, ⟨g60, true, true, 4, List.map TApiEntry.enc o59.2.2.2.2.2.2.2.2.1⟩), (312, ⟨g61, true, true, 1, List.map (encInt .i64) o59.2.2.2.2.2.2.2.2.2⟩)], 408, []⟩) [] (Nat.le_of_ble_eq_true rfl) ⟨rF, rE, rfl, rfl, trivial, trivial⟩ ?_
     refine awpo_cut (l' := List.range' 3 1 ++ []) rfl ?_
     refine awpo_seg 3 1 416 [] (fun _ => none) rfl rfl rfl (fun _ _ => rT) ?_
     refine awpo_nil ?_
     refine kn_then ?_
     refine awp_re (s2 := ⟨[(4, .ref 8 0 0 0), (5, .int .i64 (if vr3.1 < n2 then vr3.1 else n2)), (8, .ref 224 0 0 0), (9, .int .i64 0)], [(0, ⟨0, true, true, 10, [[.psl 1 (List.map (encSl 4 TApiEntry.enc) vs1.Merge.Runs), .psl 1 (List.map (encInt .i64) vs1.Merge.At), .psl 2 (List.map TApiLsKey.enc vs1.Merge.Tree.Keys), .psl 1 (List.map (encInt .i64) vs1.Merge.Tree.Lose), .int .i64 vs1.Merge.Tree.Win, .bool vs1.Shadow.Some, .str vs1.Shadow.Last, .bool vs1.Shadow.Bottom, .psl 4 (List.map TApiEntry.enc vs1.Out), .int .i64 vs1.Steps]]⟩), (8, ⟨0, true, true, 10, [[.nils, .nils, .nils, .nils, .int .i64 0, .bool false, .str [], .bool false, .nils, .int .i64 0]]⟩), (224, ⟨0, true, false, 10, [[.psl 1 (List.map (encSl 4 TApiEntry.enc) o59.1), .sl 312 g61 1 0 o59.2.2.2.2.2.2.2.2.2.length, .psl 2 (List.map TApiLsKey.enc o59.2.1), .psl 1 (List.map (encInt .i64) o59.2.2.1), .int .i64 o59.2.2.2.1, .bool o59.2.2.2.2.1, .str o59.2.2.2.2.2.1, .bool o59.2.2.2.2.2.2.1, .sl 256 g60 4 0 o59.2.2.2.2.2.2.2.2.1.length, .int .i64 o59.2.2.2.2.2.2.2.1]]⟩), (256, ⟨g60, true, true, 4, List.map TApiEntry.enc o59.2.2.2.2.2.2.2.2.1⟩), (312, ⟨g61, true, true, 1, List.map (encInt .i64) o59.2.2.2.2.2.2.2.2.2⟩)], 416, []⟩) [] (Nat.le_of_ble_eq_true rfl) ⟨rF, rE, rfl, rfl, trivial, trivial⟩ ?_
     refine awp_sr2 432 [4, 5, 8, 9, 51] (fun _ => none) rfl (fun _ _ => rT) ?_
     refine awp_condF rfl ?_
     refine awp_skip ?_
     refine kn_then ?_
     refine awp_sr2 480 [4, 5, 6] (fun _ => none) rfl (fun _ _ => rT) ?_
     refine awp_ret ?_
     obtain rfl := Option.some.inj h0
     refine leave_retG [312, 256] ?_
     exact rG
    ·
     refine awp_loopF (ι := { p : Nat × List Int × Int × List (List TApiEntry) × List TApiLsKey × List Int × Int × Bool × List UInt8 × Bool × Int × List TApiEntry × Nat × Nat // slices_Step_3_l1 vr3 n2 p.1 p.2.1 p.2.2.1 p.2.2.2.1 p.2.2.2.2.1 p.2.2.2.2.2.1 p.2.2.2.2.2.2.1 p.2.2.2.2.2.2.2.1 p.2.2.2.2.2.2.2.2.1 p.2.2.2.2.2.2.2.2.2.1 p.2.2.2.2.2.2.2.2.2.2.1 p.2.2.2.2.2.2.2.2.2.2.2.1 = some x38 }) (fun p => ⟨[(1, .fn 39 [.ref 224 0 0 0] []), (6, .int .i64 (if vr3.1 < n2 then vr3.1 else n2)), (7, .int .i64 p.1.2.2.1)], [(0, ⟨0, true, true, 10, [[.psl 1 (List.map (encSl 4 TApiEntry.enc) vs1.Merge.Runs), .psl 1 (List.map (encInt .i64) vs1.Merge.At), .psl 2 (List.map TApiLsKey.enc vs1.Merge.Tree.Keys), .psl 1 (List.map (encInt .i64) vs1.Merge.Tree.Lose), .int .i64 vs1.Merge.Tree.Win, .bool vs1.Shadow.Some, .str vs1.Shadow.Last, .bool vs1.Shadow.Bottom, .psl 4 (List.map TApiEntry.enc vs1.Out), .int .i64 vs1.Steps]]⟩), (8, ⟨0, true, true, 10, [[.nils, .nils, .nils, .nils, .int .i64 0, .bool false, .str [], .bool false, .nils, .int .i64 0]]⟩), (224, ⟨0, true, false, 10, [[.psl 1 (List.map (encSl 4 TApiEntry.enc) p.1.2.2.2.1), .sl 312 p.1.2.2.2.2.2.2.2.2.2.2.2.2.2 1 0 p.1.2.1.length, .psl 2 (List.map TApiLsKey.enc p.1.2.2.2.2.1), .psl 1 (List.map (encInt .i64) p.1.2.2.2.2.2.1), .int .i64 p.1.2.2.2.2.2.2.1, .bool p.1.2.2.2.2.2.2.2.1, .str p.1.2.2.2.2.2.2.2.2.1, .bool p.1.2.2.2.2.2.2.2.2.2.1, .sl 256 p.1.2.2.2.2.2.2.2.2.2.2.2.2.1 4 0 p.1.2.2.2.2.2.2.2.2.2.2.2.1.length, .int .i64 p.1.2.2.2.2.2.2.2.2.2.2.1]]⟩), (256, ⟨p.1.2.2.2.2.2.2.2.2.2.2.2.2.1, true, true, 4, List.map TApiEntry.enc p.1.2.2.2.2.2.2.2.2.2.2.2.1⟩), (312, ⟨p.1.2.2.2.2.2.2.2.2.2.2.2.2.2, true, true, 1, List.map (encInt .i64) p.1.2.1⟩)], 392, []⟩) (fun p => p.1.1) ⟨(fu, vs1.Merge.At, 0, vs1.Merge.Runs, vs1.Merge.Tree.Keys, vs1.Merge.Tree.Lose, vs1.Merge.Tree.Win, vs1.Shadow.Some, vs1.Shadow.Last, vs1.Shadow.Bottom, vs1.Steps, vs1.Out, 0, 0), hxx38⟩ ⟨rF, rE, rfl, rfl, trivial, trivial⟩ (fun _ => Nat.le_refl _) ?_
     rintro ⟨⟨fu, v39, left40, v41, v42, v43, v44, v45, v46, v47, v48, v49, g50, g51⟩, h1⟩
     cases fu with
     | zero =>
   replace h1 : slices_Step_3_l1 vr3 n2 0 v39 left40 v41 v42 v43 v44 v45 v46 v47 v48 v49 = some x38 := h1
   rw [slices_Step_3_l1] at h1; cases h1
     | succ fu =>
      replace h1 : slices_Step_3_l1 vr3 n2 (fu + 1) v39 left40 v41 v42 v43 v44 v45 v46 v47 v48 v49 = some x38 := h1
      rw [slices_Step_3_l1] at h1
      refine (show AWP _ _ _ _ ⟨[(1, .fn 39 [.ref 224 0 0 0] []), (6, .int .i64 (if vr3.1 < n2 then vr3.1 else n2)), (7, .int .i64 left40)], [(0, ⟨0, true, true, 10, [[.psl 1 (List.map (encSl 4 TApiEntry.enc) vs1.Merge.Runs), .psl 1 (List.map (encInt .i64) vs1.Merge.At), .psl 2 (List.map TApiLsKey.enc vs1.Merge.Tree.Keys), .psl 1 (List.map (encInt .i64) vs1.Merge.Tree.Lose), .int .i64 vs1.Merge.Tree.Win, .bool vs1.Shadow.Some, .str vs1.Shadow.Last, .bool vs1.Shadow.Bottom, .psl 4 (List.map TApiEntry.enc vs1.Out), .int .i64 vs1.Steps]]⟩), (8, ⟨0, true, true, 10, [[.nils, .nils, .nils, .nils, .int .i64 0, .bool false, .str [], .bool false, .nils, .int .i64 0]]⟩), (224, ⟨0, true, false, 10, [[.psl 1 (List.map (encSl 4 TApiEntry.enc) v41), .sl 312 g51 1 0 v39.length, .psl 2 (List.map TApiLsKey.enc v42), .psl 1 (List.map (encInt .i64) v43), .int .i64 v44, .bool v45, .str v46, .bool v47, .sl 256 g50 4 0 v49.length, .int .i64 v48]]⟩), (256, ⟨g50, true, true, 4, List.map TApiEntry.enc v49⟩), (312, ⟨g51, true, true, 1, List.map (encInt .i64) v39⟩)], 392, []⟩ from ?_)
      refine awp_sr2 400 [1, 6, 7, 8] (fun _ => none) rfl (fun _ _ => rT) ?_
      refine awp_seq ?_
      refine awp_if rfl (fun hb52 => ?_) (fun hb52 => ?_)
      ·
       replace h1 := iteT h1 hb52
       refine awp_skip ?_
       refine kn_then ?_
       refine awp_seq ?_
       refine awp_block ?_
       refine awp_sops2 3 rfl ?_
       refine awpo_cut (l' := List.range' 0 1 ++ (1 :: (List.range' 2 1 ++ []))) rfl ?_
       refine awpo_seg 0 1 408 (1 :: (List.range' 2 1 ++ [])) (fun _ => none) rfl rfl rfl (fun _ _ => rT) ?_
       refine awpo_in rfl rfl rfl rfl rfl Try.func39 rfl (by decide) rfl (Nat.le_of_ble_eq_true rfl) ?_
       dsimp only [Try.f39]
       refine awp_re (s2 := ⟨[(0, .ref 224 0 0 0)], [(0, ⟨0, true, true, 10, [[.psl 1 (List.map (encSl 4 TApiEntry.enc) vs1.Merge.Runs), .psl 1 (List.map (encInt .i64) vs1.Merge.At), .psl 2 (List.map TApiLsKey.enc vs1.Merge.Tree.Keys), .psl 1 (List.map (encInt .i64) vs1.Merge.Tree.Lose), .int .i64 vs1.Merge.Tree.Win, .bool vs1.Shadow.Some, .str vs1.Shadow.Last, .bool vs1.Shadow.Bottom, .psl 4 (List.map TApiEntry.enc vs1.Out), .int .i64 vs1.Steps]]⟩), (8, ⟨0, true, true, 10, [[.nils, .nils, .nils, .nils, .int .i64 0, .bool false, .str [], .bool false, .nils, .int .i64 0]]⟩), (224, ⟨0, true, false, 10, [[.psl 1 (List.map (encSl 4 TApiEntry.enc) v41), .sl 312 g51 1 0 v39.length, .psl 2 (List.map TApiLsKey.enc v42), .psl 1 (List.map (encInt .i64) v43), .int .i64 v44, .bool v45, .str v46, .bool v47, .sl 256 g50 4 0 v49.length, .int .i64 v48]]⟩), (256, ⟨g50, true, true, 4, List.map TApiEntry.enc v49⟩), (312, ⟨g51, true, true, 1, List.map (encInt .i64) v39⟩)], 408, []⟩) [] (Nat.le_of_ble_eq_true rfl) ⟨rF, rE, rfl, rfl, trivial, trivial⟩ ?_
       refine awp_sr2 416 [0] (fun _ => none) rfl (fun _ _ => rT) ?_
       obtain ⟨vr53, hvr53, h1⟩ := bindS h1
       refine awp_sr2 552 [0, 3, 5, 6] (fun | 5 => some (.tup [.agg [.str vr53.1.Key, .str vr53.1.Val, .bool vr53.1.Dead, .int .i64 vr53.1.Seq], .int .i64 vr53.2.1, .agg [.psl 1 (List.map (encSl 4 TApiEntry.enc) vr53.2.2.1.Runs), .sl 0 0 1 0 vr53.2.2.1.At.length, .psl 2 (List.map TApiLsKey.enc vr53.2.2.1.Tree.Keys), .psl 1 (List.map (encInt .i64) vr53.2.2.1.Tree.Lose), .int .i64 vr53.2.2.1.Tree.Win], .int .i64 vr53.2.2.2], [⟨0, true, true, 1, vr53.2.2.1.At.map (encInt .i64)⟩]) | _ => none) rfl (fun _ _ => rC (c_merge_Next_2 hvr53)) ?_
       refine awp_seq ?_
       refine awp_sr2 568 [0, 3, 5, 6, 21] (fun _ => none) rfl (fun _ _ => rT) ?_
       refine awp_if rfl (fun hb54 => ?_) (fun hb54 => ?_)
       ·
        replace h1 := iteT h1 hb54
        refine awp_sr2 584 [2] (fun _ => none) rfl (fun _ _ => rT) ?_
        refine awp_ret ?_
        refine kr_then ?_
        refine leave_retK (fun _ _ => rT) ?_
        refine awpo_re (s2 := ⟨[(1, .fn 39 [.ref 224 0 0 0] []), (6, .int .i64 (if vr3.1 < n2 then vr3.1 else n2)), (7, .int .i64 left40), (8, .bool (decide (left40 < (if vr3.1 < n2 then vr3.1 else n2)))), (9, .fn 39 [.ref 224 0 0 0] []), (10, .int .i64 vr53.2.2.2)], [(0, ⟨0, true, true, 10, [[.psl 1 (List.map (encSl 4 TApiEntry.enc) vs1.Merge.Runs), .psl 1 (List.map (encInt .i64) vs1.Merge.At), .psl 2 (List.map TApiLsKey.enc vs1.Merge.Tree.Keys), .psl 1 (List.map (encInt .i64) vs1.Merge.Tree.Lose), .int .i64 vs1.Merge.Tree.Win, .bool vs1.Shadow.Some, .str vs1.Shadow.Last, .bool vs1.Shadow.Bottom, .psl 4 (List.map TApiEntry.enc vs1.Out), .int .i64 vs1.Steps]]⟩), (8, ⟨0, true, true, 10, [[.nils, .nils, .nils, .nils, .int .i64 0, .bool false, .str [], .bool false, .nils, .int .i64 0]]⟩), (224, ⟨0, true, false, 10, [[.psl 1 (List.map (encSl 4 TApiEntry.enc) v41), .sl 312 g51 1 0 v39.length, .psl 2 (List.map TApiLsKey.enc v42), .psl 1 (List.map (encInt .i64) v43), .int .i64 v44, .bool v45, .str v46, .bool v47, .sl 256 g50 4 0 v49.length, .int .i64 v48]]⟩), (256, ⟨g50, true, true, 4, List.map TApiEntry.enc v49⟩), (312, ⟨g51, false, true, 1, List.map (encInt .i64) v39⟩)], 584, []⟩) [] (Nat.le_of_ble_eq_true rfl) ⟨rF, rE, rfl, rfl, trivial, trivial⟩ ?_
        refine awpo_cut (l' := List.range' 2 1 ++ []) rfl ?_
        refine awpo_seg 2 1 592 [] (fun _ => none) rfl rfl rfl (fun _ _ => rT) ?_
        refine awpo_nil ?_
        refine kn_then ?_
        refine awp_re (s2 := ⟨[(1, .fn 39 [.ref 224 0 0 0] []), (5, .int .i64 vr53.2.2.2), (6, .int .i64 (if vr3.1 < n2 then vr3.1 else n2)), (7, .int .i64 left40)], [(0, ⟨0, true, true, 10, [[.psl 1 (List.map (encSl 4 TApiEntry.enc) vs1.Merge.Runs), .psl 1 (List.map (encInt .i64) vs1.Merge.At), .psl 2 (List.map TApiLsKey.enc vs1.Merge.Tree.Keys), .psl 1 (List.map (encInt .i64) vs1.Merge.Tree.Lose), .int .i64 vs1.Merge.Tree.Win, .bool vs1.Shadow.Some, .str vs1.Shadow.Last, .bool vs1.Shadow.Bottom, .psl 4 (List.map TApiEntry.enc vs1.Out), .int .i64 vs1.Steps]]⟩), (8, ⟨0, true, true, 10, [[.nils, .nils, .nils, .nils, .int .i64 0, .bool false, .str [], .bool false, .nils, .int .i64 0]]⟩), (224, ⟨0, true, false, 10, [[.psl 1 (List.map (encSl 4 TApiEntry.enc) v41), .sl 312 g51 1 0 v39.length, .psl 2 (List.map TApiLsKey.enc v42), .psl 1 (List.map (encInt .i64) v43), .int .i64 v44, .bool v45, .str v46, .bool v47, .sl 256 g50 4 0 v49.length, .int .i64 v48]]⟩), (256, ⟨g50, true, true, 4, List.map TApiEntry.enc v49⟩), (312, ⟨g51, false, true, 1, List.map (encInt .i64) v39⟩)], 592, []⟩) [] (Nat.le_of_ble_eq_true rfl) ⟨rF, rE, rfl, rfl, trivial, trivial⟩ ?_
        refine awp_sr2 608 [1, 5, 6, 7, 12] (fun _ => none) rfl (fun _ _ => rT) ?_
        refine awp_condKT rfl hb54 ?_
        refine awp_sr2 624 [4] (fun _ => none) rfl (fun _ _ => rT) ?_
        refine awp_ret ?_
        obtain rfl := Option.some.inj h1
        refine kr_block ?_
        refine kr_then ?_
        refine kr_then ?_
        refine kr_loop ?_
        refine kr_then ?_
        refine leave_retK (fun _ _ => rT) ?_
        refine awpo_re (s2 := ⟨[(4, .ref 8 0 0 0), (5, .int .i64 (if vr3.1 < n2 then vr3.1 else n2)), (8, .ref 224 0 0 0), (47, .int .i64 (if vr3.1 < n2 then vr3.1 else n2)), (48, .fn 39 [.ref 224 0 0 0] []), (49, .int .i64 vr53.2.2.2)], [(0, ⟨0, true, true, 10, [[.psl 1 (List.map (encSl 4 TApiEntry.enc) vs1.Merge.Runs), .psl 1 (List.map (encInt .i64) vs1.Merge.At), .psl 2 (List.map TApiLsKey.enc vs1.Merge.Tree.Keys), .psl 1 (List.map (encInt .i64) vs1.Merge.Tree.Lose), .int .i64 vs1.Merge.Tree.Win, .bool vs1.Shadow.Some, .str vs1.Shadow.Last, .bool vs1.Shadow.Bottom, .psl 4 (List.map TApiEntry.enc vs1.Out), .int .i64 vs1.Steps]]⟩), (8, ⟨0, true, true, 10, [[.nils, .nils, .nils, .nils, .int .i64 0, .bool false, .str [], .bool false, .nils, .int .i64 0]]⟩), (224, ⟨0, true, false, 10, [[.psl 1 (List.map (encSl 4 TApiEntry.enc) v41), .sl 312 g51 1 0 v39.length, .psl 2 (List.map TApiLsKey.enc v42), .psl 1 (List.map (encInt .i64) v43), .int .i64 v44, .bool v45, .str v46, .bool v47, .sl 256 g50 4 0 v49.length, .int .i64 v48]]⟩), (256, ⟨g50, true, true, 4, List.map TApiEntry.enc v49⟩), (312, ⟨g51, false, true, 1, List.map (encInt .i64) v39⟩)], 624, []⟩) [] (Nat.le_of_ble_eq_true rfl) ⟨rF, rE, rfl, rfl, trivial, trivial⟩ ?_
        refine awpo_cut (l' := List.range' 3 1 ++ []) rfl ?_
        refine awpo_seg 3 1 632 [] (fun _ => none) rfl rfl rfl (fun _ _ => rT) ?_
        refine awpo_nil ?_
        refine kn_then ?_
        refine awp_re (s2 := ⟨[(4, .ref 8 0 0 0), (5, .int .i64 (if vr3.1 < n2 then vr3.1 else n2)), (8, .ref 224 0 0 0), (9, .int .i64 vr53.2.2.2)], [(0, ⟨0, true, true, 10, [[.psl 1 (List.map (encSl 4 TApiEntry.enc) vs1.Merge.Runs), .psl 1 (List.map (encInt .i64) vs1.Merge.At), .psl 2 (List.map TApiLsKey.enc vs1.Merge.Tree.Keys), .psl 1 (List.map (encInt .i64) vs1.Merge.Tree.Lose), .int .i64 vs1.Merge.Tree.Win, .bool vs1.Shadow.Some, .str vs1.Shadow.Last, .bool vs1.Shadow.Bottom, .psl 4 (List.map TApiEntry.enc vs1.Out), .int .i64 vs1.Steps]]⟩), (8, ⟨0, true, true, 10, [[.nils, .nils, .nils, .nils, .int .i64 0, .bool false, .str [], .bool false, .nils, .int .i64 0]]⟩), (224, ⟨0, true, false, 10, [[.psl 1 (List.map (encSl 4 TApiEntry.enc) v41), .sl 312 g51 1 0 v39.length, .psl 2 (List.map TApiLsKey.enc v42), .psl 1 (List.map (encInt .i64) v43), .int .i64 v44, .bool v45, .str v46, .bool v47, .sl 256 g50 4 0 v49.length, .int .i64 v48]]⟩), (256, ⟨g50, true, true, 4, List.map TApiEntry.enc v49⟩), (312, ⟨g51, false, true, 1, List.map (encInt .i64) v39⟩)], 632, []⟩) [] (Nat.le_of_ble_eq_true rfl) ⟨rF, rE, rfl, rfl, trivial, trivial⟩ ?_
        refine awp_sr2 648 [4, 5, 8, 9, 51] (fun _ => none) rfl (fun _ _ => rT) ?_
        refine awp_condKT rfl hb54 ?_
        refine awp_sr2 688 [4, 5, 6] (fun _ => none) rfl (fun _ _ => rT) ?_
        refine awp_re (s2 := ⟨[(4, .ref 8 0 0 0), (5, .int .i64 0), (6, .int .i64 vr53.2.2.2)], [(0, ⟨0, true, true, 10, [[.psl 1 (List.map (encSl 4 TApiEntry.enc) vs1.Merge.Runs), .psl 1 (List.map (encInt .i64) vs1.Merge.At), .psl 2 (List.map TApiLsKey.enc vs1.Merge.Tree.Keys), .psl 1 (List.map (encInt .i64) vs1.Merge.Tree.Lose), .int .i64 vs1.Merge.Tree.Win, .bool vs1.Shadow.Some, .str vs1.Shadow.Last, .bool vs1.Shadow.Bottom, .psl 4 (List.map TApiEntry.enc vs1.Out), .int .i64 vs1.Steps]]⟩), (8, ⟨0, true, false, 10, [[.nils, .sl 688 0 1 0 0, .nils, .nils, .int .i64 0, .bool false, .str [], .bool false, .sl 689 0 4 0 0, .int .i64 0]]⟩), (224, ⟨0, true, false, 10, [[.psl 1 (List.map (encSl 4 TApiEntry.enc) v41), .sl 312 g51 1 0 v39.length, .psl 2 (List.map TApiLsKey.enc v42), .psl 1 (List.map (encInt .i64) v43), .int .i64 v44, .bool v45, .str v46, .bool v47, .sl 256 g50 4 0 v49.length, .int .i64 v48]]⟩), (256, ⟨g50, true, true, 4, List.map TApiEntry.enc v49⟩), (312, ⟨g51, false, true, 1, List.map (encInt .i64) v39⟩), (688, ⟨0, true, true, 1, List.map (encInt .i64) []⟩), (689, ⟨0, true, true, 4, List.map TApiEntry.enc []⟩)], 690, []⟩) [(688, 1), (689, 4)] (Nat.le_of_ble_eq_true rfl) ⟨rF, rE, rfl, rfl, trivial, rN⟩ ?_
        refine awp_ret ?_
        refine kr_then ?_
        obtain rfl := Option.some.inj h0
        refine leave_retG [688, 689] ?_
        exact rG
       ·
        replace h1 := iteF h1 hb54
        refine awp_skip ?_
        refine kn_then ?_
        obtain ⟨vr55, hvr55, h1⟩ := bindS h1
        refine awp_sd2 688 [0, 3, 5, 6, 7, 8] (fun | 6 => some (.tup [.bool vr55.1, .agg (TApiShState.enc vr55.2.1), .int .i64 vr55.2.2], []) | _ => none) rfl rfl rfl (fun _ _ => rCd (c_shadow_Step hvr55)) ?_
        refine awp_seq ?_
        refine awp_sr2 704 [0, 3, 5, 6, 7, 8, 35] (fun _ => none) rfl (fun _ _ => rT) ?_
        refine awp_if rfl (fun hb56 => ?_) (fun hb56 => ?_)
        ·
         replace h1 := iteT h1 hb56
         refine awp_sr2 720 [2] (fun _ => none) rfl (fun _ _ => rT) ?_
         refine awp_ret ?_
         refine kr_then ?_
         refine leave_retK (fun _ _ => rT) ?_
         refine awpo_re (s2 := ⟨[(1, .fn 39 [.ref 224 0 0 0] []), (6, .int .i64 (if vr3.1 < n2 then vr3.1 else n2)), (7, .int .i64 left40), (8, .bool (decide (left40 < (if vr3.1 < n2 then vr3.1 else n2)))), (9, .fn 39 [.ref 224 0 0 0] []), (10, .int .i64 vr55.2.2)], [(0, ⟨0, true, true, 10, [[.psl 1 (List.map (encSl 4 TApiEntry.enc) vs1.Merge.Runs), .psl 1 (List.map (encInt .i64) vs1.Merge.At), .psl 2 (List.map TApiLsKey.enc vs1.Merge.Tree.Keys), .psl 1 (List.map (encInt .i64) vs1.Merge.Tree.Lose), .int .i64 vs1.Merge.Tree.Win, .bool vs1.Shadow.Some, .str vs1.Shadow.Last, .bool vs1.Shadow.Bottom, .psl 4 (List.map TApiEntry.enc vs1.Out), .int .i64 vs1.Steps]]⟩), (8, ⟨0, true, true, 10, [[.nils, .nils, .nils, .nils, .int .i64 0, .bool false, .str [], .bool false, .nils, .int .i64 0]]⟩), (224, ⟨0, true, false, 10, [[.psl 1 (List.map (encSl 4 TApiEntry.enc) v41), .sl 312 g51 1 0 v39.length, .psl 2 (List.map TApiLsKey.enc v42), .psl 1 (List.map (encInt .i64) v43), .int .i64 v44, .bool v45, .str v46, .bool v47, .sl 256 g50 4 0 v49.length, .int .i64 v48]]⟩), (256, ⟨g50, true, true, 4, List.map TApiEntry.enc v49⟩), (312, ⟨g51, false, true, 1, List.map (encInt .i64) v39⟩)], 720, []⟩) [] (Nat.le_of_ble_eq_true rfl) ⟨rF, rE, rfl, rfl, trivial, trivial⟩ ?_
         refine awpo_cut (l' := List.range' 2 1 ++ []) rfl ?_
         refine awpo_seg 2 1 728 [] (fun _ => none) rfl rfl rfl (fun _ _ => rT) ?_
         refine awpo_nil ?_
         refine kn_then ?_
         refine awp_re (s2 := ⟨[(1, .fn 39 [.ref 224 0 0 0] []), (5, .int .i64 vr55.2.2), (6, .int .i64 (if vr3.1 < n2 then vr3.1 else n2)), (7, .int .i64 left40)], [(0, ⟨0, true, true, 10, [[.psl 1 (List.map (encSl 4 TApiEntry.enc) vs1.Merge.Runs), .psl 1 (List.map (encInt .i64) vs1.Merge.At), .psl 2 (List.map TApiLsKey.enc vs1.Merge.Tree.Keys), .psl 1 (List.map (encInt .i64) vs1.Merge.Tree.Lose), .int .i64 vs1.Merge.Tree.Win, .bool vs1.Shadow.Some, .str vs1.Shadow.Last, .bool vs1.Shadow.Bottom, .psl 4 (List.map TApiEntry.enc vs1.Out), .int .i64 vs1.Steps]]⟩), (8, ⟨0, true, true, 10, [[.nils, .nils, .nils, .nils, .int .i64 0, .bool false, .str [], .bool false, .nils, .int .i64 0]]⟩), (224, ⟨0, true, false, 10, [[.psl 1 (List.map (encSl 4 TApiEntry.enc) v41), .sl 312 g51 1 0 v39.length, .psl 2 (List.map TApiLsKey.enc v42), .psl 1 (List.map (encInt .i64) v43), .int .i64 v44, .bool v45, .str v46, .bool v47, .sl 256 g50 4 0 v49.length, .int .i64 v48]]⟩), (256, ⟨g50, true, true, 4, List.map TApiEntry.enc v49⟩), (312, ⟨g51, false, true, 1, List.map (encInt .i64) v39⟩)], 728, []⟩) [] (Nat.le_of_ble_eq_true rfl) ⟨rF, rE, rfl, rfl, trivial, trivial⟩ ?_
         refine awp_sr2 744 [1, 5, 6, 7, 12] (fun _ => none) rfl (fun _ _ => rT) ?_
         refine awp_condKT rfl hb56 ?_
         refine awp_sr2 760 [4] (fun _ => none) rfl (fun _ _ => rT) ?_
         refine awp_ret ?_
         obtain rfl := Option.some.inj h1
         refine kr_block ?_
         refine kr_then ?_
         refine kr_then ?_
         refine kr_loop ?_
         refine kr_then ?_
         refine leave_retK (fun _ _ => rT) ?_
         refine awpo_re (s2 := ⟨[(4, .ref 8 0 0 0), (5, .int .i64 (if vr3.1 < n2 then vr3.1 else n2)), (8, .ref 224 0 0 0), (47, .int .i64 (if vr3.1 < n2 then vr3.1 else n2)), (48, .fn 39 [.ref 224 0 0 0] []), (49, .int .i64 vr55.2.2)], [(0, ⟨0, true, true, 10, [[.psl 1 (List.map (encSl 4 TApiEntry.enc) vs1.Merge.Runs), .psl 1 (List.map (encInt .i64) vs1.Merge.At), .psl 2 (List.map TApiLsKey.enc vs1.Merge.Tree.Keys), .psl 1 (List.map (encInt .i64) vs1.Merge.Tree.Lose), .int .i64 vs1.Merge.Tree.Win, .bool vs1.Shadow.Some, .str vs1.Shadow.Last, .bool vs1.Shadow.Bottom, .psl 4 (List.map TApiEntry.enc vs1.Out), .int .i64 vs1.Steps]]⟩), (8, ⟨0, true, true, 10, [[.nils, .nils, .nils, .nils, .int .i64 0, .bool false, .str [], .bool false, .nils, .int .i64 0]]⟩), (224, ⟨0, true, false, 10, [[.psl 1 (List.map (encSl 4 TApiEntry.enc) v41), .sl 312 g51 1 0 v39.length, .psl 2 (List.map TApiLsKey.enc v42), .psl 1 (List.map (encInt .i64) v43), .int .i64 v44, .bool v45, .str v46, .bool v47, .sl 256 g50 4 0 v49.length, .int .i64 v48]]⟩), (256, ⟨g50, true, true, 4, List.map TApiEntry.enc v49⟩), (312, ⟨g51, false, true, 1, List.map (encInt .i64) v39⟩)], 760, []⟩) [] (Nat.le_of_ble_eq_true rfl) ⟨rF, rE, rfl, rfl, trivial, trivial⟩ ?_
         refine awpo_cut (l' := List.range' 3 1 ++ []) rfl ?_
         refine awpo_seg 3 1 768 [] (fun _ => none) rfl rfl rfl (fun _ _ => rT) ?_
         refine awpo_nil ?_
         refine kn_then ?_
         refine awp_re (s2 := ⟨[(4, .ref 8 0 0 0), (5, .int .i64 (if vr3.1 < n2 then vr3.1 else n2)), (8, .ref 224 0 0 0), (9, .int .i64 vr55.2.2)], [(0, ⟨0, true, true, 10, [[.psl 1 (List.map (encSl 4 TApiEntry.enc) vs1.Merge.Runs), .psl 1 (List.map (encInt .i64) vs1.Merge.At), .psl 2 (List.map TApiLsKey.enc vs1.Merge.Tree.Keys), .psl 1 (List.map (encInt .i64) vs1.Merge.Tree.Lose), .int .i64 vs1.Merge.Tree.Win, .bool vs1.Shadow.Some, .str vs1.Shadow.Last, .bool vs1.Shadow.Bottom, .psl 4 (List.map TApiEntry.enc vs1.Out), .int .i64 vs1.Steps]]⟩), (8, ⟨0, true, true, 10, [[.nils, .nils, .nils, .nils, .int .i64 0, .bool false, .str [], .bool false, .nils, .int .i64 0]]⟩), (224, ⟨0, true, false, 10, [[.psl 1 (List.map (encSl 4 TApiEntry.enc) v41), .sl 312 g51 1 0 v39.length, .psl 2 (List.map TApiLsKey.enc v42), .psl 1 (List.map (encInt .i64) v43), .int .i64 v44, .bool v45, .str v46, .bool v47, .sl 256 g50 4 0 v49.length, .int .i64 v48]]⟩), (256, ⟨g50, true, true, 4, List.map TApiEntry.enc v49⟩), (312, ⟨g51, false, true, 1, List.map (encInt .i64) v39⟩)], 768, []⟩) [] (Nat.le_of_ble_eq_true rfl) ⟨rF, rE, rfl, rfl, trivial, trivial⟩ ?_
         refine awp_sr2 784 [4, 5, 8, 9, 51] (fun _ => none) rfl (fun _ _ => rT) ?_
         refine awp_condKT rfl hb56 ?_
         refine awp_sr2 824 [4, 5, 6] (fun _ => none) rfl (fun _ _ => rT) ?_
         refine awp_re (s2 := ⟨[(4, .ref 8 0 0 0), (5, .int .i64 0), (6, .int .i64 vr55.2.2)], [(0, ⟨0, true, true, 10, [[.psl 1 (List.map (encSl 4 TApiEntry.enc) vs1.Merge.Runs), .psl 1 (List.map (encInt .i64) vs1.Merge.At), .psl 2 (List.map TApiLsKey.enc vs1.Merge.Tree.Keys), .psl 1 (List.map (encInt .i64) vs1.Merge.Tree.Lose), .int .i64 vs1.Merge.Tree.Win, .bool vs1.Shadow.Some, .str vs1.Shadow.Last, .bool vs1.Shadow.Bottom, .psl 4 (List.map TApiEntry.enc vs1.Out), .int .i64 vs1.Steps]]⟩), (8, ⟨0, true, false, 10, [[.nils, .sl 824 0 1 0 0, .nils, .nils, .int .i64 0, .bool false, .str [], .bool false, .sl 825 0 4 0 0, .int .i64 0]]⟩), (224, ⟨0, true, false, 10, [[.psl 1 (List.map (encSl 4 TApiEntry.enc) v41), .sl 312 g51 1 0 v39.length, .psl 2 (List.map TApiLsKey.enc v42), .psl 1 (List.map (encInt .i64) v43), .int .i64 v44, .bool v45, .str v46, .bool v47, .sl 256 g50 4 0 v49.length, .int .i64 v48]]⟩), (256, ⟨g50, true, true, 4, List.map TApiEntry.enc v49⟩), (312, ⟨g51, false, true, 1, List.map (encInt .i64) v39⟩), (824, ⟨0, true, true, 1, List.map (encInt .i64) []⟩), (825, ⟨0, true, true, 4, List.map TApiEntry.enc []⟩)], 826, []⟩) [(824, 1), (825, 4)] (Nat.le_of_ble_eq_true rfl) ⟨rF, rE, rfl, rfl, trivial, rN⟩ ?_
         refine awp_ret ?_
         refine kr_then ?_
         obtain rfl := Option.some.inj h0
         refine leave_retG [824, 825] ?_
         exact rG
        ·
         replace h1 := iteF h1 hb56
         refine awp_skip ?_
         refine kn_then ?_
         refine awp_sd2 800 [0, 3, 7] (fun _ => none) rfl rfl rfl (fun _ _ => rTd) ?_
         refine awp_ren2 456 312 rfl rfl (by decide) rfl (fun Kt hK => by simp only [St.ren, renFr, renHp, AV.ren, AV.ren.rens, ABlk.ren, hset, List.map, List.map_nil, List.map_cons, Nat.reduceEqDiff, reduceIte, if_true, if_false, true_and, and_true, false_and, and_false, Bool.false_eq_true, eq_self, Nat.reduceAdd, Nat.zero_add]; exact hK) ?_
         refine awp_sr2 880 [0, 3, 7] (fun _ => none) rfl (fun _ _ => rT) ?_
         refine awp_seq ?_
         refine awp_sr2 888 [0, 3, 56] (fun _ => none) rfl (fun _ _ => rT) ?_
         refine awp_if rfl (fun hb57 => ?_) (fun hb57 => ?_)
         ·
          replace h1 := iteT h1 hb57
          obtain ⟨hc58, h1⟩ := guS h1
          refine awp_d2 992 [] (fun _ => none) rfl rfl rfl (fun _ _ => rTd) ?_
          refine kn_then ?_
          refine awp_re (s2 := ⟨[], [(0, ⟨0, true, true, 10, [[.psl 1 (List.map (encSl 4 TApiEntry.enc) vs1.Merge.Runs), .psl 1 (List.map (encInt .i64) vs1.Merge.At), .psl 2 (List.map TApiLsKey.enc vs1.Merge.Tree.Keys), .psl 1 (List.map (encInt .i64) vs1.Merge.Tree.Lose), .int .i64 vs1.Merge.Tree.Win, .bool vs1.Shadow.Some, .str vs1.Shadow.Last, .bool vs1.Shadow.Bottom, .psl 4 (List.map TApiEntry.enc vs1.Out), .int .i64 vs1.Steps]]⟩), (8, ⟨0, true, true, 10, [[.nils, .nils, .nils, .nils, .int .i64 0, .bool false, .str [], .bool false, .nils, .int .i64 0]]⟩), (224, ⟨0, true, false, 10, [[.psl 1 (List.map (encSl 4 TApiEntry.enc) vr53.2.2.1.Runs), .sl 312 (g51 + 1) 1 0 vr53.2.2.1.At.length, .psl 2 (List.map TApiLsKey.enc vr53.2.2.1.Tree.Keys), .psl 1 (List.map (encInt .i64) vr53.2.2.1.Tree.Lose), .int .i64 vr53.2.2.1.Tree.Win, .bool vr55.2.1.Some, .str vr55.2.1.Last, .bool vr55.2.1.Bottom, .sl 256 (g50 + 1) 4 0 ((v49 ++ [vr53.1]).length), .int .i64 (IntKind.i64.wrap (v48 + 1))]]⟩), (256, ⟨(g50 + 1), true, true, 4, List.map TApiEntry.enc (v49 ++ [vr53.1])⟩), (312, ⟨(g51 + 1), true, true, 1, List.map (encInt .i64) vr53.2.2.1.At⟩), (504, ⟨0, true, true, 4, [[.str vr53.1.Key, .str vr53.1.Val, .bool vr53.1.Dead, .int .i64 vr53.1.Seq]]⟩), (512, ⟨0, true, false, 5, [[.psl 1 (List.map (encSl 4 TApiEntry.enc) vr53.2.2.1.Runs), .sl 312 (g51 + 1) 1 0 vr53.2.2.1.At.length, .psl 2 (List.map TApiLsKey.enc vr53.2.2.1.Tree.Keys), .psl 1 (List.map (encInt .i64) vr53.2.2.1.Tree.Lose), .int .i64 vr53.2.2.1.Tree.Win]]⟩), (656, ⟨0, true, true, 3, [[.bool vr55.2.1.Some, .str vr55.2.1.Last, .bool vr55.2.1.Bottom]]⟩), (944, ⟨0, true, true, 4, List.map TApiEntry.enc [vr53.1]⟩)], 992, []⟩) [] (Nat.le_of_ble_eq_true rfl) ⟨rF, rE, rfl, rfl, trivial, trivial⟩ ?_
          refine awp_sr2 1000 [2] (fun _ => none) rfl (fun _ _ => rT) ?_
          refine awp_ret ?_
          refine leave_retK (fun _ _ => rT) ?_
          refine awpo_re (s2 := ⟨[(1, .fn 39 [.ref 224 0 0 0] []), (6, .int .i64 (if vr3.1 < n2 then vr3.1 else n2)), (7, .int .i64 left40), (8, .bool (decide (left40 < (if vr3.1 < n2 then vr3.1 else n2)))), (9, .fn 39 [.ref 224 0 0 0] []), (10, .int .i64 0)], [(0, ⟨0, true, true, 10, [[.psl 1 (List.map (encSl 4 TApiEntry.enc) vs1.Merge.Runs), .psl 1 (List.map (encInt .i64) vs1.Merge.At), .psl 2 (List.map TApiLsKey.enc vs1.Merge.Tree.Keys), .psl 1 (List.map (encInt .i64) vs1.Merge.Tree.Lose), .int .i64 vs1.Merge.Tree.Win, .bool vs1.Shadow.Some, .str vs1.Shadow.Last, .bool vs1.Shadow.Bottom, .psl 4 (List.map TApiEntry.enc vs1.Out), .int .i64 vs1.Steps]]⟩), (8, ⟨0, true, true, 10, [[.nils, .nils, .nils, .nils, .int .i64 0, .bool false, .str [], .bool false, .nils, .int .i64 0]]⟩), (224, ⟨0, true, false, 10, [[.psl 1 (List.map (encSl 4 TApiEntry.enc) vr53.2.2.1.Runs), .sl 312 (g51 + 1) 1 0 vr53.2.2.1.At.length, .psl 2 (List.map TApiLsKey.enc vr53.2.2.1.Tree.Keys), .psl 1 (List.map (encInt .i64) vr53.2.2.1.Tree.Lose), .int .i64 vr53.2.2.1.Tree.Win, .bool vr55.2.1.Some, .str vr55.2.1.Last, .bool vr55.2.1.Bottom, .sl 256 (g50 + 1) 4 0 ((v49 ++ [vr53.1]).length), .int .i64 (IntKind.i64.wrap (v48 + 1))]]⟩), (256, ⟨(g50 + 1), true, true, 4, List.map TApiEntry.enc (v49 ++ [vr53.1])⟩), (312, ⟨(g51 + 1), true, true, 1, List.map (encInt .i64) vr53.2.2.1.At⟩)], 1000, []⟩) [] (Nat.le_of_ble_eq_true rfl) ⟨rF, rE, rfl, rfl, trivial, trivial⟩ ?_
          refine awpo_cut (l' := List.range' 2 1 ++ []) rfl ?_
          refine awpo_seg 2 1 1008 [] (fun _ => none) rfl rfl rfl (fun _ _ => rT) ?_
          refine awpo_nil ?_
          refine kn_then ?_
          refine awp_re (s2 := ⟨[(1, .fn 39 [.ref 224 0 0 0] []), (5, .int .i64 0), (6, .int .i64 (if vr3.1 < n2 then vr3.1 else n2)), (7, .int .i64 left40)], [(0, ⟨0, true, true, 10, [[.psl 1 (List.map (encSl 4 TApiEntry.enc) vs1.Merge.Runs), .psl 1 (List.map (encInt .i64) vs1.Merge.At), .psl 2 (List.map TApiLsKey.enc vs1.Merge.Tree.Keys), .psl 1 (List.map (encInt .i64) vs1.Merge.Tree.Lose), .int .i64 vs1.Merge.Tree.Win, .bool vs1.Shadow.Some, .str vs1.Shadow.Last, .bool vs1.Shadow.Bottom, .psl 4 (List.map TApiEntry.enc vs1.Out), .int .i64 vs1.Steps]]⟩), (8, ⟨0, true, true, 10, [[.nils, .nils, .nils, .nils, .int .i64 0, .bool false, .str [], .bool false, .nils, .int .i64 0]]⟩), (224, ⟨0, true, false, 10, [[.psl 1 (List.map (encSl 4 TApiEntry.enc) vr53.2.2.1.Runs), .sl 312 (g51 + 1) 1 0 vr53.2.2.1.At.length, .psl 2 (List.map TApiLsKey.enc vr53.2.2.1.Tree.Keys), .psl 1 (List.map (encInt .i64) vr53.2.2.1.Tree.Lose), .int .i64 vr53.2.2.1.Tree.Win, .bool vr55.2.1.Some, .str vr55.2.1.Last, .bool vr55.2.1.Bottom, .sl 256 (g50 + 1) 4 0 ((v49 ++ [vr53.1]).length), .int .i64 (IntKind.i64.wrap (v48 + 1))]]⟩), (256, ⟨(g50 + 1), true, true, 4, List.map TApiEntry.enc (v49 ++ [vr53.1])⟩), (312, ⟨(g51 + 1), true, true, 1, List.map (encInt .i64) vr53.2.2.1.At⟩)], 1008, []⟩) [] (Nat.le_of_ble_eq_true rfl) ⟨rF, rE, rfl, rfl, trivial, trivial⟩ ?_
          refine awp_sr2 1024 [1, 5, 6, 7, 12] (fun _ => none) rfl (fun _ _ => rT) ?_
          refine awp_condF rfl ?_
          refine awp_skip ?_
          refine kn_block ?_
          refine kn_then ?_
          refine awp_r2 1040 [1, 6, 7] (fun _ => none) rfl (fun _ _ => rT) ?_
          refine kn_then ?_
          exact ⟨⟨(fu, vr53.2.2.1.At, (IntKind.i64.wrap (left40 + 1)), vr53.2.2.1.Runs, vr53.2.2.1.Tree.Keys, vr53.2.2.1.Tree.Lose, vr53.2.2.1.Tree.Win, vr55.2.1.Some, vr55.2.1.Last, vr55.2.1.Bottom, (IntKind.i64.wrap (v48 + 1)), (v49 ++ [vr53.1]), (g50 + 1), (g51 + 1)), h1⟩, ⟨rF, rE, rfl, rfl, trivial, trivial⟩, Nat.lt_succ_self _⟩
         ·
          replace h1 := iteF h1 hb57
          refine awp_skip ?_
          refine kn_then ?_
          refine awp_sr2 896 [2] (fun _ => none) rfl (fun _ _ => rT) ?_
          refine awp_ret ?_
          refine leave_retK (fun _ _ => rT) ?_
          refine awpo_re (s2 := ⟨[(1, .fn 39 [.ref 224 0 0 0] []), (6, .int .i64 (if vr3.1 < n2 then vr3.1 else n2)), (7, .int .i64 left40), (8, .bool (decide (left40 < (if vr3.1 < n2 then vr3.1 else n2)))), (9, .fn 39 [.ref 224 0 0 0] []), (10, .int .i64 0)], [(0, ⟨0, true, true, 10, [[.psl 1 (List.map (encSl 4 TApiEntry.enc) vs1.Merge.Runs), .psl 1 (List.map (encInt .i64) vs1.Merge.At), .psl 2 (List.map TApiLsKey.enc vs1.Merge.Tree.Keys), .psl 1 (List.map (encInt .i64) vs1.Merge.Tree.Lose), .int .i64 vs1.Merge.Tree.Win, .bool vs1.Shadow.Some, .str vs1.Shadow.Last, .bool vs1.Shadow.Bottom, .psl 4 (List.map TApiEntry.enc vs1.Out), .int .i64 vs1.Steps]]⟩), (8, ⟨0, true, true, 10, [[.nils, .nils, .nils, .nils, .int .i64 0, .bool false, .str [], .bool false, .nils, .int .i64 0]]⟩), (224, ⟨0, true, false, 10, [[.psl 1 (List.map (encSl 4 TApiEntry.enc) vr53.2.2.1.Runs), .sl 312 (g51 + 1) 1 0 vr53.2.2.1.At.length, .psl 2 (List.map TApiLsKey.enc vr53.2.2.1.Tree.Keys), .psl 1 (List.map (encInt .i64) vr53.2.2.1.Tree.Lose), .int .i64 vr53.2.2.1.Tree.Win, .bool vr55.2.1.Some, .str vr55.2.1.Last, .bool vr55.2.1.Bottom, .sl 256 g50 4 0 v49.length, .int .i64 (IntKind.i64.wrap (v48 + 1))]]⟩), (256, ⟨g50, true, true, 4, List.map TApiEntry.enc v49⟩), (312, ⟨(g51 + 1), true, true, 1, List.map (encInt .i64) vr53.2.2.1.At⟩)], 896, []⟩) [] (Nat.le_of_ble_eq_true rfl) ⟨rF, rE, rfl, rfl, trivial, trivial⟩ ?_
          refine awpo_cut (l' := List.range' 2 1 ++ []) rfl ?_
          refine awpo_seg 2 1 904 [] (fun _ => none) rfl rfl rfl (fun _ _ => rT) ?_
          refine awpo_nil ?_
          refine kn_then ?_
          refine awp_re (s2 := ⟨[(1, .fn 39 [.ref 224 0 0 0] []), (5, .int .i64 0), (6, .int .i64 (if vr3.1 < n2 then vr3.1 else n2)), (7, .int .i64 left40)], [(0, ⟨0, true, true, 10, [[.psl 1 (List.map (encSl 4 TApiEntry.enc) vs1.Merge.Runs), .psl 1 (List.map (encInt .i64) vs1.Merge.At), .psl 2 (List.map TApiLsKey.enc vs1.Merge.Tree.Keys), .psl 1 (List.map (encInt .i64) vs1.Merge.Tree.Lose), .int .i64 vs1.Merge.Tree.Win, .bool vs1.Shadow.Some, .str vs1.Shadow.Last, .bool vs1.Shadow.Bottom, .psl 4 (List.map TApiEntry.enc vs1.Out), .int .i64 vs1.Steps]]⟩), (8, ⟨0, true, true, 10, [[.nils, .nils, .nils, .nils, .int .i64 0, .bool false, .str [], .bool false, .nils, .int .i64 0]]⟩), (224, ⟨0, true, false, 10, [[.psl 1 (List.map (encSl 4 TApiEntry.enc) vr53.2.2.1.Runs), .sl 312 (g51 + 1) 1 0 vr53.2.2.1.At.length, .psl 2 (List.map TApiLsKey.enc vr53.2.2.1.Tree.Keys), .psl 1 (List.map (encInt .i64) vr53.2.2.1.Tree.Lose), .int .i64 vr53.2.2.1.Tree.Win, .bool vr55.2.1.Some, .str vr55.2.1.Last, .bool vr55.2.1.Bottom, .sl 256 g50 4 0 v49.length, .int .i64 (IntKind.i64.wrap (v48 + 1))]]⟩), (256, ⟨g50, true, true, 4, List.map TApiEntry.enc v49⟩), (312, ⟨(g51 + 1), true, true, 1, List.map (encInt .i64) vr53.2.2.1.At⟩)], 904, []⟩) [] (Nat.le_of_ble_eq_true rfl) ⟨rF, rE, rfl, rfl, trivial, trivial⟩ ?_
          refine awp_sr2 920 [1, 5, 6, 7, 12] (fun _ => none) rfl (fun _ _ => rT) ?_
          refine awp_condF rfl ?_
          refine awp_skip ?_
          refine kn_block ?_
          refine kn_then ?_
          refine awp_r2 936 [1, 6, 7] (fun _ => none) rfl (fun _ _ => rT) ?_
          refine kn_then ?_
          exact ⟨⟨(fu, vr53.2.2.1.At, (IntKind.i64.wrap (left40 + 1)), vr53.2.2.1.Runs, vr53.2.2.1.Tree.Keys, vr53.2.2.1.Tree.Lose, vr53.2.2.1.Tree.Win, vr55.2.1.Some, vr55.2.1.Last, vr55.2.1.Bottom, (IntKind.i64.wrap (v48 + 1)), v49, g50, (g51 + 1)), h1⟩, ⟨rF, rE, rfl, rfl, trivial, trivial⟩, Nat.lt_succ_self _⟩
      ·
       replace h1 := iteF h1 hb52
       refine awp_exit ?_
       refine kx_then ?_
       refine kx_then ?_
       refine kx_done ?_
       obtain rfl := Option.some.inj h1
       exact ⟨_, g50, g51, rfl, Nat.le_of_ble_eq_true rfl, ⟨rF, rE, rfl, rfl, trivial, trivial⟩⟩
end Go.T
end
section
namespace Go.T
open Go Go.AM Go.Proofs
set_option maxRecDepth 100000
set_option maxHeartbeats 4000000
set_option linter.unusedVariables false
theorem c_bookendlaw13_SlicesOwn {fu : Nat} {runs1 : List (List TApiEntry)} {bottom2 : Bool} {vx3 : T2Uint8} {r : Bool} (h0 : bookendlaw13_SlicesOwn fu runs1 bottom2 vx3 = some r) : PCall Try.prog 8 [.psl 1 (runs1.map (encSl 4 TApiEntry.enc)), .bool bottom2, .agg (T2Uint8.enc vx3)] (.bool r) [] := by
 refine awp_pcall Try.func8 rfl (by decide) (Nat.le_of_ble_eq_true rfl) ?_
 dsimp only [Try.f8]
 rw [bookendlaw13_SlicesOwn] at h0
 refine (show AWP _ _ _ _ ⟨enumFr 0 _, [], 0, []⟩ from ?_)
 refine awp_sr2 16 [0, 1, 5] (fun _ => none) rfl (fun _ _ => rT) ?_
 refine awp_seq ?_
 obtain ⟨vr4, hvr4, h0⟩ := bindS h0
 refine awp_sr2 32 [0, 1, 5, 24] (fun | 1 => some (.bool vr4, []) | _ => none) rfl (fun _ _ => rC (c_bookendlaw11_Far hvr4)) ?_
 refine awp_if rfl (fun hb5 => ?_) (fun hb5 => ?_)
 ·
  replace h0 := iteT h0 hb5
  obtain ⟨vr6, hvr6, h0⟩ := bindS h0
  refine awp_sr2 48 [6] (fun | 0 => some (.bool vr6, []) | _ => none) rfl (fun _ _ => rC (c_bookendlaw13_awake hvr6)) ?_
  refine awp_ret ?_
  refine kr_then ?_
  obtain rfl := Option.some.inj h0
  refine leave_retG [] ?_
  exact rG
 ·
  replace h0 := iteF h0 hb5
  refine awp_skip ?_
  refine kn_then ?_
  obtain ⟨vr7, hvr7, h0⟩ := bindS h0
  refine awp_sr2 120 [5, 7, 9] (fun | 2 => some (.tup [.agg (TApiSlState.enc vr7.1), .int .i64 vr7.2.1, .int .i64 vr7.2.2], []) | _ => none) rfl (fun _ _ => rC (c_slices_Begin hvr7)) ?_
  refine awp_seq ?_
  refine awp_sr2 136 [5, 7, 34] (fun _ => none) rfl (fun _ _ => rT) ?_
  refine awp_if rfl (fun hb8 => ?_) (fun hb8 => ?_)
  ·
   replace h0 := iteT h0 hb8
   obtain ⟨vr9, hvr9, h0⟩ := bindS h0
   refine awp_sr2 152 [6] (fun | 0 => some (.bool vr9, []) | _ => none) rfl (fun _ _ => rC (c_bookendlaw13_awake hvr9)) ?_
   refine awp_ret ?_
   refine kr_then ?_
   obtain rfl := Option.some.inj h0
   refine leave_retG [] ?_
   exact rG
  ·
   replace h0 := iteF h0 hb8
   refine awp_skip ?_
   refine kn_then ?_
   obtain ⟨vr10, hvr10, h0⟩ := bindS h0
   refine awp_sr2 248 [5, 10, 12] (fun | 5 => some (.tup [.agg (TApiSlState.enc vr10.1), .int .i64 vr10.2.1, .int .i64 vr10.2.2], []) | _ => none) rfl (fun _ _ => rC (c_slices_Step hvr10)) ?_
   refine awp_seq ?_
   refine awp_sr2 264 [5, 10, 47] (fun _ => none) rfl (fun _ _ => rT) ?_
   refine awp_if rfl (fun hb11 => ?_) (fun hb11 => ?_)
   ·
    replace h0 := iteT h0 hb11
    refine awp_sr2 272 [6] (fun _ => none) rfl (fun _ _ => rT) ?_
    refine awp_ret ?_
    refine kr_then ?_
    obtain rfl := Option.some.inj h0
    refine leave_retG [] ?_
    exact rG
   ·
    replace h0 := iteF h0 hb11
    refine awp_skip ?_
    refine kn_then ?_
    obtain ⟨hc12, h0⟩ := guS h0
    refine awp_sr2 304 [5, 10, 13] (fun _ => none) rfl (fun _ _ => rT) ?_
    refine awp_re (s2 := ⟨[(5, .ref 0 0 0 0), (10, .ref 216 0 0 0), (13, .sl 264 1 4 0 vr10.1.Out.length)], [(0, ⟨0, true, true, 2, [[.int .u8 vx3.e0, .int .u8 vx3.e1]]⟩), (88, ⟨0, true, true, 10, [[.psl 1 (List.map (encSl 4 TApiEntry.enc) vr7.1.Merge.Runs), .psl 1 (List.map (encInt .i64) vr7.1.Merge.At), .psl 2 (List.map TApiLsKey.enc vr7.1.Merge.Tree.Keys), .psl 1 (List.map (encInt .i64) vr7.1.Merge.Tree.Lose), .int .i64 vr7.1.Merge.Tree.Win, .bool vr7.1.Shadow.Some, .str vr7.1.Shadow.Last, .bool vr7.1.Shadow.Bottom, .psl 4 (List.map TApiEntry.enc vr7.1.Out), .int .i64 vr7.1.Steps]]⟩), (216, ⟨0, true, true, 10, [[.psl 1 (List.map (encSl 4 TApiEntry.enc) vr10.1.Merge.Runs), .psl 1 (List.map (encInt .i64) vr10.1.Merge.At), .psl 2 (List.map TApiLsKey.enc vr10.1.Merge.Tree.Keys), .psl 1 (List.map (encInt .i64) vr10.1.Merge.Tree.Lose), .int .i64 vr10.1.Merge.Tree.Win, .bool vr10.1.Shadow.Some, .str vr10.1.Shadow.Last, .bool vr10.1.Shadow.Bottom, .psl 4 (List.map TApiEntry.enc vr10.1.Out), .int .i64 vr10.1.Steps]]⟩), (264, ⟨1, true, true, 4, List.map TApiEntry.enc vr10.1.Out⟩)], 304, []⟩) [] (Nat.le_of_ble_eq_true rfl) ⟨rF, rE, rfl, rfl, trivial, trivial⟩ ?_
    obtain ⟨vr13, hvr13, h0⟩ := bindS h0
    refine awp_sr2 384 [5, 10, 13, 14, 16] (fun | 1 => some (.tup [.agg [.psl 1 (List.map (encSl 4 TApiEntry.enc) vr13.1.Merge.Runs), .sl 0 0 1 0 vr13.1.Merge.At.length, .psl 2 (List.map TApiLsKey.enc vr13.1.Merge.Tree.Keys), .psl 1 (List.map (encInt .i64) vr13.1.Merge.Tree.Lose), .int .i64 vr13.1.Merge.Tree.Win, .bool vr13.1.Shadow.Some, .str vr13.1.Shadow.Last, .bool vr13.1.Shadow.Bottom, .sl 1 0 4 0 vr13.1.Out.length, .int .i64 vr13.1.Steps], .int .i64 vr13.2.1, .int .i64 vr13.2.2], [⟨0, true, true, 1, vr13.1.Merge.At.map (encInt .i64)⟩, ⟨0, true, true, 4, vr13.1.Out.map TApiEntry.enc⟩]) | _ => none) rfl (fun _ _ => rC (c_slices_Step_3 hvr13)) ?_
    obtain ⟨vr14, hvr14, h0⟩ := bindS h0
    refine awp_sr2 496 [10, 13, 14, 16, 17, 19] (fun | 5 => some (.tup [.agg (TApiSlState.enc vr14.1), .int .i64 vr14.2.1, .int .i64 vr14.2.2], []) | _ => none) rfl (fun _ _ => rC (c_slices_Step hvr14)) ?_
    refine awp_seq ?_
    obtain ⟨b15, hb15, h0⟩ := bindS h0
    refine awp_sr3 (fr' := [(10, .ref 216 0 0 0), (13, .sl 264 1 4 0 vr10.1.Out.length), (14, .ref 352 0 0 0), (17, .ref 464 0 0 0), (73, .bool b15)]) (hp' := [(0, ⟨0, true, true, 2, [[.int .u8 vx3.e0, .int .u8 vx3.e1]]⟩), (88, ⟨0, true, true, 10, [[.psl 1 (List.map (encSl 4 TApiEntry.enc) vr7.1.Merge.Runs), .psl 1 (List.map (encInt .i64) vr7.1.Merge.At), .psl 2 (List.map TApiLsKey.enc vr7.1.Merge.Tree.Keys), .psl 1 (List.map (encInt .i64) vr7.1.Merge.Tree.Lose), .int .i64 vr7.1.Merge.Tree.Win, .bool vr7.1.Shadow.Some, .str vr7.1.Shadow.Last, .bool vr7.1.Shadow.Bottom, .psl 4 (List.map TApiEntry.enc vr7.1.Out), .int .i64 vr7.1.Steps]]⟩), (216, ⟨0, true, true, 10, [[.psl 1 (List.map (encSl 4 TApiEntry.enc) vr10.1.Merge.Runs), .psl 1 (List.map (encInt .i64) vr10.1.Merge.At), .psl 2 (List.map TApiLsKey.enc vr10.1.Merge.Tree.Keys), .psl 1 (List.map (encInt .i64) vr10.1.Merge.Tree.Lose), .int .i64 vr10.1.Merge.Tree.Win, .bool vr10.1.Shadow.Some, .str vr10.1.Shadow.Last, .bool vr10.1.Shadow.Bottom, .psl 4 (List.map TApiEntry.enc vr10.1.Out), .int .i64 vr10.1.Steps]]⟩), (264, ⟨1, true, true, 4, List.map TApiEntry.enc vr10.1.Out⟩), (312, ⟨0, true, true, 1, List.map (encInt .i64) vr13.1.Merge.At⟩), (313, ⟨0, true, true, 4, List.map TApiEntry.enc vr13.1.Out⟩), (352, ⟨0, true, false, 10, [[.psl 1 (List.map (encSl 4 TApiEntry.enc) vr13.1.Merge.Runs), .sl 312 0 1 0 vr13.1.Merge.At.length, .psl 2 (List.map TApiLsKey.enc vr13.1.Merge.Tree.Keys), .psl 1 (List.map (encInt .i64) vr13.1.Merge.Tree.Lose), .int .i64 vr13.1.Merge.Tree.Win, .bool vr13.1.Shadow.Some, .str vr13.1.Shadow.Last, .bool vr13.1.Shadow.Bottom, .sl 313 0 4 0 vr13.1.Out.length, .int .i64 vr13.1.Steps]]⟩), (464, ⟨0, true, true, 10, [[.psl 1 (List.map (encSl 4 TApiEntry.enc) vr14.1.Merge.Runs), .psl 1 (List.map (encInt .i64) vr14.1.Merge.At), .psl 2 (List.map TApiLsKey.enc vr14.1.Merge.Tree.Keys), .psl 1 (List.map (encInt .i64) vr14.1.Merge.Tree.Lose), .int .i64 vr14.1.Merge.Tree.Win, .bool vr14.1.Shadow.Some, .str vr14.1.Shadow.Last, .bool vr14.1.Shadow.Bottom, .psl 4 (List.map TApiEntry.enc vr14.1.Out), .int .i64 vr14.1.Steps]]⟩)]) [0, 88, 216, 264, 312, 313, 352, 464] 544 [10, 13, 14, 17, 73] (fun _ => none) rfl (fun Kt hK => by
      cases hg16 : (!(decide (vr13.2.2 = 0))) with
      | false =>
       replace hb15 := iteF hb15 hg16
       have hqb15 := Option.some.inj hb15
       subst hqb15
       simp (maxSteps := 1000000) only [↓reduceIte, reduceCtorEq, Nat.reduceEqDiff, Nat.reduceLT, Nat.reduceLeDiff, Nat.reduceAdd, Nat.reduceMul, Int.reduceToNat, push_cast, ↓hg16]
       try simp only [↓hg16] at hK
       all_goals exact rU
      | true =>
       replace hb15 := iteT hb15 hg16
       have hqb15 := Option.some.inj hb15
       subst hqb15
       simp (maxSteps := 1000000) only [↓reduceIte, reduceCtorEq, Nat.reduceEqDiff, Nat.reduceLT, Nat.reduceLeDiff, Nat.reduceAdd, Nat.reduceMul, Int.reduceToNat, push_cast, ↓hg16]
       try simp only [↓hg16] at hK
       all_goals exact rU) ?_
    refine awp_if rfl (fun hb17 => ?_) (fun hb17 => ?_)
    ·
     replace h0 := iteT h0 hb17
     refine awp_sr2 552 [6] (fun _ => none) rfl (fun _ _ => rT) ?_
     refine awp_ret ?_
     refine kr_then ?_
     obtain rfl := Option.some.inj h0
     refine leave_retG [] ?_
     exact rG
    ·
     replace h0 := iteF h0 hb17
     refine awp_skip ?_
     refine kn_then ?_
     obtain ⟨hc18, h0⟩ := guS h0
     refine awp_sr2 584 [10, 13, 14, 17, 20] (fun _ => none) rfl (fun _ _ => rT) ?_
     refine awp_re (s2 := ⟨[(10, .ref 216 0 0 0), (13, .sl 264 1 4 0 vr10.1.Out.length), (14, .ref 352 0 0 0), (17, .ref 464 0 0 0), (20, .sl 544 1 4 0 vr14.1.Out.length)], [(0, ⟨0, true, true, 2, [[.int .u8 vx3.e0, .int .u8 vx3.e1]]⟩), (88, ⟨0, true, true, 10, [[.psl 1 (List.map (encSl 4 TApiEntry.enc) vr7.1.Merge.Runs), .psl 1 (List.map (encInt .i64) vr7.1.Merge.At), .psl 2 (List.map TApiLsKey.enc vr7.1.Merge.Tree.Keys), .psl 1 (List.map (encInt .i64) vr7.1.Merge.Tree.Lose), .int .i64 vr7.1.Merge.Tree.Win, .bool vr7.1.Shadow.Some, .str vr7.1.Shadow.Last, .bool vr7.1.Shadow.Bottom, .psl 4 (List.map TApiEntry.enc vr7.1.Out), .int .i64 vr7.1.Steps]]⟩), (216, ⟨0, true, true, 10, [[.psl 1 (List.map (encSl 4 TApiEntry.enc) vr10.1.Merge.Runs), .psl 1 (List.map (encInt .i64) vr10.1.Merge.At), .psl 2 (List.map TApiLsKey.enc vr10.1.Merge.Tree.Keys), .psl 1 (List.map (encInt .i64) vr10.1.Merge.Tree.Lose), .int .i64 vr10.1.Merge.Tree.Win, .bool vr10.1.Shadow.Some, .str vr10.1.Shadow.Last, .bool vr10.1.Shadow.Bottom, .psl 4 (List.map TApiEntry.enc vr10.1.Out), .int .i64 vr10.1.Steps]]⟩), (264, ⟨1, true, true, 4, List.map TApiEntry.enc vr10.1.Out⟩), (312, ⟨0, true, true, 1, List.map (encInt .i64) vr13.1.Merge.At⟩), (313, ⟨0, true, true, 4, List.map TApiEntry.enc vr13.1.Out⟩), (352, ⟨0, true, false, 10, [[.psl 1 (List.map (encSl 4 TApiEntry.enc) vr13.1.Merge.Runs), .sl 312 0 1 0 vr13.1.Merge.At.length, .psl 2 (List.map TApiLsKey.enc vr13.1.Merge.Tree.Keys), .psl 1 (List.map (encInt .i64) vr13.1.Merge.Tree.Lose), .int .i64 vr13.1.Merge.Tree.Win, .bool vr13.1.Shadow.Some, .str vr13.1.Shadow.Last, .bool vr13.1.Shadow.Bottom, .sl 313 0 4 0 vr13.1.Out.length, .int .i64 vr13.1.Steps]]⟩), (464, ⟨0, true, true, 10, [[.psl 1 (List.map (encSl 4 TApiEntry.enc) vr14.1.Merge.Runs), .psl 1 (List.map (encInt .i64) vr14.1.Merge.At), .psl 2 (List.map TApiLsKey.enc vr14.1.Merge.Tree.Keys), .psl 1 (List.map (encInt .i64) vr14.1.Merge.Tree.Lose), .int .i64 vr14.1.Merge.Tree.Win, .bool vr14.1.Shadow.Some, .str vr14.1.Shadow.Last, .bool vr14.1.Shadow.Bottom, .psl 4 (List.map TApiEntry.enc vr14.1.Out), .int .i64 vr14.1.Steps]]⟩), (544, ⟨1, true, true, 4, List.map TApiEntry.enc vr14.1.Out⟩)], 584, []⟩) [] (Nat.le_of_ble_eq_true rfl) ⟨rF, rE, rfl, rfl, trivial, trivial⟩ ?_
     refine awp_seq ?_
     refine awp_sr2 592 [10, 13, 14, 17, 20, 21] (fun _ => none) rfl (fun _ _ => rT) ?_
     obtain ⟨x26, hxx26, h0⟩ := bindS h0
     refine awp_bloop (fun s' => ∃ g32 : Nat, s'.nx ≤ 632 ∧ LeN [] s' ⟨[(10, .ref 216 0 0 0), (13, .sl 264 1 4 0 vr10.1.Out.length), (14, .ref 352 0 0 0), (17, .ref 464 0 0 0), (20, .sl 544 1 4 0 vr14.1.Out.length)], [(0, ⟨0, true, true, 2, [[.int .u8 vx3.e0, .int .u8 vx3.e1]]⟩), (88, ⟨0, true, true, 10, [[.psl 1 (List.map (encSl 4 TApiEntry.enc) vr7.1.Merge.Runs), .psl 1 (List.map (encInt .i64) vr7.1.Merge.At), .psl 2 (List.map TApiLsKey.enc vr7.1.Merge.Tree.Keys), .psl 1 (List.map (encInt .i64) vr7.1.Merge.Tree.Lose), .int .i64 vr7.1.Merge.Tree.Win, .bool vr7.1.Shadow.Some, .str vr7.1.Shadow.Last, .bool vr7.1.Shadow.Bottom, .psl 4 (List.map TApiEntry.enc vr7.1.Out), .int .i64 vr7.1.Steps]]⟩), (216, ⟨0, true, true, 10, [[.psl 1 (List.map (encSl 4 TApiEntry.enc) vr10.1.Merge.Runs), .psl 1 (List.map (encInt .i64) vr10.1.Merge.At), .psl 2 (List.map TApiLsKey.enc vr10.1.Merge.Tree.Keys), .psl 1 (List.map (encInt .i64) vr10.1.Merge.Tree.Lose), .int .i64 vr10.1.Merge.Tree.Win, .bool vr10.1.Shadow.Some, .str vr10.1.Shadow.Last, .bool vr10.1.Shadow.Bottom, .psl 4 (List.map TApiEntry.enc vr10.1.Out), .int .i64 vr10.1.Steps]]⟩), (264, ⟨1, true, true, 4, List.map TApiEntry.enc vr10.1.Out⟩), (312, ⟨0, true, true, 1, List.map (encInt .i64) vr13.1.Merge.At⟩), (313, ⟨g32, true, true, 4, List.map TApiEntry.enc x26⟩), (352, ⟨0, true, false, 10, [[.psl 1 (List.map (encSl 4 TApiEntry.enc) vr13.1.Merge.Runs), .sl 312 0 1 0 vr13.1.Merge.At.length, .psl 2 (List.map TApiLsKey.enc vr13.1.Merge.Tree.Keys), .psl 1 (List.map (encInt .i64) vr13.1.Merge.Tree.Lose), .int .i64 vr13.1.Merge.Tree.Win, .bool vr13.1.Shadow.Some, .str vr13.1.Shadow.Last, .bool vr13.1.Shadow.Bottom, .sl 313 g32 4 0 x26.length, .int .i64 vr13.1.Steps]]⟩), (464, ⟨0, true, true, 10, [[.psl 1 (List.map (encSl 4 TApiEntry.enc) vr14.1.Merge.Runs), .psl 1 (List.map (encInt .i64) vr14.1.Merge.At), .psl 2 (List.map TApiLsKey.enc vr14.1.Merge.Tree.Keys), .psl 1 (List.map (encInt .i64) vr14.1.Merge.Tree.Lose), .int .i64 vr14.1.Merge.Tree.Win, .bool vr14.1.Shadow.Some, .str vr14.1.Shadow.Last, .bool vr14.1.Shadow.Bottom, .psl 4 (List.map TApiEntry.enc vr14.1.Out), .int .i64 vr14.1.Steps]]⟩), (544, ⟨1, true, true, 4, List.map TApiEntry.enc vr14.1.Out⟩)], 632, []⟩) ?_ ?_
     ·
      intro s' hs
      obtain ⟨g32, hn, hs⟩ := hs
      refine kn_then ?_
      refine awp_re [] hn hs ?_
      refine awp_seq ?_
      refine awp_sr2 640 [10, 13, 14, 17, 20, 22] (fun _ => none) rfl (fun _ _ => rT) ?_
      obtain ⟨x40, hxx40, h0⟩ := bindS h0
      refine awp_bloop (fun s' => ∃ g46 : Nat, s'.nx ≤ 688 ∧ LeN [] s' ⟨[(10, .ref 216 0 0 0), (13, .sl 264 1 4 0 vr10.1.Out.length), (17, .ref 464 0 0 0), (20, .sl 544 1 4 0 vr14.1.Out.length)], [(0, ⟨0, true, true, 2, [[.int .u8 vx3.e0, .int .u8 vx3.e1]]⟩), (88, ⟨0, true, true, 10, [[.psl 1 (List.map (encSl 4 TApiEntry.enc) vr7.1.Merge.Runs), .psl 1 (List.map (encInt .i64) vr7.1.Merge.At), .psl 2 (List.map TApiLsKey.enc vr7.1.Merge.Tree.Keys), .psl 1 (List.map (encInt .i64) vr7.1.Merge.Tree.Lose), .int .i64 vr7.1.Merge.Tree.Win, .bool vr7.1.Shadow.Some, .str vr7.1.Shadow.Last, .bool vr7.1.Shadow.Bottom, .psl 4 (List.map TApiEntry.enc vr7.1.Out), .int .i64 vr7.1.Steps]]⟩), (216, ⟨0, true, true, 10, [[.psl 1 (List.map (encSl 4 TApiEntry.enc) vr10.1.Merge.Runs), .psl 1 (List.map (encInt .i64) vr10.1.Merge.At), .psl 2 (List.map TApiLsKey.enc vr10.1.Merge.Tree.Keys), .psl 1 (List.map (encInt .i64) vr10.1.Merge.Tree.Lose), .int .i64 vr10.1.Merge.Tree.Win, .bool vr10.1.Shadow.Some, .str vr10.1.Shadow.Last, .bool vr10.1.Shadow.Bottom, .psl 4 (List.map TApiEntry.enc vr10.1.Out), .int .i64 vr10.1.Steps]]⟩), (264, ⟨1, true, true, 4, List.map TApiEntry.enc vr10.1.Out⟩), (312, ⟨g46, true, true, 1, List.map (encInt .i64) x40⟩), (313, ⟨g32, true, true, 4, List.map TApiEntry.enc x26⟩), (352, ⟨0, true, false, 10, [[.psl 1 (List.map (encSl 4 TApiEntry.enc) vr13.1.Merge.Runs), .sl 312 g46 1 0 x40.length, .psl 2 (List.map TApiLsKey.enc vr13.1.Merge.Tree.Keys), .psl 1 (List.map (encInt .i64) vr13.1.Merge.Tree.Lose), .int .i64 vr13.1.Merge.Tree.Win, .bool vr13.1.Shadow.Some, .str vr13.1.Shadow.Last, .bool vr13.1.Shadow.Bottom, .sl 313 g32 4 0 x26.length, .int .i64 vr13.1.Steps]]⟩), (464, ⟨0, true, true, 10, [[.psl 1 (List.map (encSl 4 TApiEntry.enc) vr14.1.Merge.Runs), .psl 1 (List.map (encInt .i64) vr14.1.Merge.At), .psl 2 (List.map TApiLsKey.enc vr14.1.Merge.Tree.Keys), .psl 1 (List.map (encInt .i64) vr14.1.Merge.Tree.Lose), .int .i64 vr14.1.Merge.Tree.Win, .bool vr14.1.Shadow.Some, .str vr14.1.Shadow.Last, .bool vr14.1.Shadow.Bottom, .psl 4 (List.map TApiEntry.enc vr14.1.Out), .int .i64 vr14.1.Steps]]⟩), (544, ⟨1, true, true, 4, List.map TApiEntry.enc vr14.1.Out⟩)], 688, []⟩) ?_ ?_
      ·
       intro s' hs
       obtain ⟨g46, hn, hs⟩ := hs
       refine kn_then ?_
       refine awp_re [] hn hs ?_
       obtain ⟨vr47, hvr47, h0⟩ := bindS h0
       obtain ⟨b49, hb49, h0⟩ := bindS h0
       obtain ⟨b51, hb51, h0⟩ := bindS h0
       obtain ⟨b53, hb53, h0⟩ := bindS h0
       obtain ⟨b55, hb55, h0⟩ := bindS h0
       refine awp_sr3 (fr' := [(6, .bool b55)]) (hp' := [(0, ⟨0, true, true, 2, [[.int .u8 vx3.e0, .int .u8 vx3.e1]]⟩), (88, ⟨0, true, true, 10, [[.psl 1 (List.map (encSl 4 TApiEntry.enc) vr7.1.Merge.Runs), .psl 1 (List.map (encInt .i64) vr7.1.Merge.At), .psl 2 (List.map TApiLsKey.enc vr7.1.Merge.Tree.Keys), .psl 1 (List.map (encInt .i64) vr7.1.Merge.Tree.Lose), .int .i64 vr7.1.Merge.Tree.Win, .bool vr7.1.Shadow.Some, .str vr7.1.Shadow.Last, .bool vr7.1.Shadow.Bottom, .psl 4 (List.map TApiEntry.enc vr7.1.Out), .int .i64 vr7.1.Steps]]⟩), (216, ⟨0, true, true, 10, [[.psl 1 (List.map (encSl 4 TApiEntry.enc) vr10.1.Merge.Runs), .psl 1 (List.map (encInt .i64) vr10.1.Merge.At), .psl 2 (List.map TApiLsKey.enc vr10.1.Merge.Tree.Keys), .psl 1 (List.map (encInt .i64) vr10.1.Merge.Tree.Lose), .int .i64 vr10.1.Merge.Tree.Win, .bool vr10.1.Shadow.Some, .str vr10.1.Shadow.Last, .bool vr10.1.Shadow.Bottom, .psl 4 (List.map TApiEntry.enc vr10.1.Out), .int .i64 vr10.1.Steps]]⟩), (264, ⟨1, true, true, 4, List.map TApiEntry.enc vr10.1.Out⟩), (312, ⟨g46, true, true, 1, List.map (encInt .i64) x40⟩), (313, ⟨g32, true, true, 4, List.map TApiEntry.enc x26⟩), (352, ⟨0, true, false, 10, [[.psl 1 (List.map (encSl 4 TApiEntry.enc) vr13.1.Merge.Runs), .sl 312 g46 1 0 x40.length, .psl 2 (List.map TApiLsKey.enc vr13.1.Merge.Tree.Keys), .psl 1 (List.map (encInt .i64) vr13.1.Merge.Tree.Lose), .int .i64 vr13.1.Merge.Tree.Win, .bool vr13.1.Shadow.Some, .str vr13.1.Shadow.Last, .bool vr13.1.Shadow.Bottom, .sl 313 g32 4 0 x26.length, .int .i64 vr13.1.Steps]]⟩), (464, ⟨0, true, true, 10, [[.psl 1 (List.map (encSl 4 TApiEntry.enc) vr14.1.Merge.Runs), .psl 1 (List.map (encInt .i64) vr14.1.Merge.At), .psl 2 (List.map TApiLsKey.enc vr14.1.Merge.Tree.Keys), .psl 1 (List.map (encInt .i64) vr14.1.Merge.Tree.Lose), .int .i64 vr14.1.Merge.Tree.Win, .bool vr14.1.Shadow.Some, .str vr14.1.Shadow.Last, .bool vr14.1.Shadow.Bottom, .psl 4 (List.map TApiEntry.enc vr14.1.Out), .int .i64 vr14.1.Steps]]⟩), (544, ⟨1, true, true, 4, List.map TApiEntry.enc vr14.1.Out⟩)]) [0, 88, 216, 264, 312, 313, 352, 464, 544] 880 [6] (fun | 3 => some (.bool vr47, []) | 8 => (bookendref11_SameEntries fu vr14.1.Out vr14.1.Out).bind fun vr48 => some (.bool vr48, []) | 12 => (slices_Check fu vr10.1).bind fun vr50 => some (.int .i64 vr50, []) | 17 => (slices_Check fu vr14.1).bind fun vr52 => some (.int .i64 vr52, []) | 21 => (bookendlaw13_awake fu).bind fun vr54 => some (.bool vr54, []) | _ => none) rfl (fun Kt hK => by
         cases vr47 with
         | false =>
          replace hb49 := iteF hb49 rfl
          have hqb49 := Option.some.inj hb49
          cases b49 with
          | false =>
           replace hb51 := iteF hb51 rfl
           have hqb51 := Option.some.inj hb51
           cases b51 with
           | false =>
            replace hb53 := iteF hb53 rfl
            have hqb53 := Option.some.inj hb53
            cases b53 with
            | false =>
             replace hb55 := iteF hb55 rfl
             have hqb55 := Option.some.inj hb55
             subst hqb55
             try have q0 := c_bookendref11_SameEntries hvr47
             try have q1 := c_bookendref11_SameEntries hvr48
             try have q2 := c_slices_Check hvr50
             try have q3 := c_slices_Check hvr52
             try have q4 := c_bookendlaw13_awake hvr54
             exact rT
            | true =>
             cases hqb53
           | true =>
            cases hqb51
          | true =>
           cases hqb49
         | true =>
          replace hb49 := iteT hb49 rfl
          obtain ⟨vr48, hvr48, hb49⟩ := bindS hb49
          have hqb49 := Option.some.inj hb49
          cases b49 with
          | false =>
           subst hqb49
           replace hb51 := iteF hb51 rfl
           have hqb51 := Option.some.inj hb51
           cases b51 with
           | false =>
            replace hb53 := iteF hb53 rfl
            have hqb53 := Option.some.inj hb53
            cases b53 with
            | false =>
             replace hb55 := iteF hb55 rfl
             have hqb55 := Option.some.inj hb55
             subst hqb55
             try have q0 := c_bookendref11_SameEntries hvr47
             try have q1 := c_bookendref11_SameEntries hvr48
             try have q2 := c_slices_Check hvr50
             try have q3 := c_slices_Check hvr52
             try have q4 := c_bookendlaw13_awake hvr54
             exact rS hvr48
            | true =>
             cases hqb53
           | true =>
            cases hqb51
          | true =>
           subst hqb49
           replace hb51 := iteT hb51 rfl
           obtain ⟨vr50, hvr50, hb51⟩ := bindS hb51
           have hqb51 := Option.some.inj hb51
           cases b51 with
           | false =>
            replace hb53 := iteF hb53 rfl
            have hqb53 := Option.some.inj hb53
            cases b53 with
            | false =>
             replace hb55 := iteF hb55 rfl
             have hqb55 := Option.some.inj hb55
             subst hqb55
             simp (maxSteps := 1000000) only [↓reduceIte, reduceCtorEq, Nat.reduceEqDiff, Nat.reduceLT, Nat.reduceLeDiff, Nat.reduceAdd, Nat.reduceMul, Int.reduceToNat, push_cast, hvr48, hvr50, ↓hqb51]
             try simp only [↓hqb51] at hK
             try have q0 := c_bookendref11_SameEntries hvr47
             try have q1 := c_bookendref11_SameEntries hvr48
             try have q2 := c_slices_Check hvr50
             try have q3 := c_slices_Check hvr52
             try have q4 := c_bookendlaw13_awake hvr54
             all_goals exact rU
            | true =>
             cases hqb53
           | true =>
            replace hb53 := iteT hb53 rfl
            obtain ⟨vr52, hvr52, hb53⟩ := bindS hb53
            have hqb53 := Option.some.inj hb53
            cases b53 with
            | false =>
             replace hb55 := iteF hb55 rfl
             have hqb55 := Option.some.inj hb55
             subst hqb55
             simp (maxSteps := 1000000) only [↓reduceIte, reduceCtorEq, Nat.reduceEqDiff, Nat.reduceLT, Nat.reduceLeDiff, Nat.reduceAdd, Nat.reduceMul, Int.reduceToNat, push_cast, hvr48, hvr50, ↓hqb51, hvr52, ↓hqb53]
             try simp only [↓hqb51, ↓hqb53] at hK
             try have q0 := c_bookendref11_SameEntries hvr47
             try have q1 := c_bookendref11_SameEntries hvr48
             try have q2 := c_slices_Check hvr50
             try have q3 := c_slices_Check hvr52
             try have q4 := c_bookendlaw13_awake hvr54
             all_goals exact rU
            | true =>
             replace hb55 := iteT hb55 rfl
             obtain ⟨vr54, hvr54, hb55⟩ := bindS hb55
             have hqb55 := Option.some.inj hb55
             subst hqb55
             simp (maxSteps := 1000000) only [↓reduceIte, reduceCtorEq, Nat.reduceEqDiff, Nat.reduceLT, Nat.reduceLeDiff, Nat.reduceAdd, Nat.reduceMul, Int.reduceToNat, push_cast, hvr48, hvr50, ↓hqb51, hvr52, ↓hqb53, hvr54]
             try simp only [↓hqb51, ↓hqb53] at hK
             try have q0 := c_bookendref11_SameEntries hvr47
             try have q1 := c_bookendref11_SameEntries hvr48
             try have q2 := c_slices_Check hvr50
             try have q3 := c_slices_Check hvr52
             try have q4 := c_bookendlaw13_awake hvr54
             all_goals exact rU) ?_
       refine awp_ret ?_
       obtain rfl := Option.some.inj h0
       refine leave_retG [] ?_
       exact rG
      ·
       refine awp_loopF (ι := { p : Nat × Int × List Int × Nat // bookendlaw13_SlicesOwn_l2 p.1 p.2.1 p.2.2.1 = some x40 }) (fun p => ⟨[(10, .ref 216 0 0 0), (13, .sl 264 1 4 0 vr10.1.Out.length), (14, .ref 352 0 0 0), (17, .ref 464 0 0 0), (20, .sl 544 1 4 0 vr14.1.Out.length), (22, .int .i64 p.1.2.1)], [(0, ⟨0, true, true, 2, [[.int .u8 vx3.e0, .int .u8 vx3.e1]]⟩), (88, ⟨0, true, true, 10, [[.psl 1 (List.map (encSl 4 TApiEntry.enc) vr7.1.Merge.Runs), .psl 1 (List.map (encInt .i64) vr7.1.Merge.At), .psl 2 (List.map TApiLsKey.enc vr7.1.Merge.Tree.Keys), .psl 1 (List.map (encInt .i64) vr7.1.Merge.Tree.Lose), .int .i64 vr7.1.Merge.Tree.Win, .bool vr7.1.Shadow.Some, .str vr7.1.Shadow.Last, .bool vr7.1.Shadow.Bottom, .psl 4 (List.map TApiEntry.enc vr7.1.Out), .int .i64 vr7.1.Steps]]⟩), (216, ⟨0, true, true, 10, [[.psl 1 (List.map (encSl 4 TApiEntry.enc) vr10.1.Merge.Runs), .psl 1 (List.map (encInt .i64) vr10.1.Merge.At), .psl 2 (List.map TApiLsKey.enc vr10.1.Merge.Tree.Keys), .psl 1 (List.map (encInt .i64) vr10.1.Merge.Tree.Lose), .int .i64 vr10.1.Merge.Tree.Win, .bool vr10.1.Shadow.Some, .str vr10.1.Shadow.Last, .bool vr10.1.Shadow.Bottom, .psl 4 (List.map TApiEntry.enc vr10.1.Out), .int .i64 vr10.1.Steps]]⟩), (264, ⟨1, true, true, 4, List.map TApiEntry.enc vr10.1.Out⟩), (312, ⟨p.1.2.2.2, true, true, 1, List.map (encInt .i64) p.1.2.2.1⟩), (313, ⟨g32, true, true, 4, List.map TApiEntry.enc x26⟩), (352, ⟨0, true, false, 10, [[.psl 1 (List.map (encSl 4 TApiEntry.enc) vr13.1.Merge.Runs), .sl 312 p.1.2.2.2 1 0 p.1.2.2.1.length, .psl 2 (List.map TApiLsKey.enc vr13.1.Merge.Tree.Keys), .psl 1 (List.map (encInt .i64) vr13.1.Merge.Tree.Lose), .int .i64 vr13.1.Merge.Tree.Win, .bool vr13.1.Shadow.Some, .str vr13.1.Shadow.Last, .bool vr13.1.Shadow.Bottom, .sl 313 g32 4 0 x26.length, .int .i64 vr13.1.Steps]]⟩), (464, ⟨0, true, true, 10, [[.psl 1 (List.map (encSl 4 TApiEntry.enc) vr14.1.Merge.Runs), .psl 1 (List.map (encInt .i64) vr14.1.Merge.At), .psl 2 (List.map TApiLsKey.enc vr14.1.Merge.Tree.Keys), .psl 1 (List.map (encInt .i64) vr14.1.Merge.Tree.Lose), .int .i64 vr14.1.Merge.Tree.Win, .bool vr14.1.Shadow.Some, .str vr14.1.Shadow.Last, .bool vr14.1.Shadow.Bottom, .psl 4 (List.map TApiEntry.enc vr14.1.Out), .int .i64 vr14.1.Steps]]⟩), (544, ⟨1, true, true, 4, List.map TApiEntry.enc vr14.1.Out⟩)], 640, []⟩) (fun p => p.1.1) ⟨(fu, 0, vr13.1.Merge.At, 0), hxx40⟩ ⟨rF, rE, rfl, rfl, trivial, trivial⟩ (fun _ => Nat.le_refl _) ?_
       rintro ⟨⟨fu, i41, v42, g43⟩, h1⟩
       cases fu with
       | zero =>
   replace h1 : bookendlaw13_SlicesOwn_l2 0 i41 v42 = some x40 := h1
   rw [bookendlaw13_SlicesOwn_l2] at h1; cases h1
       | succ fu =>
        replace h1 : bookendlaw13_SlicesOwn_l2 (fu + 1) i41 v42 = some x40 := h1
        rw [bookendlaw13_SlicesOwn_l2] at h1
        refine (show AWP _ _ _ _ ⟨[(10, .ref 216 0 0 0), (13, .sl 264 1 4 0 vr10.1.Out.length), (14, .ref 352 0 0 0), (17, .ref 464 0 0 0), (20, .sl 544 1 4 0 vr14.1.Out.length), (22, .int .i64 i41)], [(0, ⟨0, true, true, 2, [[.int .u8 vx3.e0, .int .u8 vx3.e1]]⟩), (88, ⟨0, true, true, 10, [[.psl 1 (List.map (encSl 4 TApiEntry.enc) vr7.1.Merge.Runs), .psl 1 (List.map (encInt .i64) vr7.1.Merge.At), .psl 2 (List.map TApiLsKey.enc vr7.1.Merge.Tree.Keys), .psl 1 (List.map (encInt .i64) vr7.1.Merge.Tree.Lose), .int .i64 vr7.1.Merge.Tree.Win, .bool vr7.1.Shadow.Some, .str vr7.1.Shadow.Last, .bool vr7.1.Shadow.Bottom, .psl 4 (List.map TApiEntry.enc vr7.1.Out), .int .i64 vr7.1.Steps]]⟩), (216, ⟨0, true, true, 10, [[.psl 1 (List.map (encSl 4 TApiEntry.enc) vr10.1.Merge.Runs), .psl 1 (List.map (encInt .i64) vr10.1.Merge.At), .psl 2 (List.map TApiLsKey.enc vr10.1.Merge.Tree.Keys), .psl 1 (List.map (encInt .i64) vr10.1.Merge.Tree.Lose), .int .i64 vr10.1.Merge.Tree.Win, .bool vr10.1.Shadow.Some, .str vr10.1.Shadow.Last, .bool vr10.1.Shadow.Bottom, .psl 4 (List.map TApiEntry.enc vr10.1.Out), .int .i64 vr10.1.Steps]]⟩), (264, ⟨1, true, true, 4, List.map TApiEntry.enc vr10.1.Out⟩), (312, ⟨g43, true, true, 1, List.map (encInt .i64) v42⟩), (313, ⟨g32, true, true, 4, List.map TApiEntry.enc x26⟩), (352, ⟨0, true, false, 10, [[.psl 1 (List.map (encSl 4 TApiEntry.enc) vr13.1.Merge.Runs), .sl 312 g43 1 0 v42.length, .psl 2 (List.map TApiLsKey.enc vr13.1.Merge.Tree.Keys), .psl 1 (List.map (encInt .i64) vr13.1.Merge.Tree.Lose), .int .i64 vr13.1.Merge.Tree.Win, .bool vr13.1.Shadow.Some, .str vr13.1.Shadow.Last, .bool vr13.1.Shadow.Bottom, .sl 313 g32 4 0 x26.length, .int .i64 vr13.1.Steps]]⟩), (464, ⟨0, true, true, 10, [[.psl 1 (List.map (encSl 4 TApiEntry.enc) vr14.1.Merge.Runs), .psl 1 (List.map (encInt .i64) vr14.1.Merge.At), .psl 2 (List.map TApiLsKey.enc vr14.1.Merge.Tree.Keys), .psl 1 (List.map (encInt .i64) vr14.1.Merge.Tree.Lose), .int .i64 vr14.1.Merge.Tree.Win, .bool vr14.1.Shadow.Some, .str vr14.1.Shadow.Last, .bool vr14.1.Shadow.Bottom, .psl 4 (List.map TApiEntry.enc vr14.1.Out), .int .i64 vr14.1.Steps]]⟩), (544, ⟨1, true, true, 4, List.map TApiEntry.enc vr14.1.Out⟩)], 640, []⟩ from ?_)
        refine awp_seq ?_
        refine awp_sr2 688 [10, 13, 14, 17, 20, 22, 95] (fun _ => none) rfl (fun _ _ => rT) ?_
        refine awp_if rfl (fun hb44 => ?_) (fun hb44 => ?_)
        ·
         replace h1 := iteT h1 hb44
         refine awp_skip ?_
         refine kn_then ?_
         refine awp_seq ?_
         refine awp_block ?_
         obtain ⟨e45, he45, h1⟩ := bindS h1
         obtain ⟨he45a, he45b, he45c⟩ := idxS he45
         refine awp_r2 736 [10, 13, 14, 17, 20, 22] (fun _ => none) rfl (fun _ _ => rS (rA he45a (rA he45b he45c))) ?_
         refine kn_block ?_
         refine kn_then ?_
         refine awp_re (s2 := ⟨[(10, .ref 216 0 0 0), (13, .sl 264 1 4 0 vr10.1.Out.length), (14, .ref 352 0 0 0), (17, .ref 464 0 0 0), (20, .sl 544 1 4 0 vr14.1.Out.length), (22, .int .i64 i41)], [(0, ⟨0, true, true, 2, [[.int .u8 vx3.e0, .int .u8 vx3.e1]]⟩), (88, ⟨0, true, true, 10, [[.psl 1 (List.map (encSl 4 TApiEntry.enc) vr7.1.Merge.Runs), .psl 1 (List.map (encInt .i64) vr7.1.Merge.At), .psl 2 (List.map TApiLsKey.enc vr7.1.Merge.Tree.Keys), .psl 1 (List.map (encInt .i64) vr7.1.Merge.Tree.Lose), .int .i64 vr7.1.Merge.Tree.Win, .bool vr7.1.Shadow.Some, .str vr7.1.Shadow.Last, .bool vr7.1.Shadow.Bottom, .psl 4 (List.map TApiEntry.enc vr7.1.Out), .int .i64 vr7.1.Steps]]⟩), (216, ⟨0, true, true, 10, [[.psl 1 (List.map (encSl 4 TApiEntry.enc) vr10.1.Merge.Runs), .psl 1 (List.map (encInt .i64) vr10.1.Merge.At), .psl 2 (List.map TApiLsKey.enc vr10.1.Merge.Tree.Keys), .psl 1 (List.map (encInt .i64) vr10.1.Merge.Tree.Lose), .int .i64 vr10.1.Merge.Tree.Win, .bool vr10.1.Shadow.Some, .str vr10.1.Shadow.Last, .bool vr10.1.Shadow.Bottom, .psl 4 (List.map TApiEntry.enc vr10.1.Out), .int .i64 vr10.1.Steps]]⟩), (264, ⟨1, true, true, 4, List.map TApiEntry.enc vr10.1.Out⟩), (312, ⟨g43, true, true, 1, List.map (encInt .i64) (v42.set i41.toNat (-1))⟩), (313, ⟨g32, true, true, 4, List.map TApiEntry.enc x26⟩), (352, ⟨0, true, false, 10, [[.psl 1 (List.map (encSl 4 TApiEntry.enc) vr13.1.Merge.Runs), .sl 312 g43 1 0 ((v42.set i41.toNat (-1)).length), .psl 2 (List.map TApiLsKey.enc vr13.1.Merge.Tree.Keys), .psl 1 (List.map (encInt .i64) vr13.1.Merge.Tree.Lose), .int .i64 vr13.1.Merge.Tree.Win, .bool vr13.1.Shadow.Some, .str vr13.1.Shadow.Last, .bool vr13.1.Shadow.Bottom, .sl 313 g32 4 0 x26.length, .int .i64 vr13.1.Steps]]⟩), (464, ⟨0, true, true, 10, [[.psl 1 (List.map (encSl 4 TApiEntry.enc) vr14.1.Merge.Runs), .psl 1 (List.map (encInt .i64) vr14.1.Merge.At), .psl 2 (List.map TApiLsKey.enc vr14.1.Merge.Tree.Keys), .psl 1 (List.map (encInt .i64) vr14.1.Merge.Tree.Lose), .int .i64 vr14.1.Merge.Tree.Win, .bool vr14.1.Shadow.Some, .str vr14.1.Shadow.Last, .bool vr14.1.Shadow.Bottom, .psl 4 (List.map TApiEntry.enc vr14.1.Out), .int .i64 vr14.1.Steps]]⟩), (544, ⟨1, true, true, 4, List.map TApiEntry.enc vr14.1.Out⟩)], 736, []⟩) [] (Nat.le_of_ble_eq_true rfl) ⟨rF, rE, rfl, rfl, trivial, trivial⟩ ?_
         refine awp_r2 760 [10, 13, 14, 17, 20, 22] (fun _ => none) rfl (fun _ _ => rS (rA he45a (rA he45b he45c))) ?_
         refine kn_then ?_
         exact ⟨⟨(fu, (IntKind.i64.wrap (i41 + 1)), (v42.set i41.toNat (-1)), g43), h1⟩, ⟨rF, rE, rfl, rfl, trivial, trivial⟩, Nat.lt_succ_self _⟩
        ·
         replace h1 := iteF h1 hb44
         refine awp_exit ?_
         refine kx_then ?_
         refine kx_then ?_
         refine kx_done ?_
         obtain rfl := Option.some.inj h1
         exact ⟨g43, Nat.le_of_ble_eq_true rfl, ⟨rF, rE, rfl, rfl, trivial, trivial⟩⟩
     ·
      refine awp_loopF (ι := { p : Nat × Int × List TApiEntry × Nat // bookendlaw13_SlicesOwn_l1 p.1 p.2.1 p.2.2.1 = some x26 }) (fun p => ⟨[(10, .ref 216 0 0 0), (13, .sl 264 1 4 0 vr10.1.Out.length), (14, .ref 352 0 0 0), (17, .ref 464 0 0 0), (20, .sl 544 1 4 0 vr14.1.Out.length), (21, .int .i64 p.1.2.1)], [(0, ⟨0, true, true, 2, [[.int .u8 vx3.e0, .int .u8 vx3.e1]]⟩), (88, ⟨0, true, true, 10, [[.psl 1 (List.map (encSl 4 TApiEntry.enc) vr7.1.Merge.Runs), .psl 1 (List.map (encInt .i64) vr7.1.Merge.At), .psl 2 (List.map TApiLsKey.enc vr7.1.Merge.Tree.Keys), .psl 1 (List.map (encInt .i64) vr7.1.Merge.Tree.Lose), .int .i64 vr7.1.Merge.Tree.Win, .bool vr7.1.Shadow.Some, .str vr7.1.Shadow.Last, .bool vr7.1.Shadow.Bottom, .psl 4 (List.map TApiEntry.enc vr7.1.Out), .int .i64 vr7.1.Steps]]⟩), (216, ⟨0, true, true, 10, [[.psl 1 (List.map (encSl 4 TApiEntry.enc) vr10.1.Merge.Runs), .psl 1 (List.map (encInt .i64) vr10.1.Merge.At), .psl 2 (List.map TApiLsKey.enc vr10.1.Merge.Tree.Keys), .psl 1 (List.map (encInt .i64) vr10.1.Merge.Tree.Lose), .int .i64 vr10.1.Merge.Tree.Win, .bool vr10.1.Shadow.Some, .str vr10.1.Shadow.Last, .bool vr10.1.Shadow.Bottom, .psl 4 (List.map TApiEntry.enc vr10.1.Out), .int .i64 vr10.1.Steps]]⟩), (264, ⟨1, true, true, 4, List.map TApiEntry.enc vr10.1.Out⟩), (312, ⟨0, true, true, 1, List.map (encInt .i64) vr13.1.Merge.At⟩), (313, ⟨p.1.2.2.2, true, true, 4, List.map TApiEntry.enc p.1.2.2.1⟩), (352, ⟨0, true, false, 10, [[.psl 1 (List.map (encSl 4 TApiEntry.enc) vr13.1.Merge.Runs), .sl 312 0 1 0 vr13.1.Merge.At.length, .psl 2 (List.map TApiLsKey.enc vr13.1.Merge.Tree.Keys), .psl 1 (List.map (encInt .i64) vr13.1.Merge.Tree.Lose), .int .i64 vr13.1.Merge.Tree.Win, .bool vr13.1.Shadow.Some, .str vr13.1.Shadow.Last, .bool vr13.1.Shadow.Bottom, .sl 313 p.1.2.2.2 4 0 p.1.2.2.1.length, .int .i64 vr13.1.Steps]]⟩), (464, ⟨0, true, true, 10, [[.psl 1 (List.map (encSl 4 TApiEntry.enc) vr14.1.Merge.Runs), .psl 1 (List.map (encInt .i64) vr14.1.Merge.At), .psl 2 (List.map TApiLsKey.enc vr14.1.Merge.Tree.Keys), .psl 1 (List.map (encInt .i64) vr14.1.Merge.Tree.Lose), .int .i64 vr14.1.Merge.Tree.Win, .bool vr14.1.Shadow.Some, .str vr14.1.Shadow.Last, .bool vr14.1.Shadow.Bottom, .psl 4 (List.map TApiEntry.enc vr14.1.Out), .int .i64 vr14.1.Steps]]⟩), (544, ⟨1, true, true, 4, List.map TApiEntry.enc vr14.1.Out⟩)], 592, []⟩) (fun p => p.1.1) ⟨(fu, 0, vr13.1.Out, 0), hxx26⟩ ⟨rF, rE, rfl, rfl, trivial, trivial⟩ (fun _ => Nat.le_refl _) ?_
      rintro ⟨⟨fu, i27, v28, g29⟩, h1⟩
      cases fu with
      | zero =>
   replace h1 : bookendlaw13_SlicesOwn_l1 0 i27 v28 = some x26 := h1
   rw [bookendlaw13_SlicesOwn_l1] at h1; cases h1
      | succ fu =>
       replace h1 : bookendlaw13_SlicesOwn_l1 (fu + 1) i27 v28 = some x26 := h1
       rw [bookendlaw13_SlicesOwn_l1] at h1
       refine (show AWP _ _ _ _ ⟨[(10, .ref 216 0 0 0), (13, .sl 264 1 4 0 vr10.1.Out.length), (14, .ref 352 0 0 0), (17, .ref 464 0 0 0), (20, .sl 544 1 4 0 vr14.1.Out.length), (21, .int .i64 i27)], [(0, ⟨0, true, true, 2, [[.int .u8 vx3.e0, .int .u8 vx3.e1]]⟩), (88, ⟨0, true, true, 10, [[.psl 1 (List.map (encSl 4 TApiEntry.enc) vr7.1.Merge.Runs), .psl 1 (List.map (encInt .i64) vr7.1.Merge.At), .psl 2 (List.map TApiLsKey.enc vr7.1.Merge.Tree.Keys), .psl 1 (List.map (encInt .i64) vr7.1.Merge.Tree.Lose), .int .i64 vr7.1.Merge.Tree.Win, .bool vr7.1.Shadow.Some, .str vr7.1.Shadow.Last, .bool vr7.1.Shadow.Bottom, .psl 4 (List.map TApiEntry.enc vr7.1.Out), .int .i64 vr7.1.Steps]]⟩), (216, ⟨0, true, true, 10, [[.psl 1 (List.map (encSl 4 TApiEntry.enc) vr10.1.Merge.Runs), .psl 1 (List.map (encInt .i64) vr10.1.Merge.At), .psl 2 (List.map TApiLsKey.enc vr10.1.Merge.Tree.Keys), .psl 1 (List.map (encInt .i64) vr10.1.Merge.Tree.Lose), .int .i64 vr10.1.Merge.Tree.Win, .bool vr10.1.Shadow.Some, .str vr10.1.Shadow.Last, .bool vr10.1.Shadow.Bottom, .psl 4 (List.map TApiEntry.enc vr10.1.Out), .int .i64 vr10.1.Steps]]⟩), (264, ⟨1, true, true, 4, List.map TApiEntry.enc vr10.1.Out⟩), (312, ⟨0, true, true, 1, List.map (encInt .i64) vr13.1.Merge.At⟩), (313, ⟨g29, true, true, 4, List.map TApiEntry.enc v28⟩), (352, ⟨0, true, false, 10, [[.psl 1 (List.map (encSl 4 TApiEntry.enc) vr13.1.Merge.Runs), .sl 312 0 1 0 vr13.1.Merge.At.length, .psl 2 (List.map TApiLsKey.enc vr13.1.Merge.Tree.Keys), .psl 1 (List.map (encInt .i64) vr13.1.Merge.Tree.Lose), .int .i64 vr13.1.Merge.Tree.Win, .bool vr13.1.Shadow.Some, .str vr13.1.Shadow.Last, .bool vr13.1.Shadow.Bottom, .sl 313 g29 4 0 v28.length, .int .i64 vr13.1.Steps]]⟩), (464, ⟨0, true, true, 10, [[.psl 1 (List.map (encSl 4 TApiEntry.enc) vr14.1.Merge.Runs), .psl 1 (List.map (encInt .i64) vr14.1.Merge.At), .psl 2 (List.map TApiLsKey.enc vr14.1.Merge.Tree.Keys), .psl 1 (List.map (encInt .i64) vr14.1.Merge.Tree.Lose), .int .i64 vr14.1.Merge.Tree.Win, .bool vr14.1.Shadow.Some, .str vr14.1.Shadow.Last, .bool vr14.1.Shadow.Bottom, .psl 4 (List.map TApiEntry.enc vr14.1.Out), .int .i64 vr14.1.Steps]]⟩), (544, ⟨1, true, true, 4, List.map TApiEntry.enc vr14.1.Out⟩)], 592, []⟩ from ?_)
       refine awp_seq ?_
       refine awp_sr2 632 [10, 13, 14, 17, 20, 21, 82] (fun _ => none) rfl (fun _ _ => rT) ?_
       refine awp_if rfl (fun hb30 => ?_) (fun hb30 => ?_)
       ·
        replace h1 := iteT h1 hb30
        refine awp_skip ?_
        refine kn_then ?_
        refine awp_seq ?_
        refine awp_block ?_
        obtain ⟨e31, he31, h1⟩ := bindS h1
        obtain ⟨he31a, he31b, he31c⟩ := idxS he31
        refine awp_r2 680 [10, 13, 14, 17, 20, 21] (fun _ => none) rfl (fun _ _ => rS (rA he31a (rA he31b he31c))) ?_
        refine kn_block ?_
        refine kn_then ?_
        refine awp_re (s2 := ⟨[(10, .ref 216 0 0 0), (13, .sl 264 1 4 0 vr10.1.Out.length), (14, .ref 352 0 0 0), (17, .ref 464 0 0 0), (20, .sl 544 1 4 0 vr14.1.Out.length), (21, .int .i64 i27)], [(0, ⟨0, true, true, 2, [[.int .u8 vx3.e0, .int .u8 vx3.e1]]⟩), (88, ⟨0, true, true, 10, [[.psl 1 (List.map (encSl 4 TApiEntry.enc) vr7.1.Merge.Runs), .psl 1 (List.map (encInt .i64) vr7.1.Merge.At), .psl 2 (List.map TApiLsKey.enc vr7.1.Merge.Tree.Keys), .psl 1 (List.map (encInt .i64) vr7.1.Merge.Tree.Lose), .int .i64 vr7.1.Merge.Tree.Win, .bool vr7.1.Shadow.Some, .str vr7.1.Shadow.Last, .bool vr7.1.Shadow.Bottom, .psl 4 (List.map TApiEntry.enc vr7.1.Out), .int .i64 vr7.1.Steps]]⟩), (216, ⟨0, true, true, 10, [[.psl 1 (List.map (encSl 4 TApiEntry.enc) vr10.1.Merge.Runs), .psl 1 (List.map (encInt .i64) vr10.1.Merge.At), .psl 2 (List.map TApiLsKey.enc vr10.1.Merge.Tree.Keys), .psl 1 (List.map (encInt .i64) vr10.1.Merge.Tree.Lose), .int .i64 vr10.1.Merge.Tree.Win, .bool vr10.1.Shadow.Some, .str vr10.1.Shadow.Last, .bool vr10.1.Shadow.Bottom, .psl 4 (List.map TApiEntry.enc vr10.1.Out), .int .i64 vr10.1.Steps]]⟩), (264, ⟨1, true, true, 4, List.map TApiEntry.enc vr10.1.Out⟩), (312, ⟨0, true, true, 1, List.map (encInt .i64) vr13.1.Merge.At⟩), (313, ⟨g29, true, true, 4, List.map TApiEntry.enc (v28.set i27.toNat (TApiEntry.mk [99, 104, 97, 110, 103, 101, 100] [] false 0))⟩), (352, ⟨0, true, false, 10, [[.psl 1 (List.map (encSl 4 TApiEntry.enc) vr13.1.Merge.Runs), .sl 312 0 1 0 vr13.1.Merge.At.length, .psl 2 (List.map TApiLsKey.enc vr13.1.Merge.Tree.Keys), .psl 1 (List.map (encInt .i64) vr13.1.Merge.Tree.Lose), .int .i64 vr13.1.Merge.Tree.Win, .bool vr13.1.Shadow.Some, .str vr13.1.Shadow.Last, .bool vr13.1.Shadow.Bottom, .sl 313 g29 4 0 ((v28.set i27.toNat (TApiEntry.mk [99, 104, 97, 110, 103, 101, 100] [] false 0)).length), .int .i64 vr13.1.Steps]]⟩), (464, ⟨0, true, true, 10, [[.psl 1 (List.map (encSl 4 TApiEntry.enc) vr14.1.Merge.Runs), .psl 1 (List.map (encInt .i64) vr14.1.Merge.At), .psl 2 (List.map TApiLsKey.enc vr14.1.Merge.Tree.Keys), .psl 1 (List.map (encInt .i64) vr14.1.Merge.Tree.Lose), .int .i64 vr14.1.Merge.Tree.Win, .bool vr14.1.Shadow.Some, .str vr14.1.Shadow.Last, .bool vr14.1.Shadow.Bottom, .psl 4 (List.map TApiEntry.enc vr14.1.Out), .int .i64 vr14.1.Steps]]⟩), (544, ⟨1, true, true, 4, List.map TApiEntry.enc vr14.1.Out⟩)], 680, []⟩) [] (Nat.le_of_ble_eq_true rfl) ⟨rF, rE, rfl, rfl, trivial, trivial⟩ ?_
        refine awp_r2 704 [10, 13, 14, 17, 20, 21] (fun _ => none) rfl (fun _ _ => rS (rA he31a (rA he31b he31c))) ?_
        refine kn_then ?_
        exact ⟨⟨(fu, (IntKind.i64.wrap (i27 + 1)), (v28.set i27.toNat (TApiEntry.mk [99, 104, 97, 110, 103, 101, 100] [] false 0)), g29), h1⟩, ⟨rF, rE, rfl, rfl, trivial, trivial⟩, Nat.lt_succ_self _⟩
       ·
        replace h1 := iteF h1 hb30
        refine awp_exit ?_
        refine kx_then ?_
        refine kx_then ?_
        refine kx_done ?_
        obtain rfl := Option.some.inj h1
        exact ⟨g29, Nat.le_of_ble_eq_true rfl, ⟨rF, rE, rfl, rfl, trivial, trivial⟩⟩
end Go.T
end
section
namespace Go.Proofs.Ytjmdbbhkgnlmmaa
open Go.T
theorem slicesOwn : Rows.SlicesOwnSaid :=
  slicesOwn_over (fun x0 x1 x2 w0 w1 w2 => by
    have u8 : ∀ v : Int, (Lit.int .u8 v).wf = true → 0 ≤ v ∧ v ≤ 255 := fun v hw => by
      simp [Lit.wf, IntKind.min, IntKind.max, IntKind.signed, IntKind.bits] at hw
      omega
    obtain ⟨fu, h⟩ := (slicesOwn_ev x0 x1 x2 (u8 _ w2.1) (u8 _ w2.2)).one
    exact ⟨_, c_bookendlaw13_SlicesOwn h⟩)
end Go.Proofs.Ytjmdbbhkgnlmmaa
end
