/- Step by n and then by m is Step by n + m, Out grows behind what it was and Left is less by what was used, of states that are not far and are right, and numbers modulo 150; no other condition. -/
import Derived.Test.YtjmdbbhkgnlmmaaEGt
import Derived.Test.YtjmdbbhkgnlmmaaELkSlicesSums
import Derived.Test.YtjmdbbhkgnlmmaaE2
set_option linter.unusedSimpArgs false
set_option linter.unusedVariables false
section
namespace Go.T
open Go Go.AM Go.Proofs
set_option maxRecDepth 100000
set_option maxHeartbeats 4000000
set_option linter.unusedVariables false
theorem c_slices_Step {fu : Nat} {vs1 : TApiSlState} {n2 : Int} {r : TApiSlState × Int × Int} (h0 : slices_Step fu vs1 n2 = some r) : PCall Try.prog 18 [.agg (TApiSlState.enc vs1), .int .i64 n2] (.tup [.agg (TApiSlState.enc r.1), .int .i64 r.2.1, .int .i64 r.2.2]) [] := by
 refine awp_pcall Try.func18 rfl (by decide) (Nat.le_of_ble_eq_true rfl) ?_
 dsimp only [Try.f18]
 rw [slices_Step] at h0
 refine (show AWP _ _ _ _ ⟨enumFr 0 _, [], 0, []⟩ from ?_)
 refine awp_sr2 32 [1, 2, 4] (fun _ => none) rfl (fun _ _ => rT) ?_
 obtain ⟨vr3, hvr3, h0⟩ := bindS h0
 refine awp_sr2 88 [1, 2, 4, 6, 7] (fun | 1 => some (.tup [.int .i64 vr3.1, .int .i64 vr3.2], []) | _ => none) rfl (fun _ _ => rC (c_slices_Left hvr3)) ?_
 refine awp_seq ?_
 refine awp_block ?_
 refine awp_sr2 112 [1, 2, 4, 6, 7, 15] (fun _ => none) rfl (fun _ _ => rT) ?_
 refine awp_if rfl (fun hb4 => ?_) (fun hb4 => ?_)
 ·
  replace h0 := iteT h0 hb4
  refine awp_sr2 152 [4, 5, 6] (fun _ => none) rfl (fun _ _ => rT) ?_
  refine awp_ret ?_
  refine kr_block ?_
  refine kr_then ?_
  obtain rfl := Option.some.inj h0
  refine leave_retG [] ?_
  exact rG
 ·
  replace h0 := iteF h0 hb4
  refine awp_sr2 136 [1, 2, 4, 7, 20] (fun _ => none) rfl (fun _ _ => rT) ?_
  refine awp_if rfl (fun hb5 => ?_) (fun hb5 => ?_)
  ·
   replace h0 := iteT h0 hb5
   refine awp_sr2 168 [4, 5, 6] (fun _ => none) rfl (fun _ _ => rT) ?_
   refine awp_ret ?_
   refine kr_block ?_
   refine kr_then ?_
   obtain rfl := Option.some.inj h0
   refine leave_retG [] ?_
   exact rG
  ·
   replace h0 := iteF h0 hb5
   refine awp_skip ?_
   refine kn_block ?_
   refine kn_then ?_
   refine awp_sr2 168 [2, 4, 5] (fun _ => none) rfl (fun _ _ => rT) ?_
   refine awp_seq ?_
   refine awp_sr2 208 [2, 4, 5, 31] (fun _ => none) rfl (fun _ _ => rT) ?_
   refine awp_if rfl (fun hb6 => ?_) (fun hb6 => ?_)
   ·
    replace h0 := iteT h0 hb6
    refine awp_sr2 240 [4, 5, 6] (fun _ => none) rfl (fun _ _ => rT) ?_
    refine awp_ret ?_
    refine kr_then ?_
    obtain rfl := Option.some.inj h0
    refine leave_retG [] ?_
    exact rG
   ·
    replace h0 := iteF h0 hb6
    refine awp_skip ?_
    refine kn_then ?_
    refine awp_sr2 240 [2, 4, 5, 8] (fun _ => none) rfl (fun _ _ => rT) ?_
    obtain ⟨hc7, h0⟩ := guS h0
    refine awp_sr2 288 [2, 4, 5, 8] (fun _ => none) rfl (fun _ _ => rT) ?_
    refine awp_re (s2 := ⟨[(2, .ref 0 0 0 0), (4, .ref 8 0 0 0), (5, .int .i64 (if vr3.1 < n2 then vr3.1 else n2)), (8, .ref 224 0 0 0)], [(0, ⟨0, true, true, 10, [[.psl 1 (List.map (encSl 4 TApiEntry.enc) vs1.Merge.Runs), .psl 1 (List.map (encInt .i64) vs1.Merge.At), .psl 2 (List.map TApiLsKey.enc vs1.Merge.Tree.Keys), .psl 1 (List.map (encInt .i64) vs1.Merge.Tree.Lose), .int .i64 vs1.Merge.Tree.Win, .bool vs1.Shadow.Some, .str vs1.Shadow.Last, .bool vs1.Shadow.Bottom, .psl 4 (List.map TApiEntry.enc vs1.Out), .int .i64 vs1.Steps]]⟩), (8, ⟨0, true, true, 10, [[.nils, .nils, .nils, .nils, .int .i64 0, .bool false, .str [], .bool false, .nils, .int .i64 0]]⟩), (224, ⟨0, true, false, 10, [[.psl 1 (List.map (encSl 4 TApiEntry.enc) vs1.Merge.Runs), .psl 1 (List.map (encInt .i64) vs1.Merge.At), .psl 2 (List.map TApiLsKey.enc vs1.Merge.Tree.Keys), .psl 1 (List.map (encInt .i64) vs1.Merge.Tree.Lose), .int .i64 vs1.Merge.Tree.Win, .bool vs1.Shadow.Some, .str vs1.Shadow.Last, .bool vs1.Shadow.Bottom, .sl 256 0 4 0 vs1.Out.length, .int .i64 vs1.Steps]]⟩), (256, ⟨0, true, true, 4, List.map TApiEntry.enc vs1.Out⟩)], 288, []⟩) [] (Nat.le_of_ble_eq_true rfl) ⟨rF, rE, rfl, rfl, trivial, trivial⟩ ?_
    obtain ⟨hc8, h0⟩ := guS h0
    refine awp_sr2 352 [4, 5, 8] (fun _ => none) rfl (fun _ _ => rT) ?_
    refine awp_re (s2 := ⟨[(4, .ref 8 0 0 0), (5, .int .i64 (if vr3.1 < n2 then vr3.1 else n2)), (8, .ref 224 0 0 0)], [(0, ⟨0, true, true, 10, [[.psl 1 (List.map (encSl 4 TApiEntry.enc) vs1.Merge.Runs), .psl 1 (List.map (encInt .i64) vs1.Merge.At), .psl 2 (List.map TApiLsKey.enc vs1.Merge.Tree.Keys), .psl 1 (List.map (encInt .i64) vs1.Merge.Tree.Lose), .int .i64 vs1.Merge.Tree.Win, .bool vs1.Shadow.Some, .str vs1.Shadow.Last, .bool vs1.Shadow.Bottom, .psl 4 (List.map TApiEntry.enc vs1.Out), .int .i64 vs1.Steps]]⟩), (8, ⟨0, true, true, 10, [[.nils, .nils, .nils, .nils, .int .i64 0, .bool false, .str [], .bool false, .nils, .int .i64 0]]⟩), (224, ⟨0, true, false, 10, [[.psl 1 (List.map (encSl 4 TApiEntry.enc) vs1.Merge.Runs), .sl 312 0 1 0 vs1.Merge.At.length, .psl 2 (List.map TApiLsKey.enc vs1.Merge.Tree.Keys), .psl 1 (List.map (encInt .i64) vs1.Merge.Tree.Lose), .int .i64 vs1.Merge.Tree.Win, .bool vs1.Shadow.Some, .str vs1.Shadow.Last, .bool vs1.Shadow.Bottom, .sl 256 0 4 0 vs1.Out.length, .int .i64 vs1.Steps]]⟩), (256, ⟨0, true, true, 4, List.map TApiEntry.enc vs1.Out⟩), (312, ⟨0, true, true, 1, List.map (encInt .i64) vs1.Merge.At⟩)], 352, []⟩) [] (Nat.le_of_ble_eq_true rfl) ⟨rF, rE, rfl, rfl, trivial, trivial⟩ ?_
    refine awp_seq ?_
    refine awp_sops2 4 rfl ?_
    refine awpo_cut (l' := List.range' 0 2 ++ (2 :: (List.range' 3 1 ++ []))) rfl ?_
    refine awpo_seg 0 2 368 (2 :: (List.range' 3 1 ++ [])) (fun _ => none) rfl rfl rfl (fun _ _ => rT) ?_
    refine awpo_in rfl rfl rfl rfl rfl Try.func38 rfl (by decide) rfl (Nat.le_of_ble_eq_true rfl) ?_
    dsimp only [Try.f38]
    refine awp_re (s2 := ⟨[(0, .int .i64 (if vr3.1 < n2 then vr3.1 else n2)), (1, .fn 39 [.ref 224 0 0 0] [])], [(0, ⟨0, true, true, 10, [[.psl 1 (List.map (encSl 4 TApiEntry.enc) vs1.Merge.Runs), .psl 1 (List.map (encInt .i64) vs1.Merge.At), .psl 2 (List.map TApiLsKey.enc vs1.Merge.Tree.Keys), .psl 1 (List.map (encInt .i64) vs1.Merge.Tree.Lose), .int .i64 vs1.Merge.Tree.Win, .bool vs1.Shadow.Some, .str vs1.Shadow.Last, .bool vs1.Shadow.Bottom, .psl 4 (List.map TApiEntry.enc vs1.Out), .int .i64 vs1.Steps]]⟩), (8, ⟨0, true, true, 10, [[.nils, .nils, .nils, .nils, .int .i64 0, .bool false, .str [], .bool false, .nils, .int .i64 0]]⟩), (224, ⟨0, true, false, 10, [[.psl 1 (List.map (encSl 4 TApiEntry.enc) vs1.Merge.Runs), .sl 312 0 1 0 vs1.Merge.At.length, .psl 2 (List.map TApiLsKey.enc vs1.Merge.Tree.Keys), .psl 1 (List.map (encInt .i64) vs1.Merge.Tree.Lose), .int .i64 vs1.Merge.Tree.Win, .bool vs1.Shadow.Some, .str vs1.Shadow.Last, .bool vs1.Shadow.Bottom, .sl 256 0 4 0 vs1.Out.length, .int .i64 vs1.Steps]]⟩), (256, ⟨0, true, true, 4, List.map TApiEntry.enc vs1.Out⟩), (312, ⟨0, true, true, 1, List.map (encInt .i64) vs1.Merge.At⟩)], 368, []⟩) [] (Nat.le_of_ble_eq_true rfl) ⟨rF, rE, rfl, rfl, trivial, trivial⟩ ?_
    refine awp_sr2 376 [0, 1] (fun _ => none) rfl (fun _ _ => rT) ?_
    refine awp_seq ?_
    refine awp_sr2 392 [1, 6, 7] (fun _ => none) rfl (fun _ _ => rT) ?_
    refine awp_frz2 [312] (fun Kt hK => by simp only [↓reduceIte, reduceCtorEq, Nat.reduceEqDiff, Nat.reduceLT, Nat.reduceLeDiff, Nat.reduceAdd, Nat.reduceMul, Int.reduceToNat, Nat.reduceBEq, push_cast]; exact hK) ?_
    refine awp_re (s2 := ⟨[(1, .fn 39 [.ref 224 0 0 0] []), (6, .int .i64 (if vr3.1 < n2 then vr3.1 else n2)), (7, .int .i64 0)], [(0, ⟨0, true, true, 10, [[.psl 1 (List.map (encSl 4 TApiEntry.enc) vs1.Merge.Runs), .psl 1 (List.map (encInt .i64) vs1.Merge.At), .psl 2 (List.map TApiLsKey.enc vs1.Merge.Tree.Keys), .psl 1 (List.map (encInt .i64) vs1.Merge.Tree.Lose), .int .i64 vs1.Merge.Tree.Win, .bool vs1.Shadow.Some, .str vs1.Shadow.Last, .bool vs1.Shadow.Bottom, .psl 4 (List.map TApiEntry.enc vs1.Out), .int .i64 vs1.Steps]]⟩), (8, ⟨0, true, true, 10, [[.nils, .nils, .nils, .nils, .int .i64 0, .bool false, .str [], .bool false, .nils, .int .i64 0]]⟩), (224, ⟨0, true, false, 10, [[.psl 1 (List.map (encSl 4 TApiEntry.enc) vs1.Merge.Runs), .psl 1 (List.map (encInt .i64) vs1.Merge.At), .psl 2 (List.map TApiLsKey.enc vs1.Merge.Tree.Keys), .psl 1 (List.map (encInt .i64) vs1.Merge.Tree.Lose), .int .i64 vs1.Merge.Tree.Win, .bool vs1.Shadow.Some, .str vs1.Shadow.Last, .bool vs1.Shadow.Bottom, .sl 256 0 4 0 vs1.Out.length, .int .i64 vs1.Steps]]⟩), (256, ⟨0, true, true, 4, List.map TApiEntry.enc vs1.Out⟩), (312, ⟨0, false, true, 1, List.map (encInt .i64) vs1.Merge.At⟩)], 392, []⟩) [] (Nat.le_of_ble_eq_true rfl) ⟨rF, rE, rfl, rfl, trivial, trivial⟩ ?_
    obtain ⟨x42, hxx42, h0⟩ := bindS h0
    refine awp_bloop (fun s' => ∃ o62 : List (List TApiEntry) × List Int × List TApiLsKey × List Int × Int × Bool × List UInt8 × Bool × Int × List TApiEntry, ∃ g63 : Nat, x42 = .inl o62 ∧ s'.nx ≤ 400 ∧ LeN [] s' ⟨[], [(0, ⟨0, true, true, 10, [[.psl 1 (List.map (encSl 4 TApiEntry.enc) vs1.Merge.Runs), .psl 1 (List.map (encInt .i64) vs1.Merge.At), .psl 2 (List.map TApiLsKey.enc vs1.Merge.Tree.Keys), .psl 1 (List.map (encInt .i64) vs1.Merge.Tree.Lose), .int .i64 vs1.Merge.Tree.Win, .bool vs1.Shadow.Some, .str vs1.Shadow.Last, .bool vs1.Shadow.Bottom, .psl 4 (List.map TApiEntry.enc vs1.Out), .int .i64 vs1.Steps]]⟩), (8, ⟨0, true, true, 10, [[.nils, .nils, .nils, .nils, .int .i64 0, .bool false, .str [], .bool false, .nils, .int .i64 0]]⟩), (224, ⟨0, true, false, 10, [[.psl 1 (List.map (encSl 4 TApiEntry.enc) o62.1), .psl 1 (List.map (encInt .i64) o62.2.1), .psl 2 (List.map TApiLsKey.enc o62.2.2.1), .psl 1 (List.map (encInt .i64) o62.2.2.2.1), .int .i64 o62.2.2.2.2.1, .bool o62.2.2.2.2.2.1, .str o62.2.2.2.2.2.2.1, .bool o62.2.2.2.2.2.2.2.1, .sl 256 g63 4 0 o62.2.2.2.2.2.2.2.2.2.length, .int .i64 o62.2.2.2.2.2.2.2.2.1]]⟩), (256, ⟨g63, true, true, 4, List.map TApiEntry.enc o62.2.2.2.2.2.2.2.2.2⟩), (312, ⟨0, false, true, 1, List.map (encInt .i64) vs1.Merge.At⟩)], 400, []⟩) ?_ ?_
    ·
     intro s' hs
     obtain ⟨o62, g63, rfl, hn, hs⟩ := hs
     refine kn_then ?_
     refine awp_re [] hn hs ?_
     refine awp_sr2 408 [4] (fun _ => none) rfl (fun _ _ => rT) ?_
     refine awp_ret ?_
     refine leave_retK (fun _ _ => rT) ?_
     refine awpo_re (s2 := ⟨[(4, .ref 8 0 0 0), (5, .int .i64 (if vr3.1 < n2 then vr3.1 else n2)), (8, .ref 224 0 0 0), (47, .int .i64 (if vr3.1 < n2 then vr3.1 else n2)), (48, .fn 39 [.ref 224 0 0 0] []), (49, .int .i64 0)], [(0, ⟨0, true, true, 10, [[.psl 1 (List.map (encSl 4 TApiEntry.enc) vs1.Merge.Runs), .psl 1 (List.map (encInt .i64) vs1.Merge.At), .psl 2 (List.map TApiLsKey.enc vs1.Merge.Tree.Keys), .psl 1 (List.map (encInt .i64) vs1.Merge.Tree.Lose), .int .i64 vs1.Merge.Tree.Win, .bool vs1.Shadow.Some, .str vs1.Shadow.Last, .bool vs1.Shadow.Bottom, .psl 4 (List.map TApiEntry.enc vs1.Out), .int .i64 vs1.Steps]]⟩), (8, ⟨0, true, true, 10, [[.nils, .nils, .nils, .nils, .int .i64 0, .bool false, .str [], .bool false, .nils, .int .i64 0]]⟩), (224, ⟨0, true, false, 10, [[.psl 1 (List.map (encSl 4 TApiEntry.enc) o62.1), .psl 1 (List.map (encInt .i64) o62.2.1), .psl 2 (List.map TApiLsKey.enc o62.2.2.1), .psl 1 (List.map (encInt .i64) o62.2.2.2.1), .int .i64 o62.2.2.2.2.1, .bool o62.2.2.2.2.2.1, .str o62.2.2.2.2.2.2.1, .bool o62.2.2.2.2.2.2.2.1, .sl 256 g63 4 0 o62.2.2.2.2.2.2.2.2.2.length, .int .i64 o62.2.2.2.2.2.2.2.2.1]]⟩), (256, ⟨g63, true, true, 4, List.map TApiEntry.enc o62.2.2.2.2.2.2.2.2.2⟩), (312, ⟨0, false, true, 1, List.map (encInt .i64) vs1.Merge.At⟩)], 408, []⟩) [] (Nat.le_of_ble_eq_true rfl) ⟨rF, rE, rfl, rfl, trivial, trivial⟩ ?_
     refine awpo_cut (l' := List.range' 3 1 ++ []) rfl ?_
     refine awpo_seg 3 1 416 [] (fun _ => none) rfl rfl rfl (fun _ _ => rT) ?_
     refine awpo_nil ?_
     refine kn_then ?_
     refine awp_re (s2 := ⟨[(4, .ref 8 0 0 0), (5, .int .i64 (if vr3.1 < n2 then vr3.1 else n2)), (8, .ref 224 0 0 0), (9, .int .i64 0)], [(0, ⟨0, true, true, 10, [[.psl 1 (List.map (encSl 4 TApiEntry.enc) vs1.Merge.Runs), .psl 1 (List.map (encInt .i64) vs1.Merge.At), .psl 2 (List.map TApiLsKey.enc vs1.Merge.Tree.Keys), .psl 1 (List.map (encInt .i64) vs1.Merge.Tree.Lose), .int .i64 vs1.Merge.Tree.Win, .bool vs1.Shadow.Some, .str vs1.Shadow.Last, .bool vs1.Shadow.Bottom, .psl 4 (List.map TApiEntry.enc vs1.Out), .int .i64 vs1.Steps]]⟩), (8, ⟨0, true, true, 10, [[.nils, .nils, .nils, .nils, .int .i64 0, .bool false, .str [], .bool false, .nils, .int .i64 0]]⟩), (224, ⟨0, true, false, 10, [[.psl 1 (List.map (encSl 4 TApiEntry.enc) o62.1), .psl 1 (List.map (encInt .i64) o62.2.1), .psl 2 (List.map TApiLsKey.enc o62.2.2.1), .psl 1 (List.map (encInt .i64) o62.2.2.2.1), .int .i64 o62.2.2.2.2.1, .bool o62.2.2.2.2.2.1, .str o62.2.2.2.2.2.2.1, .bool o62.2.2.2.2.2.2.2.1, .sl 256 g63 4 0 o62.2.2.2.2.2.2.2.2.2.length, .int .i64 o62.2.2.2.2.2.2.2.2.1]]⟩), (256, ⟨g63, true, true, 4, List.map TApiEntry.enc o62.2.2.2.2.2.2.2.2.2⟩), (312, ⟨0, false, true, 1, List.map (encInt .i64) vs1.Merge.At⟩)], 416, []⟩) [] (Nat.le_of_ble_eq_true rfl) ⟨rF, rE, rfl, rfl, trivial, trivial⟩ ?_
     refine awp_sr2 432 [4, 5, 8, 9, 51] (fun _ => none) rfl (fun _ _ => rT) ?_
     refine awp_condF rfl ?_
     refine awp_skip ?_
     refine kn_then ?_
     refine awp_sr2 480 [4, 5, 6] (fun _ => none) rfl (fun _ _ => rT) ?_
     refine awp_ret ?_
     obtain rfl := Option.some.inj h0
     refine leave_retG [] ?_
     exact rG
    ·
     refine awp_loopF (ι := { p : Nat × Int × List (List TApiEntry) × List Int × List TApiLsKey × List Int × Int × Bool × List UInt8 × Bool × Int × List TApiEntry × Nat // slices_Step_l1 vr3 n2 p.1 p.2.1 p.2.2.1 p.2.2.2.1 p.2.2.2.2.1 p.2.2.2.2.2.1 p.2.2.2.2.2.2.1 p.2.2.2.2.2.2.2.1 p.2.2.2.2.2.2.2.2.1 p.2.2.2.2.2.2.2.2.2.1 p.2.2.2.2.2.2.2.2.2.2.1 p.2.2.2.2.2.2.2.2.2.2.2.1 = some x42 }) (fun p => ⟨[(1, .fn 39 [.ref 224 0 0 0] []), (6, .int .i64 (if vr3.1 < n2 then vr3.1 else n2)), (7, .int .i64 p.1.2.1)], [(0, ⟨0, true, true, 10, [[.psl 1 (List.map (encSl 4 TApiEntry.enc) vs1.Merge.Runs), .psl 1 (List.map (encInt .i64) vs1.Merge.At), .psl 2 (List.map TApiLsKey.enc vs1.Merge.Tree.Keys), .psl 1 (List.map (encInt .i64) vs1.Merge.Tree.Lose), .int .i64 vs1.Merge.Tree.Win, .bool vs1.Shadow.Some, .str vs1.Shadow.Last, .bool vs1.Shadow.Bottom, .psl 4 (List.map TApiEntry.enc vs1.Out), .int .i64 vs1.Steps]]⟩), (8, ⟨0, true, true, 10, [[.nils, .nils, .nils, .nils, .int .i64 0, .bool false, .str [], .bool false, .nils, .int .i64 0]]⟩), (224, ⟨0, true, false, 10, [[.psl 1 (List.map (encSl 4 TApiEntry.enc) p.1.2.2.1), .psl 1 (List.map (encInt .i64) p.1.2.2.2.1), .psl 2 (List.map TApiLsKey.enc p.1.2.2.2.2.1), .psl 1 (List.map (encInt .i64) p.1.2.2.2.2.2.1), .int .i64 p.1.2.2.2.2.2.2.1, .bool p.1.2.2.2.2.2.2.2.1, .str p.1.2.2.2.2.2.2.2.2.1, .bool p.1.2.2.2.2.2.2.2.2.2.1, .sl 256 p.1.2.2.2.2.2.2.2.2.2.2.2.2 4 0 p.1.2.2.2.2.2.2.2.2.2.2.2.1.length, .int .i64 p.1.2.2.2.2.2.2.2.2.2.2.1]]⟩), (256, ⟨p.1.2.2.2.2.2.2.2.2.2.2.2.2, true, true, 4, List.map TApiEntry.enc p.1.2.2.2.2.2.2.2.2.2.2.2.1⟩), (312, ⟨0, false, true, 1, List.map (encInt .i64) vs1.Merge.At⟩)], 392, []⟩) (fun p => p.1.1) ⟨(fu, 0, vs1.Merge.Runs, vs1.Merge.At, vs1.Merge.Tree.Keys, vs1.Merge.Tree.Lose, vs1.Merge.Tree.Win, vs1.Shadow.Some, vs1.Shadow.Last, vs1.Shadow.Bottom, vs1.Steps, vs1.Out, 0), hxx42⟩ ⟨rF, rE, rfl, rfl, trivial, trivial⟩ (fun _ => Nat.le_refl _) ?_
     rintro ⟨⟨fu, left43, v44, v45, v46, v47, v48, v49, v50, v51, v52, v53, g54⟩, h1⟩
     cases fu with
     | zero =>
   replace h1 : slices_Step_l1 vr3 n2 0 left43 v44 v45 v46 v47 v48 v49 v50 v51 v52 v53 = some x42 := h1
   rw [slices_Step_l1] at h1; cases h1
     | succ fu =>
      replace h1 : slices_Step_l1 vr3 n2 (fu + 1) left43 v44 v45 v46 v47 v48 v49 v50 v51 v52 v53 = some x42 := h1
      rw [slices_Step_l1] at h1
      refine (show AWP _ _ _ _ ⟨[(1, .fn 39 [.ref 224 0 0 0] []), (6, .int .i64 (if vr3.1 < n2 then vr3.1 else n2)), (7, .int .i64 left43)], [(0, ⟨0, true, true, 10, [[.psl 1 (List.map (encSl 4 TApiEntry.enc) vs1.Merge.Runs), .psl 1 (List.map (encInt .i64) vs1.Merge.At), .psl 2 (List.map TApiLsKey.enc vs1.Merge.Tree.Keys), .psl 1 (List.map (encInt .i64) vs1.Merge.Tree.Lose), .int .i64 vs1.Merge.Tree.Win, .bool vs1.Shadow.Some, .str vs1.Shadow.Last, .bool vs1.Shadow.Bottom, .psl 4 (List.map TApiEntry.enc vs1.Out), .int .i64 vs1.Steps]]⟩), (8, ⟨0, true, true, 10, [[.nils, .nils, .nils, .nils, .int .i64 0, .bool false, .str [], .bool false, .nils, .int .i64 0]]⟩), (224, ⟨0, true, false, 10, [[.psl 1 (List.map (encSl 4 TApiEntry.enc) v44), .psl 1 (List.map (encInt .i64) v45), .psl 2 (List.map TApiLsKey.enc v46), .psl 1 (List.map (encInt .i64) v47), .int .i64 v48, .bool v49, .str v50, .bool v51, .sl 256 g54 4 0 v53.length, .int .i64 v52]]⟩), (256, ⟨g54, true, true, 4, List.map TApiEntry.enc v53⟩), (312, ⟨0, false, true, 1, List.map (encInt .i64) vs1.Merge.At⟩)], 392, []⟩ from ?_)
      refine awp_sr2 400 [1, 6, 7, 8] (fun _ => none) rfl (fun _ _ => rT) ?_
      refine awp_seq ?_
      refine awp_if rfl (fun hb55 => ?_) (fun hb55 => ?_)
      ·
       replace h1 := iteT h1 hb55
       refine awp_skip ?_
       refine kn_then ?_
       refine awp_seq ?_
       refine awp_block ?_
       refine awp_sops2 3 rfl ?_
       refine awpo_cut (l' := List.range' 0 1 ++ (1 :: (List.range' 2 1 ++ []))) rfl ?_
       refine awpo_seg 0 1 408 (1 :: (List.range' 2 1 ++ [])) (fun _ => none) rfl rfl rfl (fun _ _ => rT) ?_
       refine awpo_in rfl rfl rfl rfl rfl Try.func39 rfl (by decide) rfl (Nat.le_of_ble_eq_true rfl) ?_
       dsimp only [Try.f39]
       refine awp_re (s2 := ⟨[(0, .ref 224 0 0 0)], [(0, ⟨0, true, true, 10, [[.psl 1 (List.map (encSl 4 TApiEntry.enc) vs1.Merge.Runs), .psl 1 (List.map (encInt .i64) vs1.Merge.At), .psl 2 (List.map TApiLsKey.enc vs1.Merge.Tree.Keys), .psl 1 (List.map (encInt .i64) vs1.Merge.Tree.Lose), .int .i64 vs1.Merge.Tree.Win, .bool vs1.Shadow.Some, .str vs1.Shadow.Last, .bool vs1.Shadow.Bottom, .psl 4 (List.map TApiEntry.enc vs1.Out), .int .i64 vs1.Steps]]⟩), (8, ⟨0, true, true, 10, [[.nils, .nils, .nils, .nils, .int .i64 0, .bool false, .str [], .bool false, .nils, .int .i64 0]]⟩), (224, ⟨0, true, false, 10, [[.psl 1 (List.map (encSl 4 TApiEntry.enc) v44), .psl 1 (List.map (encInt .i64) v45), .psl 2 (List.map TApiLsKey.enc v46), .psl 1 (List.map (encInt .i64) v47), .int .i64 v48, .bool v49, .str v50, .bool v51, .sl 256 g54 4 0 v53.length, .int .i64 v52]]⟩), (256, ⟨g54, true, true, 4, List.map TApiEntry.enc v53⟩), (312, ⟨0, false, true, 1, List.map (encInt .i64) vs1.Merge.At⟩)], 408, []⟩) [] (Nat.le_of_ble_eq_true rfl) ⟨rF, rE, rfl, rfl, trivial, trivial⟩ ?_
       refine awp_sr2 416 [0] (fun _ => none) rfl (fun _ _ => rT) ?_
       obtain ⟨vr56, hvr56, h1⟩ := bindS h1
       refine awp_sr2 552 [0, 3, 5, 6] (fun | 5 => some (.tup [.agg (TApiEntry.enc vr56.1), .int .i64 vr56.2.1, .agg (TApiMgState.enc vr56.2.2.1), .int .i64 vr56.2.2.2], []) | _ => none) rfl (fun _ _ => rC (c_merge_Next hvr56)) ?_
       refine awp_seq ?_
       refine awp_sr2 568 [0, 3, 5, 6, 21] (fun _ => none) rfl (fun _ _ => rT) ?_
       refine awp_if rfl (fun hb57 => ?_) (fun hb57 => ?_)
       ·
        replace h1 := iteT h1 hb57
        refine awp_sr2 584 [2] (fun _ => none) rfl (fun _ _ => rT) ?_
        refine awp_ret ?_
        refine kr_then ?_
        refine leave_retK (fun _ _ => rT) ?_
        refine awpo_re (s2 := ⟨[(1, .fn 39 [.ref 224 0 0 0] []), (6, .int .i64 (if vr3.1 < n2 then vr3.1 else n2)), (7, .int .i64 left43), (8, .bool (decide (left43 < (if vr3.1 < n2 then vr3.1 else n2)))), (9, .fn 39 [.ref 224 0 0 0] []), (10, .int .i64 vr56.2.2.2)], [(0, ⟨0, true, true, 10, [[.psl 1 (List.map (encSl 4 TApiEntry.enc) vs1.Merge.Runs), .psl 1 (List.map (encInt .i64) vs1.Merge.At), .psl 2 (List.map TApiLsKey.enc vs1.Merge.Tree.Keys), .psl 1 (List.map (encInt .i64) vs1.Merge.Tree.Lose), .int .i64 vs1.Merge.Tree.Win, .bool vs1.Shadow.Some, .str vs1.Shadow.Last, .bool vs1.Shadow.Bottom, .psl 4 (List.map TApiEntry.enc vs1.Out), .int .i64 vs1.Steps]]⟩), (8, ⟨0, true, true, 10, [[.nils, .nils, .nils, .nils, .int .i64 0, .bool false, .str [], .bool false, .nils, .int .i64 0]]⟩), (224, ⟨0, true, false, 10, [[.psl 1 (List.map (encSl 4 TApiEntry.enc) v44), .psl 1 (List.map (encInt .i64) v45), .psl 2 (List.map TApiLsKey.enc v46), .psl 1 (List.map (encInt .i64) v47), .int .i64 v48, .bool v49, .str v50, .bool v51, .sl 256 g54 4 0 v53.length, .int .i64 v52]]⟩), (256, ⟨g54, true, true, 4, List.map TApiEntry.enc v53⟩), (312, ⟨0, false, true, 1, List.map (encInt .i64) vs1.Merge.At⟩)], 584, []⟩) [] (Nat.le_of_ble_eq_true rfl) ⟨rF, rE, rfl, rfl, trivial, trivial⟩ ?_
        refine awpo_cut (l' := List.range' 2 1 ++ []) rfl ?_
        refine awpo_seg 2 1 592 [] (fun _ => none) rfl rfl rfl (fun _ _ => rT) ?_
        refine awpo_nil ?_
        refine kn_then ?_
        refine awp_re (s2 := ⟨[(1, .fn 39 [.ref 224 0 0 0] []), (5, .int .i64 vr56.2.2.2), (6, .int .i64 (if vr3.1 < n2 then vr3.1 else n2)), (7, .int .i64 left43)], [(0, ⟨0, true, true, 10, [[.psl 1 (List.map (encSl 4 TApiEntry.enc) vs1.Merge.Runs), .psl 1 (List.map (encInt .i64) vs1.Merge.At), .psl 2 (List.map TApiLsKey.enc vs1.Merge.Tree.Keys), .psl 1 (List.map (encInt .i64) vs1.Merge.Tree.Lose), .int .i64 vs1.Merge.Tree.Win, .bool vs1.Shadow.Some, .str vs1.Shadow.Last, .bool vs1.Shadow.Bottom, .psl 4 (List.map TApiEntry.enc vs1.Out), .int .i64 vs1.Steps]]⟩), (8, ⟨0, true, true, 10, [[.nils, .nils, .nils, .nils, .int .i64 0, .bool false, .str [], .bool false, .nils, .int .i64 0]]⟩), (224, ⟨0, true, false, 10, [[.psl 1 (List.map (encSl 4 TApiEntry.enc) v44), .psl 1 (List.map (encInt .i64) v45), .psl 2 (List.map TApiLsKey.enc v46), .psl 1 (List.map (encInt .i64) v47), .int .i64 v48, .bool v49, .str v50, .bool v51, .sl 256 g54 4 0 v53.length, .int .i64 v52]]⟩), (256, ⟨g54, true, true, 4, List.map TApiEntry.enc v53⟩), (312, ⟨0, false, true, 1, List.map (encInt .i64) vs1.Merge.At⟩)], 592, []⟩) [] (Nat.le_of_ble_eq_true rfl) ⟨rF, rE, rfl, rfl, trivial, trivial⟩ ?_
        refine awp_sr2 608 [1, 5, 6, 7, 12] (fun _ => none) rfl (fun _ _ => rT) ?_
        refine awp_condKT rfl hb57 ?_
        refine awp_sr2 624 [4] (fun _ => none) rfl (fun _ _ => rT) ?_
        refine awp_ret ?_
        obtain rfl := Option.some.inj h1
        refine kr_block ?_
        refine kr_then ?_
        refine kr_then ?_
        refine kr_loop ?_
        refine kr_then ?_
        refine leave_retK (fun _ _ => rT) ?_
        refine awpo_re (s2 := ⟨[(4, .ref 8 0 0 0), (5, .int .i64 (if vr3.1 < n2 then vr3.1 else n2)), (8, .ref 224 0 0 0), (47, .int .i64 (if vr3.1 < n2 then vr3.1 else n2)), (48, .fn 39 [.ref 224 0 0 0] []), (49, .int .i64 vr56.2.2.2)], [(0, ⟨0, true, true, 10, [[.psl 1 (List.map (encSl 4 TApiEntry.enc) vs1.Merge.Runs), .psl 1 (List.map (encInt .i64) vs1.Merge.At), .psl 2 (List.map TApiLsKey.enc vs1.Merge.Tree.Keys), .psl 1 (List.map (encInt .i64) vs1.Merge.Tree.Lose), .int .i64 vs1.Merge.Tree.Win, .bool vs1.Shadow.Some, .str vs1.Shadow.Last, .bool vs1.Shadow.Bottom, .psl 4 (List.map TApiEntry.enc vs1.Out), .int .i64 vs1.Steps]]⟩), (8, ⟨0, true, true, 10, [[.nils, .nils, .nils, .nils, .int .i64 0, .bool false, .str [], .bool false, .nils, .int .i64 0]]⟩), (224, ⟨0, true, false, 10, [[.psl 1 (List.map (encSl 4 TApiEntry.enc) v44), .psl 1 (List.map (encInt .i64) v45), .psl 2 (List.map TApiLsKey.enc v46), .psl 1 (List.map (encInt .i64) v47), .int .i64 v48, .bool v49, .str v50, .bool v51, .sl 256 g54 4 0 v53.length, .int .i64 v52]]⟩), (256, ⟨g54, true, true, 4, List.map TApiEntry.enc v53⟩), (312, ⟨0, false, true, 1, List.map (encInt .i64) vs1.Merge.At⟩)], 624, []⟩) [] (Nat.le_of_ble_eq_true rfl) ⟨rF, rE, rfl, rfl, trivial, trivial⟩ ?_
        refine awpo_cut (l' := List.range' 3 1 ++ []) rfl ?_
        refine awpo_seg 3 1 632 [] (fun _ => none) rfl rfl rfl (fun _ _ => rT) ?_
        refine awpo_nil ?_
        refine kn_then ?_
        refine awp_re (s2 := ⟨[(4, .ref 8 0 0 0), (5, .int .i64 (if vr3.1 < n2 then vr3.1 else n2)), (8, .ref 224 0 0 0), (9, .int .i64 vr56.2.2.2)], [(0, ⟨0, true, true, 10, [[.psl 1 (List.map (encSl 4 TApiEntry.enc) vs1.Merge.Runs), .psl 1 (List.map (encInt .i64) vs1.Merge.At), .psl 2 (List.map TApiLsKey.enc vs1.Merge.Tree.Keys), .psl 1 (List.map (encInt .i64) vs1.Merge.Tree.Lose), .int .i64 vs1.Merge.Tree.Win, .bool vs1.Shadow.Some, .str vs1.Shadow.Last, .bool vs1.Shadow.Bottom, .psl 4 (List.map TApiEntry.enc vs1.Out), .int .i64 vs1.Steps]]⟩), (8, ⟨0, true, true, 10, [[.nils, .nils, .nils, .nils, .int .i64 0, .bool false, .str [], .bool false, .nils, .int .i64 0]]⟩), (224, ⟨0, true, false, 10, [[.psl 1 (List.map (encSl 4 TApiEntry.enc) v44), .psl 1 (List.map (encInt .i64) v45), .psl 2 (List.map TApiLsKey.enc v46), .psl 1 (List.map (encInt .i64) v47), .int .i64 v48, .bool v49, .str v50, .bool v51, .sl 256 g54 4 0 v53.length, .int .i64 v52]]⟩), (256, ⟨g54, true, true, 4, List.map TApiEntry.enc v53⟩), (312, ⟨0, false, true, 1, List.map (encInt .i64) vs1.Merge.At⟩)], 632, []⟩) [] (Nat.le_of_ble_eq_true rfl) ⟨rF, rE, rfl, rfl, trivial, trivial⟩ ?_
        refine awp_sr2 648 [4, 5, 8, 9, 51] (fun _ => none) rfl (fun _ _ => rT) ?_
        refine awp_condKT rfl hb57 ?_
        refine awp_sr2 688 [4, 5, 6] (fun _ => none) rfl (fun _ _ => rT) ?_
        refine awp_ret ?_
        refine kr_then ?_
        obtain rfl := Option.some.inj h0
        refine leave_retG [] ?_
        exact rG
       ·
        replace h1 := iteF h1 hb57
        refine awp_skip ?_
        refine kn_then ?_
        obtain ⟨vr58, hvr58, h1⟩ := bindS h1
        refine awp_sd2 688 [0, 3, 5, 6, 7, 8] (fun | 6 => some (.tup [.bool vr58.1, .agg (TApiShState.enc vr58.2.1), .int .i64 vr58.2.2], []) | _ => none) rfl rfl rfl (fun _ _ => rCd (c_shadow_Step hvr58)) ?_
        refine awp_seq ?_
        refine awp_sr2 704 [0, 3, 5, 6, 7, 8, 35] (fun _ => none) rfl (fun _ _ => rT) ?_
        refine awp_if rfl (fun hb59 => ?_) (fun hb59 => ?_)
        ·
         replace h1 := iteT h1 hb59
         refine awp_sr2 720 [2] (fun _ => none) rfl (fun _ _ => rT) ?_
         refine awp_ret ?_
         refine kr_then ?_
         refine leave_retK (fun _ _ => rT) ?_
         refine awpo_re (s2 := ⟨[(1, .fn 39 [.ref 224 0 0 0] []), (6, .int .i64 (if vr3.1 < n2 then vr3.1 else n2)), (7, .int .i64 left43), (8, .bool (decide (left43 < (if vr3.1 < n2 then vr3.1 else n2)))), (9, .fn 39 [.ref 224 0 0 0] []), (10, .int .i64 vr58.2.2)], [(0, ⟨0, true, true, 10, [[.psl 1 (List.map (encSl 4 TApiEntry.enc) vs1.Merge.Runs), .psl 1 (List.map (encInt .i64) vs1.Merge.At), .psl 2 (List.map TApiLsKey.enc vs1.Merge.Tree.Keys), .psl 1 (List.map (encInt .i64) vs1.Merge.Tree.Lose), .int .i64 vs1.Merge.Tree.Win, .bool vs1.Shadow.Some, .str vs1.Shadow.Last, .bool vs1.Shadow.Bottom, .psl 4 (List.map TApiEntry.enc vs1.Out), .int .i64 vs1.Steps]]⟩), (8, ⟨0, true, true, 10, [[.nils, .nils, .nils, .nils, .int .i64 0, .bool false, .str [], .bool false, .nils, .int .i64 0]]⟩), (224, ⟨0, true, false, 10, [[.psl 1 (List.map (encSl 4 TApiEntry.enc) v44), .psl 1 (List.map (encInt .i64) v45), .psl 2 (List.map TApiLsKey.enc v46), .psl 1 (List.map (encInt .i64) v47), .int .i64 v48, .bool v49, .str v50, .bool v51, .sl 256 g54 4 0 v53.length, .int .i64 v52]]⟩), (256, ⟨g54, true, true, 4, List.map TApiEntry.enc v53⟩), (312, ⟨0, false, true, 1, List.map (encInt .i64) vs1.Merge.At⟩)], 720, []⟩) [] (Nat.le_of_ble_eq_true rfl) ⟨rF, rE, rfl, rfl, trivial, trivial⟩ ?_
         refine awpo_cut (l' := List.range' 2 1 ++ []) rfl ?_
         refine awpo_seg 2 1 728 [] (fun _ => none) rfl rfl rfl (fun _ _ => rT) ?_
         refine awpo_nil ?_
         refine kn_then ?_
         refine awp_re (s2 := ⟨[(1, .fn 39 [.ref 224 0 0 0] []), (5, .int .i64 vr58.2.2), (6, .int .i64 (if vr3.1 < n2 then vr3.1 else n2)), (7, .int .i64 left43)], [(0, ⟨0, true, true, 10, [[.psl 1 (List.map (encSl 4 TApiEntry.enc) vs1.Merge.Runs), .psl 1 (List.map (encInt .i64) vs1.Merge.At), .psl 2 (List.map TApiLsKey.enc vs1.Merge.Tree.Keys), .psl 1 (List.map (encInt .i64) vs1.Merge.Tree.Lose), .int .i64 vs1.Merge.Tree.Win, .bool vs1.Shadow.Some, .str vs1.Shadow.Last, .bool vs1.Shadow.Bottom, .psl 4 (List.map TApiEntry.enc vs1.Out), .int .i64 vs1.Steps]]⟩), (8, ⟨0, true, true, 10, [[.nils, .nils, .nils, .nils, .int .i64 0, .bool false, .str [], .bool false, .nils, .int .i64 0]]⟩), (224, ⟨0, true, false, 10, [[.psl 1 (List.map (encSl 4 TApiEntry.enc) v44), .psl 1 (List.map (encInt .i64) v45), .psl 2 (List.map TApiLsKey.enc v46), .psl 1 (List.map (encInt .i64) v47), .int .i64 v48, .bool v49, .str v50, .bool v51, .sl 256 g54 4 0 v53.length, .int .i64 v52]]⟩), (256, ⟨g54, true, true, 4, List.map TApiEntry.enc v53⟩), (312, ⟨0, false, true, 1, List.map (encInt .i64) vs1.Merge.At⟩)], 728, []⟩) [] (Nat.le_of_ble_eq_true rfl) ⟨rF, rE, rfl, rfl, trivial, trivial⟩ ?_
         refine awp_sr2 744 [1, 5, 6, 7, 12] (fun _ => none) rfl (fun _ _ => rT) ?_
         refine awp_condKT rfl hb59 ?_
         refine awp_sr2 760 [4] (fun _ => none) rfl (fun _ _ => rT) ?_
         refine awp_ret ?_
         obtain rfl := Option.some.inj h1
         refine kr_block ?_
         refine kr_then ?_
         refine kr_then ?_
         refine kr_loop ?_
         refine kr_then ?_
         refine leave_retK (fun _ _ => rT) ?_
         refine awpo_re (s2 := ⟨[(4, .ref 8 0 0 0), (5, .int .i64 (if vr3.1 < n2 then vr3.1 else n2)), (8, .ref 224 0 0 0), (47, .int .i64 (if vr3.1 < n2 then vr3.1 else n2)), (48, .fn 39 [.ref 224 0 0 0] []), (49, .int .i64 vr58.2.2)], [(0, ⟨0, true, true, 10, [[.psl 1 (List.map (encSl 4 TApiEntry.enc) vs1.Merge.Runs), .psl 1 (List.map (encInt .i64) vs1.Merge.At), .psl 2 (List.map TApiLsKey.enc vs1.Merge.Tree.Keys), .psl 1 (List.map (encInt .i64) vs1.Merge.Tree.Lose), .int .i64 vs1.Merge.Tree.Win, .bool vs1.Shadow.Some, .str vs1.Shadow.Last, .bool vs1.Shadow.Bottom, .psl 4 (List.map TApiEntry.enc vs1.Out), .int .i64 vs1.Steps]]⟩), (8, ⟨0, true, true, 10, [[.nils, .nils, .nils, .nils, .int .i64 0, .bool false, .str [], .bool false, .nils, .int .i64 0]]⟩), (224, ⟨0, true, false, 10, [[.psl 1 (List.map (encSl 4 TApiEntry.enc) v44), .psl 1 (List.map (encInt .i64) v45), .psl 2 (List.map TApiLsKey.enc v46), .psl 1 (List.map (encInt .i64) v47), .int .i64 v48, .bool v49, .str v50, .bool v51, .sl 256 g54 4 0 v53.length, .int .i64 v52]]⟩), (256, ⟨g54, true, true, 4, List.map TApiEntry.enc v53⟩), (312, ⟨0, false, true, 1, List.map (encInt .i64) vs1.Merge.At⟩)], 760, []⟩) [] (Nat.le_of_ble_eq_true rfl) ⟨rF, rE, rfl, rfl, trivial, trivial⟩ ?_
         refine awpo_cut (l' := List.range' 3 1 ++ []) rfl ?_
         refine awpo_seg 3 1 768 [] (fun _ => none) rfl rfl rfl (fun _ _ => rT) ?_
         refine awpo_nil ?_
         refine kn_then ?_
         refine awp_re (s2 := ⟨[(4, .ref 8 0 0 0), (5, .int .i64 (if vr3.1 < n2 then vr3.1 else n2)), (8, .ref 224 0 0 0), (9, .int .i64 vr58.2.2)], [(0, ⟨0, true, true, 10, [[.psl 1 (List.map (encSl 4 TApiEntry.enc) vs1.Merge.Runs), .psl 1 (List.map (encInt .i64) vs1.Merge.At), .psl 2 (List.map TApiLsKey.enc vs1.Merge.Tree.Keys), .psl 1 (List.map (encInt .i64) vs1.Merge.Tree.Lose), .int .i64 vs1.Merge.Tree.Win, .bool vs1.Shadow.Some, .str vs1.Shadow.Last, .bool vs1.Shadow.Bottom, .psl 4 (List.map TApiEntry.enc vs1.Out), .int .i64 vs1.Steps]]⟩), (8, ⟨0, true, true, 10, [[.nils, .nils, .nils, .nils, .int .i64 0, .bool false, .str [], .bool false, .nils, .int .i64 0]]⟩), (224, ⟨0, true, false, 10, [[.psl 1 (List.map (encSl 4 TApiEntry.enc) v44), .psl 1 (List.map (encInt .i64) v45), .psl 2 (List.map TApiLsKey.enc v46), .psl 1 (List.map (encInt .i64) v47), .int .i64 v48, .bool v49, .str v50, .bool v51, .sl 256 g54 4 0 v53.length, .int .i64 v52]]⟩), (256, ⟨g54, true, true, 4, List.map TApiEntry.enc v53⟩), (312, ⟨0, false, true, 1, List.map (encInt .i64) vs1.Merge.At⟩)], 768, []⟩) [] (Nat.le_of_ble_eq_true rfl) ⟨rF, rE, rfl, rfl, trivial, trivial⟩ ?_
         refine awp_sr2 784 [4, 5, 8, 9, 51] (fun _ => none) rfl (fun _ _ => rT) ?_
         refine awp_condKT rfl hb59 ?_
         refine awp_sr2 824 [4, 5, 6] (fun _ => none) rfl (fun _ _ => rT) ?_
         refine awp_ret ?_
         refine kr_then ?_
         obtain rfl := Option.some.inj h0
         refine leave_retG [] ?_
         exact rG
        ·
         replace h1 := iteF h1 hb59
         refine awp_skip ?_
         refine kn_then ?_
         refine awp_sd2 800 [0, 3, 7] (fun _ => none) rfl rfl rfl (fun _ _ => rTd) ?_
         refine awp_sr2 880 [0, 3, 7] (fun _ => none) rfl (fun _ _ => rT) ?_
         refine awp_seq ?_
         refine awp_sr2 888 [0, 3, 56] (fun _ => none) rfl (fun _ _ => rT) ?_
         refine awp_if rfl (fun hb60 => ?_) (fun hb60 => ?_)
         ·
          replace h1 := iteT h1 hb60
          obtain ⟨hc61, h1⟩ := guS h1
          refine awp_d2 992 [] (fun _ => none) rfl rfl rfl (fun _ _ => rTd) ?_
          refine kn_then ?_
          refine awp_re (s2 := ⟨[], [(0, ⟨0, true, true, 10, [[.psl 1 (List.map (encSl 4 TApiEntry.enc) vs1.Merge.Runs), .psl 1 (List.map (encInt .i64) vs1.Merge.At), .psl 2 (List.map TApiLsKey.enc vs1.Merge.Tree.Keys), .psl 1 (List.map (encInt .i64) vs1.Merge.Tree.Lose), .int .i64 vs1.Merge.Tree.Win, .bool vs1.Shadow.Some, .str vs1.Shadow.Last, .bool vs1.Shadow.Bottom, .psl 4 (List.map TApiEntry.enc vs1.Out), .int .i64 vs1.Steps]]⟩), (8, ⟨0, true, true, 10, [[.nils, .nils, .nils, .nils, .int .i64 0, .bool false, .str [], .bool false, .nils, .int .i64 0]]⟩), (224, ⟨0, true, false, 10, [[.psl 1 (List.map (encSl 4 TApiEntry.enc) vr56.2.2.1.Runs), .psl 1 (List.map (encInt .i64) vr56.2.2.1.At), .psl 2 (List.map TApiLsKey.enc vr56.2.2.1.Tree.Keys), .psl 1 (List.map (encInt .i64) vr56.2.2.1.Tree.Lose), .int .i64 vr56.2.2.1.Tree.Win, .bool vr58.2.1.Some, .str vr58.2.1.Last, .bool vr58.2.1.Bottom, .sl 256 (g54 + 1) 4 0 ((v53 ++ [vr56.1]).length), .int .i64 (IntKind.i64.wrap (v52 + 1))]]⟩), (256, ⟨(g54 + 1), true, true, 4, List.map TApiEntry.enc (v53 ++ [vr56.1])⟩), (312, ⟨0, false, true, 1, List.map (encInt .i64) vs1.Merge.At⟩), (504, ⟨0, true, true, 4, [[.str vr56.1.Key, .str vr56.1.Val, .bool vr56.1.Dead, .int .i64 vr56.1.Seq]]⟩), (512, ⟨0, true, true, 5, [[.psl 1 (List.map (encSl 4 TApiEntry.enc) vr56.2.2.1.Runs), .psl 1 (List.map (encInt .i64) vr56.2.2.1.At), .psl 2 (List.map TApiLsKey.enc vr56.2.2.1.Tree.Keys), .psl 1 (List.map (encInt .i64) vr56.2.2.1.Tree.Lose), .int .i64 vr56.2.2.1.Tree.Win]]⟩), (656, ⟨0, true, true, 3, [[.bool vr58.2.1.Some, .str vr58.2.1.Last, .bool vr58.2.1.Bottom]]⟩), (944, ⟨0, true, true, 4, List.map TApiEntry.enc [vr56.1]⟩)], 992, []⟩) [] (Nat.le_of_ble_eq_true rfl) ⟨rF, rE, rfl, rfl, trivial, trivial⟩ ?_
          refine awp_sr2 1000 [2] (fun _ => none) rfl (fun _ _ => rT) ?_
          refine awp_ret ?_
          refine leave_retK (fun _ _ => rT) ?_
          refine awpo_re (s2 := ⟨[(1, .fn 39 [.ref 224 0 0 0] []), (6, .int .i64 (if vr3.1 < n2 then vr3.1 else n2)), (7, .int .i64 left43), (8, .bool (decide (left43 < (if vr3.1 < n2 then vr3.1 else n2)))), (9, .fn 39 [.ref 224 0 0 0] []), (10, .int .i64 0)], [(0, ⟨0, true, true, 10, [[.psl 1 (List.map (encSl 4 TApiEntry.enc) vs1.Merge.Runs), .psl 1 (List.map (encInt .i64) vs1.Merge.At), .psl 2 (List.map TApiLsKey.enc vs1.Merge.Tree.Keys), .psl 1 (List.map (encInt .i64) vs1.Merge.Tree.Lose), .int .i64 vs1.Merge.Tree.Win, .bool vs1.Shadow.Some, .str vs1.Shadow.Last, .bool vs1.Shadow.Bottom, .psl 4 (List.map TApiEntry.enc vs1.Out), .int .i64 vs1.Steps]]⟩), (8, ⟨0, true, true, 10, [[.nils, .nils, .nils, .nils, .int .i64 0, .bool false, .str [], .bool false, .nils, .int .i64 0]]⟩), (224, ⟨0, true, false, 10, [[.psl 1 (List.map (encSl 4 TApiEntry.enc) vr56.2.2.1.Runs), .psl 1 (List.map (encInt .i64) vr56.2.2.1.At), .psl 2 (List.map TApiLsKey.enc vr56.2.2.1.Tree.Keys), .psl 1 (List.map (encInt .i64) vr56.2.2.1.Tree.Lose), .int .i64 vr56.2.2.1.Tree.Win, .bool vr58.2.1.Some, .str vr58.2.1.Last, .bool vr58.2.1.Bottom, .sl 256 (g54 + 1) 4 0 ((v53 ++ [vr56.1]).length), .int .i64 (IntKind.i64.wrap (v52 + 1))]]⟩), (256, ⟨(g54 + 1), true, true, 4, List.map TApiEntry.enc (v53 ++ [vr56.1])⟩), (312, ⟨0, false, true, 1, List.map (encInt .i64) vs1.Merge.At⟩)], 1000, []⟩) [] (Nat.le_of_ble_eq_true rfl) ⟨rF, rE, rfl, rfl, trivial, trivial⟩ ?_
          refine awpo_cut (l' := List.range' 2 1 ++ []) rfl ?_
          refine awpo_seg 2 1 1008 [] (fun _ => none) rfl rfl rfl (fun _ _ => rT) ?_
          refine awpo_nil ?_
          refine kn_then ?_
          refine awp_re (s2 := ⟨[(1, .fn 39 [.ref 224 0 0 0] []), (5, .int .i64 0), (6, .int .i64 (if vr3.1 < n2 then vr3.1 else n2)), (7, .int .i64 left43)], [(0, ⟨0, true, true, 10, [[.psl 1 (List.map (encSl 4 TApiEntry.enc) vs1.Merge.Runs), .psl 1 (List.map (encInt .i64) vs1.Merge.At), .psl 2 (List.map TApiLsKey.enc vs1.Merge.Tree.Keys), .psl 1 (List.map (encInt .i64) vs1.Merge.Tree.Lose), .int .i64 vs1.Merge.Tree.Win, .bool vs1.Shadow.Some, .str vs1.Shadow.Last, .bool vs1.Shadow.Bottom, .psl 4 (List.map TApiEntry.enc vs1.Out), .int .i64 vs1.Steps]]⟩), (8, ⟨0, true, true, 10, [[.nils, .nils, .nils, .nils, .int .i64 0, .bool false, .str [], .bool false, .nils, .int .i64 0]]⟩), (224, ⟨0, true, false, 10, [[.psl 1 (List.map (encSl 4 TApiEntry.enc) vr56.2.2.1.Runs), .psl 1 (List.map (encInt .i64) vr56.2.2.1.At), .psl 2 (List.map TApiLsKey.enc vr56.2.2.1.Tree.Keys), .psl 1 (List.map (encInt .i64) vr56.2.2.1.Tree.Lose), .int .i64 vr56.2.2.1.Tree.Win, .bool vr58.2.1.Some, .str vr58.2.1.Last, .bool vr58.2.1.Bottom, .sl 256 (g54 + 1) 4 0 ((v53 ++ [vr56.1]).length), .int .i64 (IntKind.i64.wrap (v52 + 1))]]⟩), (256, ⟨(g54 + 1), true, true, 4, List.map TApiEntry.enc (v53 ++ [vr56.1])⟩), (312, ⟨0, false, true, 1, List.map (encInt .i64) vs1.Merge.At⟩)], 1008, []⟩) [] (Nat.le_of_ble_eq_true rfl) ⟨rF, rE, rfl, rfl, trivial, trivial⟩ ?_
          refine awp_sr2 1024 [1, 5, 6, 7, 12] (fun _ => none) rfl (fun _ _ => rT) ?_
          refine awp_condF rfl ?_
          refine awp_skip ?_
          refine kn_block ?_
          refine kn_then ?_
          refine awp_r2 1040 [1, 6, 7] (fun _ => none) rfl (fun _ _ => rT) ?_
          refine kn_then ?_
          exact ⟨⟨(fu, (IntKind.i64.wrap (left43 + 1)), vr56.2.2.1.Runs, vr56.2.2.1.At, vr56.2.2.1.Tree.Keys, vr56.2.2.1.Tree.Lose, vr56.2.2.1.Tree.Win, vr58.2.1.Some, vr58.2.1.Last, vr58.2.1.Bottom, (IntKind.i64.wrap (v52 + 1)), (v53 ++ [vr56.1]), (g54 + 1)), h1⟩, ⟨rF, rE, rfl, rfl, trivial, trivial⟩, Nat.lt_succ_self _⟩
         ·
          replace h1 := iteF h1 hb60
          refine awp_skip ?_
          refine kn_then ?_
          refine awp_sr2 896 [2] (fun _ => none) rfl (fun _ _ => rT) ?_
          refine awp_ret ?_
          refine leave_retK (fun _ _ => rT) ?_
          refine awpo_re (s2 := ⟨[(1, .fn 39 [.ref 224 0 0 0] []), (6, .int .i64 (if vr3.1 < n2 then vr3.1 else n2)), (7, .int .i64 left43), (8, .bool (decide (left43 < (if vr3.1 < n2 then vr3.1 else n2)))), (9, .fn 39 [.ref 224 0 0 0] []), (10, .int .i64 0)], [(0, ⟨0, true, true, 10, [[.psl 1 (List.map (encSl 4 TApiEntry.enc) vs1.Merge.Runs), .psl 1 (List.map (encInt .i64) vs1.Merge.At), .psl 2 (List.map TApiLsKey.enc vs1.Merge.Tree.Keys), .psl 1 (List.map (encInt .i64) vs1.Merge.Tree.Lose), .int .i64 vs1.Merge.Tree.Win, .bool vs1.Shadow.Some, .str vs1.Shadow.Last, .bool vs1.Shadow.Bottom, .psl 4 (List.map TApiEntry.enc vs1.Out), .int .i64 vs1.Steps]]⟩), (8, ⟨0, true, true, 10, [[.nils, .nils, .nils, .nils, .int .i64 0, .bool false, .str [], .bool false, .nils, .int .i64 0]]⟩), (224, ⟨0, true, false, 10, [[.psl 1 (List.map (encSl 4 TApiEntry.enc) vr56.2.2.1.Runs), .psl 1 (List.map (encInt .i64) vr56.2.2.1.At), .psl 2 (List.map TApiLsKey.enc vr56.2.2.1.Tree.Keys), .psl 1 (List.map (encInt .i64) vr56.2.2.1.Tree.Lose), .int .i64 vr56.2.2.1.Tree.Win, .bool vr58.2.1.Some, .str vr58.2.1.Last, .bool vr58.2.1.Bottom, .sl 256 g54 4 0 v53.length, .int .i64 (IntKind.i64.wrap (v52 + 1))]]⟩), (256, ⟨g54, true, true, 4, List.map TApiEntry.enc v53⟩), (312, ⟨0, false, true, 1, List.map (encInt .i64) vs1.Merge.At⟩)], 896, []⟩) [] (Nat.le_of_ble_eq_true rfl) ⟨rF, rE, rfl, rfl, trivial, trivial⟩ ?_
          refine awpo_cut (l' := List.range' 2 1 ++ []) rfl ?_
          refine awpo_seg 2 1 904 [] (fun _ => none) rfl rfl rfl (fun _ _ => rT) ?_
          refine awpo_nil ?_
          refine kn_then ?_
          refine awp_re (s2 := ⟨[(1, .fn 39 [.ref 224 0 0 0] []), (5, .int .i64 0), (6, .int .i64 (if vr3.1 < n2 then vr3.1 else n2)), (7, .int .i64 left43)], [(0, ⟨0, true, true, 10, [[.psl 1 (List.map (encSl 4 TApiEntry.enc) vs1.Merge.Runs), .psl 1 (List.map (encInt .i64) vs1.Merge.At), .psl 2 (List.map TApiLsKey.enc vs1.Merge.Tree.Keys), .psl 1 (List.map (encInt .i64) vs1.Merge.Tree.Lose), .int .i64 vs1.Merge.Tree.Win, .bool vs1.Shadow.Some, .str vs1.Shadow.Last, .bool vs1.Shadow.Bottom, .psl 4 (List.map TApiEntry.enc vs1.Out), .int .i64 vs1.Steps]]⟩), (8, ⟨0, true, true, 10, [[.nils, .nils, .nils, .nils, .int .i64 0, .bool false, .str [], .bool false, .nils, .int .i64 0]]⟩), (224, ⟨0, true, false, 10, [[.psl 1 (List.map (encSl 4 TApiEntry.enc) vr56.2.2.1.Runs), .psl 1 (List.map (encInt .i64) vr56.2.2.1.At), .psl 2 (List.map TApiLsKey.enc vr56.2.2.1.Tree.Keys), .psl 1 (List.map (encInt .i64) vr56.2.2.1.Tree.Lose), .int .i64 vr56.2.2.1.Tree.Win, .bool vr58.2.1.Some, .str vr58.2.1.Last, .bool vr58.2.1.Bottom, .sl 256 g54 4 0 v53.length, .int .i64 (IntKind.i64.wrap (v52 + 1))]]⟩), (256, ⟨g54, true, true, 4, List.map TApiEntry.enc v53⟩), (312, ⟨0, false, true, 1, List.map (encInt .i64) vs1.Merge.At⟩)], 904, []⟩) [] (Nat.le_of_ble_eq_true rfl) ⟨rF, rE, rfl, rfl, trivial, trivial⟩ ?_
          refine awp_sr2 920 [1, 5, 6, 7, 12] (fun _ => none) rfl (fun _ _ => rT) ?_
          refine awp_condF rfl ?_
          refine awp_skip ?_
          refine kn_block ?_
          refine kn_then ?_
          refine awp_r2 936 [1, 6, 7] (fun _ => none) rfl (fun _ _ => rT) ?_
          refine kn_then ?_
          exact ⟨⟨(fu, (IntKind.i64.wrap (left43 + 1)), vr56.2.2.1.Runs, vr56.2.2.1.At, vr56.2.2.1.Tree.Keys, vr56.2.2.1.Tree.Lose, vr56.2.2.1.Tree.Win, vr58.2.1.Some, vr58.2.1.Last, vr58.2.1.Bottom, (IntKind.i64.wrap (v52 + 1)), v53, g54), h1⟩, ⟨rF, rE, rfl, rfl, trivial, trivial⟩, Nat.lt_succ_self _⟩
      ·
       replace h1 := iteF h1 hb55
       refine awp_exit ?_
       refine kx_then ?_
       refine kx_then ?_
       refine kx_done ?_
       obtain rfl := Option.some.inj h1
       exact ⟨_, g54, rfl, Nat.le_of_ble_eq_true rfl, ⟨rF, rE, rfl, rfl, trivial, trivial⟩⟩
end Go.T
end
section
namespace Go.T
open Go Go.AM Go.Proofs
set_option maxRecDepth 100000
set_option maxHeartbeats 4000000
set_option linter.unusedVariables false
theorem c_bookendref11_SameEntries {fu : Nat} {a1 : List TApiEntry} {b2 : List TApiEntry} {r : Bool} (h0 : bookendref11_SameEntries fu a1 b2 = some r) : PCall Try.prog 16 [.psl 4 (a1.map TApiEntry.enc), .psl 4 (b2.map TApiEntry.enc)] (.bool r) [] := by
 refine awp_pcall Try.func16 rfl (by decide) (Nat.le_of_ble_eq_true rfl) ?_
 dsimp only [Try.f16]
 rw [bookendref11_SameEntries] at h0
 refine (show AWP _ _ _ _ ⟨enumFr 0 _, [], 0, []⟩ from ?_)
 refine awp_sr2 8 [0, 1] (fun _ => none) rfl (fun _ _ => rT) ?_
 refine awp_seq ?_
 refine awp_sr2 48 [0, 1, 10] (fun _ => none) rfl (fun _ _ => rT) ?_
 refine awp_if rfl (fun hb3 => ?_) (fun hb3 => ?_)
 ·
  replace h0 := iteT h0 hb3
  refine awp_sr2 56 [4] (fun _ => none) rfl (fun _ _ => rT) ?_
  refine awp_ret ?_
  refine kr_then ?_
  obtain rfl := Option.some.inj h0
  refine leave_retG [] ?_
  exact rG
 ·
  replace h0 := iteF h0 hb3
  refine awp_skip ?_
  refine kn_then ?_
  refine awp_seq ?_
  refine awp_sr2 56 [0, 1, 5] (fun _ => none) rfl (fun _ _ => rT) ?_
  obtain ⟨x13, hxx13, h0⟩ := bindS h0
  refine awp_bloop (fun s' => ∃ o19 : Unit, x13 = .inl o19 ∧ s'.nx ≤ 88 ∧ LeN [] s' ⟨[], [], 88, []⟩) ?_ ?_
  ·
   intro s' hs
   obtain ⟨o19, rfl, hn, hs⟩ := hs
   refine kn_then ?_
   refine awp_re [] hn hs ?_
   refine awp_sr2 96 [4] (fun _ => none) rfl (fun _ _ => rT) ?_
   refine awp_ret ?_
   obtain rfl := Option.some.inj h0
   refine leave_retG [] ?_
   exact rG
  ·
   refine awp_loopF (ι := { p : Nat × Int // bookendref11_SameEntries_l1 a1 b2 p.1 p.2 = some x13 }) (fun p => ⟨[(0, .psl 4 (List.map TApiEntry.enc a1)), (1, .psl 4 (List.map TApiEntry.enc b2)), (5, .int .i64 p.1.2)], [], 56, []⟩) (fun p => p.1.1) ⟨(fu, 0), hxx13⟩ ⟨rF, rE, rfl, rfl, trivial, trivial⟩ (fun _ => Nat.le_refl _) ?_
   rintro ⟨⟨fu, i14⟩, h1⟩
   cases fu with
   | zero =>
   replace h1 : bookendref11_SameEntries_l1 a1 b2 0 i14 = some x13 := h1
   rw [bookendref11_SameEntries_l1] at h1; cases h1
   | succ fu =>
    replace h1 : bookendref11_SameEntries_l1 a1 b2 (fu + 1) i14 = some x13 := h1
    rw [bookendref11_SameEntries_l1] at h1
    refine (show AWP _ _ _ _ ⟨[(0, .psl 4 (List.map TApiEntry.enc a1)), (1, .psl 4 (List.map TApiEntry.enc b2)), (5, .int .i64 i14)], [], 56, []⟩ from ?_)
    refine awp_seq ?_
    refine awp_sr2 88 [0, 1, 5, 14] (fun _ => none) rfl (fun _ _ => rT) ?_
    refine awp_if rfl (fun hb15 => ?_) (fun hb15 => ?_)
    ·
     replace h1 := iteT h1 hb15
     refine awp_skip ?_
     refine kn_then ?_
     refine awp_seq ?_
     refine awp_block ?_
     obtain ⟨e16, he16, h1⟩ := bindS h1
     obtain ⟨he16a, he16b, he16c⟩ := idxS he16
     obtain ⟨e17, he17, h1⟩ := bindS h1
     obtain ⟨he17a, he17b, he17c⟩ := idxS he17
     refine awp_sd2 160 [0, 1, 5, 25] (fun _ => none) rfl rfl rfl (fun _ _ => rSd (rA he16a (rA he16b (rA he16c (rA he17a (rA he17b he17c)))))) ?_
     refine awp_if rfl (fun hb18 => ?_) (fun hb18 => ?_)
     ·
      replace h1 := iteT h1 hb18
      refine awp_sr2 168 [4] (fun _ => none) rfl (fun _ _ => rS (rA he16a (rA he16b (rA he16c (rA he17a (rA he17b he17c)))))) ?_
      refine awp_ret ?_
      obtain rfl := Option.some.inj h1
      refine kr_block ?_
      refine kr_then ?_
      refine kr_then ?_
      refine kr_loop ?_
      refine kr_then ?_
      obtain rfl := Option.some.inj h0
      refine leave_retG [] ?_
      simp (maxSteps := 1000000) only [↓reduceIte, reduceCtorEq, Nat.reduceEqDiff, Nat.reduceLT, Nat.reduceLeDiff, Nat.reduceAdd, Nat.reduceMul, Int.reduceToNat, push_cast, Gives, he16a, he16b, he16c, he17a, he17b, he17c]
      all_goals exact rH
     ·
      replace h1 := iteF h1 hb18
      refine awp_skip ?_
      refine kn_block ?_
      refine kn_then ?_
      refine awp_r2 184 [0, 1, 5] (fun _ => none) rfl (fun _ _ => rS (rA he16a (rA he16b (rA he16c (rA he17a (rA he17b he17c)))))) ?_
      refine kn_then ?_
      exact ⟨⟨(fu, (IntKind.i64.wrap (i14 + 1))), h1⟩, ⟨rF, rE, rfl, rfl, trivial, trivial⟩, Nat.lt_succ_self _⟩
    ·
     replace h1 := iteF h1 hb15
     refine awp_exit ?_
     refine kx_then ?_
     refine kx_then ?_
     refine kx_done ?_
     obtain rfl := Option.some.inj h1
     exact ⟨_, rfl, Nat.le_of_ble_eq_true rfl, ⟨rF, rE, rfl, rfl, trivial, trivial⟩⟩
end Go.T
end
section
namespace Go.T
open Go Go.AM Go.Proofs
set_option maxRecDepth 100000
set_option maxHeartbeats 4000000
set_option linter.unusedVariables false
theorem c_bookendlaw11_Example {fu : Nat} {r : List (List TApiEntry)} (h0 : bookendlaw11_Example fu = some r) : PCall Try.prog 29 [] (.psl 1 (r.map (encSl 4 TApiEntry.enc))) [] := by
 refine awp_pcall Try.func29 rfl (by decide) (Nat.le_of_ble_eq_true rfl) ?_
 dsimp only [Try.f29]
 rw [bookendlaw11_Example] at h0
 refine (show AWP _ _ _ _ ⟨enumFr 0 _, [], 0, []⟩ from ?_)
 refine awp_sr2 8 [] (fun _ => none) rfl (fun _ _ => rT) ?_
 refine awp_sr2 72 [0] (fun _ => none) rfl (fun _ _ => rT) ?_
 refine awp_frz2 [16, 48] (fun Kt hK => by simp only [↓reduceIte, reduceCtorEq, Nat.reduceEqDiff, Nat.reduceLT, Nat.reduceLeDiff, Nat.reduceAdd, Nat.reduceMul, Int.reduceToNat, Nat.reduceBEq, push_cast]; exact hK) ?_
 refine awp_re (s2 := ⟨[(0, .sl 56 0 1 0 2)], [(16, ⟨0, false, true, 4, List.map TApiEntry.enc [(TApiEntry.mk [98] [] true 9)]⟩), (48, ⟨0, false, true, 4, List.map TApiEntry.enc [(TApiEntry.mk [97] [49] false 1), (TApiEntry.mk [98] [50] false 2), (TApiEntry.mk [99] [51] false 3)]⟩), (56, ⟨0, true, true, 1, List.map (encSl 4 TApiEntry.enc) [[(TApiEntry.mk [98] [] true 9)], [(TApiEntry.mk [97] [49] false 1), (TApiEntry.mk [98] [50] false 2), (TApiEntry.mk [99] [51] false 3)]]⟩)], 72, []⟩) [] (Nat.le_of_ble_eq_true rfl) ⟨rF, rE, rfl, rfl, trivial, trivial⟩ ?_
 refine awp_ret ?_
 obtain rfl := Option.some.inj h0
 refine leave_retG [] ?_
 exact rG
end Go.T
end
section
namespace Go.T
open Go Go.AM Go.Proofs
set_option maxRecDepth 100000
set_option maxHeartbeats 4000000
set_option linter.unusedVariables false
theorem c_merge_Begin {fu : Nat} {runs1 : List (List TApiEntry)} {r : TApiMgState × Int × Int} (h0 : merge_Begin fu runs1 = some r) : PCall Try.prog 30 [.psl 1 (runs1.map (encSl 4 TApiEntry.enc))] (.tup [.agg (TApiMgState.enc r.1), .int .i64 r.2.1, .int .i64 r.2.2]) [] := by
 refine awp_pcall Try.func30 rfl (by decide) (Nat.le_of_ble_eq_true rfl) ?_
 dsimp only [Try.f30]
 rw [merge_Begin] at h0
 refine (show AWP _ _ _ _ ⟨enumFr 0 _, [], 0, []⟩ from ?_)
 refine awp_sr2 24 [0, 2] (fun _ => none) rfl (fun _ _ => rT) ?_
 refine awp_seq ?_
 obtain ⟨vr2, hvr2, h0⟩ := bindS h0
 refine awp_sr2 80 [0, 2, 5, 6] (fun | 1 => some (.tup [.int .i64 vr2.1, .int .i64 vr2.2], []) | _ => none) rfl (fun _ _ => rC (c_merge_check hvr2)) ?_
 refine awp_sr2 96 [0, 2, 5, 6, 14] (fun _ => none) rfl (fun _ _ => rT) ?_
 refine awp_if rfl (fun hb3 => ?_) (fun hb3 => ?_)
 ·
  replace h0 := iteT h0 hb3
  refine awp_sr2 144 [2, 3, 4] (fun _ => none) rfl (fun _ _ => rT) ?_
  refine awp_ret ?_
  refine kr_then ?_
  obtain rfl := Option.some.inj h0
  refine leave_retG [] ?_
  exact rG
 ·
  replace h0 := iteF h0 hb3
  refine awp_skip ?_
  refine kn_then ?_
  obtain ⟨hc4, h0⟩ := guS h0
  refine awp_sr2 128 [0, 2, 7] (fun _ => none) rfl (fun _ _ => rT) ?_
  refine awp_re (s2 := ⟨[(0, .psl 1 (List.map (encSl 4 TApiEntry.enc) runs1)), (2, .ref 0 0 0 0), (7, .sl 112 0 1 0 ((List.replicate runs1.length 0 : List Int).length))], [(0, ⟨0, true, true, 5, [[.nils, .nils, .nils, .nils, .int .i64 0]]⟩), (112, ⟨0, true, true, 1, List.map (encInt .i64) (List.replicate runs1.length 0 : List Int)⟩)], 128, []⟩) [] (Nat.le_of_ble_eq_true rfl) ⟨rF, rE, rfl, rfl, trivial, trivial⟩ ?_
  obtain ⟨vr5, hvr5, h0⟩ := bindS h0
  obtain ⟨vr6, hvr6, h0⟩ := bindS h0
  refine awp_sr2 208 [2, 3, 4] (fun | 1 => some (.psl 1 (vr5.map (encSl 4 TApiEntry.enc)), []) | 5 => some (.agg (TApiLsTree.enc vr6), []) | _ => none) rfl (fun Kt hK => by
    try have q0 := c_slices_Clone_apiEntry hvr5
    try have q1 := c_merge_tree hvr6
    exact rT) ?_
  refine awp_ret ?_
  obtain rfl := Option.some.inj h0
  refine leave_retG [] ?_
  exact rG
end Go.T
end
section
namespace Go.T
open Go Go.AM Go.Proofs
set_option maxRecDepth 100000
set_option maxHeartbeats 4000000
set_option linter.unusedVariables false
theorem c_slices_Begin {fu : Nat} {runs1 : List (List TApiEntry)} {bottom2 : Bool} {r : TApiSlState × Int × Int} (h0 : slices_Begin fu runs1 bottom2 = some r) : PCall Try.prog 11 [.psl 1 (runs1.map (encSl 4 TApiEntry.enc)), .bool bottom2] (.tup [.agg (TApiSlState.enc r.1), .int .i64 r.2.1, .int .i64 r.2.2]) [] := by
 refine awp_pcall Try.func11 rfl (by decide) (Nat.le_of_ble_eq_true rfl) ?_
 dsimp only [Try.f11]
 rw [slices_Begin] at h0
 refine (show AWP _ _ _ _ ⟨enumFr 0 _, [], 0, []⟩ from ?_)
 refine awp_sr2 24 [0, 1, 4] (fun _ => none) rfl (fun _ _ => rT) ?_
 obtain ⟨vr3, hvr3, h0⟩ := bindS h0
 refine awp_sr2 104 [1, 4, 5, 6, 7] (fun | 1 => some (.tup [.agg (TApiMgState.enc vr3.1), .int .i64 vr3.2.1, .int .i64 vr3.2.2], []) | _ => none) rfl (fun _ _ => rC (c_merge_Begin hvr3)) ?_
 refine awp_seq ?_
 refine awp_sr2 120 [1, 4, 5, 6, 7, 15] (fun _ => none) rfl (fun _ _ => rT) ?_
 refine awp_if rfl (fun hb4 => ?_) (fun hb4 => ?_)
 ·
  replace h0 := iteT h0 hb4
  refine awp_sr2 168 [4, 5, 6] (fun _ => none) rfl (fun _ _ => rT) ?_
  refine awp_ret ?_
  refine kr_then ?_
  obtain rfl := Option.some.inj h0
  refine leave_retG [] ?_
  exact rG
 ·
  replace h0 := iteF h0 hb4
  refine awp_skip ?_
  refine kn_then ?_
  obtain ⟨vr5, hvr5, h0⟩ := bindS h0
  refine awp_sd2 176 [4, 5, 6] (fun | 2 => some (.agg (TApiShState.enc vr5), []) | _ => none) rfl rfl rfl (fun _ _ => rCd (c_shadow_Begin hvr5)) ?_
  refine awp_ret ?_
  obtain rfl := Option.some.inj h0
  refine leave_retG [] ?_
  exact rG
end Go.T
end
section
namespace Go.T
open Go Go.AM Go.Proofs
set_option maxRecDepth 100000
set_option maxHeartbeats 4000000
set_option linter.unusedVariables false
theorem c_slices_Output {fu : Nat} {vs1 : TApiSlState} {r : List TApiEntry × Int} (h0 : slices_Output fu vs1 = some r) : PCall Try.prog 22 [.agg (TApiSlState.enc vs1)] (.tup [.psl 4 (r.1.map TApiEntry.enc), .int .i64 r.2]) [] := by
 refine awp_pcall Try.func22 rfl (by decide) (Nat.le_of_ble_eq_true rfl) ?_
 dsimp only [Try.f22]
 rw [slices_Output] at h0
 refine (show AWP _ _ _ _ ⟨enumFr 0 _, [], 0, []⟩ from ?_)
 refine awp_sr2 24 [1] (fun _ => none) rfl (fun _ _ => rT) ?_
 obtain ⟨vr2, hvr2, h0⟩ := bindS h0
 refine awp_sr2 80 [1, 4, 5] (fun | 1 => some (.tup [.int .i64 vr2.1, .int .i64 vr2.2], []) | _ => none) rfl (fun _ _ => rC (c_slices_Left hvr2)) ?_
 refine awp_seq ?_
 refine awp_block ?_
 refine awp_sr2 104 [1, 4, 5, 11] (fun _ => none) rfl (fun _ _ => rT) ?_
 refine awp_if rfl (fun hb3 => ?_) (fun hb3 => ?_)
 ·
  replace h0 := iteT h0 hb3
  refine awp_sr2 128 [2, 3] (fun _ => none) rfl (fun _ _ => rT) ?_
  refine awp_ret ?_
  refine kr_block ?_
  refine kr_then ?_
  obtain rfl := Option.some.inj h0
  refine leave_retG [] ?_
  exact rG
 ·
  replace h0 := iteF h0 hb3
  refine awp_sr2 128 [1, 15] (fun _ => none) rfl (fun _ _ => rT) ?_
  refine awp_if rfl (fun hb4 => ?_) (fun hb4 => ?_)
  ·
   replace h0 := iteT h0 hb4
   refine awp_sr2 144 [2, 3] (fun _ => none) rfl (fun _ _ => rT) ?_
   refine awp_ret ?_
   refine kr_block ?_
   refine kr_then ?_
   obtain rfl := Option.some.inj h0
   refine leave_retG [] ?_
   exact rG
  ·
   replace h0 := iteF h0 hb4
   refine awp_skip ?_
   refine kn_block ?_
   refine kn_then ?_
   obtain ⟨hc5, h0⟩ := guS h0
   refine awp_sr2 168 [2, 3] (fun _ => none) rfl (fun _ _ => rT) ?_
   refine awp_re (s2 := ⟨[(2, .sl 144 0 4 0 vs1.Out.length), (3, .int .i64 0)], [(0, ⟨0, true, true, 10, [[.psl 1 (List.map (encSl 4 TApiEntry.enc) vs1.Merge.Runs), .psl 1 (List.map (encInt .i64) vs1.Merge.At), .psl 2 (List.map TApiLsKey.enc vs1.Merge.Tree.Keys), .psl 1 (List.map (encInt .i64) vs1.Merge.Tree.Lose), .int .i64 vs1.Merge.Tree.Win, .bool vs1.Shadow.Some, .str vs1.Shadow.Last, .bool vs1.Shadow.Bottom, .psl 4 (List.map TApiEntry.enc vs1.Out), .int .i64 vs1.Steps]]⟩), (144, ⟨0, true, true, 4, List.map TApiEntry.enc vs1.Out⟩)], 168, []⟩) [] (Nat.le_of_ble_eq_true rfl) ⟨rF, rE, rfl, rfl, trivial, trivial⟩ ?_
   refine awp_ret ?_
   obtain rfl := Option.some.inj h0
   refine leave_retG [] ?_
   exact rG
end Go.T
end
section
namespace Go.T
open Go Go.AM Go.Proofs
set_option maxRecDepth 100000
set_option maxHeartbeats 4000000
set_option linter.unusedVariables false
theorem c_slices_All {fu : Nat} {runs1 : List (List TApiEntry)} {bottom2 : Bool} {r : List TApiEntry × Int × Int} (h0 : slices_All fu runs1 bottom2 = some r) : PCall Try.prog 13 [.psl 1 (runs1.map (encSl 4 TApiEntry.enc)), .bool bottom2] (.tup [.psl 4 (r.1.map TApiEntry.enc), .int .i64 r.2.1, .int .i64 r.2.2]) [] := by
 refine awp_pcall Try.func13 rfl (by decide) (Nat.le_of_ble_eq_true rfl) ?_
 dsimp only [Try.f13]
 rw [slices_All] at h0
 refine (show AWP _ _ _ _ ⟨enumFr 0 _, [], 0, []⟩ from ?_)
 refine awp_sr2 24 [0, 1] (fun _ => none) rfl (fun _ _ => rT) ?_
 obtain ⟨vr3, hvr3, h0⟩ := bindS h0
 refine awp_sr2 96 [1, 6, 7] (fun | 1 => some (.tup [.psl 4 (vr3.1.map TApiEntry.enc), .psl 1 (vr3.2.1.map (encInt .i64)), .int .i64 vr3.2.2], []) | _ => none) rfl (fun _ _ => rC (c_merge_All hvr3)) ?_
 refine awp_seq ?_
 refine awp_sr2 112 [1, 6, 7, 16] (fun _ => none) rfl (fun _ _ => rT) ?_
 refine awp_if rfl (fun hb4 => ?_) (fun hb4 => ?_)
 ·
  replace h0 := iteT h0 hb4
  refine awp_sr2 144 [4, 5, 6] (fun _ => none) rfl (fun _ _ => rT) ?_
  refine awp_ret ?_
  refine kr_then ?_
  obtain rfl := Option.some.inj h0
  refine leave_retG [] ?_
  exact rG
 ·
  replace h0 := iteF h0 hb4
  refine awp_skip ?_
  refine kn_then ?_
  obtain ⟨vr5, hvr5, h0⟩ := bindS h0
  refine awp_sr2 184 [4, 6, 7] (fun | 2 => some (.tup [.psl 4 (vr5.1.map TApiEntry.enc), .int .i64 vr5.2.1, .int .i64 vr5.2.2], []) | _ => none) rfl (fun _ _ => rC (c_shadow_Filter hvr5)) ?_
  refine awp_seq ?_
  refine awp_sr2 200 [4, 6, 7, 26] (fun _ => none) rfl (fun _ _ => rT) ?_
  refine awp_if rfl (fun hb6 => ?_) (fun hb6 => ?_)
  ·
   replace h0 := iteT h0 hb6
   refine awp_sr2 232 [4, 5, 6] (fun _ => none) rfl (fun _ _ => rT) ?_
   refine awp_ret ?_
   refine kr_then ?_
   obtain rfl := Option.some.inj h0
   refine leave_retG [] ?_
   exact rG
  ·
   replace h0 := iteF h0 hb6
   refine awp_skip ?_
   refine kn_then ?_
   refine awp_sr2 248 [4, 5, 6] (fun _ => none) rfl (fun _ _ => rT) ?_
   refine awp_ret ?_
   obtain rfl := Option.some.inj h0
   refine leave_retG [] ?_
   exact rG
end Go.T
end
section
namespace Go.T
open Go Go.AM Go.Proofs
set_option maxRecDepth 100000
set_option maxHeartbeats 4000000
set_option linter.unusedVariables false
theorem c_bookendlaw13_awake {fu : Nat} {r : Bool} (h0 : bookendlaw13_awake fu = some r) : PCall Try.prog 10 [] (.bool r) [] := by
 refine awp_pcall Try.func10 rfl (by decide) (Nat.le_of_ble_eq_true rfl) ?_
 dsimp only [Try.f10, List.append]
 rw [bookendlaw13_awake] at h0
 refine (show AWP _ _ _ _ ⟨enumFr 0 _, [], 0, []⟩ from ?_)
 refine awp_sr2 8 [] (fun _ => none) rfl (fun _ _ => rT) ?_
 obtain ⟨vr1, hvr1, h0⟩ := bindS h0
 refine awp_sr2 24 [1] (fun | 0 => some (.psl 1 (vr1.map (encSl 4 TApiEntry.enc)), []) | _ => none) rfl (fun _ _ => rC (c_bookendlaw11_Example hvr1)) ?_
 obtain ⟨vr2, hvr2, h0⟩ := bindS h0
 refine awp_sr2 104 [1, 2, 4] (fun | 1 => some (.tup [.agg (TApiSlState.enc vr2.1), .int .i64 vr2.2.1, .int .i64 vr2.2.2], []) | _ => none) rfl (fun _ _ => rC (c_slices_Begin hvr2)) ?_
 obtain ⟨vr3, hvr3, h0⟩ := bindS h0
 refine awp_sr2 160 [1, 2, 4, 5, 6] (fun | 1 => some (.tup [.int .i64 vr3.1, .int .i64 vr3.2], []) | _ => none) rfl (fun _ _ => rC (c_slices_Left hvr3)) ?_
 obtain ⟨vr4, hvr4, h0⟩ := bindS h0
 refine awp_sr2 240 [1, 2, 4, 5, 6, 7, 8, 9] (fun | 1 => some (.tup [.agg (TApiSlState.enc vr4.1), .int .i64 vr4.2.1, .int .i64 vr4.2.2], []) | _ => none) rfl (fun _ _ => rC (c_slices_Step hvr4)) ?_
 obtain ⟨vr5, hvr5, h0⟩ := bindS h0
 refine awp_sr2 320 [1, 2, 4, 5, 6, 7, 8, 9, 10, 11, 12] (fun | 1 => some (.tup [.agg (TApiSlState.enc vr5.1), .int .i64 vr5.2.1, .int .i64 vr5.2.2], []) | _ => none) rfl (fun _ _ => rC (c_slices_Step hvr5)) ?_
 obtain ⟨vr6, hvr6, h0⟩ := bindS h0
 refine awp_sr2 376 [1, 2, 4, 5, 6, 7, 8, 9, 11, 12, 13, 14] (fun | 1 => some (.tup [.psl 4 (vr6.1.map TApiEntry.enc), .int .i64 vr6.2], []) | _ => none) rfl (fun _ _ => rC (c_slices_Output hvr6)) ?_
 obtain ⟨vr7, hvr7, h0⟩ := bindS h0
 refine awp_sr2 432 [1, 4, 5, 6, 7, 8, 9, 11, 12, 13, 14, 16] (fun | 1 => some (.tup [.psl 4 (vr7.1.map TApiEntry.enc), .int .i64 vr7.2], []) | _ => none) rfl (fun _ _ => rC (c_slices_Output hvr7)) ?_
 obtain ⟨vr8, hvr8, h0⟩ := bindS h0
 refine awp_sr2 504 [1, 4, 5, 6, 7, 8, 9, 11, 12, 13, 14, 16, 17, 18, 19] (fun | 1 => some (.tup [.psl 4 (vr8.1.map TApiEntry.enc), .int .i64 vr8.2.1, .int .i64 vr8.2.2], []) | _ => none) rfl (fun _ _ => rC (c_slices_All hvr8)) ?_
 obtain ⟨b9, hb9, h0⟩ := bindS h0
 obtain ⟨b10, hb10, h0⟩ := bindS h0
 obtain ⟨b11, hb11, h0⟩ := bindS h0
 obtain ⟨b12, hb12, h0⟩ := bindS h0
 obtain ⟨b18, hb18, h0⟩ := bindS h0
 obtain ⟨b19, hb19, h0⟩ := bindS h0
 obtain ⟨b20, hb20, h0⟩ := bindS h0
 obtain ⟨b27, hb27, h0⟩ := bindS h0
 obtain ⟨b28, hb28, h0⟩ := bindS h0
 obtain ⟨b29, hb29, h0⟩ := bindS h0
 obtain ⟨b34, hb34, h0⟩ := bindS h0
 obtain ⟨b35, hb35, h0⟩ := bindS h0
 obtain ⟨b36, hb36, h0⟩ := bindS h0
 refine awp_sd3 (fr' := [(0, .bool b36)]) (hp' := [(72, ⟨0, true, true, 10, [[.psl 1 (List.map (encSl 4 TApiEntry.enc) vr2.1.Merge.Runs), .psl 1 (List.map (encInt .i64) vr2.1.Merge.At), .psl 2 (List.map TApiLsKey.enc vr2.1.Merge.Tree.Keys), .psl 1 (List.map (encInt .i64) vr2.1.Merge.Tree.Lose), .int .i64 vr2.1.Merge.Tree.Win, .bool vr2.1.Shadow.Some, .str vr2.1.Shadow.Last, .bool vr2.1.Shadow.Bottom, .psl 4 (List.map TApiEntry.enc vr2.1.Out), .int .i64 vr2.1.Steps]]⟩), (208, ⟨0, true, true, 10, [[.psl 1 (List.map (encSl 4 TApiEntry.enc) vr4.1.Merge.Runs), .psl 1 (List.map (encInt .i64) vr4.1.Merge.At), .psl 2 (List.map TApiLsKey.enc vr4.1.Merge.Tree.Keys), .psl 1 (List.map (encInt .i64) vr4.1.Merge.Tree.Lose), .int .i64 vr4.1.Merge.Tree.Win, .bool vr4.1.Shadow.Some, .str vr4.1.Shadow.Last, .bool vr4.1.Shadow.Bottom, .psl 4 (List.map TApiEntry.enc vr4.1.Out), .int .i64 vr4.1.Steps]]⟩), (288, ⟨0, true, true, 10, [[.psl 1 (List.map (encSl 4 TApiEntry.enc) vr5.1.Merge.Runs), .psl 1 (List.map (encInt .i64) vr5.1.Merge.At), .psl 2 (List.map TApiLsKey.enc vr5.1.Merge.Tree.Keys), .psl 1 (List.map (encInt .i64) vr5.1.Merge.Tree.Lose), .int .i64 vr5.1.Merge.Tree.Win, .bool vr5.1.Shadow.Some, .str vr5.1.Shadow.Last, .bool vr5.1.Shadow.Bottom, .psl 4 (List.map TApiEntry.enc vr5.1.Out), .int .i64 vr5.1.Steps]]⟩)]) [72, 208, 288] 1256 [0] (fun | 32 => (ix vr1 1).bind fun e13 => (ix e13 0).bind fun e14 => (ix vr1 0).bind fun e15 => (ix e15 0).bind fun e16 => (bookendref11_SameEntries fu vr4.1.Out [e14, e16]).bind fun vr17 => some (.bool vr17, []) | 60 => (ix vr1 1).bind fun e21 => (ix e21 0).bind fun e22 => (ix vr1 0).bind fun e23 => (ix e23 0).bind fun e24 => (ix e21 2).bind fun e25 => (bookendref11_SameEntries fu vr6.1 [e22, e24, e25]).bind fun vr26 => some (.bool vr26, []) | 83 => (ix vr1 1).bind fun e30 => (ix e30 0).bind fun e31 => (ix e30 2).bind fun e32 => (bookendref11_SameEntries fu vr8.1 [e31, e32]).bind fun vr33 => some (.bool vr33, []) | _ => none) rfl rfl rfl (fun Kt hK => by
   cases hg37 : (decide (vr2.2.2 = 0)) with
   | false =>
    replace hb9 := iteF hb9 hg37
    have hqb9 := Option.some.inj hb9
    cases b9 with
    | false =>
     replace hb10 := iteF hb10 rfl
     have hqb10 := Option.some.inj hb10
     cases b10 with
     | false =>
      replace hb11 := iteF hb11 rfl
      have hqb11 := Option.some.inj hb11
      cases b11 with
      | false =>
       replace hb12 := iteF hb12 rfl
       have hqb12 := Option.some.inj hb12
       cases b12 with
       | false =>
        replace hb18 := iteF hb18 rfl
        have hqb18 := Option.some.inj hb18
        cases b18 with
        | false =>
         replace hb19 := iteF hb19 rfl
         have hqb19 := Option.some.inj hb19
         cases b19 with
         | false =>
          replace hb20 := iteF hb20 rfl
          have hqb20 := Option.some.inj hb20
          cases b20 with
          | false =>
           replace hb27 := iteF hb27 rfl
           have hqb27 := Option.some.inj hb27
           cases b27 with
           | false =>
            replace hb28 := iteF hb28 rfl
            have hqb28 := Option.some.inj hb28
            cases b28 with
            | false =>
             replace hb29 := iteF hb29 rfl
             have hqb29 := Option.some.inj hb29
             cases b29 with
             | false =>
              replace hb34 := iteF hb34 rfl
              have hqb34 := Option.some.inj hb34
              cases b34 with
              | false =>
               replace hb35 := iteF hb35 rfl
               have hqb35 := Option.some.inj hb35
               cases b35 with
               | false =>
                replace hb36 := iteF hb36 rfl
                have hqb36 := Option.some.inj hb36
                subst hqb36
                simp (maxSteps := 1000000) only [↓reduceIte, reduceCtorEq, Nat.reduceEqDiff, Nat.reduceLT, Nat.reduceLeDiff, Nat.reduceAdd, Nat.reduceMul, Int.reduceToNat, push_cast, ↓hg37]
                try simp only [↓hg37] at hK
                try have q0 := c_bookendref11_SameEntries hvr17
                try have q1 := c_bookendref11_SameEntries hvr26
                try have q2 := c_bookendref11_SameEntries hvr33
                all_goals exact rUd
               | true =>
                cases hqb35
              | true =>
               cases hqb34
             | true =>
              cases hqb29
            | true =>
             cases hqb28
           | true =>
            cases hqb27
          | true =>
           cases hqb20
         | true =>
          cases hqb19
        | true =>
         cases hqb18
       | true =>
        cases hqb12
      | true =>
       cases hqb11
     | true =>
      cases hqb10
    | true =>
     cases hqb9
   | true =>
    replace hb9 := iteT hb9 hg37
    have hqb9 := Option.some.inj hb9
    cases b9 with
    | false =>
     replace hb10 := iteF hb10 rfl
     have hqb10 := Option.some.inj hb10
     cases b10 with
     | false =>
      replace hb11 := iteF hb11 rfl
      have hqb11 := Option.some.inj hb11
      cases b11 with
      | false =>
       replace hb12 := iteF hb12 rfl
       have hqb12 := Option.some.inj hb12
       cases b12 with
       | false =>
        replace hb18 := iteF hb18 rfl
        have hqb18 := Option.some.inj hb18
        cases b18 with
        | false =>
         replace hb19 := iteF hb19 rfl
         have hqb19 := Option.some.inj hb19
         cases b19 with
         | false =>
          replace hb20 := iteF hb20 rfl
          have hqb20 := Option.some.inj hb20
          cases b20 with
          | false =>
           replace hb27 := iteF hb27 rfl
           have hqb27 := Option.some.inj hb27
           cases b27 with
           | false =>
            replace hb28 := iteF hb28 rfl
            have hqb28 := Option.some.inj hb28
            cases b28 with
            | false =>
             replace hb29 := iteF hb29 rfl
             have hqb29 := Option.some.inj hb29
             cases b29 with
             | false =>
              replace hb34 := iteF hb34 rfl
              have hqb34 := Option.some.inj hb34
              cases b34 with
              | false =>
               replace hb35 := iteF hb35 rfl
               have hqb35 := Option.some.inj hb35
               cases b35 with
               | false =>
                replace hb36 := iteF hb36 rfl
                have hqb36 := Option.some.inj hb36
                subst hqb36
                simp (maxSteps := 1000000) only [↓reduceIte, reduceCtorEq, Nat.reduceEqDiff, Nat.reduceLT, Nat.reduceLeDiff, Nat.reduceAdd, Nat.reduceMul, Int.reduceToNat, push_cast, ↓hg37, ↓hqb9]
                try simp only [↓hg37, ↓hqb9] at hK
                try have q0 := c_bookendref11_SameEntries hvr17
                try have q1 := c_bookendref11_SameEntries hvr26
                try have q2 := c_bookendref11_SameEntries hvr33
                all_goals exact rUd
               | true =>
                cases hqb35
              | true =>
               cases hqb34
             | true =>
              cases hqb29
            | true =>
             cases hqb28
           | true =>
            cases hqb27
          | true =>
           cases hqb20
         | true =>
          cases hqb19
        | true =>
         cases hqb18
       | true =>
        cases hqb12
      | true =>
       cases hqb11
     | true =>
      cases hqb10
    | true =>
     replace hb10 := iteT hb10 rfl
     have hqb10 := Option.some.inj hb10
     cases b10 with
     | false =>
      replace hb11 := iteF hb11 rfl
      have hqb11 := Option.some.inj hb11
      cases b11 with
      | false =>
       replace hb12 := iteF hb12 rfl
       have hqb12 := Option.some.inj hb12
       cases b12 with
       | false =>
        replace hb18 := iteF hb18 rfl
        have hqb18 := Option.some.inj hb18
        cases b18 with
        | false =>
         replace hb19 := iteF hb19 rfl
         have hqb19 := Option.some.inj hb19
         cases b19 with
         | false =>
          replace hb20 := iteF hb20 rfl
          have hqb20 := Option.some.inj hb20
          cases b20 with
          | false =>
           replace hb27 := iteF hb27 rfl
           have hqb27 := Option.some.inj hb27
           cases b27 with
           | false =>
            replace hb28 := iteF hb28 rfl
            have hqb28 := Option.some.inj hb28
            cases b28 with
            | false =>
             replace hb29 := iteF hb29 rfl
             have hqb29 := Option.some.inj hb29
             cases b29 with
             | false =>
              replace hb34 := iteF hb34 rfl
              have hqb34 := Option.some.inj hb34
              cases b34 with
              | false =>
               replace hb35 := iteF hb35 rfl
               have hqb35 := Option.some.inj hb35
               cases b35 with
               | false =>
                replace hb36 := iteF hb36 rfl
                have hqb36 := Option.some.inj hb36
                subst hqb36
                simp (maxSteps := 1000000) only [↓reduceIte, reduceCtorEq, Nat.reduceEqDiff, Nat.reduceLT, Nat.reduceLeDiff, Nat.reduceAdd, Nat.reduceMul, Int.reduceToNat, push_cast, ↓hg37, ↓hqb9, ↓hqb10]
                try simp only [↓hg37, ↓hqb9, ↓hqb10] at hK
                try have q0 := c_bookendref11_SameEntries hvr17
                try have q1 := c_bookendref11_SameEntries hvr26
                try have q2 := c_bookendref11_SameEntries hvr33
                all_goals exact rUd
               | true =>
                cases hqb35
              | true =>
               cases hqb34
             | true =>
              cases hqb29
            | true =>
             cases hqb28
           | true =>
            cases hqb27
          | true =>
           cases hqb20
         | true =>
          cases hqb19
        | true =>
         cases hqb18
       | true =>
        cases hqb12
      | true =>
       cases hqb11
     | true =>
      replace hb11 := iteT hb11 rfl
      have hqb11 := Option.some.inj hb11
      cases b11 with
      | false =>
       replace hb12 := iteF hb12 rfl
       have hqb12 := Option.some.inj hb12
       cases b12 with
       | false =>
        replace hb18 := iteF hb18 rfl
        have hqb18 := Option.some.inj hb18
        cases b18 with
        | false =>
         replace hb19 := iteF hb19 rfl
         have hqb19 := Option.some.inj hb19
         cases b19 with
         | false =>
          replace hb20 := iteF hb20 rfl
          have hqb20 := Option.some.inj hb20
          cases b20 with
          | false =>
           replace hb27 := iteF hb27 rfl
           have hqb27 := Option.some.inj hb27
           cases b27 with
           | false =>
            replace hb28 := iteF hb28 rfl
            have hqb28 := Option.some.inj hb28
            cases b28 with
            | false =>
             replace hb29 := iteF hb29 rfl
             have hqb29 := Option.some.inj hb29
             cases b29 with
             | false =>
              replace hb34 := iteF hb34 rfl
              have hqb34 := Option.some.inj hb34
              cases b34 with
              | false =>
               replace hb35 := iteF hb35 rfl
               have hqb35 := Option.some.inj hb35
               cases b35 with
               | false =>
                replace hb36 := iteF hb36 rfl
                have hqb36 := Option.some.inj hb36
                subst hqb36
                simp (maxSteps := 1000000) only [↓reduceIte, reduceCtorEq, Nat.reduceEqDiff, Nat.reduceLT, Nat.reduceLeDiff, Nat.reduceAdd, Nat.reduceMul, Int.reduceToNat, push_cast, ↓hg37, ↓hqb9, ↓hqb10, ↓hqb11]
                try simp only [↓hg37, ↓hqb9, ↓hqb10, ↓hqb11] at hK
                try have q0 := c_bookendref11_SameEntries hvr17
                try have q1 := c_bookendref11_SameEntries hvr26
                try have q2 := c_bookendref11_SameEntries hvr33
                all_goals exact rUd
               | true =>
                cases hqb35
              | true =>
               cases hqb34
             | true =>
              cases hqb29
            | true =>
             cases hqb28
           | true =>
            cases hqb27
          | true =>
           cases hqb20
         | true =>
          cases hqb19
        | true =>
         cases hqb18
       | true =>
        cases hqb12
      | true =>
       replace hb12 := iteT hb12 rfl
       have hqb12 := Option.some.inj hb12
       cases b12 with
       | false =>
        replace hb18 := iteF hb18 rfl
        have hqb18 := Option.some.inj hb18
        cases b18 with
        | false =>
         replace hb19 := iteF hb19 rfl
         have hqb19 := Option.some.inj hb19
         cases b19 with
         | false =>
          replace hb20 := iteF hb20 rfl
          have hqb20 := Option.some.inj hb20
          cases b20 with
          | false =>
           replace hb27 := iteF hb27 rfl
           have hqb27 := Option.some.inj hb27
           cases b27 with
           | false =>
            replace hb28 := iteF hb28 rfl
            have hqb28 := Option.some.inj hb28
            cases b28 with
            | false =>
             replace hb29 := iteF hb29 rfl
             have hqb29 := Option.some.inj hb29
             cases b29 with
             | false =>
              replace hb34 := iteF hb34 rfl
              have hqb34 := Option.some.inj hb34
              cases b34 with
              | false =>
               replace hb35 := iteF hb35 rfl
               have hqb35 := Option.some.inj hb35
               cases b35 with
               | false =>
                replace hb36 := iteF hb36 rfl
                have hqb36 := Option.some.inj hb36
                subst hqb36
                simp (maxSteps := 1000000) only [↓reduceIte, reduceCtorEq, Nat.reduceEqDiff, Nat.reduceLT, Nat.reduceLeDiff, Nat.reduceAdd, Nat.reduceMul, Int.reduceToNat, push_cast, ↓hg37, ↓hqb9, ↓hqb10, ↓hqb11, ↓hqb12]
                try simp only [↓hg37, ↓hqb9, ↓hqb10, ↓hqb11, ↓hqb12] at hK
                try have q0 := c_bookendref11_SameEntries hvr17
                try have q1 := c_bookendref11_SameEntries hvr26
                try have q2 := c_bookendref11_SameEntries hvr33
                all_goals exact rUd
               | true =>
                cases hqb35
              | true =>
               cases hqb34
             | true =>
              cases hqb29
            | true =>
             cases hqb28
           | true =>
            cases hqb27
          | true =>
           cases hqb20
         | true =>
          cases hqb19
        | true =>
         cases hqb18
       | true =>
        replace hb18 := iteT hb18 rfl
        obtain ⟨e13, he13, hb18⟩ := bindS hb18
        have he13b := (idxS he13).2.1
        have he13c := (idxL 1 he13 rfl).1
        have he13a := (idxL 1 he13 rfl).2
        obtain ⟨e14, he14, hb18⟩ := bindS hb18
        have he14b := (idxS he14).2.1
        have he14c := (idxL 0 he14 rfl).1
        have he14a := (idxL 0 he14 rfl).2
        obtain ⟨e15, he15, hb18⟩ := bindS hb18
        have he15b := (idxS he15).2.1
        have he15c := (idxL 0 he15 rfl).1
        have he15a := (idxL 0 he15 rfl).2
        obtain ⟨e16, he16, hb18⟩ := bindS hb18
        have he16b := (idxS he16).2.1
        have he16c := (idxL 0 he16 rfl).1
        have he16a := (idxL 0 he16 rfl).2
        obtain ⟨vr17, hvr17, hb18⟩ := bindS hb18
        have hqb18 := Option.some.inj hb18
        cases b18 with
        | false =>
         subst hqb18
         replace hb19 := iteF hb19 rfl
         have hqb19 := Option.some.inj hb19
         cases b19 with
         | false =>
          replace hb20 := iteF hb20 rfl
          have hqb20 := Option.some.inj hb20
          cases b20 with
          | false =>
           replace hb27 := iteF hb27 rfl
           have hqb27 := Option.some.inj hb27
           cases b27 with
           | false =>
            replace hb28 := iteF hb28 rfl
            have hqb28 := Option.some.inj hb28
            cases b28 with
            | false =>
             replace hb29 := iteF hb29 rfl
             have hqb29 := Option.some.inj hb29
             cases b29 with
             | false =>
              replace hb34 := iteF hb34 rfl
              have hqb34 := Option.some.inj hb34
              cases b34 with
              | false =>
               replace hb35 := iteF hb35 rfl
               have hqb35 := Option.some.inj hb35
               cases b35 with
               | false =>
                replace hb36 := iteF hb36 rfl
                have hqb36 := Option.some.inj hb36
                subst hqb36
                simp (maxSteps := 1000000) only [↓reduceIte, reduceCtorEq, Nat.reduceEqDiff, Nat.reduceLT, Nat.reduceLeDiff, Nat.reduceAdd, Nat.reduceMul, Int.reduceToNat, push_cast, ↓hg37, ↓hqb9, ↓hqb10, ↓hqb11, ↓hqb12, he13a, he13b, he13c, he13, he14a, he14b, he14c, he14, he15a, he15b, he15c, he15, he16a, he16b, he16c, he16, hvr17]
                try simp only [↓hg37, ↓hqb9, ↓hqb10, ↓hqb11, ↓hqb12] at hK
                try have q0 := c_bookendref11_SameEntries hvr17
                try have q1 := c_bookendref11_SameEntries hvr26
                try have q2 := c_bookendref11_SameEntries hvr33
                all_goals exact rUd
               | true =>
                cases hqb35
              | true =>
               cases hqb34
             | true =>
              cases hqb29
            | true =>
             cases hqb28
           | true =>
            cases hqb27
          | true =>
           cases hqb20
         | true =>
          cases hqb19
        | true =>
         subst hqb18
         replace hb19 := iteT hb19 rfl
         have hqb19 := Option.some.inj hb19
         cases b19 with
         | false =>
          replace hb20 := iteF hb20 rfl
          have hqb20 := Option.some.inj hb20
          cases b20 with
          | false =>
           replace hb27 := iteF hb27 rfl
           have hqb27 := Option.some.inj hb27
           cases b27 with
           | false =>
            replace hb28 := iteF hb28 rfl
            have hqb28 := Option.some.inj hb28
            cases b28 with
            | false =>
             replace hb29 := iteF hb29 rfl
             have hqb29 := Option.some.inj hb29
             cases b29 with
             | false =>
              replace hb34 := iteF hb34 rfl
              have hqb34 := Option.some.inj hb34
              cases b34 with
              | false =>
               replace hb35 := iteF hb35 rfl
               have hqb35 := Option.some.inj hb35
               cases b35 with
               | false =>
                replace hb36 := iteF hb36 rfl
                have hqb36 := Option.some.inj hb36
                subst hqb36
                simp (maxSteps := 1000000) only [↓reduceIte, reduceCtorEq, Nat.reduceEqDiff, Nat.reduceLT, Nat.reduceLeDiff, Nat.reduceAdd, Nat.reduceMul, Int.reduceToNat, push_cast, ↓hg37, ↓hqb9, ↓hqb10, ↓hqb11, ↓hqb12, he13a, he13b, he13c, he13, he14a, he14b, he14c, he14, he15a, he15b, he15c, he15, he16a, he16b, he16c, he16, hvr17, ↓hqb19]
                try simp only [↓hg37, ↓hqb9, ↓hqb10, ↓hqb11, ↓hqb12, ↓hqb19] at hK
                try have q0 := c_bookendref11_SameEntries hvr17
                try have q1 := c_bookendref11_SameEntries hvr26
                try have q2 := c_bookendref11_SameEntries hvr33
                all_goals exact rUd
               | true =>
                cases hqb35
              | true =>
               cases hqb34
             | true =>
              cases hqb29
            | true =>
             cases hqb28
           | true =>
            cases hqb27
          | true =>
           cases hqb20
         | true =>
          replace hb20 := iteT hb20 rfl
          have hqb20 := Option.some.inj hb20
          cases b20 with
          | false =>
           replace hb27 := iteF hb27 rfl
           have hqb27 := Option.some.inj hb27
           cases b27 with
           | false =>
            replace hb28 := iteF hb28 rfl
            have hqb28 := Option.some.inj hb28
            cases b28 with
            | false =>
             replace hb29 := iteF hb29 rfl
             have hqb29 := Option.some.inj hb29
             cases b29 with
             | false =>
              replace hb34 := iteF hb34 rfl
              have hqb34 := Option.some.inj hb34
              cases b34 with
              | false =>
               replace hb35 := iteF hb35 rfl
               have hqb35 := Option.some.inj hb35
               cases b35 with
               | false =>
                replace hb36 := iteF hb36 rfl
                have hqb36 := Option.some.inj hb36
                subst hqb36
                simp (maxSteps := 1000000) only [↓reduceIte, reduceCtorEq, Nat.reduceEqDiff, Nat.reduceLT, Nat.reduceLeDiff, Nat.reduceAdd, Nat.reduceMul, Int.reduceToNat, push_cast, ↓hg37, ↓hqb9, ↓hqb10, ↓hqb11, ↓hqb12, he13a, he13b, he13c, he13, he14a, he14b, he14c, he14, he15a, he15b, he15c, he15, he16a, he16b, he16c, he16, hvr17, ↓hqb19, ↓hqb20]
                try simp only [↓hg37, ↓hqb9, ↓hqb10, ↓hqb11, ↓hqb12, ↓hqb19, ↓hqb20] at hK
                try have q0 := c_bookendref11_SameEntries hvr17
                try have q1 := c_bookendref11_SameEntries hvr26
                try have q2 := c_bookendref11_SameEntries hvr33
                all_goals exact rUd
               | true =>
                cases hqb35
              | true =>
               cases hqb34
             | true =>
              cases hqb29
            | true =>
             cases hqb28
           | true =>
            cases hqb27
          | true =>
           replace hb27 := iteT hb27 rfl
           obtain ⟨e21, he21, hb27⟩ := bindS hb27
           have he21b := (idxS he21).2.1
           have he21c := (idxL 1 he21 rfl).1
           have he21a := (idxL 1 he21 rfl).2
           obtain rfl := Option.some.inj (he13.symm.trans he21)
           obtain ⟨e22, he22, hb27⟩ := bindS hb27
           have he22b := (idxS he22).2.1
           have he22c := (idxL 0 he22 rfl).1
           have he22a := (idxL 0 he22 rfl).2
           obtain rfl := Option.some.inj (he14.symm.trans he22)
           obtain ⟨e23, he23, hb27⟩ := bindS hb27
           have he23b := (idxS he23).2.1
           have he23c := (idxL 0 he23 rfl).1
           have he23a := (idxL 0 he23 rfl).2
           obtain rfl := Option.some.inj (he15.symm.trans he23)
           obtain ⟨e24, he24, hb27⟩ := bindS hb27
           have he24b := (idxS he24).2.1
           have he24c := (idxL 0 he24 rfl).1
           have he24a := (idxL 0 he24 rfl).2
           obtain rfl := Option.some.inj (he16.symm.trans he24)
           obtain ⟨e25, he25, hb27⟩ := bindS hb27
           have he25b := (idxS he25).2.1
           have he25c := (idxL 2 he25 rfl).1
           have he25a := (idxL 2 he25 rfl).2
           obtain ⟨vr26, hvr26, hb27⟩ := bindS hb27
           have hqb27 := Option.some.inj hb27
           cases b27 with
           | false =>
            subst hqb27
            replace hb28 := iteF hb28 rfl
            have hqb28 := Option.some.inj hb28
            cases b28 with
            | false =>
             replace hb29 := iteF hb29 rfl
             have hqb29 := Option.some.inj hb29
             cases b29 with
             | false =>
              replace hb34 := iteF hb34 rfl
              have hqb34 := Option.some.inj hb34
              cases b34 with
              | false =>
               replace hb35 := iteF hb35 rfl
               have hqb35 := Option.some.inj hb35
               cases b35 with
               | false =>
                replace hb36 := iteF hb36 rfl
                have hqb36 := Option.some.inj hb36
                subst hqb36
                simp (maxSteps := 1000000) only [↓reduceIte, reduceCtorEq, Nat.reduceEqDiff, Nat.reduceLT, Nat.reduceLeDiff, Nat.reduceAdd, Nat.reduceMul, Int.reduceToNat, push_cast, ↓hg37, ↓hqb9, ↓hqb10, ↓hqb11, ↓hqb12, he13a, he13b, he13c, he13, he14a, he14b, he14c, he14, he15a, he15b, he15c, he15, he16a, he16b, he16c, he16, hvr17, ↓hqb19, ↓hqb20, he21a, he21b, he21c, he21, he22a, he22b, he22c, he22, he23a, he23b, he23c, he23, he24a, he24b, he24c, he24, he25a, he25b, he25c, he25, hvr26]
                try simp only [↓hg37, ↓hqb9, ↓hqb10, ↓hqb11, ↓hqb12, ↓hqb19, ↓hqb20] at hK
                try have q0 := c_bookendref11_SameEntries hvr17
                try have q1 := c_bookendref11_SameEntries hvr26
                try have q2 := c_bookendref11_SameEntries hvr33
                all_goals exact rUd
               | true =>
                cases hqb35
              | true =>
               cases hqb34
             | true =>
              cases hqb29
            | true =>
             cases hqb28
           | true =>
            subst hqb27
            replace hb28 := iteT hb28 rfl
            have hqb28 := Option.some.inj hb28
            cases b28 with
            | false =>
             replace hb29 := iteF hb29 rfl
             have hqb29 := Option.some.inj hb29
             cases b29 with
             | false =>
              replace hb34 := iteF hb34 rfl
              have hqb34 := Option.some.inj hb34
              cases b34 with
              | false =>
               replace hb35 := iteF hb35 rfl
               have hqb35 := Option.some.inj hb35
               cases b35 with
               | false =>
                replace hb36 := iteF hb36 rfl
                have hqb36 := Option.some.inj hb36
                subst hqb36
                simp (maxSteps := 1000000) only [↓reduceIte, reduceCtorEq, Nat.reduceEqDiff, Nat.reduceLT, Nat.reduceLeDiff, Nat.reduceAdd, Nat.reduceMul, Int.reduceToNat, push_cast, ↓hg37, ↓hqb9, ↓hqb10, ↓hqb11, ↓hqb12, he13a, he13b, he13c, he13, he14a, he14b, he14c, he14, he15a, he15b, he15c, he15, he16a, he16b, he16c, he16, hvr17, ↓hqb19, ↓hqb20, he21a, he21b, he21c, he21, he22a, he22b, he22c, he22, he23a, he23b, he23c, he23, he24a, he24b, he24c, he24, he25a, he25b, he25c, he25, hvr26, ↓hqb28]
                try simp only [↓hg37, ↓hqb9, ↓hqb10, ↓hqb11, ↓hqb12, ↓hqb19, ↓hqb20, ↓hqb28] at hK
                try have q0 := c_bookendref11_SameEntries hvr17
                try have q1 := c_bookendref11_SameEntries hvr26
                try have q2 := c_bookendref11_SameEntries hvr33
                all_goals exact rUd
               | true =>
                cases hqb35
              | true =>
               cases hqb34
             | true =>
              cases hqb29
            | true =>
             replace hb29 := iteT hb29 rfl
             have hqb29 := Option.some.inj hb29
             cases b29 with
             | false =>
              replace hb34 := iteF hb34 rfl
              have hqb34 := Option.some.inj hb34
              cases b34 with
              | false =>
               replace hb35 := iteF hb35 rfl
               have hqb35 := Option.some.inj hb35
               cases b35 with
               | false =>
                replace hb36 := iteF hb36 rfl
                have hqb36 := Option.some.inj hb36
                subst hqb36
                simp (maxSteps := 1000000) only [↓reduceIte, reduceCtorEq, Nat.reduceEqDiff, Nat.reduceLT, Nat.reduceLeDiff, Nat.reduceAdd, Nat.reduceMul, Int.reduceToNat, push_cast, ↓hg37, ↓hqb9, ↓hqb10, ↓hqb11, ↓hqb12, he13a, he13b, he13c, he13, he14a, he14b, he14c, he14, he15a, he15b, he15c, he15, he16a, he16b, he16c, he16, hvr17, ↓hqb19, ↓hqb20, he21a, he21b, he21c, he21, he22a, he22b, he22c, he22, he23a, he23b, he23c, he23, he24a, he24b, he24c, he24, he25a, he25b, he25c, he25, hvr26, ↓hqb28, ↓hqb29]
                try simp only [↓hg37, ↓hqb9, ↓hqb10, ↓hqb11, ↓hqb12, ↓hqb19, ↓hqb20, ↓hqb28, ↓hqb29] at hK
                try have q0 := c_bookendref11_SameEntries hvr17
                try have q1 := c_bookendref11_SameEntries hvr26
                try have q2 := c_bookendref11_SameEntries hvr33
                all_goals exact rUd
               | true =>
                cases hqb35
              | true =>
               cases hqb34
             | true =>
              replace hb34 := iteT hb34 rfl
              obtain ⟨e30, he30, hb34⟩ := bindS hb34
              have he30b := (idxS he30).2.1
              have he30c := (idxL 1 he30 rfl).1
              have he30a := (idxL 1 he30 rfl).2
              obtain rfl := Option.some.inj (he13.symm.trans he30)
              obtain ⟨e31, he31, hb34⟩ := bindS hb34
              have he31b := (idxS he31).2.1
              have he31c := (idxL 0 he31 rfl).1
              have he31a := (idxL 0 he31 rfl).2
              obtain rfl := Option.some.inj (he14.symm.trans he31)
              obtain ⟨e32, he32, hb34⟩ := bindS hb34
              have he32b := (idxS he32).2.1
              have he32c := (idxL 2 he32 rfl).1
              have he32a := (idxL 2 he32 rfl).2
              obtain rfl := Option.some.inj (he25.symm.trans he32)
              obtain ⟨vr33, hvr33, hb34⟩ := bindS hb34
              have hqb34 := Option.some.inj hb34
              cases b34 with
              | false =>
               subst hqb34
               replace hb35 := iteF hb35 rfl
               have hqb35 := Option.some.inj hb35
               cases b35 with
               | false =>
                replace hb36 := iteF hb36 rfl
                have hqb36 := Option.some.inj hb36
                subst hqb36
                simp (maxSteps := 1000000) only [↓reduceIte, reduceCtorEq, Nat.reduceEqDiff, Nat.reduceLT, Nat.reduceLeDiff, Nat.reduceAdd, Nat.reduceMul, Int.reduceToNat, push_cast, ↓hg37, ↓hqb9, ↓hqb10, ↓hqb11, ↓hqb12, he13a, he13b, he13c, he13, he14a, he14b, he14c, he14, he15a, he15b, he15c, he15, he16a, he16b, he16c, he16, hvr17, ↓hqb19, ↓hqb20, he21a, he21b, he21c, he21, he22a, he22b, he22c, he22, he23a, he23b, he23c, he23, he24a, he24b, he24c, he24, he25a, he25b, he25c, he25, hvr26, ↓hqb28, ↓hqb29, he30a, he30b, he30c, he30, he31a, he31b, he31c, he31, he32a, he32b, he32c, he32, hvr33]
                try simp only [↓hg37, ↓hqb9, ↓hqb10, ↓hqb11, ↓hqb12, ↓hqb19, ↓hqb20, ↓hqb28, ↓hqb29] at hK
                try have q0 := c_bookendref11_SameEntries hvr17
                try have q1 := c_bookendref11_SameEntries hvr26
                try have q2 := c_bookendref11_SameEntries hvr33
                all_goals exact rUd
               | true =>
                cases hqb35
              | true =>
               subst hqb34
               replace hb35 := iteT hb35 rfl
               have hqb35 := Option.some.inj hb35
               cases b35 with
               | false =>
                replace hb36 := iteF hb36 rfl
                have hqb36 := Option.some.inj hb36
                subst hqb36
                simp (maxSteps := 1000000) only [↓reduceIte, reduceCtorEq, Nat.reduceEqDiff, Nat.reduceLT, Nat.reduceLeDiff, Nat.reduceAdd, Nat.reduceMul, Int.reduceToNat, push_cast, ↓hg37, ↓hqb9, ↓hqb10, ↓hqb11, ↓hqb12, he13a, he13b, he13c, he13, he14a, he14b, he14c, he14, he15a, he15b, he15c, he15, he16a, he16b, he16c, he16, hvr17, ↓hqb19, ↓hqb20, he21a, he21b, he21c, he21, he22a, he22b, he22c, he22, he23a, he23b, he23c, he23, he24a, he24b, he24c, he24, he25a, he25b, he25c, he25, hvr26, ↓hqb28, ↓hqb29, he30a, he30b, he30c, he30, he31a, he31b, he31c, he31, he32a, he32b, he32c, he32, hvr33, ↓hqb35]
                try simp only [↓hg37, ↓hqb9, ↓hqb10, ↓hqb11, ↓hqb12, ↓hqb19, ↓hqb20, ↓hqb28, ↓hqb29, ↓hqb35] at hK
                try have q0 := c_bookendref11_SameEntries hvr17
                try have q1 := c_bookendref11_SameEntries hvr26
                try have q2 := c_bookendref11_SameEntries hvr33
                all_goals exact rUd
               | true =>
                replace hb36 := iteT hb36 rfl
                have hqb36 := Option.some.inj hb36
                subst hqb36
                simp (maxSteps := 1000000) only [↓reduceIte, reduceCtorEq, Nat.reduceEqDiff, Nat.reduceLT, Nat.reduceLeDiff, Nat.reduceAdd, Nat.reduceMul, Int.reduceToNat, push_cast, ↓hg37, ↓hqb9, ↓hqb10, ↓hqb11, ↓hqb12, he13a, he13b, he13c, he13, he14a, he14b, he14c, he14, he15a, he15b, he15c, he15, he16a, he16b, he16c, he16, hvr17, ↓hqb19, ↓hqb20, he21a, he21b, he21c, he21, he22a, he22b, he22c, he22, he23a, he23b, he23c, he23, he24a, he24b, he24c, he24, he25a, he25b, he25c, he25, hvr26, ↓hqb28, ↓hqb29, he30a, he30b, he30c, he30, he31a, he31b, he31c, he31, he32a, he32b, he32c, he32, hvr33, ↓hqb35]
                try simp only [↓hg37, ↓hqb9, ↓hqb10, ↓hqb11, ↓hqb12, ↓hqb19, ↓hqb20, ↓hqb28, ↓hqb29, ↓hqb35] at hK
                try have q0 := c_bookendref11_SameEntries hvr17
                try have q1 := c_bookendref11_SameEntries hvr26
                try have q2 := c_bookendref11_SameEntries hvr33
                all_goals exact rUd) ?_
 refine awp_re (s2 := ⟨[(0, .bool b36)], [(72, ⟨0, true, true, 10, [[.psl 1 (List.map (encSl 4 TApiEntry.enc) vr2.1.Merge.Runs), .psl 1 (List.map (encInt .i64) vr2.1.Merge.At), .psl 2 (List.map TApiLsKey.enc vr2.1.Merge.Tree.Keys), .psl 1 (List.map (encInt .i64) vr2.1.Merge.Tree.Lose), .int .i64 vr2.1.Merge.Tree.Win, .bool vr2.1.Shadow.Some, .str vr2.1.Shadow.Last, .bool vr2.1.Shadow.Bottom, .psl 4 (List.map TApiEntry.enc vr2.1.Out), .int .i64 vr2.1.Steps]]⟩), (208, ⟨0, true, true, 10, [[.psl 1 (List.map (encSl 4 TApiEntry.enc) vr4.1.Merge.Runs), .psl 1 (List.map (encInt .i64) vr4.1.Merge.At), .psl 2 (List.map TApiLsKey.enc vr4.1.Merge.Tree.Keys), .psl 1 (List.map (encInt .i64) vr4.1.Merge.Tree.Lose), .int .i64 vr4.1.Merge.Tree.Win, .bool vr4.1.Shadow.Some, .str vr4.1.Shadow.Last, .bool vr4.1.Shadow.Bottom, .psl 4 (List.map TApiEntry.enc vr4.1.Out), .int .i64 vr4.1.Steps]]⟩), (288, ⟨0, true, true, 10, [[.psl 1 (List.map (encSl 4 TApiEntry.enc) vr5.1.Merge.Runs), .psl 1 (List.map (encInt .i64) vr5.1.Merge.At), .psl 2 (List.map TApiLsKey.enc vr5.1.Merge.Tree.Keys), .psl 1 (List.map (encInt .i64) vr5.1.Merge.Tree.Lose), .int .i64 vr5.1.Merge.Tree.Win, .bool vr5.1.Shadow.Some, .str vr5.1.Shadow.Last, .bool vr5.1.Shadow.Bottom, .psl 4 (List.map TApiEntry.enc vr5.1.Out), .int .i64 vr5.1.Steps]]⟩)], 1256, []⟩) [] (Nat.le_of_ble_eq_true rfl) ⟨rF, rE, rfl, rfl, trivial, trivial⟩ ?_
 refine awp_ret ?_
 obtain rfl := Option.some.inj h0
 refine leave_retG [] ?_
 exact rG
end Go.T
end
section
namespace Go.T
open Go Go.AM Go.Proofs
set_option maxRecDepth 100000
set_option maxHeartbeats 4000000
set_option linter.unusedVariables false
theorem c_bookendref10_Ints {fu : Nat} {a1 : List Int} {b2 : List Int} {r : Bool} (h0 : bookendref10_Ints fu a1 b2 = some r) : PCall Try.prog 59 [.psl 1 (a1.map (encInt .i64)), .psl 1 (b2.map (encInt .i64))] (.bool r) [] := by
 refine awp_pcall Try.func59 rfl (by decide) (Nat.le_of_ble_eq_true rfl) ?_
 dsimp only [Try.f59]
 rw [bookendref10_Ints] at h0
 refine (show AWP _ _ _ _ ⟨enumFr 0 _, [], 0, []⟩ from ?_)
 refine awp_sr2 8 [0, 1] (fun _ => none) rfl (fun _ _ => rT) ?_
 refine awp_seq ?_
 refine awp_sr2 48 [0, 1, 10] (fun _ => none) rfl (fun _ _ => rT) ?_
 refine awp_if rfl (fun hb3 => ?_) (fun hb3 => ?_)
 ·
  replace h0 := iteT h0 hb3
  refine awp_sr2 56 [4] (fun _ => none) rfl (fun _ _ => rT) ?_
  refine awp_ret ?_
  refine kr_then ?_
  obtain rfl := Option.some.inj h0
  refine leave_retG [] ?_
  exact rG
 ·
  replace h0 := iteF h0 hb3
  refine awp_skip ?_
  refine kn_then ?_
  refine awp_seq ?_
  refine awp_sr2 56 [0, 1, 5] (fun _ => none) rfl (fun _ _ => rT) ?_
  obtain ⟨x13, hxx13, h0⟩ := bindS h0
  refine awp_bloop (fun s' => ∃ o19 : Unit, x13 = .inl o19 ∧ s'.nx ≤ 88 ∧ LeN [] s' ⟨[], [], 88, []⟩) ?_ ?_
  ·
   intro s' hs
   obtain ⟨o19, rfl, hn, hs⟩ := hs
   refine kn_then ?_
   refine awp_re [] hn hs ?_
   refine awp_sr2 96 [4] (fun _ => none) rfl (fun _ _ => rT) ?_
   refine awp_ret ?_
   obtain rfl := Option.some.inj h0
   refine leave_retG [] ?_
   exact rG
  ·
   refine awp_loopF (ι := { p : Nat × Int // bookendref10_Ints_l1 a1 b2 p.1 p.2 = some x13 }) (fun p => ⟨[(0, .psl 1 (List.map (encInt .i64) a1)), (1, .psl 1 (List.map (encInt .i64) b2)), (5, .int .i64 p.1.2)], [], 56, []⟩) (fun p => p.1.1) ⟨(fu, 0), hxx13⟩ ⟨rF, rE, rfl, rfl, trivial, trivial⟩ (fun _ => Nat.le_refl _) ?_
   rintro ⟨⟨fu, i14⟩, h1⟩
   cases fu with
   | zero =>
   replace h1 : bookendref10_Ints_l1 a1 b2 0 i14 = some x13 := h1
   rw [bookendref10_Ints_l1] at h1; cases h1
   | succ fu =>
    replace h1 : bookendref10_Ints_l1 a1 b2 (fu + 1) i14 = some x13 := h1
    rw [bookendref10_Ints_l1] at h1
    refine (show AWP _ _ _ _ ⟨[(0, .psl 1 (List.map (encInt .i64) a1)), (1, .psl 1 (List.map (encInt .i64) b2)), (5, .int .i64 i14)], [], 56, []⟩ from ?_)
    refine awp_seq ?_
    refine awp_sr2 88 [0, 1, 5, 14] (fun _ => none) rfl (fun _ _ => rT) ?_
    refine awp_if rfl (fun hb15 => ?_) (fun hb15 => ?_)
    ·
     replace h1 := iteT h1 hb15
     refine awp_skip ?_
     refine kn_then ?_
     refine awp_seq ?_
     refine awp_block ?_
     obtain ⟨e16, he16, h1⟩ := bindS h1
     obtain ⟨he16a, he16b, he16c⟩ := idxS he16
     obtain ⟨e17, he17, h1⟩ := bindS h1
     obtain ⟨he17a, he17b, he17c⟩ := idxS he17
     refine awp_sd2 160 [0, 1, 5, 25] (fun _ => none) rfl rfl rfl (fun _ _ => rSd (rA he16a (rA he16b (rA he16c (rA he17a (rA he17b he17c)))))) ?_
     refine awp_if rfl (fun hb18 => ?_) (fun hb18 => ?_)
     ·
      replace h1 := iteT h1 hb18
      refine awp_sr2 168 [4] (fun _ => none) rfl (fun _ _ => rS (rA he16a (rA he16b (rA he16c (rA he17a (rA he17b he17c)))))) ?_
      refine awp_ret ?_
      obtain rfl := Option.some.inj h1
      refine kr_block ?_
      refine kr_then ?_
      refine kr_then ?_
      refine kr_loop ?_
      refine kr_then ?_
      obtain rfl := Option.some.inj h0
      refine leave_retG [] ?_
      simp (maxSteps := 1000000) only [↓reduceIte, reduceCtorEq, Nat.reduceEqDiff, Nat.reduceLT, Nat.reduceLeDiff, Nat.reduceAdd, Nat.reduceMul, Int.reduceToNat, push_cast, Gives, he16a, he16b, he16c, he17a, he17b, he17c]
      all_goals exact rH
     ·
      replace h1 := iteF h1 hb18
      refine awp_skip ?_
      refine kn_block ?_
      refine kn_then ?_
      refine awp_r2 184 [0, 1, 5] (fun _ => none) rfl (fun _ _ => rS (rA he16a (rA he16b (rA he16c (rA he17a (rA he17b he17c)))))) ?_
      refine kn_then ?_
      exact ⟨⟨(fu, (IntKind.i64.wrap (i14 + 1))), h1⟩, ⟨rF, rE, rfl, rfl, trivial, trivial⟩, Nat.lt_succ_self _⟩
    ·
     replace h1 := iteF h1 hb15
     refine awp_exit ?_
     refine kx_then ?_
     refine kx_then ?_
     refine kx_done ?_
     obtain rfl := Option.some.inj h1
     exact ⟨_, rfl, Nat.le_of_ble_eq_true rfl, ⟨rF, rE, rfl, rfl, trivial, trivial⟩⟩
end Go.T
end
section
namespace Go.T
open Go Go.AM Go.Proofs
set_option maxRecDepth 100000
set_option maxHeartbeats 4000000
set_option linter.unusedVariables false
theorem c_bookendref10_Same {fu : Nat} {a1 : TApiLsTree} {b2 : TApiLsTree} {r : Bool} (h0 : bookendref10_Same fu a1 b2 = some r) : PCall Try.prog 60 [.agg (TApiLsTree.enc a1), .agg (TApiLsTree.enc b2)] (.bool r) [] := by
 refine awp_pcall Try.func60 rfl (by decide) (Nat.le_of_ble_eq_true rfl) ?_
 dsimp only [Try.f60]
 rw [bookendref10_Same] at h0
 refine (show AWP _ _ _ _ ⟨enumFr 0 _, [], 0, []⟩ from ?_)
 refine awp_sr2 24 [2, 3] (fun _ => none) rfl (fun _ _ => rT) ?_
 refine awp_seq ?_
 obtain ⟨b3, hb3, h0⟩ := bindS h0
 obtain ⟨b5, hb5, h0⟩ := bindS h0
 refine awp_sr3 (fr' := [(2, .ref 0 0 0 0), (3, .ref 8 0 0 0), (27, .bool b5)]) (hp' := [(0, ⟨0, true, true, 3, [[.psl 2 (List.map TApiLsKey.enc a1.Keys), .psl 1 (List.map (encInt .i64) a1.Lose), .int .i64 a1.Win]]⟩), (8, ⟨0, true, true, 3, [[.psl 2 (List.map TApiLsKey.enc b2.Keys), .psl 1 (List.map (encInt .i64) b2.Lose), .int .i64 b2.Win]]⟩)]) [0, 8] 200 [2, 3, 27] (fun | 19 => (bookendref10_Ints fu a1.Lose b2.Lose).bind fun vr4 => some (.bool vr4, []) | _ => none) rfl (fun Kt hK => by
   cases hg6 : (!(decide ((a1.Keys.length : Int) = (b2.Keys.length : Int)))) with
   | false =>
    replace hb3 := iteF hb3 hg6
    have hqb3 := Option.some.inj hb3
    cases b3 with
    | false =>
     replace hb5 := iteF hb5 rfl
     obtain ⟨vr4, hvr4, hb5⟩ := bindS hb5
     have hqb5 := Option.some.inj hb5
     subst hqb5
     simp (maxSteps := 1000000) only [↓reduceIte, reduceCtorEq, Nat.reduceEqDiff, Nat.reduceLT, Nat.reduceLeDiff, Nat.reduceAdd, Nat.reduceMul, Int.reduceToNat, push_cast, ↓hg6, ↓hqb3, hvr4]
     try simp only [↓hg6, ↓hqb3] at hK
     try have q0 := c_bookendref10_Ints hvr4
     all_goals exact rU
    | true =>
     replace hb5 := iteT hb5 rfl
     have hqb5 := Option.some.inj hb5
     subst hqb5
     simp (maxSteps := 1000000) only [↓reduceIte, reduceCtorEq, Nat.reduceEqDiff, Nat.reduceLT, Nat.reduceLeDiff, Nat.reduceAdd, Nat.reduceMul, Int.reduceToNat, push_cast, ↓hg6, ↓hqb3]
     try simp only [↓hg6, ↓hqb3] at hK
     try have q0 := c_bookendref10_Ints hvr4
     all_goals exact rU
   | true =>
    replace hb3 := iteT hb3 hg6
    have hqb3 := Option.some.inj hb3
    cases b3 with
    | false =>
     cases hqb3
    | true =>
     replace hb5 := iteT hb5 rfl
     have hqb5 := Option.some.inj hb5
     subst hqb5
     simp (maxSteps := 1000000) only [↓reduceIte, reduceCtorEq, Nat.reduceEqDiff, Nat.reduceLT, Nat.reduceLeDiff, Nat.reduceAdd, Nat.reduceMul, Int.reduceToNat, push_cast, ↓hg6]
     try simp only [↓hg6] at hK
     try have q0 := c_bookendref10_Ints hvr4
     all_goals exact rU) ?_
 refine awp_if rfl (fun hb9 => ?_) (fun hb9 => ?_)
 ·
  replace h0 := iteT h0 hb9
  refine awp_sr2 208 [4] (fun _ => none) rfl (fun _ _ => rT) ?_
  refine awp_ret ?_
  refine kr_then ?_
  obtain rfl := Option.some.inj h0
  refine leave_retG [] ?_
  exact rG
 ·
  replace h0 := iteF h0 hb9
  refine awp_skip ?_
  refine kn_then ?_
  refine awp_seq ?_
  refine awp_sr2 208 [2, 3, 5] (fun _ => none) rfl (fun _ _ => rT) ?_
  obtain ⟨x19, hxx19, h0⟩ := bindS h0
  refine awp_bloop (fun s' => ∃ o25 : Unit, x19 = .inl o25 ∧ s'.nx ≤ 248 ∧ LeN [] s' ⟨[], [(0, ⟨0, true, true, 3, [[.psl 2 (List.map TApiLsKey.enc a1.Keys), .psl 1 (List.map (encInt .i64) a1.Lose), .int .i64 a1.Win]]⟩), (8, ⟨0, true, true, 3, [[.psl 2 (List.map TApiLsKey.enc b2.Keys), .psl 1 (List.map (encInt .i64) b2.Lose), .int .i64 b2.Win]]⟩)], 248, []⟩) ?_ ?_
  ·
   intro s' hs
   obtain ⟨o25, rfl, hn, hs⟩ := hs
   refine kn_then ?_
   refine awp_re [] hn hs ?_
   refine awp_sr2 256 [4] (fun _ => none) rfl (fun _ _ => rT) ?_
   refine awp_ret ?_
   obtain rfl := Option.some.inj h0
   refine leave_retG [] ?_
   exact rG
  ·
   refine awp_loopF (ι := { p : Nat × Int // bookendref10_Same_l1 a1 b2 p.1 p.2 = some x19 }) (fun p => ⟨[(2, .ref 0 0 0 0), (3, .ref 8 0 0 0), (5, .int .i64 p.1.2)], [(0, ⟨0, true, true, 3, [[.psl 2 (List.map TApiLsKey.enc a1.Keys), .psl 1 (List.map (encInt .i64) a1.Lose), .int .i64 a1.Win]]⟩), (8, ⟨0, true, true, 3, [[.psl 2 (List.map TApiLsKey.enc b2.Keys), .psl 1 (List.map (encInt .i64) b2.Lose), .int .i64 b2.Win]]⟩)], 208, []⟩) (fun p => p.1.1) ⟨(fu, 0), hxx19⟩ ⟨rF, rE, rfl, rfl, trivial, trivial⟩ (fun _ => Nat.le_refl _) ?_
   rintro ⟨⟨fu, i20⟩, h1⟩
   cases fu with
   | zero =>
   replace h1 : bookendref10_Same_l1 a1 b2 0 i20 = some x19 := h1
   rw [bookendref10_Same_l1] at h1; cases h1
   | succ fu =>
    replace h1 : bookendref10_Same_l1 a1 b2 (fu + 1) i20 = some x19 := h1
    rw [bookendref10_Same_l1] at h1
    refine (show AWP _ _ _ _ ⟨[(2, .ref 0 0 0 0), (3, .ref 8 0 0 0), (5, .int .i64 i20)], [(0, ⟨0, true, true, 3, [[.psl 2 (List.map TApiLsKey.enc a1.Keys), .psl 1 (List.map (encInt .i64) a1.Lose), .int .i64 a1.Win]]⟩), (8, ⟨0, true, true, 3, [[.psl 2 (List.map TApiLsKey.enc b2.Keys), .psl 1 (List.map (encInt .i64) b2.Lose), .int .i64 b2.Win]]⟩)], 208, []⟩ from ?_)
    refine awp_seq ?_
    refine awp_sr2 248 [2, 3, 5, 32] (fun _ => none) rfl (fun _ _ => rT) ?_
    refine awp_if rfl (fun hb21 => ?_) (fun hb21 => ?_)
    ·
     replace h1 := iteT h1 hb21
     refine awp_skip ?_
     refine kn_then ?_
     refine awp_seq ?_
     refine awp_block ?_
     obtain ⟨e22, he22, h1⟩ := bindS h1
     obtain ⟨he22a, he22b, he22c⟩ := idxS he22
     obtain ⟨e23, he23, h1⟩ := bindS h1
     obtain ⟨he23a, he23b, he23c⟩ := idxS he23
     refine awp_sd2 336 [2, 3, 5, 45] (fun _ => none) rfl rfl rfl (fun _ _ => rSd (rA he22a (rA he22b (rA he22c (rA he23a (rA he23b he23c)))))) ?_
     refine awp_if rfl (fun hb24 => ?_) (fun hb24 => ?_)
     ·
      replace h1 := iteT h1 hb24
      refine awp_sr2 344 [4] (fun _ => none) rfl (fun _ _ => rS (rA he22a (rA he22b (rA he22c (rA he23a (rA he23b he23c)))))) ?_
      refine awp_ret ?_
      obtain rfl := Option.some.inj h1
      refine kr_block ?_
      refine kr_then ?_
      refine kr_then ?_
      refine kr_loop ?_
      refine kr_then ?_
      obtain rfl := Option.some.inj h0
      refine leave_retG [] ?_
      simp (maxSteps := 1000000) only [↓reduceIte, reduceCtorEq, Nat.reduceEqDiff, Nat.reduceLT, Nat.reduceLeDiff, Nat.reduceAdd, Nat.reduceMul, Int.reduceToNat, push_cast, Gives, he22a, he22b, he22c, he23a, he23b, he23c]
      all_goals exact rH
     ·
      replace h1 := iteF h1 hb24
      refine awp_skip ?_
      refine kn_block ?_
      refine kn_then ?_
      refine awp_r2 360 [2, 3, 5] (fun _ => none) rfl (fun _ _ => rS (rA he22a (rA he22b (rA he22c (rA he23a (rA he23b he23c)))))) ?_
      refine kn_then ?_
      exact ⟨⟨(fu, (IntKind.i64.wrap (i20 + 1))), h1⟩, ⟨rF, rE, rfl, rfl, trivial, trivial⟩, Nat.lt_succ_self _⟩
    ·
     replace h1 := iteF h1 hb21
     refine awp_exit ?_
     refine kx_then ?_
     refine kx_then ?_
     refine kx_done ?_
     obtain rfl := Option.some.inj h1
     exact ⟨_, rfl, Nat.le_of_ble_eq_true rfl, ⟨rF, rE, rfl, rfl, trivial, trivial⟩⟩
end Go.T
end
section
namespace Go.T
open Go Go.AM Go.Proofs
set_option maxRecDepth 100000
set_option maxHeartbeats 4000000
set_option linter.unusedVariables false
theorem c_bookendref11_Same {fu : Nat} {a1 : TApiMgState} {b2 : TApiMgState} {r : Bool} (h0 : bookendref11_Same fu a1 b2 = some r) : PCall Try.prog 37 [.agg (TApiMgState.enc a1), .agg (TApiMgState.enc b2)] (.bool r) [] := by
 refine awp_pcall Try.func37 rfl (by decide) (Nat.le_of_ble_eq_true rfl) ?_
 dsimp only [Try.f37]
 rw [bookendref11_Same] at h0
 refine (show AWP _ _ _ _ ⟨enumFr 0 _, [], 0, []⟩ from ?_)
 refine awp_sr2 24 [2, 3] (fun _ => none) rfl (fun _ _ => rT) ?_
 refine awp_seq ?_
 obtain ⟨b4, hb4, h0⟩ := bindS h0
 obtain ⟨b6, hb6, h0⟩ := bindS h0
 refine awp_sr3 (fr' := [(2, .ref 0 0 0 0), (3, .ref 8 0 0 0), (28, .bool b6)]) (hp' := [(0, ⟨0, true, true, 5, [[.psl 1 (List.map (encSl 4 TApiEntry.enc) a1.Runs), .psl 1 (List.map (encInt .i64) a1.At), .psl 2 (List.map TApiLsKey.enc a1.Tree.Keys), .psl 1 (List.map (encInt .i64) a1.Tree.Lose), .int .i64 a1.Tree.Win]]⟩), (8, ⟨0, true, true, 5, [[.psl 1 (List.map (encSl 4 TApiEntry.enc) b2.Runs), .psl 1 (List.map (encInt .i64) b2.At), .psl 2 (List.map TApiLsKey.enc b2.Tree.Keys), .psl 1 (List.map (encInt .i64) b2.Tree.Lose), .int .i64 b2.Tree.Win]]⟩)]) [0, 8] 208 [2, 3, 28] (fun | 12 => (bookendref10_Ints fu a1.At b2.At).bind fun vr3 => some (.bool vr3, []) | 20 => (bookendref10_Same fu a1.Tree b2.Tree).bind fun vr5 => some (.bool vr5, []) | _ => none) rfl (fun Kt hK => by
   cases hg7 : (!(decide ((a1.Runs.length : Int) = (b2.Runs.length : Int)))) with
   | false =>
    replace hb4 := iteF hb4 hg7
    obtain ⟨vr3, hvr3, hb4⟩ := bindS hb4
    have hqb4 := Option.some.inj hb4
    cases b4 with
    | false =>
     replace hb6 := iteF hb6 rfl
     obtain ⟨vr5, hvr5, hb6⟩ := bindS hb6
     have hqb6 := Option.some.inj hb6
     subst hqb6
     simp (maxSteps := 1000000) only [↓reduceIte, reduceCtorEq, Nat.reduceEqDiff, Nat.reduceLT, Nat.reduceLeDiff, Nat.reduceAdd, Nat.reduceMul, Int.reduceToNat, push_cast, ↓hg7, hvr3, ↓hqb4, hvr5]
     try simp only [↓hg7, ↓hqb4] at hK
     try have q0 := c_bookendref10_Ints hvr3
     try have q1 := c_bookendref10_Same hvr5
     all_goals exact rU
    | true =>
     replace hb6 := iteT hb6 rfl
     have hqb6 := Option.some.inj hb6
     subst hqb6
     simp (maxSteps := 1000000) only [↓reduceIte, reduceCtorEq, Nat.reduceEqDiff, Nat.reduceLT, Nat.reduceLeDiff, Nat.reduceAdd, Nat.reduceMul, Int.reduceToNat, push_cast, ↓hg7, hvr3, ↓hqb4]
     try simp only [↓hg7, ↓hqb4] at hK
     try have q0 := c_bookendref10_Ints hvr3
     try have q1 := c_bookendref10_Same hvr5
     all_goals exact rU
   | true =>
    replace hb4 := iteT hb4 hg7
    have hqb4 := Option.some.inj hb4
    cases b4 with
    | false =>
     cases hqb4
    | true =>
     replace hb6 := iteT hb6 rfl
     have hqb6 := Option.some.inj hb6
     subst hqb6
     simp (maxSteps := 1000000) only [↓reduceIte, reduceCtorEq, Nat.reduceEqDiff, Nat.reduceLT, Nat.reduceLeDiff, Nat.reduceAdd, Nat.reduceMul, Int.reduceToNat, push_cast, ↓hg7]
     try simp only [↓hg7] at hK
     try have q0 := c_bookendref10_Ints hvr3
     try have q1 := c_bookendref10_Same hvr5
     all_goals exact rU) ?_
 refine awp_if rfl (fun hb10 => ?_) (fun hb10 => ?_)
 ·
  replace h0 := iteT h0 hb10
  refine awp_sr2 216 [4] (fun _ => none) rfl (fun _ _ => rT) ?_
  refine awp_ret ?_
  refine kr_then ?_
  obtain rfl := Option.some.inj h0
  refine leave_retG [] ?_
  exact rG
 ·
  replace h0 := iteF h0 hb10
  refine awp_skip ?_
  refine kn_then ?_
  refine awp_seq ?_
  refine awp_sr2 216 [2, 3, 5] (fun _ => none) rfl (fun _ _ => rT) ?_
  obtain ⟨x22, hxx22, h0⟩ := bindS h0
  refine awp_bloop (fun s' => ∃ o29 : Unit, x22 = .inl o29 ∧ s'.nx ≤ 256 ∧ LeN [] s' ⟨[], [(0, ⟨0, true, true, 5, [[.psl 1 (List.map (encSl 4 TApiEntry.enc) a1.Runs), .psl 1 (List.map (encInt .i64) a1.At), .psl 2 (List.map TApiLsKey.enc a1.Tree.Keys), .psl 1 (List.map (encInt .i64) a1.Tree.Lose), .int .i64 a1.Tree.Win]]⟩), (8, ⟨0, true, true, 5, [[.psl 1 (List.map (encSl 4 TApiEntry.enc) b2.Runs), .psl 1 (List.map (encInt .i64) b2.At), .psl 2 (List.map TApiLsKey.enc b2.Tree.Keys), .psl 1 (List.map (encInt .i64) b2.Tree.Lose), .int .i64 b2.Tree.Win]]⟩)], 256, []⟩) ?_ ?_
  ·
   intro s' hs
   obtain ⟨o29, rfl, hn, hs⟩ := hs
   refine kn_then ?_
   refine awp_re [] hn hs ?_
   refine awp_sr2 264 [4] (fun _ => none) rfl (fun _ _ => rT) ?_
   refine awp_ret ?_
   obtain rfl := Option.some.inj h0
   refine leave_retG [] ?_
   exact rG
  ·
   refine awp_loopF (ι := { p : Nat × Int // bookendref11_Same_l1 a1 b2 p.1 p.2 = some x22 }) (fun p => ⟨[(2, .ref 0 0 0 0), (3, .ref 8 0 0 0), (5, .int .i64 p.1.2)], [(0, ⟨0, true, true, 5, [[.psl 1 (List.map (encSl 4 TApiEntry.enc) a1.Runs), .psl 1 (List.map (encInt .i64) a1.At), .psl 2 (List.map TApiLsKey.enc a1.Tree.Keys), .psl 1 (List.map (encInt .i64) a1.Tree.Lose), .int .i64 a1.Tree.Win]]⟩), (8, ⟨0, true, true, 5, [[.psl 1 (List.map (encSl 4 TApiEntry.enc) b2.Runs), .psl 1 (List.map (encInt .i64) b2.At), .psl 2 (List.map TApiLsKey.enc b2.Tree.Keys), .psl 1 (List.map (encInt .i64) b2.Tree.Lose), .int .i64 b2.Tree.Win]]⟩)], 216, []⟩) (fun p => p.1.1) ⟨(fu, 0), hxx22⟩ ⟨rF, rE, rfl, rfl, trivial, trivial⟩ (fun _ => Nat.le_refl _) ?_
   rintro ⟨⟨fu, i23⟩, h1⟩
   cases fu with
   | zero =>
   replace h1 : bookendref11_Same_l1 a1 b2 0 i23 = some x22 := h1
   rw [bookendref11_Same_l1] at h1; cases h1
   | succ fu =>
    replace h1 : bookendref11_Same_l1 a1 b2 (fu + 1) i23 = some x22 := h1
    rw [bookendref11_Same_l1] at h1
    refine (show AWP _ _ _ _ ⟨[(2, .ref 0 0 0 0), (3, .ref 8 0 0 0), (5, .int .i64 i23)], [(0, ⟨0, true, true, 5, [[.psl 1 (List.map (encSl 4 TApiEntry.enc) a1.Runs), .psl 1 (List.map (encInt .i64) a1.At), .psl 2 (List.map TApiLsKey.enc a1.Tree.Keys), .psl 1 (List.map (encInt .i64) a1.Tree.Lose), .int .i64 a1.Tree.Win]]⟩), (8, ⟨0, true, true, 5, [[.psl 1 (List.map (encSl 4 TApiEntry.enc) b2.Runs), .psl 1 (List.map (encInt .i64) b2.At), .psl 2 (List.map TApiLsKey.enc b2.Tree.Keys), .psl 1 (List.map (encInt .i64) b2.Tree.Lose), .int .i64 b2.Tree.Win]]⟩)], 216, []⟩ from ?_)
    refine awp_seq ?_
    refine awp_sr2 256 [2, 3, 5, 33] (fun _ => none) rfl (fun _ _ => rT) ?_
    refine awp_if rfl (fun hb24 => ?_) (fun hb24 => ?_)
    ·
     replace h1 := iteT h1 hb24
     refine awp_skip ?_
     refine kn_then ?_
     refine awp_seq ?_
     refine awp_block ?_
     obtain ⟨e25, he25, h1⟩ := bindS h1
     obtain ⟨he25a, he25b, he25c⟩ := idxS he25
     obtain ⟨e26, he26, h1⟩ := bindS h1
     obtain ⟨he26a, he26b, he26c⟩ := idxS he26
     obtain ⟨vr27, hvr27, h1⟩ := bindS h1
     refine awp_sd2 352 [2, 3, 5, 47] (fun | 10 => some (.bool vr27, []) | _ => none) rfl rfl rfl (fun _ _ => rBd (rA he25a (rA he25b (rA he25c (rA he26a (rA he26b he26c))))) (c_bookendref11_SameEntries hvr27)) ?_
     refine awp_if rfl (fun hb28 => ?_) (fun hb28 => ?_)
     ·
      replace h1 := iteT h1 hb28
      refine awp_sr2 360 [4] (fun _ => none) rfl (fun _ _ => rS (rA he25a (rA he25b (rA he25c (rA he26a (rA he26b he26c)))))) ?_
      refine awp_ret ?_
      obtain rfl := Option.some.inj h1
      refine kr_block ?_
      refine kr_then ?_
      refine kr_then ?_
      refine kr_loop ?_
      refine kr_then ?_
      obtain rfl := Option.some.inj h0
      refine leave_retG [] ?_
      simp (maxSteps := 1000000) only [↓reduceIte, reduceCtorEq, Nat.reduceEqDiff, Nat.reduceLT, Nat.reduceLeDiff, Nat.reduceAdd, Nat.reduceMul, Int.reduceToNat, push_cast, Gives, he25a, he25b, he25c, he26a, he26b, he26c]
      all_goals exact rH
     ·
      replace h1 := iteF h1 hb28
      refine awp_skip ?_
      refine kn_block ?_
      refine kn_then ?_
      refine awp_r2 376 [2, 3, 5] (fun _ => none) rfl (fun _ _ => rS (rA he25a (rA he25b (rA he25c (rA he26a (rA he26b he26c)))))) ?_
      refine kn_then ?_
      exact ⟨⟨(fu, (IntKind.i64.wrap (i23 + 1))), h1⟩, ⟨rF, rE, rfl, rfl, trivial, trivial⟩, Nat.lt_succ_self _⟩
    ·
     replace h1 := iteF h1 hb24
     refine awp_exit ?_
     refine kx_then ?_
     refine kx_then ?_
     refine kx_done ?_
     obtain rfl := Option.some.inj h1
     exact ⟨_, rfl, Nat.le_of_ble_eq_true rfl, ⟨rF, rE, rfl, rfl, trivial, trivial⟩⟩
end Go.T
end
section
namespace Go.T
open Go Go.AM Go.Proofs
set_option maxRecDepth 100000
set_option maxHeartbeats 4000000
set_option linter.unusedVariables false
theorem c_bookendref13_Same {fu : Nat} {a1 : TApiSlState} {b2 : TApiSlState} {r : Bool} (h0 : bookendref13_Same fu a1 b2 = some r) : PCall Try.prog 15 [.agg (TApiSlState.enc a1), .agg (TApiSlState.enc b2)] (.bool r) [] := by
 refine awp_pcall Try.func15 rfl (by decide) (Nat.le_of_ble_eq_true rfl) ?_
 dsimp only [Try.f15]
 rw [bookendref13_Same] at h0
 refine (show AWP _ _ _ _ ⟨enumFr 0 _, [], 0, []⟩ from ?_)
 refine awp_sr2 24 [2, 3] (fun _ => none) rfl (fun _ _ => rT) ?_
 obtain ⟨vr3, hvr3, h0⟩ := bindS h0
 obtain ⟨b4, hb4, h0⟩ := bindS h0
 obtain ⟨b6, hb6, h0⟩ := bindS h0
 obtain ⟨b7, hb7, h0⟩ := bindS h0
 refine awp_sr3 (fr' := [(4, .bool b7)]) (hp' := [(0, ⟨0, true, true, 10, [[.psl 1 (List.map (encSl 4 TApiEntry.enc) a1.Merge.Runs), .psl 1 (List.map (encInt .i64) a1.Merge.At), .psl 2 (List.map TApiLsKey.enc a1.Merge.Tree.Keys), .psl 1 (List.map (encInt .i64) a1.Merge.Tree.Lose), .int .i64 a1.Merge.Tree.Win, .bool a1.Shadow.Some, .str a1.Shadow.Last, .bool a1.Shadow.Bottom, .psl 4 (List.map TApiEntry.enc a1.Out), .int .i64 a1.Steps]]⟩), (8, ⟨0, true, true, 10, [[.psl 1 (List.map (encSl 4 TApiEntry.enc) b2.Merge.Runs), .psl 1 (List.map (encInt .i64) b2.Merge.At), .psl 2 (List.map TApiLsKey.enc b2.Merge.Tree.Keys), .psl 1 (List.map (encInt .i64) b2.Merge.Tree.Lose), .int .i64 b2.Merge.Tree.Win, .bool b2.Shadow.Some, .str b2.Shadow.Last, .bool b2.Shadow.Bottom, .psl 4 (List.map TApiEntry.enc b2.Out), .int .i64 b2.Steps]]⟩)]) [0, 8] 240 [4] (fun | 4 => some (.bool vr3, []) | 17 => (bookendref11_SameEntries fu a1.Out b2.Out).bind fun vr5 => some (.bool vr5, []) | _ => none) rfl (fun Kt hK => by
   cases vr3 with
   | false =>
    replace hb4 := iteF hb4 rfl
    have hqb4 := Option.some.inj hb4
    cases b4 with
    | false =>
     replace hb6 := iteF hb6 rfl
     have hqb6 := Option.some.inj hb6
     cases b6 with
     | false =>
      replace hb7 := iteF hb7 rfl
      have hqb7 := Option.some.inj hb7
      subst hqb7
      try have q0 := c_bookendref11_Same hvr3
      try have q1 := c_bookendref11_SameEntries hvr5
      exact rT
     | true =>
      cases hqb6
    | true =>
     cases hqb4
   | true =>
    replace hb4 := iteT hb4 rfl
    have hqb4 := Option.some.inj hb4
    cases b4 with
    | false =>
     replace hb6 := iteF hb6 rfl
     have hqb6 := Option.some.inj hb6
     cases b6 with
     | false =>
      replace hb7 := iteF hb7 rfl
      have hqb7 := Option.some.inj hb7
      subst hqb7
      simp (maxSteps := 1000000) only [↓reduceIte, reduceCtorEq, Nat.reduceEqDiff, Nat.reduceLT, Nat.reduceLeDiff, Nat.reduceAdd, Nat.reduceMul, Int.reduceToNat, push_cast, ↓hqb4]
      try simp only [↓hqb4] at hK
      try have q0 := c_bookendref11_Same hvr3
      try have q1 := c_bookendref11_SameEntries hvr5
      all_goals exact rU
     | true =>
      cases hqb6
    | true =>
     replace hb6 := iteT hb6 rfl
     obtain ⟨vr5, hvr5, hb6⟩ := bindS hb6
     have hqb6 := Option.some.inj hb6
     cases b6 with
     | false =>
      subst hqb6
      replace hb7 := iteF hb7 rfl
      have hqb7 := Option.some.inj hb7
      subst hqb7
      simp (maxSteps := 1000000) only [↓reduceIte, reduceCtorEq, Nat.reduceEqDiff, Nat.reduceLT, Nat.reduceLeDiff, Nat.reduceAdd, Nat.reduceMul, Int.reduceToNat, push_cast, ↓hqb4, hvr5]
      try simp only [↓hqb4] at hK
      try have q0 := c_bookendref11_Same hvr3
      try have q1 := c_bookendref11_SameEntries hvr5
      all_goals exact rU
     | true =>
      subst hqb6
      replace hb7 := iteT hb7 rfl
      have hqb7 := Option.some.inj hb7
      subst hqb7
      simp (maxSteps := 1000000) only [↓reduceIte, reduceCtorEq, Nat.reduceEqDiff, Nat.reduceLT, Nat.reduceLeDiff, Nat.reduceAdd, Nat.reduceMul, Int.reduceToNat, push_cast, ↓hqb4, hvr5]
      try simp only [↓hqb4] at hK
      try have q0 := c_bookendref11_Same hvr3
      try have q1 := c_bookendref11_SameEntries hvr5
      all_goals exact rU) ?_
 refine awp_ret ?_
 obtain rfl := Option.some.inj h0
 refine leave_retG [] ?_
 exact rG
end Go.T
end
section
namespace Go.T
open Go Go.AM Go.Proofs
set_option maxRecDepth 100000
set_option maxHeartbeats 4000000
set_option linter.unusedVariables false
theorem c_bookendlaw11_Far {fu : Nat} {runs1 : List (List TApiEntry)} {r : Bool} (h0 : bookendlaw11_Far fu runs1 = some r) : PCall Try.prog 9 [.psl 1 (runs1.map (encSl 4 TApiEntry.enc))] (.bool r) [] := by
 refine awp_pcall Try.func9 rfl (by decide) (Nat.le_of_ble_eq_true rfl) ?_
 dsimp only [Try.f9]
 rw [bookendlaw11_Far] at h0
 refine (show AWP _ _ _ _ ⟨enumFr 0 _, [], 0, []⟩ from ?_)
 refine awp_sr2 8 [0] (fun _ => none) rfl (fun _ _ => rT) ?_
 refine awp_seq ?_
 refine awp_sr2 32 [0, 9] (fun _ => none) rfl (fun _ _ => rT) ?_
 refine awp_if rfl (fun hb2 => ?_) (fun hb2 => ?_)
 ·
  replace h0 := iteT h0 hb2
  refine awp_sr2 40 [2] (fun _ => none) rfl (fun _ _ => rT) ?_
  refine awp_ret ?_
  refine kr_then ?_
  obtain rfl := Option.some.inj h0
  refine leave_retG [] ?_
  exact rG
 ·
  replace h0 := iteF h0 hb2
  refine awp_skip ?_
  refine kn_then ?_
  refine awp_seq ?_
  obtain ⟨b4, hb4, h0⟩ := bindS h0
  obtain ⟨b6, hb6, h0⟩ := bindS h0
  refine awp_sr3 (fr' := [(0, .psl 1 (List.map (encSl 4 TApiEntry.enc) runs1)), (26, .bool b6)]) (hp' := []) [] 168 [0, 26] (fun _ => none) rfl (fun Kt hK => by
    cases hg7 : (decide ((runs1.length : Int) = 1)) with
    | false =>
     replace hb4 := iteF hb4 hg7
     have hqb4 := Option.some.inj hb4
     cases b4 with
     | false =>
      replace hb6 := iteF hb6 rfl
      have hqb6 := Option.some.inj hb6
      subst hqb6
      simp (maxSteps := 1000000) only [↓reduceIte, reduceCtorEq, Nat.reduceEqDiff, Nat.reduceLT, Nat.reduceLeDiff, Nat.reduceAdd, Nat.reduceMul, Int.reduceToNat, push_cast, ↓hg7]
      try simp only [↓hg7] at hK
      all_goals exact rU
     | true =>
      cases hqb4
    | true =>
     replace hb4 := iteT hb4 hg7
     obtain ⟨e3, he3, hb4⟩ := bindS hb4
     have he3b := (idxS he3).2.1
     have he3c := (idxL 0 he3 rfl).1
     have he3a := (idxL 0 he3 rfl).2
     have hqb4 := Option.some.inj hb4
     cases b4 with
     | false =>
      replace hb6 := iteF hb6 rfl
      have hqb6 := Option.some.inj hb6
      subst hqb6
      simp (maxSteps := 1000000) only [↓reduceIte, reduceCtorEq, Nat.reduceEqDiff, Nat.reduceLT, Nat.reduceLeDiff, Nat.reduceAdd, Nat.reduceMul, Int.reduceToNat, push_cast, ↓hg7, he3a, he3b, he3c, he3, ↓hqb4]
      try simp only [↓hg7, ↓hqb4] at hK
      all_goals exact rU
     | true =>
      replace hb6 := iteT hb6 rfl
      obtain ⟨e5, he5, hb6⟩ := bindS hb6
      have he5b := (idxS he5).2.1
      have he5c := (idxL 0 he5 rfl).1
      have he5a := (idxL 0 he5 rfl).2
      obtain rfl := Option.some.inj (he3.symm.trans he5)
      have hqb6 := Option.some.inj hb6
      subst hqb6
      simp (maxSteps := 1000000) only [↓reduceIte, reduceCtorEq, Nat.reduceEqDiff, Nat.reduceLT, Nat.reduceLeDiff, Nat.reduceAdd, Nat.reduceMul, Int.reduceToNat, push_cast, ↓hg7, he3a, he3b, he3c, he3, ↓hqb4, he5a, he5b, he5c, he5]
      try simp only [↓hg7, ↓hqb4] at hK
      all_goals exact rU) ?_
  refine awp_if rfl (fun hb10 => ?_) (fun hb10 => ?_)
  ·
   replace h0 := iteT h0 hb10
   refine awp_seq ?_
   refine awp_sr2 176 [0, 3] (fun _ => none) rfl (fun _ _ => rT) ?_
   obtain ⟨x20, hxx20, h0⟩ := bindS h0
   refine awp_bloop (fun s' => ∃ o26 : Unit, x20 = .inl o26 ∧ s'.nx ≤ 224 ∧ LeN [] s' ⟨[], [], 224, []⟩) ?_ ?_
   ·
    intro s' hs
    obtain ⟨o26, rfl, hn, hs⟩ := hs
    refine kn_then ?_
    refine awp_re [] hn hs ?_
    refine awp_sr2 232 [2] (fun _ => none) rfl (fun _ _ => rT) ?_
    refine awp_ret ?_
    refine kr_then ?_
    obtain rfl := Option.some.inj h0
    refine leave_retG [] ?_
    exact rG
   ·
    refine awp_loopF (ι := { p : Nat × Int // bookendlaw11_Far_l1 runs1 p.1 p.2 = some x20 }) (fun p => ⟨[(0, .psl 1 (List.map (encSl 4 TApiEntry.enc) runs1)), (3, .int .i64 p.1.2)], [], 176, []⟩) (fun p => p.1.1) ⟨(fu, 0), hxx20⟩ ⟨rF, rE, rfl, rfl, trivial, trivial⟩ (fun _ => Nat.le_refl _) ?_
    rintro ⟨⟨fu, i21⟩, h1⟩
    cases fu with
    | zero =>
   replace h1 : bookendlaw11_Far_l1 runs1 0 i21 = some x20 := h1
   rw [bookendlaw11_Far_l1] at h1; cases h1
    | succ fu =>
     replace h1 : bookendlaw11_Far_l1 runs1 (fu + 1) i21 = some x20 := h1
     rw [bookendlaw11_Far_l1] at h1
     refine (show AWP _ _ _ _ ⟨[(0, .psl 1 (List.map (encSl 4 TApiEntry.enc) runs1)), (3, .int .i64 i21)], [], 176, []⟩ from ?_)
     refine awp_seq ?_
     obtain ⟨e22, he22, h1⟩ := bindS h1
     have he22b := (idxS he22).2.1
     have he22c := (idxL 0 he22 rfl).1
     have he22a := (idxL 0 he22 rfl).2
     refine awp_sr2 224 [0, 3, 32] (fun _ => none) rfl (fun _ _ => rS (rA he22a (rA he22b he22c))) ?_
     refine awp_if rfl (fun hb23 => ?_) (fun hb23 => ?_)
     ·
      replace h1 := iteT h1 hb23
      refine awp_skip ?_
      refine kn_then ?_
      refine awp_seq ?_
      refine awp_block ?_
      obtain ⟨e24, he24, h1⟩ := bindS h1
      obtain ⟨he24a, he24b, he24c⟩ := idxS he24
      refine awp_sr2 288 [0, 3, 42] (fun _ => none) rfl (fun _ _ => rS (rA he22a (rA he22b (rA he22c (rA he24a (rA he24b he24c)))))) ?_
      refine awp_if rfl (fun hb25 => ?_) (fun hb25 => ?_)
      ·
       replace h1 := iteT h1 hb25
       refine awp_sr2 296 [2] (fun _ => none) rfl (fun _ _ => rS (rA he22a (rA he22b (rA he22c (rA he24a (rA he24b he24c)))))) ?_
       refine awp_ret ?_
       obtain rfl := Option.some.inj h1
       refine kr_block ?_
       refine kr_then ?_
       refine kr_then ?_
       refine kr_loop ?_
       refine kr_then ?_
       refine kr_then ?_
       obtain rfl := Option.some.inj h0
       refine leave_retG [] ?_
       simp (maxSteps := 1000000) only [↓reduceIte, reduceCtorEq, Nat.reduceEqDiff, Nat.reduceLT, Nat.reduceLeDiff, Nat.reduceAdd, Nat.reduceMul, Int.reduceToNat, push_cast, Gives, he22a, he22b, he22c, he24a, he24b, he24c]
       all_goals exact rH
      ·
       replace h1 := iteF h1 hb25
       refine awp_skip ?_
       refine kn_block ?_
       refine kn_then ?_
       refine awp_r2 312 [0, 3] (fun _ => none) rfl (fun _ _ => rS (rA he22a (rA he22b (rA he22c (rA he24a (rA he24b he24c)))))) ?_
       refine kn_then ?_
       exact ⟨⟨(fu, (IntKind.i64.wrap (i21 + 1))), h1⟩, ⟨rF, rE, rfl, rfl, trivial, trivial⟩, Nat.lt_succ_self _⟩
     ·
      replace h1 := iteF h1 hb23
      refine awp_exit ?_
      refine kx_then ?_
      refine kx_then ?_
      refine kx_done ?_
      obtain rfl := Option.some.inj h1
      exact ⟨_, rfl, Nat.le_of_ble_eq_true rfl, ⟨rF, rE, rfl, rfl, trivial, trivial⟩⟩
  ·
   replace h0 := iteF h0 hb10
   refine awp_skip ?_
   refine kn_then ?_
   refine awp_sr2 176 [0, 4] (fun _ => none) rfl (fun _ _ => rT) ?_
   refine awp_seq ?_
   refine awp_sr2 184 [0, 4, 5] (fun _ => none) rfl (fun _ _ => rT) ?_
   obtain ⟨x73, hxx73, h0⟩ := bindS h0
   refine awp_bloop (fun s' => ∃ o98 : Unit, x73 = .inl o98 ∧ s'.nx ≤ 216 ∧ LeN [] s' ⟨[], [], 216, []⟩) ?_ ?_
   ·
    intro s' hs
    obtain ⟨o98, rfl, hn, hs⟩ := hs
    refine kn_then ?_
    refine awp_re [] hn hs ?_
    refine awp_sr2 224 [2] (fun _ => none) rfl (fun _ _ => rT) ?_
    refine awp_ret ?_
    obtain rfl := Option.some.inj h0
    refine leave_retG [] ?_
    exact rG
   ·
    refine awp_loopF (ι := { p : Nat × Int × Int // bookendlaw11_Far_l4 runs1 p.1 p.2.1 p.2.2 = some x73 }) (fun p => ⟨[(0, .psl 1 (List.map (encSl 4 TApiEntry.enc) runs1)), (4, .int .i64 p.1.2.1), (5, .int .i64 p.1.2.2)], [], 184, []⟩) (fun p => p.1.1) ⟨(fu, 0, 0), hxx73⟩ ⟨rF, rE, rfl, rfl, trivial, trivial⟩ (fun _ => Nat.le_refl _) ?_
    rintro ⟨⟨fu, many74, i75⟩, h1⟩
    cases fu with
    | zero =>
   replace h1 : bookendlaw11_Far_l4 runs1 0 many74 i75 = some x73 := h1
   rw [bookendlaw11_Far_l4] at h1; cases h1
    | succ fu =>
     replace h1 : bookendlaw11_Far_l4 runs1 (fu + 1) many74 i75 = some x73 := h1
     rw [bookendlaw11_Far_l4] at h1
     refine (show AWP _ _ _ _ ⟨[(0, .psl 1 (List.map (encSl 4 TApiEntry.enc) runs1)), (4, .int .i64 many74), (5, .int .i64 i75)], [], 184, []⟩ from ?_)
     refine awp_seq ?_
     refine awp_sr2 216 [0, 4, 5, 46] (fun _ => none) rfl (fun _ _ => rT) ?_
     refine awp_if rfl (fun hb76 => ?_) (fun hb76 => ?_)
     ·
      replace h1 := iteT h1 hb76
      refine awp_skip ?_
      refine kn_then ?_
      refine awp_seq ?_
      refine awp_block ?_
      obtain ⟨e77, he77, h1⟩ := bindS h1
      obtain ⟨he77a, he77b, he77c⟩ := idxS he77
      refine awp_sr2 288 [0, 4, 5] (fun _ => none) rfl (fun _ _ => rS (rA he77a (rA he77b he77c))) ?_
      refine awp_seq ?_
      refine awp_sr2 304 [0, 4, 5, 58] (fun _ => none) rfl (fun _ _ => rS (rA he77a (rA he77b he77c))) ?_
      refine awp_if rfl (fun hb78 => ?_) (fun hb78 => ?_)
      ·
       replace h1 := iteT h1 hb78
       refine awp_sr2 312 [2] (fun _ => none) rfl (fun _ _ => rS (rA he77a (rA he77b he77c))) ?_
       refine awp_ret ?_
       obtain rfl := Option.some.inj h1
       refine kr_then ?_
       refine kr_block ?_
       refine kr_then ?_
       refine kr_then ?_
       refine kr_loop ?_
       refine kr_then ?_
       obtain rfl := Option.some.inj h0
       refine leave_retG [] ?_
       simp (maxSteps := 1000000) only [↓reduceIte, reduceCtorEq, Nat.reduceEqDiff, Nat.reduceLT, Nat.reduceLeDiff, Nat.reduceAdd, Nat.reduceMul, Int.reduceToNat, push_cast, Gives, he77a, he77b, he77c]
       all_goals exact rH
      ·
       replace h1 := iteF h1 hb78
       refine awp_skip ?_
       refine kn_then ?_
       refine awp_sr2 312 [0, 4, 5, 6] (fun _ => none) rfl (fun _ _ => rS (rA he77a (rA he77b he77c))) ?_
       obtain ⟨x90, hxx90, h1⟩ := bindS h1
       refine awp_bloop (fun s' => ∃ o97 : Unit, x90 = .inl o97 ∧ s'.nx ≤ 368 ∧ LeN [] s' ⟨[(0, .psl 1 (List.map (encSl 4 TApiEntry.enc) runs1)), (4, .int .i64 (IntKind.i64.wrap (many74 + (if 200 < (e77.length : Int) then 200 else (e77.length : Int))))), (5, .int .i64 i75)], [], 368, []⟩) ?_ ?_
       ·
        intro s' hs
        obtain ⟨o97, rfl, hn, hs⟩ := hs
        refine kn_block ?_
        refine kn_then ?_
        refine awp_re [] hn hs ?_
        refine awp_r2 392 [0, 4, 5] (fun _ => none) rfl (fun _ _ => rS (rA he77a (rA he77b he77c))) ?_
        refine kn_then ?_
        exact ⟨⟨(fu, (IntKind.i64.wrap (many74 + (if 200 < (e77.length : Int) then 200 else (e77.length : Int)))), (IntKind.i64.wrap (i75 + 1))), h1⟩, ⟨rF, rE, rfl, rfl, trivial, trivial⟩, Nat.lt_succ_self _⟩
       ·
        refine awp_loopF (ι := { p : Nat × Int // bookendlaw11_Far_l5 e77 p.1 p.2 = some x90 }) (fun p => ⟨[(0, .psl 1 (List.map (encSl 4 TApiEntry.enc) runs1)), (4, .int .i64 (IntKind.i64.wrap (many74 + (if 200 < (e77.length : Int) then 200 else (e77.length : Int))))), (5, .int .i64 i75), (6, .int .i64 p.1.2)], [], 312, []⟩) (fun p => p.1.1) ⟨(fu, 0), hxx90⟩ ⟨rF, rE, rfl, rfl, trivial, trivial⟩ (fun _ => Nat.le_refl _) ?_
        rintro ⟨⟨fu, k91⟩, h2⟩
        cases fu with
        | zero =>
   replace h2 : bookendlaw11_Far_l5 e77 0 k91 = some x90 := h2
   rw [bookendlaw11_Far_l5] at h2; cases h2
        | succ fu =>
         replace h2 : bookendlaw11_Far_l5 e77 (fu + 1) k91 = some x90 := h2
         rw [bookendlaw11_Far_l5] at h2
         refine (show AWP _ _ _ _ ⟨[(0, .psl 1 (List.map (encSl 4 TApiEntry.enc) runs1)), (4, .int .i64 (IntKind.i64.wrap (many74 + (if 200 < (e77.length : Int) then 200 else (e77.length : Int))))), (5, .int .i64 i75), (6, .int .i64 k91)], [], 312, []⟩ from ?_)
         refine awp_seq ?_
         refine awp_sr2 368 [0, 4, 5, 6, 65] (fun _ => none) rfl (fun _ _ => rS (rA he77a (rA he77b he77c))) ?_
         refine awp_if rfl (fun hb92 => ?_) (fun hb92 => ?_)
         ·
          replace h2 := iteT h2 hb92
          refine awp_skip ?_
          refine kn_then ?_
          refine awp_seq ?_
          refine awp_block ?_
          obtain ⟨e93, he93, h2⟩ := bindS h2
          obtain ⟨he93a, he93b, he93c⟩ := idxS he93
          obtain ⟨b94, hb94, h2⟩ := bindS h2
          refine awp_sr3 (fr' := [(0, .psl 1 (List.map (encSl 4 TApiEntry.enc) runs1)), (4, .int .i64 (IntKind.i64.wrap (many74 + (if 200 < (e77.length : Int) then 200 else (e77.length : Int))))), (5, .int .i64 i75), (6, .int .i64 k91), (89, .bool b94)]) (hp' := []) [] 544 [0, 4, 5, 6, 89] (fun _ => none) rfl (fun Kt hK => by
            cases hg95 : (decide (200 < (e93.Key.length : Int))) with
            | false =>
             replace hb94 := iteF hb94 hg95
             have hqb94 := Option.some.inj hb94
             subst hqb94
             simp (maxSteps := 1000000) only [↓reduceIte, reduceCtorEq, Nat.reduceEqDiff, Nat.reduceLT, Nat.reduceLeDiff, Nat.reduceAdd, Nat.reduceMul, Int.reduceToNat, push_cast, he77a, he77b, he77c, he93a, he93b, he93c, ↓hg95]
             try simp only [↓hg95] at hK
             all_goals exact rU
            | true =>
             replace hb94 := iteT hb94 hg95
             have hqb94 := Option.some.inj hb94
             subst hqb94
             simp (maxSteps := 1000000) only [↓reduceIte, reduceCtorEq, Nat.reduceEqDiff, Nat.reduceLT, Nat.reduceLeDiff, Nat.reduceAdd, Nat.reduceMul, Int.reduceToNat, push_cast, he77a, he77b, he77c, he93a, he93b, he93c, ↓hg95]
             try simp only [↓hg95] at hK
             all_goals exact rU) ?_
          refine awp_if rfl (fun hb96 => ?_) (fun hb96 => ?_)
          ·
           replace h2 := iteT h2 hb96
           refine awp_sr2 552 [2] (fun _ => none) rfl (fun _ _ => rS (rA he77a (rA he77b (rA he77c (rA he93a (rA he93b he93c)))))) ?_
           refine awp_ret ?_
           obtain rfl := Option.some.inj h2
           obtain rfl := Option.some.inj h1
           refine kr_block ?_
           refine kr_then ?_
           refine kr_then ?_
           refine kr_loop ?_
           refine kr_block ?_
           refine kr_then ?_
           refine kr_then ?_
           refine kr_loop ?_
           refine kr_then ?_
           obtain rfl := Option.some.inj h0
           refine leave_retG [] ?_
           simp (maxSteps := 1000000) only [↓reduceIte, reduceCtorEq, Nat.reduceEqDiff, Nat.reduceLT, Nat.reduceLeDiff, Nat.reduceAdd, Nat.reduceMul, Int.reduceToNat, push_cast, Gives, he77a, he77b, he77c, he93a, he93b, he93c]
           all_goals exact rH
          ·
           replace h2 := iteF h2 hb96
           refine awp_skip ?_
           refine kn_block ?_
           refine kn_then ?_
           refine awp_r2 568 [0, 4, 5, 6] (fun _ => none) rfl (fun _ _ => rS (rA he77a (rA he77b (rA he77c (rA he93a (rA he93b he93c)))))) ?_
           refine kn_then ?_
           exact ⟨⟨(fu, (IntKind.i64.wrap (k91 + 1))), h2⟩, ⟨rF, rE, rfl, rfl, trivial, trivial⟩, Nat.lt_succ_self _⟩
         ·
          replace h2 := iteF h2 hb92
          refine awp_exit ?_
          refine kx_then ?_
          refine kx_then ?_
          refine kx_done ?_
          obtain rfl := Option.some.inj h2
          exact ⟨_, rfl, Nat.le_of_ble_eq_true rfl, ⟨rF, rE, rfl, rfl, trivial, trivial⟩⟩
     ·
      replace h1 := iteF h1 hb76
      refine awp_exit ?_
      refine kx_then ?_
      refine kx_then ?_
      refine kx_done ?_
      obtain rfl := Option.some.inj h1
      exact ⟨_, rfl, Nat.le_of_ble_eq_true rfl, ⟨rF, rE, rfl, rfl, trivial, trivial⟩⟩
end Go.T
end
section
namespace Go.T
open Go Go.AM Go.Proofs
set_option maxRecDepth 100000
set_option maxHeartbeats 4000000
set_option linter.unusedVariables false
theorem c_bookendlaw13_Far {fu : Nat} {vs1 : TApiSlState} {r : Bool} (h0 : bookendlaw13_Far fu vs1 = some r) : PCall Try.prog 17 [.agg (TApiSlState.enc vs1)] (.bool r) [] := by
 refine awp_pcall Try.func17 rfl (by decide) (Nat.le_of_ble_eq_true rfl) ?_
 dsimp only [Try.f17]
 rw [bookendlaw13_Far] at h0
 refine (show AWP _ _ _ _ ⟨enumFr 0 _, [], 0, []⟩ from ?_)
 refine awp_sr2 16 [1] (fun _ => none) rfl (fun _ _ => rT) ?_
 refine awp_sr2 56 [1, 3] (fun _ => none) rfl (fun _ _ => rT) ?_
 refine awp_seq ?_
 obtain ⟨vr2, hvr2, h0⟩ := bindS h0
 obtain ⟨b3, hb3, h0⟩ := bindS h0
 obtain ⟨b4, hb4, h0⟩ := bindS h0
 obtain ⟨b5, hb5, h0⟩ := bindS h0
 obtain ⟨b6, hb6, h0⟩ := bindS h0
 obtain ⟨b7, hb7, h0⟩ := bindS h0
 refine awp_sr3 (fr' := [(1, .ref 0 0 0 0), (3, .ref 40 0 0 0), (44, .bool b7)]) (hp' := [(0, ⟨0, true, true, 10, [[.psl 1 (List.map (encSl 4 TApiEntry.enc) vs1.Merge.Runs), .psl 1 (List.map (encInt .i64) vs1.Merge.At), .psl 2 (List.map TApiLsKey.enc vs1.Merge.Tree.Keys), .psl 1 (List.map (encInt .i64) vs1.Merge.Tree.Lose), .int .i64 vs1.Merge.Tree.Win, .bool vs1.Shadow.Some, .str vs1.Shadow.Last, .bool vs1.Shadow.Bottom, .psl 4 (List.map TApiEntry.enc vs1.Out), .int .i64 vs1.Steps]]⟩), (40, ⟨0, true, true, 3, [[.psl 2 (List.map TApiLsKey.enc vs1.Merge.Tree.Keys), .psl 1 (List.map (encInt .i64) vs1.Merge.Tree.Lose), .int .i64 vs1.Merge.Tree.Win]]⟩)]) [0, 40] 344 [1, 3, 44] (fun | 3 => some (.bool vr2, []) | _ => none) rfl (fun Kt hK => by
   cases vr2 with
   | false =>
    replace hb3 := iteF hb3 rfl
    have hqb3 := Option.some.inj hb3
    cases b3 with
    | false =>
     replace hb4 := iteF hb4 rfl
     have hqb4 := Option.some.inj hb4
     cases b4 with
     | false =>
      replace hb5 := iteF hb5 rfl
      have hqb5 := Option.some.inj hb5
      cases b5 with
      | false =>
       replace hb6 := iteF hb6 rfl
       have hqb6 := Option.some.inj hb6
       cases b6 with
       | false =>
        replace hb7 := iteF hb7 rfl
        have hqb7 := Option.some.inj hb7
        subst hqb7
        simp (maxSteps := 1000000) only [↓reduceIte, reduceCtorEq, Nat.reduceEqDiff, Nat.reduceLT, Nat.reduceLeDiff, Nat.reduceAdd, Nat.reduceMul, Int.reduceToNat, push_cast, ↓hqb3, ↓hqb4, ↓hqb5, ↓hqb6]
        try simp only [↓hqb3, ↓hqb4, ↓hqb5, ↓hqb6] at hK
        try have q0 := c_bookendlaw11_Far hvr2
        all_goals exact rU
       | true =>
        replace hb7 := iteT hb7 rfl
        have hqb7 := Option.some.inj hb7
        subst hqb7
        simp (maxSteps := 1000000) only [↓reduceIte, reduceCtorEq, Nat.reduceEqDiff, Nat.reduceLT, Nat.reduceLeDiff, Nat.reduceAdd, Nat.reduceMul, Int.reduceToNat, push_cast, ↓hqb3, ↓hqb4, ↓hqb5, ↓hqb6]
        try simp only [↓hqb3, ↓hqb4, ↓hqb5, ↓hqb6] at hK
        try have q0 := c_bookendlaw11_Far hvr2
        all_goals exact rU
      | true =>
       replace hb6 := iteT hb6 rfl
       have hqb6 := Option.some.inj hb6
       cases b6 with
       | false =>
        cases hqb6
       | true =>
        replace hb7 := iteT hb7 rfl
        have hqb7 := Option.some.inj hb7
        subst hqb7
        simp (maxSteps := 1000000) only [↓reduceIte, reduceCtorEq, Nat.reduceEqDiff, Nat.reduceLT, Nat.reduceLeDiff, Nat.reduceAdd, Nat.reduceMul, Int.reduceToNat, push_cast, ↓hqb3, ↓hqb4, ↓hqb5]
        try simp only [↓hqb3, ↓hqb4, ↓hqb5] at hK
        try have q0 := c_bookendlaw11_Far hvr2
        all_goals exact rU
     | true =>
      replace hb5 := iteT hb5 rfl
      have hqb5 := Option.some.inj hb5
      cases b5 with
      | false =>
       cases hqb5
      | true =>
       replace hb6 := iteT hb6 rfl
       have hqb6 := Option.some.inj hb6
       cases b6 with
       | false =>
        cases hqb6
       | true =>
        replace hb7 := iteT hb7 rfl
        have hqb7 := Option.some.inj hb7
        subst hqb7
        simp (maxSteps := 1000000) only [↓reduceIte, reduceCtorEq, Nat.reduceEqDiff, Nat.reduceLT, Nat.reduceLeDiff, Nat.reduceAdd, Nat.reduceMul, Int.reduceToNat, push_cast, ↓hqb3, ↓hqb4]
        try simp only [↓hqb3, ↓hqb4] at hK
        try have q0 := c_bookendlaw11_Far hvr2
        all_goals exact rU
    | true =>
     replace hb4 := iteT hb4 rfl
     have hqb4 := Option.some.inj hb4
     cases b4 with
     | false =>
      cases hqb4
     | true =>
      replace hb5 := iteT hb5 rfl
      have hqb5 := Option.some.inj hb5
      cases b5 with
      | false =>
       cases hqb5
      | true =>
       replace hb6 := iteT hb6 rfl
       have hqb6 := Option.some.inj hb6
       cases b6 with
       | false =>
        cases hqb6
       | true =>
        replace hb7 := iteT hb7 rfl
        have hqb7 := Option.some.inj hb7
        subst hqb7
        simp (maxSteps := 1000000) only [↓reduceIte, reduceCtorEq, Nat.reduceEqDiff, Nat.reduceLT, Nat.reduceLeDiff, Nat.reduceAdd, Nat.reduceMul, Int.reduceToNat, push_cast, ↓hqb3]
        try simp only [↓hqb3] at hK
        try have q0 := c_bookendlaw11_Far hvr2
        all_goals exact rU
   | true =>
    replace hb3 := iteT hb3 rfl
    have hqb3 := Option.some.inj hb3
    cases b3 with
    | false =>
     cases hqb3
    | true =>
     replace hb4 := iteT hb4 rfl
     have hqb4 := Option.some.inj hb4
     cases b4 with
     | false =>
      cases hqb4
     | true =>
      replace hb5 := iteT hb5 rfl
      have hqb5 := Option.some.inj hb5
      cases b5 with
      | false =>
       cases hqb5
      | true =>
       replace hb6 := iteT hb6 rfl
       have hqb6 := Option.some.inj hb6
       cases b6 with
       | false =>
        cases hqb6
       | true =>
        replace hb7 := iteT hb7 rfl
        have hqb7 := Option.some.inj hb7
        subst hqb7
        try have q0 := c_bookendlaw11_Far hvr2
        exact rT) ?_
 refine awp_if rfl (fun hb23 => ?_) (fun hb23 => ?_)
 ·
  replace h0 := iteT h0 hb23
  refine awp_sr2 352 [2] (fun _ => none) rfl (fun _ _ => rT) ?_
  refine awp_ret ?_
  refine kr_then ?_
  obtain rfl := Option.some.inj h0
  refine leave_retG [] ?_
  exact rG
 ·
  replace h0 := iteF h0 hb23
  refine awp_skip ?_
  refine kn_then ?_
  refine awp_seq ?_
  refine awp_sr2 352 [1, 3, 4] (fun _ => none) rfl (fun _ _ => rT) ?_
  obtain ⟨x31, hxx31, h0⟩ := bindS h0
  refine awp_bloop (fun s' => ∃ o36 : Unit, x31 = .inl o36 ∧ s'.nx ≤ 392 ∧ LeN [] s' ⟨[(1, .ref 0 0 0 0)], [(0, ⟨0, true, true, 10, [[.psl 1 (List.map (encSl 4 TApiEntry.enc) vs1.Merge.Runs), .psl 1 (List.map (encInt .i64) vs1.Merge.At), .psl 2 (List.map TApiLsKey.enc vs1.Merge.Tree.Keys), .psl 1 (List.map (encInt .i64) vs1.Merge.Tree.Lose), .int .i64 vs1.Merge.Tree.Win, .bool vs1.Shadow.Some, .str vs1.Shadow.Last, .bool vs1.Shadow.Bottom, .psl 4 (List.map TApiEntry.enc vs1.Out), .int .i64 vs1.Steps]]⟩), (40, ⟨0, true, true, 3, [[.psl 2 (List.map TApiLsKey.enc vs1.Merge.Tree.Keys), .psl 1 (List.map (encInt .i64) vs1.Merge.Tree.Lose), .int .i64 vs1.Merge.Tree.Win]]⟩)], 392, []⟩) ?_ ?_
  ·
   intro s' hs
   obtain ⟨o36, rfl, hn, hs⟩ := hs
   refine kn_then ?_
   refine awp_re [] hn hs ?_
   refine awp_seq ?_
   refine awp_sr2 400 [1, 5] (fun _ => none) rfl (fun _ _ => rT) ?_
   obtain ⟨x48, hxx48, h0⟩ := bindS h0
   refine awp_bloop (fun s' => ∃ o55 : Unit, x48 = .inl o55 ∧ s'.nx ≤ 440 ∧ LeN [] s' ⟨[], [(0, ⟨0, true, true, 10, [[.psl 1 (List.map (encSl 4 TApiEntry.enc) vs1.Merge.Runs), .psl 1 (List.map (encInt .i64) vs1.Merge.At), .psl 2 (List.map TApiLsKey.enc vs1.Merge.Tree.Keys), .psl 1 (List.map (encInt .i64) vs1.Merge.Tree.Lose), .int .i64 vs1.Merge.Tree.Win, .bool vs1.Shadow.Some, .str vs1.Shadow.Last, .bool vs1.Shadow.Bottom, .psl 4 (List.map TApiEntry.enc vs1.Out), .int .i64 vs1.Steps]]⟩), (40, ⟨0, true, true, 3, [[.psl 2 (List.map TApiLsKey.enc vs1.Merge.Tree.Keys), .psl 1 (List.map (encInt .i64) vs1.Merge.Tree.Lose), .int .i64 vs1.Merge.Tree.Win]]⟩)], 440, []⟩) ?_ ?_
   ·
    intro s' hs
    obtain ⟨o55, rfl, hn, hs⟩ := hs
    refine kn_then ?_
    refine awp_re [] hn hs ?_
    refine awp_sr2 448 [2] (fun _ => none) rfl (fun _ _ => rT) ?_
    refine awp_ret ?_
    obtain rfl := Option.some.inj h0
    refine leave_retG [] ?_
    exact rG
   ·
    refine awp_loopF (ι := { p : Nat × Int // bookendlaw13_Far_l2 vs1 p.1 p.2 = some x48 }) (fun p => ⟨[(1, .ref 0 0 0 0), (5, .int .i64 p.1.2)], [(0, ⟨0, true, true, 10, [[.psl 1 (List.map (encSl 4 TApiEntry.enc) vs1.Merge.Runs), .psl 1 (List.map (encInt .i64) vs1.Merge.At), .psl 2 (List.map TApiLsKey.enc vs1.Merge.Tree.Keys), .psl 1 (List.map (encInt .i64) vs1.Merge.Tree.Lose), .int .i64 vs1.Merge.Tree.Win, .bool vs1.Shadow.Some, .str vs1.Shadow.Last, .bool vs1.Shadow.Bottom, .psl 4 (List.map TApiEntry.enc vs1.Out), .int .i64 vs1.Steps]]⟩), (40, ⟨0, true, true, 3, [[.psl 2 (List.map TApiLsKey.enc vs1.Merge.Tree.Keys), .psl 1 (List.map (encInt .i64) vs1.Merge.Tree.Lose), .int .i64 vs1.Merge.Tree.Win]]⟩)], 400, []⟩) (fun p => p.1.1) ⟨(fu, 0), hxx48⟩ ⟨rF, rE, rfl, rfl, trivial, trivial⟩ (fun _ => Nat.le_refl _) ?_
    rintro ⟨⟨fu, i49⟩, h1⟩
    cases fu with
    | zero =>
   replace h1 : bookendlaw13_Far_l2 vs1 0 i49 = some x48 := h1
   rw [bookendlaw13_Far_l2] at h1; cases h1
    | succ fu =>
     replace h1 : bookendlaw13_Far_l2 vs1 (fu + 1) i49 = some x48 := h1
     rw [bookendlaw13_Far_l2] at h1
     refine (show AWP _ _ _ _ ⟨[(1, .ref 0 0 0 0), (5, .int .i64 i49)], [(0, ⟨0, true, true, 10, [[.psl 1 (List.map (encSl 4 TApiEntry.enc) vs1.Merge.Runs), .psl 1 (List.map (encInt .i64) vs1.Merge.At), .psl 2 (List.map TApiLsKey.enc vs1.Merge.Tree.Keys), .psl 1 (List.map (encInt .i64) vs1.Merge.Tree.Lose), .int .i64 vs1.Merge.Tree.Win, .bool vs1.Shadow.Some, .str vs1.Shadow.Last, .bool vs1.Shadow.Bottom, .psl 4 (List.map TApiEntry.enc vs1.Out), .int .i64 vs1.Steps]]⟩), (40, ⟨0, true, true, 3, [[.psl 2 (List.map TApiLsKey.enc vs1.Merge.Tree.Keys), .psl 1 (List.map (encInt .i64) vs1.Merge.Tree.Lose), .int .i64 vs1.Merge.Tree.Win]]⟩)], 400, []⟩ from ?_)
     refine awp_seq ?_
     refine awp_sr2 440 [1, 5, 64] (fun _ => none) rfl (fun _ _ => rT) ?_
     refine awp_if rfl (fun hb50 => ?_) (fun hb50 => ?_)
     ·
      replace h1 := iteT h1 hb50
      refine awp_skip ?_
      refine kn_then ?_
      refine awp_seq ?_
      refine awp_block ?_
      obtain ⟨e51, he51, h1⟩ := bindS h1
      obtain ⟨he51a, he51b, he51c⟩ := idxS he51
      obtain ⟨b52, hb52, h1⟩ := bindS h1
      refine awp_sr3 (fr' := [(1, .ref 0 0 0 0), (5, .int .i64 i49), (84, .bool b52)]) (hp' := [(0, ⟨0, true, true, 10, [[.psl 1 (List.map (encSl 4 TApiEntry.enc) vs1.Merge.Runs), .psl 1 (List.map (encInt .i64) vs1.Merge.At), .psl 2 (List.map TApiLsKey.enc vs1.Merge.Tree.Keys), .psl 1 (List.map (encInt .i64) vs1.Merge.Tree.Lose), .int .i64 vs1.Merge.Tree.Win, .bool vs1.Shadow.Some, .str vs1.Shadow.Last, .bool vs1.Shadow.Bottom, .psl 4 (List.map TApiEntry.enc vs1.Out), .int .i64 vs1.Steps]]⟩), (40, ⟨0, true, true, 3, [[.psl 2 (List.map TApiLsKey.enc vs1.Merge.Tree.Keys), .psl 1 (List.map (encInt .i64) vs1.Merge.Tree.Lose), .int .i64 vs1.Merge.Tree.Win]]⟩)]) [0, 40] 584 [1, 5, 84] (fun _ => none) rfl (fun Kt hK => by
        cases hg53 : (decide (200 < (e51.Key.length : Int))) with
        | false =>
         replace hb52 := iteF hb52 hg53
         have hqb52 := Option.some.inj hb52
         subst hqb52
         simp (maxSteps := 1000000) only [↓reduceIte, reduceCtorEq, Nat.reduceEqDiff, Nat.reduceLT, Nat.reduceLeDiff, Nat.reduceAdd, Nat.reduceMul, Int.reduceToNat, push_cast, he51a, he51b, he51c, ↓hg53]
         try simp only [↓hg53] at hK
         all_goals exact rU
        | true =>
         replace hb52 := iteT hb52 hg53
         have hqb52 := Option.some.inj hb52
         subst hqb52
         simp (maxSteps := 1000000) only [↓reduceIte, reduceCtorEq, Nat.reduceEqDiff, Nat.reduceLT, Nat.reduceLeDiff, Nat.reduceAdd, Nat.reduceMul, Int.reduceToNat, push_cast, he51a, he51b, he51c, ↓hg53]
         try simp only [↓hg53] at hK
         all_goals exact rU) ?_
      refine awp_if rfl (fun hb54 => ?_) (fun hb54 => ?_)
      ·
       replace h1 := iteT h1 hb54
       refine awp_sr2 592 [2] (fun _ => none) rfl (fun _ _ => rS (rA he51a (rA he51b he51c))) ?_
       refine awp_ret ?_
       obtain rfl := Option.some.inj h1
       refine kr_block ?_
       refine kr_then ?_
       refine kr_then ?_
       refine kr_loop ?_
       refine kr_then ?_
       obtain rfl := Option.some.inj h0
       refine leave_retG [] ?_
       simp (maxSteps := 1000000) only [↓reduceIte, reduceCtorEq, Nat.reduceEqDiff, Nat.reduceLT, Nat.reduceLeDiff, Nat.reduceAdd, Nat.reduceMul, Int.reduceToNat, push_cast, Gives, he51a, he51b, he51c]
       all_goals exact rH
      ·
       replace h1 := iteF h1 hb54
       refine awp_skip ?_
       refine kn_block ?_
       refine kn_then ?_
       refine awp_r2 608 [1, 5] (fun _ => none) rfl (fun _ _ => rS (rA he51a (rA he51b he51c))) ?_
       refine kn_then ?_
       exact ⟨⟨(fu, (IntKind.i64.wrap (i49 + 1))), h1⟩, ⟨rF, rE, rfl, rfl, trivial, trivial⟩, Nat.lt_succ_self _⟩
     ·
      replace h1 := iteF h1 hb50
      refine awp_exit ?_
      refine kx_then ?_
      refine kx_then ?_
      refine kx_done ?_
      obtain rfl := Option.some.inj h1
      exact ⟨_, rfl, Nat.le_of_ble_eq_true rfl, ⟨rF, rE, rfl, rfl, trivial, trivial⟩⟩
  ·
   refine awp_loopF (ι := { p : Nat × Int // bookendlaw13_Far_l1 vs1 p.1 p.2 = some x31 }) (fun p => ⟨[(1, .ref 0 0 0 0), (3, .ref 40 0 0 0), (4, .int .i64 p.1.2)], [(0, ⟨0, true, true, 10, [[.psl 1 (List.map (encSl 4 TApiEntry.enc) vs1.Merge.Runs), .psl 1 (List.map (encInt .i64) vs1.Merge.At), .psl 2 (List.map TApiLsKey.enc vs1.Merge.Tree.Keys), .psl 1 (List.map (encInt .i64) vs1.Merge.Tree.Lose), .int .i64 vs1.Merge.Tree.Win, .bool vs1.Shadow.Some, .str vs1.Shadow.Last, .bool vs1.Shadow.Bottom, .psl 4 (List.map TApiEntry.enc vs1.Out), .int .i64 vs1.Steps]]⟩), (40, ⟨0, true, true, 3, [[.psl 2 (List.map TApiLsKey.enc vs1.Merge.Tree.Keys), .psl 1 (List.map (encInt .i64) vs1.Merge.Tree.Lose), .int .i64 vs1.Merge.Tree.Win]]⟩)], 352, []⟩) (fun p => p.1.1) ⟨(fu, 0), hxx31⟩ ⟨rF, rE, rfl, rfl, trivial, trivial⟩ (fun _ => Nat.le_refl _) ?_
   rintro ⟨⟨fu, i32⟩, h1⟩
   cases fu with
   | zero =>
   replace h1 : bookendlaw13_Far_l1 vs1 0 i32 = some x31 := h1
   rw [bookendlaw13_Far_l1] at h1; cases h1
   | succ fu =>
    replace h1 : bookendlaw13_Far_l1 vs1 (fu + 1) i32 = some x31 := h1
    rw [bookendlaw13_Far_l1] at h1
    refine (show AWP _ _ _ _ ⟨[(1, .ref 0 0 0 0), (3, .ref 40 0 0 0), (4, .int .i64 i32)], [(0, ⟨0, true, true, 10, [[.psl 1 (List.map (encSl 4 TApiEntry.enc) vs1.Merge.Runs), .psl 1 (List.map (encInt .i64) vs1.Merge.At), .psl 2 (List.map TApiLsKey.enc vs1.Merge.Tree.Keys), .psl 1 (List.map (encInt .i64) vs1.Merge.Tree.Lose), .int .i64 vs1.Merge.Tree.Win, .bool vs1.Shadow.Some, .str vs1.Shadow.Last, .bool vs1.Shadow.Bottom, .psl 4 (List.map TApiEntry.enc vs1.Out), .int .i64 vs1.Steps]]⟩), (40, ⟨0, true, true, 3, [[.psl 2 (List.map TApiLsKey.enc vs1.Merge.Tree.Keys), .psl 1 (List.map (encInt .i64) vs1.Merge.Tree.Lose), .int .i64 vs1.Merge.Tree.Win]]⟩)], 352, []⟩ from ?_)
    refine awp_seq ?_
    refine awp_sr2 392 [1, 3, 4, 49] (fun _ => none) rfl (fun _ _ => rT) ?_
    refine awp_if rfl (fun hb33 => ?_) (fun hb33 => ?_)
    ·
     replace h1 := iteT h1 hb33
     refine awp_skip ?_
     refine kn_then ?_
     refine awp_seq ?_
     refine awp_block ?_
     obtain ⟨e34, he34, h1⟩ := bindS h1
     obtain ⟨he34a, he34b, he34c⟩ := idxS he34
     refine awp_sr2 456 [1, 3, 4, 59] (fun _ => none) rfl (fun _ _ => rS (rA he34a (rA he34b he34c))) ?_
     refine awp_if rfl (fun hb35 => ?_) (fun hb35 => ?_)
     ·
      replace h1 := iteT h1 hb35
      refine awp_sr2 464 [2] (fun _ => none) rfl (fun _ _ => rS (rA he34a (rA he34b he34c))) ?_
      refine awp_ret ?_
      obtain rfl := Option.some.inj h1
      refine kr_block ?_
      refine kr_then ?_
      refine kr_then ?_
      refine kr_loop ?_
      refine kr_then ?_
      obtain rfl := Option.some.inj h0
      refine leave_retG [] ?_
      simp (maxSteps := 1000000) only [↓reduceIte, reduceCtorEq, Nat.reduceEqDiff, Nat.reduceLT, Nat.reduceLeDiff, Nat.reduceAdd, Nat.reduceMul, Int.reduceToNat, push_cast, Gives, he34a, he34b, he34c]
      all_goals exact rH
     ·
      replace h1 := iteF h1 hb35
      refine awp_skip ?_
      refine kn_block ?_
      refine kn_then ?_
      refine awp_r2 480 [1, 3, 4] (fun _ => none) rfl (fun _ _ => rS (rA he34a (rA he34b he34c))) ?_
      refine kn_then ?_
      exact ⟨⟨(fu, (IntKind.i64.wrap (i32 + 1))), h1⟩, ⟨rF, rE, rfl, rfl, trivial, trivial⟩, Nat.lt_succ_self _⟩
    ·
     replace h1 := iteF h1 hb33
     refine awp_exit ?_
     refine kx_then ?_
     refine kx_then ?_
     refine kx_done ?_
     obtain rfl := Option.some.inj h1
     exact ⟨_, rfl, Nat.le_of_ble_eq_true rfl, ⟨rF, rE, rfl, rfl, trivial, trivial⟩⟩
end Go.T
end
section
namespace Go.T
open Go Go.AM Go.Proofs
set_option maxRecDepth 100000
set_option maxHeartbeats 4000000
set_option linter.unusedVariables false
theorem c_bookendlaw13_SlicesSums {fu : Nat} {vs1 : TApiSlState} {vx2 : T2Uint8} {r : Bool} (h0 : bookendlaw13_SlicesSums fu vs1 vx2 = some r) : PCall Try.prog 6 [.agg (TApiSlState.enc vs1), .agg (T2Uint8.enc vx2)] (.bool r) [] := by
 refine awp_pcall Try.func6 rfl (by decide) (Nat.le_of_ble_eq_true rfl) ?_
 dsimp only [Try.f6, List.append]
 rw [bookendlaw13_SlicesSums] at h0
 refine (show AWP _ _ _ _ ⟨enumFr 0 _, [], 0, []⟩ from ?_)
 refine awp_sr2 24 [2, 3] (fun _ => none) rfl (fun _ _ => rT) ?_
 refine awp_seq ?_
 obtain ⟨vr3, hvr3, h0⟩ := bindS h0
 obtain ⟨b5, hb5, h0⟩ := bindS h0
 refine awp_sr3 (fr' := [(2, .ref 0 0 0 0), (3, .ref 8 0 0 0), (26, .bool b5)]) (hp' := [(0, ⟨0, true, true, 10, [[.psl 1 (List.map (encSl 4 TApiEntry.enc) vs1.Merge.Runs), .psl 1 (List.map (encInt .i64) vs1.Merge.At), .psl 2 (List.map TApiLsKey.enc vs1.Merge.Tree.Keys), .psl 1 (List.map (encInt .i64) vs1.Merge.Tree.Lose), .int .i64 vs1.Merge.Tree.Win, .bool vs1.Shadow.Some, .str vs1.Shadow.Last, .bool vs1.Shadow.Bottom, .psl 4 (List.map TApiEntry.enc vs1.Out), .int .i64 vs1.Steps]]⟩), (8, ⟨0, true, true, 2, [[.int .u8 vx2.e0, .int .u8 vx2.e1]]⟩)]) [0, 8] 80 [2, 3, 26] (fun | 1 => some (.bool vr3, []) | 4 => (slices_Check fu vs1).bind fun vr4 => some (.int .i64 vr4, []) | _ => none) rfl (fun Kt hK => by
   cases vr3 with
   | false =>
    replace hb5 := iteF hb5 rfl
    obtain ⟨vr4, hvr4, hb5⟩ := bindS hb5
    have hqb5 := Option.some.inj hb5
    subst hqb5
    try have q0 := c_bookendlaw13_Far hvr3
    try have q1 := c_slices_Check hvr4
    exact rS hvr4
   | true =>
    replace hb5 := iteT hb5 rfl
    have hqb5 := Option.some.inj hb5
    subst hqb5
    try have q0 := c_bookendlaw13_Far hvr3
    try have q1 := c_slices_Check hvr4
    exact rT) ?_
 refine awp_if rfl (fun hb7 => ?_) (fun hb7 => ?_)
 ·
  replace h0 := iteT h0 hb7
  obtain ⟨vr8, hvr8, h0⟩ := bindS h0
  refine awp_sr2 96 [4] (fun | 0 => some (.bool vr8, []) | _ => none) rfl (fun _ _ => rC (c_bookendlaw13_awake hvr8)) ?_
  refine awp_ret ?_
  refine kr_then ?_
  obtain rfl := Option.some.inj h0
  refine leave_retG [] ?_
  exact rG
 ·
  replace h0 := iteF h0 hb7
  refine awp_skip ?_
  refine kn_then ?_
  refine awp_sd2 160 [2, 5, 6] (fun _ => none) rfl rfl rfl (fun _ _ => rTd) ?_
  obtain ⟨vr9, hvr9, h0⟩ := bindS h0
  refine awp_sr2 248 [2, 5, 6, 7, 8, 9] (fun | 2 => some (.tup [.agg (TApiSlState.enc vr9.1), .int .i64 vr9.2.1, .int .i64 vr9.2.2], []) | _ => none) rfl (fun _ _ => rC (c_slices_Step hvr9)) ?_
  obtain ⟨vr10, hvr10, h0⟩ := bindS h0
  refine awp_sr2 336 [2, 5, 6, 7, 8, 9, 10, 11, 12] (fun | 2 => some (.tup [.agg (TApiSlState.enc vr10.1), .int .i64 vr10.2.1, .int .i64 vr10.2.2], []) | _ => none) rfl (fun _ _ => rC (c_slices_Step hvr10)) ?_
  obtain ⟨vr11, hvr11, h0⟩ := bindS h0
  refine awp_sr2 440 [2, 5, 7, 8, 9, 10, 11, 12, 13, 14, 15] (fun | 4 => some (.tup [.agg (TApiSlState.enc vr11.1), .int .i64 vr11.2.1, .int .i64 vr11.2.2], []) | _ => none) rfl (fun _ _ => rC (c_slices_Step hvr11)) ?_
  obtain ⟨vr12, hvr12, h0⟩ := bindS h0
  refine awp_sr2 496 [2, 5, 7, 8, 9, 10, 11, 12, 13, 14, 15, 16, 17] (fun | 1 => some (.tup [.int .i64 vr12.1, .int .i64 vr12.2], []) | _ => none) rfl (fun _ _ => rC (c_slices_Left hvr12)) ?_
  obtain ⟨vr13, hvr13, h0⟩ := bindS h0
  refine awp_sr2 552 [2, 5, 7, 8, 9, 10, 11, 12, 13, 14, 15, 16, 17, 18, 19] (fun | 1 => some (.tup [.int .i64 vr13.1, .int .i64 vr13.2], []) | _ => none) rfl (fun _ _ => rC (c_slices_Left hvr13)) ?_
  refine awp_seq ?_
  obtain ⟨b14, hb14, h0⟩ := bindS h0
  obtain ⟨b15, hb15, h0⟩ := bindS h0
  obtain ⟨b16, hb16, h0⟩ := bindS h0
  obtain ⟨b17, hb17, h0⟩ := bindS h0
  obtain ⟨b18, hb18, h0⟩ := bindS h0
  obtain ⟨b19, hb19, h0⟩ := bindS h0
  obtain ⟨b20, hb20, h0⟩ := bindS h0
  obtain ⟨b22, hb22, h0⟩ := bindS h0
  refine awp_sr3 (fr' := [(2, .ref 0 0 0 0), (7, .ref 216 0 0 0), (8, .int .i64 vr9.2.1), (113, .bool b22)]) (hp' := [(0, ⟨0, true, true, 10, [[.psl 1 (List.map (encSl 4 TApiEntry.enc) vs1.Merge.Runs), .psl 1 (List.map (encInt .i64) vs1.Merge.At), .psl 2 (List.map TApiLsKey.enc vs1.Merge.Tree.Keys), .psl 1 (List.map (encInt .i64) vs1.Merge.Tree.Lose), .int .i64 vs1.Merge.Tree.Win, .bool vs1.Shadow.Some, .str vs1.Shadow.Last, .bool vs1.Shadow.Bottom, .psl 4 (List.map TApiEntry.enc vs1.Out), .int .i64 vs1.Steps]]⟩), (8, ⟨0, true, true, 2, [[.int .u8 vx2.e0, .int .u8 vx2.e1]]⟩), (216, ⟨0, true, true, 10, [[.psl 1 (List.map (encSl 4 TApiEntry.enc) vr9.1.Merge.Runs), .psl 1 (List.map (encInt .i64) vr9.1.Merge.At), .psl 2 (List.map TApiLsKey.enc vr9.1.Merge.Tree.Keys), .psl 1 (List.map (encInt .i64) vr9.1.Merge.Tree.Lose), .int .i64 vr9.1.Merge.Tree.Win, .bool vr9.1.Shadow.Some, .str vr9.1.Shadow.Last, .bool vr9.1.Shadow.Bottom, .psl 4 (List.map TApiEntry.enc vr9.1.Out), .int .i64 vr9.1.Steps]]⟩), (304, ⟨0, true, true, 10, [[.psl 1 (List.map (encSl 4 TApiEntry.enc) vr10.1.Merge.Runs), .psl 1 (List.map (encInt .i64) vr10.1.Merge.At), .psl 2 (List.map TApiLsKey.enc vr10.1.Merge.Tree.Keys), .psl 1 (List.map (encInt .i64) vr10.1.Merge.Tree.Lose), .int .i64 vr10.1.Merge.Tree.Win, .bool vr10.1.Shadow.Some, .str vr10.1.Shadow.Last, .bool vr10.1.Shadow.Bottom, .psl 4 (List.map TApiEntry.enc vr10.1.Out), .int .i64 vr10.1.Steps]]⟩), (408, ⟨0, true, true, 10, [[.psl 1 (List.map (encSl 4 TApiEntry.enc) vr11.1.Merge.Runs), .psl 1 (List.map (encInt .i64) vr11.1.Merge.At), .psl 2 (List.map TApiLsKey.enc vr11.1.Merge.Tree.Keys), .psl 1 (List.map (encInt .i64) vr11.1.Merge.Tree.Lose), .int .i64 vr11.1.Merge.Tree.Win, .bool vr11.1.Shadow.Some, .str vr11.1.Shadow.Last, .bool vr11.1.Shadow.Bottom, .psl 4 (List.map TApiEntry.enc vr11.1.Out), .int .i64 vr11.1.Steps]]⟩)]) [0, 8, 216, 304, 408] 912 [2, 7, 8, 113] (fun | 42 => (bookendref13_Same fu vr10.1 vr11.1).bind fun vr21 => some (.bool vr21, []) | _ => none) rfl (fun Kt hK => by
    cases hg23 : (!(decide (vr9.2.2 = 0))) with
    | false =>
     replace hb14 := iteF hb14 hg23
     have hqb14 := Option.some.inj hb14
     cases b14 with
     | false =>
      replace hb15 := iteF hb15 rfl
      have hqb15 := Option.some.inj hb15
      cases b15 with
      | false =>
       replace hb16 := iteF hb16 rfl
       have hqb16 := Option.some.inj hb16
       cases b16 with
       | false =>
        replace hb17 := iteF hb17 rfl
        have hqb17 := Option.some.inj hb17
        cases b17 with
        | false =>
         replace hb18 := iteF hb18 rfl
         have hqb18 := Option.some.inj hb18
         cases b18 with
         | false =>
          replace hb19 := iteF hb19 rfl
          have hqb19 := Option.some.inj hb19
          cases b19 with
          | false =>
           replace hb20 := iteF hb20 rfl
           have hqb20 := Option.some.inj hb20
           cases b20 with
           | false =>
            replace hb22 := iteF hb22 rfl
            obtain ⟨vr21, hvr21, hb22⟩ := bindS hb22
            have hqb22 := Option.some.inj hb22
            subst hqb22
            simp (maxSteps := 1000000) only [↓reduceIte, reduceCtorEq, Nat.reduceEqDiff, Nat.reduceLT, Nat.reduceLeDiff, Nat.reduceAdd, Nat.reduceMul, Int.reduceToNat, push_cast, ↓hg23, ↓hqb14, ↓hqb15, ↓hqb16, ↓hqb17, ↓hqb18, ↓hqb19, ↓hqb20, hvr21]
            try simp only [↓hg23, ↓hqb14, ↓hqb15, ↓hqb16, ↓hqb17, ↓hqb18, ↓hqb19, ↓hqb20] at hK
            try have q0 := c_bookendref13_Same hvr21
            all_goals exact rU
           | true =>
            replace hb22 := iteT hb22 rfl
            have hqb22 := Option.some.inj hb22
            subst hqb22
            simp (maxSteps := 1000000) only [↓reduceIte, reduceCtorEq, Nat.reduceEqDiff, Nat.reduceLT, Nat.reduceLeDiff, Nat.reduceAdd, Nat.reduceMul, Int.reduceToNat, push_cast, ↓hg23, ↓hqb14, ↓hqb15, ↓hqb16, ↓hqb17, ↓hqb18, ↓hqb19, ↓hqb20]
            try simp only [↓hg23, ↓hqb14, ↓hqb15, ↓hqb16, ↓hqb17, ↓hqb18, ↓hqb19, ↓hqb20] at hK
            try have q0 := c_bookendref13_Same hvr21
            all_goals exact rU
          | true =>
           replace hb20 := iteT hb20 rfl
           have hqb20 := Option.some.inj hb20
           cases b20 with
           | false =>
            cases hqb20
           | true =>
            replace hb22 := iteT hb22 rfl
            have hqb22 := Option.some.inj hb22
            subst hqb22
            simp (maxSteps := 1000000) only [↓reduceIte, reduceCtorEq, Nat.reduceEqDiff, Nat.reduceLT, Nat.reduceLeDiff, Nat.reduceAdd, Nat.reduceMul, Int.reduceToNat, push_cast, ↓hg23, ↓hqb14, ↓hqb15, ↓hqb16, ↓hqb17, ↓hqb18, ↓hqb19]
            try simp only [↓hg23, ↓hqb14, ↓hqb15, ↓hqb16, ↓hqb17, ↓hqb18, ↓hqb19] at hK
            try have q0 := c_bookendref13_Same hvr21
            all_goals exact rU
         | true =>
          replace hb19 := iteT hb19 rfl
          have hqb19 := Option.some.inj hb19
          cases b19 with
          | false =>
           cases hqb19
          | true =>
           replace hb20 := iteT hb20 rfl
           have hqb20 := Option.some.inj hb20
           cases b20 with
           | false =>
            cases hqb20
           | true =>
            replace hb22 := iteT hb22 rfl
            have hqb22 := Option.some.inj hb22
            subst hqb22
            simp (maxSteps := 1000000) only [↓reduceIte, reduceCtorEq, Nat.reduceEqDiff, Nat.reduceLT, Nat.reduceLeDiff, Nat.reduceAdd, Nat.reduceMul, Int.reduceToNat, push_cast, ↓hg23, ↓hqb14, ↓hqb15, ↓hqb16, ↓hqb17, ↓hqb18]
            try simp only [↓hg23, ↓hqb14, ↓hqb15, ↓hqb16, ↓hqb17, ↓hqb18] at hK
            try have q0 := c_bookendref13_Same hvr21
            all_goals exact rU
        | true =>
         replace hb18 := iteT hb18 rfl
         have hqb18 := Option.some.inj hb18
         cases b18 with
         | false =>
          cases hqb18
         | true =>
          replace hb19 := iteT hb19 rfl
          have hqb19 := Option.some.inj hb19
          cases b19 with
          | false =>
           cases hqb19
          | true =>
           replace hb20 := iteT hb20 rfl
           have hqb20 := Option.some.inj hb20
           cases b20 with
           | false =>
            cases hqb20
           | true =>
            replace hb22 := iteT hb22 rfl
            have hqb22 := Option.some.inj hb22
            subst hqb22
            simp (maxSteps := 1000000) only [↓reduceIte, reduceCtorEq, Nat.reduceEqDiff, Nat.reduceLT, Nat.reduceLeDiff, Nat.reduceAdd, Nat.reduceMul, Int.reduceToNat, push_cast, ↓hg23, ↓hqb14, ↓hqb15, ↓hqb16, ↓hqb17]
            try simp only [↓hg23, ↓hqb14, ↓hqb15, ↓hqb16, ↓hqb17] at hK
            try have q0 := c_bookendref13_Same hvr21
            all_goals exact rU
       | true =>
        replace hb17 := iteT hb17 rfl
        have hqb17 := Option.some.inj hb17
        cases b17 with
        | false =>
         cases hqb17
        | true =>
         replace hb18 := iteT hb18 rfl
         have hqb18 := Option.some.inj hb18
         cases b18 with
         | false =>
          cases hqb18
         | true =>
          replace hb19 := iteT hb19 rfl
          have hqb19 := Option.some.inj hb19
          cases b19 with
          | false =>
           cases hqb19
          | true =>
           replace hb20 := iteT hb20 rfl
           have hqb20 := Option.some.inj hb20
           cases b20 with
           | false =>
            cases hqb20
           | true =>
            replace hb22 := iteT hb22 rfl
            have hqb22 := Option.some.inj hb22
            subst hqb22
            simp (maxSteps := 1000000) only [↓reduceIte, reduceCtorEq, Nat.reduceEqDiff, Nat.reduceLT, Nat.reduceLeDiff, Nat.reduceAdd, Nat.reduceMul, Int.reduceToNat, push_cast, ↓hg23, ↓hqb14, ↓hqb15, ↓hqb16]
            try simp only [↓hg23, ↓hqb14, ↓hqb15, ↓hqb16] at hK
            try have q0 := c_bookendref13_Same hvr21
            all_goals exact rU
      | true =>
       replace hb16 := iteT hb16 rfl
       have hqb16 := Option.some.inj hb16
       cases b16 with
       | false =>
        cases hqb16
       | true =>
        replace hb17 := iteT hb17 rfl
        have hqb17 := Option.some.inj hb17
        cases b17 with
        | false =>
         cases hqb17
        | true =>
         replace hb18 := iteT hb18 rfl
         have hqb18 := Option.some.inj hb18
         cases b18 with
         | false =>
          cases hqb18
         | true =>
          replace hb19 := iteT hb19 rfl
          have hqb19 := Option.some.inj hb19
          cases b19 with
          | false =>
           cases hqb19
          | true =>
           replace hb20 := iteT hb20 rfl
           have hqb20 := Option.some.inj hb20
           cases b20 with
           | false =>
            cases hqb20
           | true =>
            replace hb22 := iteT hb22 rfl
            have hqb22 := Option.some.inj hb22
            subst hqb22
            simp (maxSteps := 1000000) only [↓reduceIte, reduceCtorEq, Nat.reduceEqDiff, Nat.reduceLT, Nat.reduceLeDiff, Nat.reduceAdd, Nat.reduceMul, Int.reduceToNat, push_cast, ↓hg23, ↓hqb14, ↓hqb15]
            try simp only [↓hg23, ↓hqb14, ↓hqb15] at hK
            try have q0 := c_bookendref13_Same hvr21
            all_goals exact rU
     | true =>
      replace hb15 := iteT hb15 rfl
      have hqb15 := Option.some.inj hb15
      cases b15 with
      | false =>
       cases hqb15
      | true =>
       replace hb16 := iteT hb16 rfl
       have hqb16 := Option.some.inj hb16
       cases b16 with
       | false =>
        cases hqb16
       | true =>
        replace hb17 := iteT hb17 rfl
        have hqb17 := Option.some.inj hb17
        cases b17 with
        | false =>
         cases hqb17
        | true =>
         replace hb18 := iteT hb18 rfl
         have hqb18 := Option.some.inj hb18
         cases b18 with
         | false =>
          cases hqb18
         | true =>
          replace hb19 := iteT hb19 rfl
          have hqb19 := Option.some.inj hb19
          cases b19 with
          | false =>
           cases hqb19
          | true =>
           replace hb20 := iteT hb20 rfl
           have hqb20 := Option.some.inj hb20
           cases b20 with
           | false =>
            cases hqb20
           | true =>
            replace hb22 := iteT hb22 rfl
            have hqb22 := Option.some.inj hb22
            subst hqb22
            simp (maxSteps := 1000000) only [↓reduceIte, reduceCtorEq, Nat.reduceEqDiff, Nat.reduceLT, Nat.reduceLeDiff, Nat.reduceAdd, Nat.reduceMul, Int.reduceToNat, push_cast, ↓hg23, ↓hqb14]
            try simp only [↓hg23, ↓hqb14] at hK
            try have q0 := c_bookendref13_Same hvr21
            all_goals exact rU
    | true =>
     replace hb14 := iteT hb14 hg23
     have hqb14 := Option.some.inj hb14
     cases b14 with
     | false =>
      cases hqb14
     | true =>
      replace hb15 := iteT hb15 rfl
      have hqb15 := Option.some.inj hb15
      cases b15 with
      | false =>
       cases hqb15
      | true =>
       replace hb16 := iteT hb16 rfl
       have hqb16 := Option.some.inj hb16
       cases b16 with
       | false =>
        cases hqb16
       | true =>
        replace hb17 := iteT hb17 rfl
        have hqb17 := Option.some.inj hb17
        cases b17 with
        | false =>
         cases hqb17
        | true =>
         replace hb18 := iteT hb18 rfl
         have hqb18 := Option.some.inj hb18
         cases b18 with
         | false =>
          cases hqb18
         | true =>
          replace hb19 := iteT hb19 rfl
          have hqb19 := Option.some.inj hb19
          cases b19 with
          | false =>
           cases hqb19
          | true =>
           replace hb20 := iteT hb20 rfl
           have hqb20 := Option.some.inj hb20
           cases b20 with
           | false =>
            cases hqb20
           | true =>
            replace hb22 := iteT hb22 rfl
            have hqb22 := Option.some.inj hb22
            subst hqb22
            simp (maxSteps := 1000000) only [↓reduceIte, reduceCtorEq, Nat.reduceEqDiff, Nat.reduceLT, Nat.reduceLeDiff, Nat.reduceAdd, Nat.reduceMul, Int.reduceToNat, push_cast, ↓hg23]
            try simp only [↓hg23] at hK
            try have q0 := c_bookendref13_Same hvr21
            all_goals exact rU) ?_
  refine awp_if rfl (fun hb59 => ?_) (fun hb59 => ?_)
  ·
   replace h0 := iteT h0 hb59
   refine awp_sr2 920 [4] (fun _ => none) rfl (fun _ _ => rT) ?_
   refine awp_ret ?_
   refine kr_then ?_
   obtain rfl := Option.some.inj h0
   refine leave_retG [] ?_
   exact rG
  ·
   replace h0 := iteF h0 hb59
   refine awp_skip ?_
   refine kn_then ?_
   refine awp_seq ?_
   obtain ⟨b60, hb60, h0⟩ := bindS h0
   obtain ⟨b63, hb63, h0⟩ := bindS h0
   refine awp_sd3 (fr' := [(7, .ref 216 0 0 0), (143, .bool b63)]) (hp' := [(0, ⟨0, true, true, 10, [[.psl 1 (List.map (encSl 4 TApiEntry.enc) vs1.Merge.Runs), .psl 1 (List.map (encInt .i64) vs1.Merge.At), .psl 2 (List.map TApiLsKey.enc vs1.Merge.Tree.Keys), .psl 1 (List.map (encInt .i64) vs1.Merge.Tree.Lose), .int .i64 vs1.Merge.Tree.Win, .bool vs1.Shadow.Some, .str vs1.Shadow.Last, .bool vs1.Shadow.Bottom, .psl 4 (List.map TApiEntry.enc vs1.Out), .int .i64 vs1.Steps]]⟩), (8, ⟨0, true, true, 2, [[.int .u8 vx2.e0, .int .u8 vx2.e1]]⟩), (216, ⟨0, true, true, 10, [[.psl 1 (List.map (encSl 4 TApiEntry.enc) vr9.1.Merge.Runs), .psl 1 (List.map (encInt .i64) vr9.1.Merge.At), .psl 2 (List.map TApiLsKey.enc vr9.1.Merge.Tree.Keys), .psl 1 (List.map (encInt .i64) vr9.1.Merge.Tree.Lose), .int .i64 vr9.1.Merge.Tree.Win, .bool vr9.1.Shadow.Some, .str vr9.1.Shadow.Last, .bool vr9.1.Shadow.Bottom, .psl 4 (List.map TApiEntry.enc vr9.1.Out), .int .i64 vr9.1.Steps]]⟩), (304, ⟨0, true, true, 10, [[.psl 1 (List.map (encSl 4 TApiEntry.enc) vr10.1.Merge.Runs), .psl 1 (List.map (encInt .i64) vr10.1.Merge.At), .psl 2 (List.map TApiLsKey.enc vr10.1.Merge.Tree.Keys), .psl 1 (List.map (encInt .i64) vr10.1.Merge.Tree.Lose), .int .i64 vr10.1.Merge.Tree.Win, .bool vr10.1.Shadow.Some, .str vr10.1.Shadow.Last, .bool vr10.1.Shadow.Bottom, .psl 4 (List.map TApiEntry.enc vr10.1.Out), .int .i64 vr10.1.Steps]]⟩), (408, ⟨0, true, true, 10, [[.psl 1 (List.map (encSl 4 TApiEntry.enc) vr11.1.Merge.Runs), .psl 1 (List.map (encInt .i64) vr11.1.Merge.At), .psl 2 (List.map TApiLsKey.enc vr11.1.Merge.Tree.Keys), .psl 1 (List.map (encInt .i64) vr11.1.Merge.Tree.Lose), .int .i64 vr11.1.Merge.Tree.Win, .bool vr11.1.Shadow.Some, .str vr11.1.Shadow.Last, .bool vr11.1.Shadow.Bottom, .psl 4 (List.map TApiEntry.enc vr11.1.Out), .int .i64 vr11.1.Steps]]⟩)]) [0, 8, 216, 304, 408] 1152 [7, 143] (fun | 27 => (bookendref11_SameEntries fu (vr9.1.Out.take vs1.Out.length) vs1.Out).bind fun vr62 => some (.bool vr62, []) | _ => none) rfl rfl rfl (fun Kt hK => by
     cases hg64 : (decide ((vr9.1.Out.length : Int) < (vs1.Out.length : Int))) with
     | false =>
      replace hb60 := iteF hb60 hg64
      have hqb60 := Option.some.inj hb60
      cases b60 with
      | false =>
       replace hb63 := iteF hb63 rfl
       obtain ⟨hc61, hb63⟩ := guS hb63
       obtain ⟨vr62, hvr62, hb63⟩ := bindS hb63
       have hqb63 := Option.some.inj hb63
       subst hqb63
       simp (maxSteps := 1000000) only [↓reduceIte, reduceCtorEq, Nat.reduceEqDiff, Nat.reduceLT, Nat.reduceLeDiff, Nat.reduceAdd, Nat.reduceMul, Int.reduceToNat, push_cast, ↓hg64, ↓hqb60, hvr62]
       try simp only [↓hg64, ↓hqb60] at hK
       try have q0 := c_bookendref11_SameEntries hvr62
       all_goals exact rUd
      | true =>
       replace hb63 := iteT hb63 rfl
       have hqb63 := Option.some.inj hb63
       subst hqb63
       simp (maxSteps := 1000000) only [↓reduceIte, reduceCtorEq, Nat.reduceEqDiff, Nat.reduceLT, Nat.reduceLeDiff, Nat.reduceAdd, Nat.reduceMul, Int.reduceToNat, push_cast, ↓hg64, ↓hqb60]
       try simp only [↓hg64, ↓hqb60] at hK
       try have q0 := c_bookendref11_SameEntries hvr62
       all_goals exact rUd
     | true =>
      replace hb60 := iteT hb60 hg64
      have hqb60 := Option.some.inj hb60
      cases b60 with
      | false =>
       cases hqb60
      | true =>
       replace hb63 := iteT hb63 rfl
       have hqb63 := Option.some.inj hb63
       subst hqb63
       simp (maxSteps := 1000000) only [↓reduceIte, reduceCtorEq, Nat.reduceEqDiff, Nat.reduceLT, Nat.reduceLeDiff, Nat.reduceAdd, Nat.reduceMul, Int.reduceToNat, push_cast, ↓hg64]
       try simp only [↓hg64] at hK
       try have q0 := c_bookendref11_SameEntries hvr62
       all_goals exact rUd) ?_
   refine awp_if rfl (fun hb67 => ?_) (fun hb67 => ?_)
   ·
    replace h0 := iteT h0 hb67
    refine awp_sr2 1160 [4] (fun _ => none) rfl (fun _ _ => rT) ?_
    refine awp_ret ?_
    refine kr_then ?_
    obtain rfl := Option.some.inj h0
    refine leave_retG [] ?_
    exact rG
   ·
    replace h0 := iteF h0 hb67
    refine awp_skip ?_
    refine kn_then ?_
    obtain ⟨vr68, hvr68, h0⟩ := bindS h0
    obtain ⟨b70, hb70, h0⟩ := bindS h0
    refine awp_sr3 (fr' := [(4, .bool b70)]) (hp' := [(0, ⟨0, true, true, 10, [[.psl 1 (List.map (encSl 4 TApiEntry.enc) vs1.Merge.Runs), .psl 1 (List.map (encInt .i64) vs1.Merge.At), .psl 2 (List.map TApiLsKey.enc vs1.Merge.Tree.Keys), .psl 1 (List.map (encInt .i64) vs1.Merge.Tree.Lose), .int .i64 vs1.Merge.Tree.Win, .bool vs1.Shadow.Some, .str vs1.Shadow.Last, .bool vs1.Shadow.Bottom, .psl 4 (List.map TApiEntry.enc vs1.Out), .int .i64 vs1.Steps]]⟩), (8, ⟨0, true, true, 2, [[.int .u8 vx2.e0, .int .u8 vx2.e1]]⟩), (216, ⟨0, true, true, 10, [[.psl 1 (List.map (encSl 4 TApiEntry.enc) vr9.1.Merge.Runs), .psl 1 (List.map (encInt .i64) vr9.1.Merge.At), .psl 2 (List.map TApiLsKey.enc vr9.1.Merge.Tree.Keys), .psl 1 (List.map (encInt .i64) vr9.1.Merge.Tree.Lose), .int .i64 vr9.1.Merge.Tree.Win, .bool vr9.1.Shadow.Some, .str vr9.1.Shadow.Last, .bool vr9.1.Shadow.Bottom, .psl 4 (List.map TApiEntry.enc vr9.1.Out), .int .i64 vr9.1.Steps]]⟩), (304, ⟨0, true, true, 10, [[.psl 1 (List.map (encSl 4 TApiEntry.enc) vr10.1.Merge.Runs), .psl 1 (List.map (encInt .i64) vr10.1.Merge.At), .psl 2 (List.map TApiLsKey.enc vr10.1.Merge.Tree.Keys), .psl 1 (List.map (encInt .i64) vr10.1.Merge.Tree.Lose), .int .i64 vr10.1.Merge.Tree.Win, .bool vr10.1.Shadow.Some, .str vr10.1.Shadow.Last, .bool vr10.1.Shadow.Bottom, .psl 4 (List.map TApiEntry.enc vr10.1.Out), .int .i64 vr10.1.Steps]]⟩), (408, ⟨0, true, true, 10, [[.psl 1 (List.map (encSl 4 TApiEntry.enc) vr11.1.Merge.Runs), .psl 1 (List.map (encInt .i64) vr11.1.Merge.At), .psl 2 (List.map TApiLsKey.enc vr11.1.Merge.Tree.Keys), .psl 1 (List.map (encInt .i64) vr11.1.Merge.Tree.Lose), .int .i64 vr11.1.Merge.Tree.Win, .bool vr11.1.Shadow.Some, .str vr11.1.Shadow.Last, .bool vr11.1.Shadow.Bottom, .psl 4 (List.map TApiEntry.enc vr11.1.Out), .int .i64 vr11.1.Steps]]⟩)]) [0, 8, 216, 304, 408] 1208 [4] (fun | 1 => some (.int .i64 vr68, []) | 4 => (bookendlaw13_awake fu).bind fun vr69 => some (.bool vr69, []) | _ => none) rfl (fun Kt hK => by
      cases hg71 : (decide (vr68 = 0)) with
      | false =>
       replace hb70 := iteF hb70 hg71
       have hqb70 := Option.some.inj hb70
       subst hqb70
       simp (maxSteps := 1000000) only [↓reduceIte, reduceCtorEq, Nat.reduceEqDiff, Nat.reduceLT, Nat.reduceLeDiff, Nat.reduceAdd, Nat.reduceMul, Int.reduceToNat, push_cast, ↓hg71]
       try simp only [↓hg71] at hK
       try have q0 := c_slices_Check hvr68
       try have q1 := c_bookendlaw13_awake hvr69
       all_goals exact rU
      | true =>
       replace hb70 := iteT hb70 hg71
       obtain ⟨vr69, hvr69, hb70⟩ := bindS hb70
       have hqb70 := Option.some.inj hb70
       subst hqb70
       simp (maxSteps := 1000000) only [↓reduceIte, reduceCtorEq, Nat.reduceEqDiff, Nat.reduceLT, Nat.reduceLeDiff, Nat.reduceAdd, Nat.reduceMul, Int.reduceToNat, push_cast, ↓hg71, hvr69]
       try simp only [↓hg71] at hK
       try have q0 := c_slices_Check hvr68
       try have q1 := c_bookendlaw13_awake hvr69
       all_goals exact rU) ?_
    refine awp_ret ?_
    obtain rfl := Option.some.inj h0
    refine leave_retG [] ?_
    exact rG
end Go.T
end
section
namespace Go.Proofs.Ytjmdbbhkgnlmmaa
open Go.T
theorem slicesSums : Rows.SlicesSumsSaid :=
  slicesSums_over (fun x0 x1 w0 w1 => by
    have u8 : ∀ v : Int, (Lit.int .u8 v).wf = true → 0 ≤ v ∧ v ≤ 255 := fun v hw => by
      simp [Lit.wf, IntKind.min, IntKind.max, IntKind.signed, IntKind.bits] at hw
      omega
    obtain ⟨fu, h⟩ := (slicesSums_ev x0 x1 (u8 _ w1.1) (u8 _ w1.2)).one
    exact ⟨_, c_bookendlaw13_SlicesSums h⟩)
end Go.Proofs.Ytjmdbbhkgnlmmaa
end
