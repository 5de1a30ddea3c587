/- Output ascends, each key once, at the bottom without tombstones, and is what shadow keeps of the merge, of runs that are not far; no other condition. -/
import Derived.Test.YtjmdbbhkgnlmmaaDGt
import Derived.Test.YtjmdbbhkgnlmmaaDLkSlicesOutputs
import Derived.Test.YtjmdbbhkgnlmmaaD2
set_option linter.unusedSimpArgs false
set_option linter.unusedVariables false
section
namespace Go.T
open Go Go.AM Go.Proofs
set_option maxRecDepth 100000
set_option maxHeartbeats 4000000
set_option linter.unusedVariables false
theorem c_slices_Step {fu : Nat} {vs1 : TApiSlState} {n2 : Int} {r : TApiSlState × Int × Int} (h0 : slices_Step fu vs1 n2 = some r) : PCall Try.prog 18 [.agg (TApiSlState.enc vs1), .int .i64 n2] (.tup [.agg (TApiSlState.enc r.1), .int .i64 r.2.1, .int .i64 r.2.2]) [] := by
 refine awp_pcall Try.func18 rfl (by decide) (Nat.le_of_ble_eq_true rfl) ?_
 dsimp only [Try.f18]
 rw [slices_Step] at h0
 refine (show AWP _ _ _ _ ⟨enumFr 0 _, [], 0, []⟩ from ?_)
 refine awp_sr2 32 [1, 2, 4] (fun _ => none) rfl (fun _ _ => rT) ?_
 obtain ⟨vr3, hvr3, h0⟩ := bindS h0
 refine awp_sr2 88 [1, 2, 4, 6, 7] (fun | 1 => some (.tup [.int .i64 vr3.1, .int .i64 vr3.2], []) | _ => none) rfl (fun _ _ => rC (c_slices_Left hvr3)) ?_
 refine awp_seq ?_
 refine awp_block ?_
 refine awp_sr2 112 [1, 2, 4, 6, 7, 15] (fun _ => none) rfl (fun _ _ => rT) ?_
 refine awp_if rfl (fun hb4 => ?_) (fun hb4 => ?_)
 ·
  replace h0 := iteT h0 hb4
  refine awp_sr2 152 [4, 5, 6] (fun _ => none) rfl (fun _ _ => rT) ?_
  refine awp_ret ?_
  refine kr_block ?_
  refine kr_then ?_
  obtain rfl := Option.some.inj h0
  refine leave_retG [] ?_
  exact rG
 ·
  replace h0 := iteF h0 hb4
  refine awp_sr2 136 [1, 2, 4, 7, 20] (fun _ => none) rfl (fun _ _ => rT) ?_
  refine awp_if rfl (fun hb5 => ?_) (fun hb5 => ?_)
  ·
   replace h0 := iteT h0 hb5
   refine awp_sr2 168 [4, 5, 6] (fun _ => none) rfl (fun _ _ => rT) ?_
   refine awp_ret ?_
   refine kr_block ?_
   refine kr_then ?_
   obtain rfl := Option.some.inj h0
   refine leave_retG [] ?_
   exact rG
  ·
   replace h0 := iteF h0 hb5
   refine awp_skip ?_
   refine kn_block ?_
   refine kn_then ?_
   refine awp_sr2 168 [2, 4, 5] (fun _ => none) rfl (fun _ _ => rT) ?_
   refine awp_seq ?_
   refine awp_sr2 208 [2, 4, 5, 31] (fun _ => none) rfl (fun _ _ => rT) ?_
   refine awp_if rfl (fun hb6 => ?_) (fun hb6 => ?_)
   ·
    replace h0 := iteT h0 hb6
    refine awp_sr2 240 [4, 5, 6] (fun _ => none) rfl (fun _ _ => rT) ?_
    refine awp_ret ?_
    refine kr_then ?_
    obtain rfl := Option.some.inj h0
    refine leave_retG [] ?_
    exact rG
   ·
    replace h0 := iteF h0 hb6
    refine awp_skip ?_
    refine kn_then ?_
    refine awp_sr2 240 [2, 4, 5, 8] (fun _ => none) rfl (fun _ _ => rT) ?_
    obtain ⟨hc7, h0⟩ := guS h0
    refine awp_sr2 288 [2, 4, 5, 8] (fun _ => none) rfl (fun _ _ => rT) ?_
    refine awp_re (s2 := ⟨[(2, .ref 0 0 0 0), (4, .ref 8 0 0 0), (5, .int .i64 (if vr3.1 < n2 then vr3.1 else n2)), (8, .ref 224 0 0 0)], [(0, ⟨0, true, true, 10, [[.psl 1 (List.map (encSl 4 TApiEntry.enc) vs1.Merge.Runs), .psl 1 (List.map (encInt .i64) vs1.Merge.At), .psl 2 (List.map TApiLsKey.enc vs1.Merge.Tree.Keys), .psl 1 (List.map (encInt .i64) vs1.Merge.Tree.Lose), .int .i64 vs1.Merge.Tree.Win, .bool vs1.Shadow.Some, .str vs1.Shadow.Last, .bool vs1.Shadow.Bottom, .psl 4 (List.map TApiEntry.enc vs1.Out), .int .i64 vs1.Steps]]⟩), (8, ⟨0, true, true, 10, [[.nils, .nils, .nils, .nils, .int .i64 0, .bool false, .str [], .bool false, .nils, .int .i64 0]]⟩), (224, ⟨0, true, false, 10, [[.psl 1 (List.map (encSl 4 TApiEntry.enc) vs1.Merge.Runs), .psl 1 (List.map (encInt .i64) vs1.Merge.At), .psl 2 (List.map TApiLsKey.enc vs1.Merge.Tree.Keys), .psl 1 (List.map (encInt .i64) vs1.Merge.Tree.Lose), .int .i64 vs1.Merge.Tree.Win, .bool vs1.Shadow.Some, .str vs1.Shadow.Last, .bool vs1.Shadow.Bottom, .sl 256 0 4 0 vs1.Out.length, .int .i64 vs1.Steps]]⟩), (256, ⟨0, true, true, 4, List.map TApiEntry.enc vs1.Out⟩)], 288, []⟩) [] (Nat.le_of_ble_eq_true rfl) ⟨rF, rE, rfl, rfl, trivial, trivial⟩ ?_
    obtain ⟨hc8, h0⟩ := guS h0
    refine awp_sr2 352 [4, 5, 8] (fun _ => none) rfl (fun _ _ => rT) ?_
    refine awp_re (s2 := ⟨[(4, .ref 8 0 0 0), (5, .int .i64 (if vr3.1 < n2 then vr3.1 else n2)), (8, .ref 224 0 0 0)], [(0, ⟨0, true, true, 10, [[.psl 1 (List.map (encSl 4 TApiEntry.enc) vs1.Merge.Runs), .psl 1 (List.map (encInt .i64) vs1.Merge.At), .psl 2 (List.map TApiLsKey.enc vs1.Merge.Tree.Keys), .psl 1 (List.map (encInt .i64) vs1.Merge.Tree.Lose), .int .i64 vs1.Merge.Tree.Win, .bool vs1.Shadow.Some, .str vs1.Shadow.Last, .bool vs1.Shadow.Bottom, .psl 4 (List.map TApiEntry.enc vs1.Out), .int .i64 vs1.Steps]]⟩), (8, ⟨0, true, true, 10, [[.nils, .nils, .nils, .nils, .int .i64 0, .bool false, .str [], .bool false, .nils, .int .i64 0]]⟩), (224, ⟨0, true, false, 10, [[.psl 1 (List.map (encSl 4 TApiEntry.enc) vs1.Merge.Runs), .sl 312 0 1 0 vs1.Merge.At.length, .psl 2 (List.map TApiLsKey.enc vs1.Merge.Tree.Keys), .psl 1 (List.map (encInt .i64) vs1.Merge.Tree.Lose), .int .i64 vs1.Merge.Tree.Win, .bool vs1.Shadow.Some, .str vs1.Shadow.Last, .bool vs1.Shadow.Bottom, .sl 256 0 4 0 vs1.Out.length, .int .i64 vs1.Steps]]⟩), (256, ⟨0, true, true, 4, List.map TApiEntry.enc vs1.Out⟩), (312, ⟨0, true, true, 1, List.map (encInt .i64) vs1.Merge.At⟩)], 352, []⟩) [] (Nat.le_of_ble_eq_true rfl) ⟨rF, rE, rfl, rfl, trivial, trivial⟩ ?_
    refine awp_seq ?_
    refine awp_sops2 4 rfl ?_
    refine awpo_cut (l' := List.range' 0 2 ++ (2 :: (List.range' 3 1 ++ []))) rfl ?_
    refine awpo_seg 0 2 368 (2 :: (List.range' 3 1 ++ [])) (fun _ => none) rfl rfl rfl (fun _ _ => rT) ?_
    refine awpo_in rfl rfl rfl rfl rfl Try.func38 rfl (by decide) rfl (Nat.le_of_ble_eq_true rfl) ?_
    dsimp only [Try.f38]
    refine awp_re (s2 := ⟨[(0, .int .i64 (if vr3.1 < n2 then vr3.1 else n2)), (1, .fn 39 [.ref 224 0 0 0] [])], [(0, ⟨0, true, true, 10, [[.psl 1 (List.map (encSl 4 TApiEntry.enc) vs1.Merge.Runs), .psl 1 (List.map (encInt .i64) vs1.Merge.At), .psl 2 (List.map TApiLsKey.enc vs1.Merge.Tree.Keys), .psl 1 (List.map (encInt .i64) vs1.Merge.Tree.Lose), .int .i64 vs1.Merge.Tree.Win, .bool vs1.Shadow.Some, .str vs1.Shadow.Last, .bool vs1.Shadow.Bottom, .psl 4 (List.map TApiEntry.enc vs1.Out), .int .i64 vs1.Steps]]⟩), (8, ⟨0, true, true, 10, [[.nils, .nils, .nils, .nils, .int .i64 0, .bool false, .str [], .bool false, .nils, .int .i64 0]]⟩), (224, ⟨0, true, false, 10, [[.psl 1 (List.map (encSl 4 TApiEntry.enc) vs1.Merge.Runs), .sl 312 0 1 0 vs1.Merge.At.length, .psl 2 (List.map TApiLsKey.enc vs1.Merge.Tree.Keys), .psl 1 (List.map (encInt .i64) vs1.Merge.Tree.Lose), .int .i64 vs1.Merge.Tree.Win, .bool vs1.Shadow.Some, .str vs1.Shadow.Last, .bool vs1.Shadow.Bottom, .sl 256 0 4 0 vs1.Out.length, .int .i64 vs1.Steps]]⟩), (256, ⟨0, true, true, 4, List.map TApiEntry.enc vs1.Out⟩), (312, ⟨0, true, true, 1, List.map (encInt .i64) vs1.Merge.At⟩)], 368, []⟩) [] (Nat.le_of_ble_eq_true rfl) ⟨rF, rE, rfl, rfl, trivial, trivial⟩ ?_
    refine awp_sr2 376 [0, 1] (fun _ => none) rfl (fun _ _ => rT) ?_
    refine awp_seq ?_
    refine awp_sr2 392 [1, 6, 7] (fun _ => none) rfl (fun _ _ => rT) ?_
    refine awp_frz2 [312] (fun Kt hK => by simp only [↓reduceIte, reduceCtorEq, Nat.reduceEqDiff, Nat.reduceLT, Nat.reduceLeDiff, Nat.reduceAdd, Nat.reduceMul, Int.reduceToNat, Nat.reduceBEq, push_cast]; exact hK) ?_
    refine awp_re (s2 := ⟨[(1, .fn 39 [.ref 224 0 0 0] []), (6, .int .i64 (if vr3.1 < n2 then vr3.1 else n2)), (7, .int .i64 0)], [(0, ⟨0, true, true, 10, [[.psl 1 (List.map (encSl 4 TApiEntry.enc) vs1.Merge.Runs), .psl 1 (List.map (encInt .i64) vs1.Merge.At), .psl 2 (List.map TApiLsKey.enc vs1.Merge.Tree.Keys), .psl 1 (List.map (encInt .i64) vs1.Merge.Tree.Lose), .int .i64 vs1.Merge.Tree.Win, .bool vs1.Shadow.Some, .str vs1.Shadow.Last, .bool vs1.Shadow.Bottom, .psl 4 (List.map TApiEntry.enc vs1.Out), .int .i64 vs1.Steps]]⟩), (8, ⟨0, true, true, 10, [[.nils, .nils, .nils, .nils, .int .i64 0, .bool false, .str [], .bool false, .nils, .int .i64 0]]⟩), (224, ⟨0, true, false, 10, [[.psl 1 (List.map (encSl 4 TApiEntry.enc) vs1.Merge.Runs), .psl 1 (List.map (encInt .i64) vs1.Merge.At), .psl 2 (List.map TApiLsKey.enc vs1.Merge.Tree.Keys), .psl 1 (List.map (encInt .i64) vs1.Merge.Tree.Lose), .int .i64 vs1.Merge.Tree.Win, .bool vs1.Shadow.Some, .str vs1.Shadow.Last, .bool vs1.Shadow.Bottom, .sl 256 0 4 0 vs1.Out.length, .int .i64 vs1.Steps]]⟩), (256, ⟨0, true, true, 4, List.map TApiEntry.enc vs1.Out⟩), (312, ⟨0, false, true, 1, List.map (encInt .i64) vs1.Merge.At⟩)], 392, []⟩) [] (Nat.le_of_ble_eq_true rfl) ⟨rF, rE, rfl, rfl, trivial, trivial⟩ ?_
    obtain ⟨x42, hxx42, h0⟩ := bindS h0
    refine awp_bloop (fun s' => ∃ o62 : List (List TApiEntry) × List Int × List TApiLsKey × List Int × Int × Bool × List UInt8 × Bool × Int × List TApiEntry, ∃ g63 : Nat, x42 = .inl o62 ∧ s'.nx ≤ 400 ∧ LeN [] s' ⟨[], [(0, ⟨0, true, true, 10, [[.psl 1 (List.map (encSl 4 TApiEntry.enc) vs1.Merge.Runs), .psl 1 (List.map (encInt .i64) vs1.Merge.At), .psl 2 (List.map TApiLsKey.enc vs1.Merge.Tree.Keys), .psl 1 (List.map (encInt .i64) vs1.Merge.Tree.Lose), .int .i64 vs1.Merge.Tree.Win, .bool vs1.Shadow.Some, .str vs1.Shadow.Last, .bool vs1.Shadow.Bottom, .psl 4 (List.map TApiEntry.enc vs1.Out), .int .i64 vs1.Steps]]⟩), (8, ⟨0, true, true, 10, [[.nils, .nils, .nils, .nils, .int .i64 0, .bool false, .str [], .bool false, .nils, .int .i64 0]]⟩), (224, ⟨0, true, false, 10, [[.psl 1 (List.map (encSl 4 TApiEntry.enc) o62.1), .psl 1 (List.map (encInt .i64) o62.2.1), .psl 2 (List.map TApiLsKey.enc o62.2.2.1), .psl 1 (List.map (encInt .i64) o62.2.2.2.1), .int .i64 o62.2.2.2.2.1, .bool o62.2.2.2.2.2.1, .str o62.2.2.2.2.2.2.1, .bool o62.2.2.2.2.2.2.2.1, .sl 256 g63 4 0 o62.2.2.2.2.2.2.2.2.2.length, .int .i64 o62.2.2.2.2.2.2.2.2.1]]⟩), (256, ⟨g63, true, true, 4, List.map TApiEntry.enc o62.2.2.2.2.2.2.2.2.2⟩), (312, ⟨0, false, true, 1, List.map (encInt .i64) vs1.Merge.At⟩)], 400, []⟩) ?_ ?_
    ·
     intro s' hs
     obtain ⟨o62, g63, rfl, hn, hs⟩ := hs
     refine kn_then ?_
     refine awp_re [] hn hs ?_
     refine awp_sr2 408 [4] (fun _ => none) rfl (fun _ _ => rT) ?_
     refine awp_ret ?_
     refine leave_retK (fun _ _ => rT) ?_
     refine awpo_re (s2 := ⟨[(4, .ref 8 0 0 0), (5, .int .i64 (if vr3.1 < n2 then vr3.1 else n2)), (8, .ref 224 0 0 0), (47, .int .i64 (if vr3.1 < n2 then vr3.1 else n2)), (48, .fn 39 [.ref 224 0 0 0] []), (49, .int .i64 0)], [(0, ⟨0, true, true, 10, [[.psl 1 (List.map (encSl 4 TApiEntry.enc) vs1.Merge.Runs), .psl 1 (List.map (encInt .i64) vs1.Merge.At), .psl 2 (List.map TApiLsKey.enc vs1.Merge.Tree.Keys), .psl 1 (List.map (encInt .i64) vs1.Merge.Tree.Lose), .int .i64 vs1.Merge.Tree.Win, .bool vs1.Shadow.Some, .str vs1.Shadow.Last, .bool vs1.Shadow.Bottom, .psl 4 (List.map TApiEntry.enc vs1.Out), .int .i64 vs1.Steps]]⟩), (8, ⟨0, true, true, 10, [[.nils, .nils, .nils, .nils, .int .i64 0, .bool false, .str [], .bool false, .nils, .int .i64 0]]⟩), (224, ⟨0, true, false, 10, [[.psl 1 (List.map (encSl 4 TApiEntry.enc) o62.1), .psl 1 (List.map (encInt .i64) o62.2.1), .psl 2 (List.map TApiLsKey.enc o62.2.2.1), .psl 1 (List.map (encInt .i64) o62.2.2.2.1), .int .i64 o62.2.2.2.2.1, .bool o62.2.2.2.2.2.1, .str o62.2.2.2.2.2.2.1, .bool o62.2.2.2.2.2.2.2.1, .sl 256 g63 4 0 o62.2.2.2.2.2.2.2.2.2.length, .int .i64 o62.2.2.2.2.2.2.2.2.1]]⟩), (256, ⟨g63, true, true, 4, List.map TApiEntry.enc o62.2.2.2.2.2.2.2.2.2⟩), (312, ⟨0, false, true, 1, List.map (encInt .i64) vs1.Merge.At⟩)], 408, []⟩) [] (Nat.le_of_ble_eq_true rfl) ⟨rF, rE, rfl, rfl, trivial, trivial⟩ ?_
     refine awpo_cut (l' := List.range' 3 1 ++ []) rfl ?_
     refine awpo_seg 3 1 416 [] (fun _ => none) rfl rfl rfl (fun _ _ => rT) ?_
     refine awpo_nil ?_
     refine kn_then ?_
     refine awp_re (s2 := ⟨[(4, .ref 8 0 0 0), (5, .int .i64 (if vr3.1 < n2 then vr3.1 else n2)), (8, .ref 224 0 0 0), (9, .int .i64 0)], [(0, ⟨0, true, true, 10, [[.psl 1 (List.map (encSl 4 TApiEntry.enc) vs1.Merge.Runs), .psl 1 (List.map (encInt .i64) vs1.Merge.At), .psl 2 (List.map TApiLsKey.enc vs1.Merge.Tree.Keys), .psl 1 (List.map (encInt .i64) vs1.Merge.Tree.Lose), .int .i64 vs1.Merge.Tree.Win, .bool vs1.Shadow.Some, .str vs1.Shadow.Last, .bool vs1.Shadow.Bottom, .psl 4 (List.map TApiEntry.enc vs1.Out), .int .i64 vs1.Steps]]⟩), (8, ⟨0, true, true, 10, [[.nils, .nils, .nils, .nils, .int .i64 0, .bool false, .str [], .bool false, .nils, .int .i64 0]]⟩), (224, ⟨0, true, false, 10, [[.psl 1 (List.map (encSl 4 TApiEntry.enc) o62.1), .psl 1 (List.map (encInt .i64) o62.2.1), .psl 2 (List.map TApiLsKey.enc o62.2.2.1), .psl 1 (List.map (encInt .i64) o62.2.2.2.1), .int .i64 o62.2.2.2.2.1, .bool o62.2.2.2.2.2.1, .str o62.2.2.2.2.2.2.1, .bool o62.2.2.2.2.2.2.2.1, .sl 256 g63 4 0 o62.2.2.2.2.2.2.2.2.2.length, .int .i64 o62.2.2.2.2.2.2.2.2.1]]⟩), (256, ⟨g63, true, true, 4, List.map TApiEntry.enc o62.2.2.2.2.2.2.2.2.2⟩), (312, ⟨0, false, true, 1, List.map (encInt .i64) vs1.Merge.At⟩)], 416, []⟩) [] (Nat.le_of_ble_eq_true rfl) ⟨rF, rE, rfl, rfl, trivial, trivial⟩ ?_
     refine awp_sr2 432 [4, 5, 8, 9, 51] (fun _ => none) rfl (fun _ _ => rT) ?_
     refine awp_condF rfl ?_
     refine awp_skip ?_
     refine kn_then ?_
     refine awp_sr2 480 [4, 5, 6] (fun _ => none) rfl (fun _ _ => rT) ?_
     refine awp_ret ?_
     obtain rfl := Option.some.inj h0
     refine leave_retG [] ?_
     exact rG
    ·
     refine awp_loopF (ι := { p : Nat × Int × List (List TApiEntry) × List Int × List TApiLsKey × List Int × Int × Bool × List UInt8 × Bool × Int × List TApiEntry × Nat // slices_Step_l1 vr3 n2 p.1 p.2.1 p.2.2.1 p.2.2.2.1 p.2.2.2.2.1 p.2.2.2.2.2.1 p.2.2.2.2.2.2.1 p.2.2.2.2.2.2.2.1 p.2.2.2.2.2.2.2.2.1 p.2.2.2.2.2.2.2.2.2.1 p.2.2.2.2.2.2.2.2.2.2.1 p.2.2.2.2.2.2.2.2.2.2.2.1 = some x42 }) (fun p => ⟨[(1, .fn 39 [.ref 224 0 0 0] []), (6, .int .i64 (if vr3.1 < n2 then vr3.1 else n2)), (7, .int .i64 p.1.2.1)], [(0, ⟨0, true, true, 10, [[.psl 1 (List.map (encSl 4 TApiEntry.enc) vs1.Merge.Runs), .psl 1 (List.map (encInt .i64) vs1.Merge.At), .psl 2 (List.map TApiLsKey.enc vs1.Merge.Tree.Keys), .psl 1 (List.map (encInt .i64) vs1.Merge.Tree.Lose), .int .i64 vs1.Merge.Tree.Win, .bool vs1.Shadow.Some, .str vs1.Shadow.Last, .bool vs1.Shadow.Bottom, .psl 4 (List.map TApiEntry.enc vs1.Out), .int .i64 vs1.Steps]]⟩), (8, ⟨0, true, true, 10, [[.nils, .nils, .nils, .nils, .int .i64 0, .bool false, .str [], .bool false, .nils, .int .i64 0]]⟩), (224, ⟨0, true, false, 10, [[.psl 1 (List.map (encSl 4 TApiEntry.enc) p.1.2.2.1), .psl 1 (List.map (encInt .i64) p.1.2.2.2.1), .psl 2 (List.map TApiLsKey.enc p.1.2.2.2.2.1), .psl 1 (List.map (encInt .i64) p.1.2.2.2.2.2.1), .int .i64 p.1.2.2.2.2.2.2.1, .bool p.1.2.2.2.2.2.2.2.1, .str p.1.2.2.2.2.2.2.2.2.1, .bool p.1.2.2.2.2.2.2.2.2.2.1, .sl 256 p.1.2.2.2.2.2.2.2.2.2.2.2.2 4 0 p.1.2.2.2.2.2.2.2.2.2.2.2.1.length, .int .i64 p.1.2.2.2.2.2.2.2.2.2.2.1]]⟩), (256, ⟨p.1.2.2.2.2.2.2.2.2.2.2.2.2, true, true, 4, List.map TApiEntry.enc p.1.2.2.2.2.2.2.2.2.2.2.2.1⟩), (312, ⟨0, false, true, 1, List.map (encInt .i64) vs1.Merge.At⟩)], 392, []⟩) (fun p => p.1.1) ⟨(fu, 0, vs1.Merge.Runs, vs1.Merge.At, vs1.Merge.Tree.Keys, vs1.Merge.Tree.Lose, vs1.Merge.Tree.Win, vs1.Shadow.Some, vs1.Shadow.Last, vs1.Shadow.Bottom, vs1.Steps, vs1.Out, 0), hxx42⟩ ⟨rF, rE, rfl, rfl, trivial, trivial⟩ (fun _ => Nat.le_refl _) ?_
     rintro ⟨⟨fu, left43, v44, v45, v46, v47, v48, v49, v50, v51, v52, v53, g54⟩, h1⟩
     cases fu with
     | zero =>
   replace h1 : slices_Step_l1 vr3 n2 0 left43 v44 v45 v46 v47 v48 v49 v50 v51 v52 v53 = some x42 := h1
   rw [slices_Step_l1] at h1; cases h1
     | succ fu =>
      replace h1 : slices_Step_l1 vr3 n2 (fu + 1) left43 v44 v45 v46 v47 v48 v49 v50 v51 v52 v53 = some x42 := h1
      rw [slices_Step_l1] at h1
      refine (show AWP _ _ _ _ ⟨[(1, .fn 39 [.ref 224 0 0 0] []), (6, .int .i64 (if vr3.1 < n2 then vr3.1 else n2)), (7, .int .i64 left43)], [(0, ⟨0, true, true, 10, [[.psl 1 (List.map (encSl 4 TApiEntry.enc) vs1.Merge.Runs), .psl 1 (List.map (encInt .i64) vs1.Merge.At), .psl 2 (List.map TApiLsKey.enc vs1.Merge.Tree.Keys), .psl 1 (List.map (encInt .i64) vs1.Merge.Tree.Lose), .int .i64 vs1.Merge.Tree.Win, .bool vs1.Shadow.Some, .str vs1.Shadow.Last, .bool vs1.Shadow.Bottom, .psl 4 (List.map TApiEntry.enc vs1.Out), .int .i64 vs1.Steps]]⟩), (8, ⟨0, true, true, 10, [[.nils, .nils, .nils, .nils, .int .i64 0, .bool false, .str [], .bool false, .nils, .int .i64 0]]⟩), (224, ⟨0, true, false, 10, [[.psl 1 (List.map (encSl 4 TApiEntry.enc) v44), .psl 1 (List.map (encInt .i64) v45), .psl 2 (List.map TApiLsKey.enc v46), .psl 1 (List.map (encInt .i64) v47), .int .i64 v48, .bool v49, .str v50, .bool v51, .sl 256 g54 4 0 v53.length, .int .i64 v52]]⟩), (256, ⟨g54, true, true, 4, List.map TApiEntry.enc v53⟩), (312, ⟨0, false, true, 1, List.map (encInt .i64) vs1.Merge.At⟩)], 392, []⟩ from ?_)
      refine awp_sr2 400 [1, 6, 7, 8] (fun _ => none) rfl (fun _ _ => rT) ?_
      refine awp_seq ?_
      refine awp_if rfl (fun hb55 => ?_) (fun hb55 => ?_)
      ·
       replace h1 := iteT h1 hb55
       refine awp_skip ?_
       refine kn_then ?_
       refine awp_seq ?_
       refine awp_block ?_
       refine awp_sops2 3 rfl ?_
       refine awpo_cut (l' := List.range' 0 1 ++ (1 :: (List.range' 2 1 ++ []))) rfl ?_
       refine awpo_seg 0 1 408 (1 :: (List.range' 2 1 ++ [])) (fun _ => none) rfl rfl rfl (fun _ _ => rT) ?_
       refine awpo_in rfl rfl rfl rfl rfl Try.func39 rfl (by decide) rfl (Nat.le_of_ble_eq_true rfl) ?_
       dsimp only [Try.f39]
       refine awp_re (s2 := ⟨[(0, .ref 224 0 0 0)], [(0, ⟨0, true, true, 10, [[.psl 1 (List.map (encSl 4 TApiEntry.enc) vs1.Merge.Runs), .psl 1 (List.map (encInt .i64) vs1.Merge.At), .psl 2 (List.map TApiLsKey.enc vs1.Merge.Tree.Keys), .psl 1 (List.map (encInt .i64) vs1.Merge.Tree.Lose), .int .i64 vs1.Merge.Tree.Win, .bool vs1.Shadow.Some, .str vs1.Shadow.Last, .bool vs1.Shadow.Bottom, .psl 4 (List.map TApiEntry.enc vs1.Out), .int .i64 vs1.Steps]]⟩), (8, ⟨0, true, true, 10, [[.nils, .nils, .nils, .nils, .int .i64 0, .bool false, .str [], .bool false, .nils, .int .i64 0]]⟩), (224, ⟨0, true, false, 10, [[.psl 1 (List.map (encSl 4 TApiEntry.enc) v44), .psl 1 (List.map (encInt .i64) v45), .psl 2 (List.map TApiLsKey.enc v46), .psl 1 (List.map (encInt .i64) v47), .int .i64 v48, .bool v49, .str v50, .bool v51, .sl 256 g54 4 0 v53.length, .int .i64 v52]]⟩), (256, ⟨g54, true, true, 4, List.map TApiEntry.enc v53⟩), (312, ⟨0, false, true, 1, List.map (encInt .i64) vs1.Merge.At⟩)], 408, []⟩) [] (Nat.le_of_ble_eq_true rfl) ⟨rF, rE, rfl, rfl, trivial, trivial⟩ ?_
       refine awp_sr2 416 [0] (fun _ => none) rfl (fun _ _ => rT) ?_
       obtain ⟨vr56, hvr56, h1⟩ := bindS h1
       refine awp_sr2 552 [0, 3, 5, 6] (fun | 5 => some (.tup [.agg (TApiEntry.enc vr56.1), .int .i64 vr56.2.1, .agg (TApiMgState.enc vr56.2.2.1), .int .i64 vr56.2.2.2], []) | _ => none) rfl (fun _ _ => rC (c_merge_Next hvr56)) ?_
       refine awp_seq ?_
       refine awp_sr2 568 [0, 3, 5, 6, 21] (fun _ => none) rfl (fun _ _ => rT) ?_
       refine awp_if rfl (fun hb57 => ?_) (fun hb57 => ?_)
       ·
        replace h1 := iteT h1 hb57
        refine awp_sr2 584 [2] (fun _ => none) rfl (fun _ _ => rT) ?_
        refine awp_ret ?_
        refine kr_then ?_
        refine leave_retK (fun _ _ => rT) ?_
        refine awpo_re (s2 := ⟨[(1, .fn 39 [.ref 224 0 0 0] []), (6, .int .i64 (if vr3.1 < n2 then vr3.1 else n2)), (7, .int .i64 left43), (8, .bool (decide (left43 < (if vr3.1 < n2 then vr3.1 else n2)))), (9, .fn 39 [.ref 224 0 0 0] []), (10, .int .i64 vr56.2.2.2)], [(0, ⟨0, true, true, 10, [[.psl 1 (List.map (encSl 4 TApiEntry.enc) vs1.Merge.Runs), .psl 1 (List.map (encInt .i64) vs1.Merge.At), .psl 2 (List.map TApiLsKey.enc vs1.Merge.Tree.Keys), .psl 1 (List.map (encInt .i64) vs1.Merge.Tree.Lose), .int .i64 vs1.Merge.Tree.Win, .bool vs1.Shadow.Some, .str vs1.Shadow.Last, .bool vs1.Shadow.Bottom, .psl 4 (List.map TApiEntry.enc vs1.Out), .int .i64 vs1.Steps]]⟩), (8, ⟨0, true, true, 10, [[.nils, .nils, .nils, .nils, .int .i64 0, .bool false, .str [], .bool false, .nils, .int .i64 0]]⟩), (224, ⟨0, true, false, 10, [[.psl 1 (List.map (encSl 4 TApiEntry.enc) v44), .psl 1 (List.map (encInt .i64) v45), .psl 2 (List.map TApiLsKey.enc v46), .psl 1 (List.map (encInt .i64) v47), .int .i64 v48, .bool v49, .str v50, .bool v51, .sl 256 g54 4 0 v53.length, .int .i64 v52]]⟩), (256, ⟨g54, true, true, 4, List.map TApiEntry.enc v53⟩), (312, ⟨0, false, true, 1, List.map (encInt .i64) vs1.Merge.At⟩)], 584, []⟩) [] (Nat.le_of_ble_eq_true rfl) ⟨rF, rE, rfl, rfl, trivial, trivial⟩ ?_
        refine awpo_cut (l' := List.range' 2 1 ++ []) rfl ?_
        refine awpo_seg 2 1 592 [] (fun _ => none) rfl rfl rfl (fun _ _ => rT) ?_
        refine awpo_nil ?_
        refine kn_then ?_
        refine awp_re (s2 := ⟨[(1, .fn 39 [.ref 224 0 0 0] []), (5, .int .i64 vr56.2.2.2), (6, .int .i64 (if vr3.1 < n2 then vr3.1 else n2)), (7, .int .i64 left43)], [(0, ⟨0, true, true, 10, [[.psl 1 (List.map (encSl 4 TApiEntry.enc) vs1.Merge.Runs), .psl 1 (List.map (encInt .i64) vs1.Merge.At), .psl 2 (List.map TApiLsKey.enc vs1.Merge.Tree.Keys), .psl 1 (List.map (encInt .i64) vs1.Merge.Tree.Lose), .int .i64 vs1.Merge.Tree.Win, .bool vs1.Shadow.Some, .str vs1.Shadow.Last, .bool vs1.Shadow.Bottom, .psl 4 (List.map TApiEntry.enc vs1.Out), .int .i64 vs1.Steps]]⟩), (8, ⟨0, true, true, 10, [[.nils, .nils, .nils, .nils, .int .i64 0, .bool false, .str [], .bool false, .nils, .int .i64 0]]⟩), (224, ⟨0, true, false, 10, [[.psl 1 (List.map (encSl 4 TApiEntry.enc) v44), .psl 1 (List.map (encInt .i64) v45), .psl 2 (List.map TApiLsKey.enc v46), .psl 1 (List.map (encInt .i64) v47), .int .i64 v48, .bool v49, .str v50, .bool v51, .sl 256 g54 4 0 v53.length, .int .i64 v52]]⟩), (256, ⟨g54, true, true, 4, List.map TApiEntry.enc v53⟩), (312, ⟨0, false, true, 1, List.map (encInt .i64) vs1.Merge.At⟩)], 592, []⟩) [] (Nat.le_of_ble_eq_true rfl) ⟨rF, rE, rfl, rfl, trivial, trivial⟩ ?_
        refine awp_sr2 608 [1, 5, 6, 7, 12] (fun _ => none) rfl (fun _ _ => rT) ?_
        refine awp_condKT rfl hb57 ?_
        refine awp_sr2 624 [4] (fun _ => none) rfl (fun _ _ => rT) ?_
        refine awp_ret ?_
        obtain rfl := Option.some.inj h1
        refine kr_block ?_
        refine kr_then ?_
        refine kr_then ?_
        refine kr_loop ?_
        refine kr_then ?_
        refine leave_retK (fun _ _ => rT) ?_
        refine awpo_re (s2 := ⟨[(4, .ref 8 0 0 0), (5, .int .i64 (if vr3.1 < n2 then vr3.1 else n2)), (8, .ref 224 0 0 0), (47, .int .i64 (if vr3.1 < n2 then vr3.1 else n2)), (48, .fn 39 [.ref 224 0 0 0] []), (49, .int .i64 vr56.2.2.2)], [(0, ⟨0, true, true, 10, [[.psl 1 (List.map (encSl 4 TApiEntry.enc) vs1.Merge.Runs), .psl 1 (List.map (encInt .i64) vs1.Merge.At), .psl 2 (List.map TApiLsKey.enc vs1.Merge.Tree.Keys), .psl 1 (List.map (encInt .i64) vs1.Merge.Tree.Lose), .int .i64 vs1.Merge.Tree.Win, .bool vs1.Shadow.Some, .str vs1.Shadow.Last, .bool vs1.Shadow.Bottom, .psl 4 (List.map TApiEntry.enc vs1.Out), .int .i64 vs1.Steps]]⟩), (8, ⟨0, true, true, 10, [[.nils, .nils, .nils, .nils, .int .i64 0, .bool false, .str [], .bool false, .nils, .int .i64 0]]⟩), (224, ⟨0, true, false, 10, [[.psl 1 (List.map (encSl 4 TApiEntry.enc) v44), .psl 1 (List.map (encInt .i64) v45), .psl 2 (List.map TApiLsKey.enc v46), .psl 1 (List.map (encInt .i64) v47), .int .i64 v48, .bool v49, .str v50, .bool v51, .sl 256 g54 4 0 v53.length, .int .i64 v52]]⟩), (256, ⟨g54, true, true, 4, List.map TApiEntry.enc v53⟩), (312, ⟨0, false, true, 1, List.map (encInt .i64) vs1.Merge.At⟩)], 624, []⟩) [] (Nat.le_of_ble_eq_true rfl) ⟨rF, rE, rfl, rfl, trivial, trivial⟩ ?_
        refine awpo_cut (l' := List.range' 3 1 ++ []) rfl ?_
        refine awpo_seg 3 1 632 [] (fun _ => none) rfl rfl rfl (fun _ _ => rT) ?_
        refine awpo_nil ?_
        refine kn_then ?_
        refine awp_re (s2 := ⟨[(4, .ref 8 0 0 0), (5, .int .i64 (if vr3.1 < n2 then vr3.1 else n2)), (8, .ref 224 0 0 0), (9, .int .i64 vr56.2.2.2)], [(0, ⟨0, true, true, 10, [[.psl 1 (List.map (encSl 4 TApiEntry.enc) vs1.Merge.Runs), .psl 1 (List.map (encInt .i64) vs1.Merge.At), .psl 2 (List.map TApiLsKey.enc vs1.Merge.Tree.Keys), .psl 1 (List.map (encInt .i64) vs1.Merge.Tree.Lose), .int .i64 vs1.Merge.Tree.Win, .bool vs1.Shadow.Some, .str vs1.Shadow.Last, .bool vs1.Shadow.Bottom, .psl 4 (List.map TApiEntry.enc vs1.Out), .int .i64 vs1.Steps]]⟩), (8, ⟨0, true, true, 10, [[.nils, .nils, .nils, .nils, .int .i64 0, .bool false, .str [], .bool false, .nils, .int .i64 0]]⟩), (224, ⟨0, true, false, 10, [[.psl 1 (List.map (encSl 4 TApiEntry.enc) v44), .psl 1 (List.map (encInt .i64) v45), .psl 2 (List.map TApiLsKey.enc v46), .psl 1 (List.map (encInt .i64) v47), .int .i64 v48, .bool v49, .str v50, .bool v51, .sl 256 g54 4 0 v53.length, .int .i64 v52]]⟩), (256, ⟨g54, true, true, 4, List.map TApiEntry.enc v53⟩), (312, ⟨0, false, true, 1, List.map (encInt .i64) vs1.Merge.At⟩)], 632, []⟩) [] (Nat.le_of_ble_eq_true rfl) ⟨rF, rE, rfl, rfl, trivial, trivial⟩ ?_
        refine awp_sr2 648 [4, 5, 8, 9, 51] (fun _ => none) rfl (fun _ _ => rT) ?_
        refine awp_condKT rfl hb57 ?_
        refine awp_sr2 688 [4, 5, 6] (fun _ => none) rfl (fun _ _ => rT) ?_
        refine awp_ret ?_
        refine kr_then ?_
        obtain rfl := Option.some.inj h0
        refine leave_retG [] ?_
        exact rG
       ·
        replace h1 := iteF h1 hb57
        refine awp_skip ?_
        refine kn_then ?_
        obtain ⟨vr58, hvr58, h1⟩ := bindS h1
        refine awp_sd2 688 [0, 3, 5, 6, 7, 8] (fun | 6 => some (.tup [.bool vr58.1, .agg (TApiShState.enc vr58.2.1), .int .i64 vr58.2.2], []) | _ => none) rfl rfl rfl (fun _ _ => rCd (c_shadow_Step hvr58)) ?_
        refine awp_seq ?_
        refine awp_sr2 704 [0, 3, 5, 6, 7, 8, 35] (fun _ => none) rfl (fun _ _ => rT) ?_
        refine awp_if rfl (fun hb59 => ?_) (fun hb59 => ?_)
        ·
         replace h1 := iteT h1 hb59
         refine awp_sr2 720 [2] (fun _ => none) rfl (fun _ _ => rT) ?_
         refine awp_ret ?_
         refine kr_then ?_
         refine leave_retK (fun _ _ => rT) ?_
         refine awpo_re (s2 := ⟨[(1, .fn 39 [.ref 224 0 0 0] []), (6, .int .i64 (if vr3.1 < n2 then vr3.1 else n2)), (7, .int .i64 left43), (8, .bool (decide (left43 < (if vr3.1 < n2 then vr3.1 else n2)))), (9, .fn 39 [.ref 224 0 0 0] []), (10, .int .i64 vr58.2.2)], [(0, ⟨0, true, true, 10, [[.psl 1 (List.map (encSl 4 TApiEntry.enc) vs1.Merge.Runs), .psl 1 (List.map (encInt .i64) vs1.Merge.At), .psl 2 (List.map TApiLsKey.enc vs1.Merge.Tree.Keys), .psl 1 (List.map (encInt .i64) vs1.Merge.Tree.Lose), .int .i64 vs1.Merge.Tree.Win, .bool vs1.Shadow.Some, .str vs1.Shadow.Last, .bool vs1.Shadow.Bottom, .psl 4 (List.map TApiEntry.enc vs1.Out), .int .i64 vs1.Steps]]⟩), (8, ⟨0, true, true, 10, [[.nils, .nils, .nils, .nils, .int .i64 0, .bool false, .str [], .bool false, .nils, .int .i64 0]]⟩), (224, ⟨0, true, false, 10, [[.psl 1 (List.map (encSl 4 TApiEntry.enc) v44), .psl 1 (List.map (encInt .i64) v45), .psl 2 (List.map TApiLsKey.enc v46), .psl 1 (List.map (encInt .i64) v47), .int .i64 v48, .bool v49, .str v50, .bool v51, .sl 256 g54 4 0 v53.length, .int .i64 v52]]⟩), (256, ⟨g54, true, true, 4, List.map TApiEntry.enc v53⟩), (312, ⟨0, false, true, 1, List.map (encInt .i64) vs1.Merge.At⟩)], 720, []⟩) [] (Nat.le_of_ble_eq_true rfl) ⟨rF, rE, rfl, rfl, trivial, trivial⟩ ?_
         refine awpo_cut (l' := List.range' 2 1 ++ []) rfl ?_
         refine awpo_seg 2 1 728 [] (fun _ => none) rfl rfl rfl (fun _ _ => rT) ?_
         refine awpo_nil ?_
         refine kn_then ?_
         refine awp_re (s2 := ⟨[(1, .fn 39 [.ref 224 0 0 0] []), (5, .int .i64 vr58.2.2), (6, .int .i64 (if vr3.1 < n2 then vr3.1 else n2)), (7, .int .i64 left43)], [(0, ⟨0, true, true, 10, [[.psl 1 (List.map (encSl 4 TApiEntry.enc) vs1.Merge.Runs), .psl 1 (List.map (encInt .i64) vs1.Merge.At), .psl 2 (List.map TApiLsKey.enc vs1.Merge.Tree.Keys), .psl 1 (List.map (encInt .i64) vs1.Merge.Tree.Lose), .int .i64 vs1.Merge.Tree.Win, .bool vs1.Shadow.Some, .str vs1.Shadow.Last, .bool vs1.Shadow.Bottom, .psl 4 (List.map TApiEntry.enc vs1.Out), .int .i64 vs1.Steps]]⟩), (8, ⟨0, true, true, 10, [[.nils, .nils, .nils, .nils, .int .i64 0, .bool false, .str [], .bool false, .nils, .int .i64 0]]⟩), (224, ⟨0, true, false, 10, [[.psl 1 (List.map (encSl 4 TApiEntry.enc) v44), .psl 1 (List.map (encInt .i64) v45), .psl 2 (List.map TApiLsKey.enc v46), .psl 1 (List.map (encInt .i64) v47), .int .i64 v48, .bool v49, .str v50, .bool v51, .sl 256 g54 4 0 v53.length, .int .i64 v52]]⟩), (256, ⟨g54, true, true, 4, List.map TApiEntry.enc v53⟩), (312, ⟨0, false, true, 1, List.map (encInt .i64) vs1.Merge.At⟩)], 728, []⟩) [] (Nat.le_of_ble_eq_true rfl) ⟨rF, rE, rfl, rfl, trivial, trivial⟩ ?_
         refine awp_sr2 744 [1, 5, 6, 7, 12] (fun _ => none) rfl (fun _ _ => rT) ?_
         refine awp_condKT rfl hb59 ?_
         refine awp_sr2 760 [4] (fun _ => none) rfl (fun _ _ => rT) ?_
         refine awp_ret ?_
         obtain rfl := Option.some.inj h1
         refine kr_block ?_
         refine kr_then ?_
         refine kr_then ?_
         refine kr_loop ?_
         refine kr_then ?_
         refine leave_retK (fun _ _ => rT) ?_
         refine awpo_re (s2 := ⟨[(4, .ref 8 0 0 0), (5, .int .i64 (if vr3.1 < n2 then vr3.1 else n2)), (8, .ref 224 0 0 0), (47, .int .i64 (if vr3.1 < n2 then vr3.1 else n2)), (48, .fn 39 [.ref 224 0 0 0] []), (49, .int .i64 vr58.2.2)], [(0, ⟨0, true, true, 10, [[.psl 1 (List.map (encSl 4 TApiEntry.enc) vs1.Merge.Runs), .psl 1 (List.map (encInt .i64) vs1.Merge.At), .psl 2 (List.map TApiLsKey.enc vs1.Merge.Tree.Keys), .psl 1 (List.map (encInt .i64) vs1.Merge.Tree.Lose), .int .i64 vs1.Merge.Tree.Win, .bool vs1.Shadow.Some, .str vs1.Shadow.Last, .bool vs1.Shadow.Bottom, .psl 4 (List.map TApiEntry.enc vs1.Out), .int .i64 vs1.Steps]]⟩), (8, ⟨0, true, true, 10, [[.nils, .nils, .nils, .nils, .int .i64 0, .bool false, .str [], .bool false, .nils, .int .i64 0]]⟩), (224, ⟨0, true, false, 10, [[.psl 1 (List.map (encSl 4 TApiEntry.enc) v44), .psl 1 (List.map (encInt .i64) v45), .psl 2 (List.map TApiLsKey.enc v46), .psl 1 (List.map (encInt .i64) v47), .int .i64 v48, .bool v49, .str v50, .bool v51, .sl 256 g54 4 0 v53.length, .int .i64 v52]]⟩), (256, ⟨g54, true, true, 4, List.map TApiEntry.enc v53⟩), (312, ⟨0, false, true, 1, List.map (encInt .i64) vs1.Merge.At⟩)], 760, []⟩) [] (Nat.le_of_ble_eq_true rfl) ⟨rF, rE, rfl, rfl, trivial, trivial⟩ ?_
         refine awpo_cut (l' := List.range' 3 1 ++ []) rfl ?_
         refine awpo_seg 3 1 768 [] (fun _ => none) rfl rfl rfl (fun _ _ => rT) ?_
         refine awpo_nil ?_
         refine kn_then ?_
         refine awp_re (s2 := ⟨[(4, .ref 8 0 0 0), (5, .int .i64 (if vr3.1 < n2 then vr3.1 else n2)), (8, .ref 224 0 0 0), (9, .int .i64 vr58.2.2)], [(0, ⟨0, true, true, 10, [[.psl 1 (List.map (encSl 4 TApiEntry.enc) vs1.Merge.Runs), .psl 1 (List.map (encInt .i64) vs1.Merge.At), .psl 2 (List.map TApiLsKey.enc vs1.Merge.Tree.Keys), .psl 1 (List.map (encInt .i64) vs1.Merge.Tree.Lose), .int .i64 vs1.Merge.Tree.Win, .bool vs1.Shadow.Some, .str vs1.Shadow.Last, .bool vs1.Shadow.Bottom, .psl 4 (List.map TApiEntry.enc vs1.Out), .int .i64 vs1.Steps]]⟩), (8, ⟨0, true, true, 10, [[.nils, .nils, .nils, .nils, .int .i64 0, .bool false, .str [], .bool false, .nils, .int .i64 0]]⟩), (224, ⟨0, true, false, 10, [[.psl 1 (List.map (encSl 4 TApiEntry.enc) v44), .psl 1 (List.map (encInt .i64) v45), .psl 2 (List.map TApiLsKey.enc v46), .psl 1 (List.map (encInt .i64) v47), .int .i64 v48, .bool v49, .str v50, .bool v51, .sl 256 g54 4 0 v53.length, .int .i64 v52]]⟩), (256, ⟨g54, true, true, 4, List.map TApiEntry.enc v53⟩), (312, ⟨0, false, true, 1, List.map (encInt .i64) vs1.Merge.At⟩)], 768, []⟩) [] (Nat.le_of_ble_eq_true rfl) ⟨rF, rE, rfl, rfl, trivial, trivial⟩ ?_
         refine awp_sr2 784 [4, 5, 8, 9, 51] (fun _ => none) rfl (fun _ _ => rT) ?_
         refine awp_condKT rfl hb59 ?_
         refine awp_sr2 824 [4, 5, 6] (fun _ => none) rfl (fun _ _ => rT) ?_
         refine awp_ret ?_
         refine kr_then ?_
         obtain rfl := Option.some.inj h0
         refine leave_retG [] ?_
         exact rG
        ·
         replace h1 := iteF h1 hb59
         refine awp_skip ?_
         refine kn_then ?_
         refine awp_sd2 800 [0, 3, 7] (fun _ => none) rfl rfl rfl (fun _ _ => rTd) ?_
         refine awp_sr2 880 [0, 3, 7] (fun _ => none) rfl (fun _ _ => rT) ?_
         refine awp_seq ?_
         refine awp_sr2 888 [0, 3, 56] (fun _ => none) rfl (fun _ _ => rT) ?_
         refine awp_if rfl (fun hb60 => ?_) (fun hb60 => ?_)
         ·
          replace h1 := iteT h1 hb60
          obtain ⟨hc61, h1⟩ := guS h1
          refine awp_d2 992 [] (fun _ => none) rfl rfl rfl (fun _ _ => rTd) ?_
          refine kn_then ?_
          refine awp_re (s2 := ⟨[], [(0, ⟨0, true, true, 10, [[.psl 1 (List.map (encSl 4 TApiEntry.enc) vs1.Merge.Runs), .psl 1 (List.map (encInt .i64) vs1.Merge.At), .psl 2 (List.map TApiLsKey.enc vs1.Merge.Tree.Keys), .psl 1 (List.map (encInt .i64) vs1.Merge.Tree.Lose), .int .i64 vs1.Merge.Tree.Win, .bool vs1.Shadow.Some, .str vs1.Shadow.Last, .bool vs1.Shadow.Bottom, .psl 4 (List.map TApiEntry.enc vs1.Out), .int .i64 vs1.Steps]]⟩), (8, ⟨0, true, true, 10, [[.nils, .nils, .nils, .nils, .int .i64 0, .bool false, .str [], .bool false, .nils, .int .i64 0]]⟩), (224, ⟨0, true, false, 10, [[.psl 1 (List.map (encSl 4 TApiEntry.enc) vr56.2.2.1.Runs), .psl 1 (List.map (encInt .i64) vr56.2.2.1.At), .psl 2 (List.map TApiLsKey.enc vr56.2.2.1.Tree.Keys), .psl 1 (List.map (encInt .i64) vr56.2.2.1.Tree.Lose), .int .i64 vr56.2.2.1.Tree.Win, .bool vr58.2.1.Some, .str vr58.2.1.Last, .bool vr58.2.1.Bottom, .sl 256 (g54 + 1) 4 0 ((v53 ++ [vr56.1]).length), .int .i64 (IntKind.i64.wrap (v52 + 1))]]⟩), (256, ⟨(g54 + 1), true, true, 4, List.map TApiEntry.enc (v53 ++ [vr56.1])⟩), (312, ⟨0, false, true, 1, List.map (encInt .i64) vs1.Merge.At⟩), (504, ⟨0, true, true, 4, [[.str vr56.1.Key, .str vr56.1.Val, .bool vr56.1.Dead, .int .i64 vr56.1.Seq]]⟩), (512, ⟨0, true, true, 5, [[.psl 1 (List.map (encSl 4 TApiEntry.enc) vr56.2.2.1.Runs), .psl 1 (List.map (encInt .i64) vr56.2.2.1.At), .psl 2 (List.map TApiLsKey.enc vr56.2.2.1.Tree.Keys), .psl 1 (List.map (encInt .i64) vr56.2.2.1.Tree.Lose), .int .i64 vr56.2.2.1.Tree.Win]]⟩), (656, ⟨0, true, true, 3, [[.bool vr58.2.1.Some, .str vr58.2.1.Last, .bool vr58.2.1.Bottom]]⟩), (944, ⟨0, true, true, 4, List.map TApiEntry.enc [vr56.1]⟩)], 992, []⟩) [] (Nat.le_of_ble_eq_true rfl) ⟨rF, rE, rfl, rfl, trivial, trivial⟩ ?_
          refine awp_sr2 1000 [2] (fun _ => none) rfl (fun _ _ => rT) ?_
          refine awp_ret ?_
          refine leave_retK (fun _ _ => rT) ?_
          refine awpo_re (s2 := ⟨[(1, .fn 39 [.ref 224 0 0 0] []), (6, .int .i64 (if vr3.1 < n2 then vr3.1 else n2)), (7, .int .i64 left43), (8, .bool (decide (left43 < (if vr3.1 < n2 then vr3.1 else n2)))), (9, .fn 39 [.ref 224 0 0 0] []), (10, .int .i64 0)], [(0, ⟨0, true, true, 10, [[.psl 1 (List.map (encSl 4 TApiEntry.enc) vs1.Merge.Runs), .psl 1 (List.map (encInt .i64) vs1.Merge.At), .psl 2 (List.map TApiLsKey.enc vs1.Merge.Tree.Keys), .psl 1 (List.map (encInt .i64) vs1.Merge.Tree.Lose), .int .i64 vs1.Merge.Tree.Win, .bool vs1.Shadow.Some, .str vs1.Shadow.Last, .bool vs1.Shadow.Bottom, .psl 4 (List.map TApiEntry.enc vs1.Out), .int .i64 vs1.Steps]]⟩), (8, ⟨0, true, true, 10, [[.nils, .nils, .nils, .nils, .int .i64 0, .bool false, .str [], .bool false, .nils, .int .i64 0]]⟩), (224, ⟨0, true, false, 10, [[.psl 1 (List.map (encSl 4 TApiEntry.enc) vr56.2.2.1.Runs), .psl 1 (List.map (encInt .i64) vr56.2.2.1.At), .psl 2 (List.map TApiLsKey.enc vr56.2.2.1.Tree.Keys), .psl 1 (List.map (encInt .i64) vr56.2.2.1.Tree.Lose), .int .i64 vr56.2.2.1.Tree.Win, .bool vr58.2.1.Some, .str vr58.2.1.Last, .bool vr58.2.1.Bottom, .sl 256 (g54 + 1) 4 0 ((v53 ++ [vr56.1]).length), .int .i64 (IntKind.i64.wrap (v52 + 1))]]⟩), (256, ⟨(g54 + 1), true, true, 4, List.map TApiEntry.enc (v53 ++ [vr56.1])⟩), (312, ⟨0, false, true, 1, List.map (encInt .i64) vs1.Merge.At⟩)], 1000, []⟩) [] (Nat.le_of_ble_eq_true rfl) ⟨rF, rE, rfl, rfl, trivial, trivial⟩ ?_
          refine awpo_cut (l' := List.range' 2 1 ++ []) rfl ?_
          refine awpo_seg 2 1 1008 [] (fun _ => none) rfl rfl rfl (fun _ _ => rT) ?_
          refine awpo_nil ?_
          refine kn_then ?_
          refine awp_re (s2 := ⟨[(1, .fn 39 [.ref 224 0 0 0] []), (5, .int .i64 0), (6, .int .i64 (if vr3.1 < n2 then vr3.1 else n2)), (7, .int .i64 left43)], [(0, ⟨0, true, true, 10, [[.psl 1 (List.map (encSl 4 TApiEntry.enc) vs1.Merge.Runs), .psl 1 (List.map (encInt .i64) vs1.Merge.At), .psl 2 (List.map TApiLsKey.enc vs1.Merge.Tree.Keys), .psl 1 (List.map (encInt .i64) vs1.Merge.Tree.Lose), .int .i64 vs1.Merge.Tree.Win, .bool vs1.Shadow.Some, .str vs1.Shadow.Last, .bool vs1.Shadow.Bottom, .psl 4 (List.map TApiEntry.enc vs1.Out), .int .i64 vs1.Steps]]⟩), (8, ⟨0, true, true, 10, [[.nils, .nils, .nils, .nils, .int .i64 0, .bool false, .str [], .bool false, .nils, .int .i64 0]]⟩), (224, ⟨0, true, false, 10, [[.psl 1 (List.map (encSl 4 TApiEntry.enc) vr56.2.2.1.Runs), .psl 1 (List.map (encInt .i64) vr56.2.2.1.At), .psl 2 (List.map TApiLsKey.enc vr56.2.2.1.Tree.Keys), .psl 1 (List.map (encInt .i64) vr56.2.2.1.Tree.Lose), .int .i64 vr56.2.2.1.Tree.Win, .bool vr58.2.1.Some, .str vr58.2.1.Last, .bool vr58.2.1.Bottom, .sl 256 (g54 + 1) 4 0 ((v53 ++ [vr56.1]).length), .int .i64 (IntKind.i64.wrap (v52 + 1))]]⟩), (256, ⟨(g54 + 1), true, true, 4, List.map TApiEntry.enc (v53 ++ [vr56.1])⟩), (312, ⟨0, false, true, 1, List.map (encInt .i64) vs1.Merge.At⟩)], 1008, []⟩) [] (Nat.le_of_ble_eq_true rfl) ⟨rF, rE, rfl, rfl, trivial, trivial⟩ ?_
          refine awp_sr2 1024 [1, 5, 6, 7, 12] (fun _ => none) rfl (fun _ _ => rT) ?_
          refine awp_condF rfl ?_
          refine awp_skip ?_
          refine kn_block ?_
          refine kn_then ?_
          refine awp_r2 1040 [1, 6, 7] (fun _ => none) rfl (fun _ _ => rT) ?_
          refine kn_then ?_
          exact ⟨⟨(fu, (IntKind.i64.wrap (left43 + 1)), vr56.2.2.1.Runs, vr56.2.2.1.At, vr56.2.2.1.Tree.Keys, vr56.2.2.1.Tree.Lose, vr56.2.2.1.Tree.Win, vr58.2.1.Some, vr58.2.1.Last, vr58.2.1.Bottom, (IntKind.i64.wrap (v52 + 1)), (v53 ++ [vr56.1]), (g54 + 1)), h1⟩, ⟨rF, rE, rfl, rfl, trivial, trivial⟩, Nat.lt_succ_self _⟩
         ·
          replace h1 := iteF h1 hb60
          refine awp_skip ?_
          refine kn_then ?_
          refine awp_sr2 896 [2] (fun _ => none) rfl (fun _ _ => rT) ?_
          refine awp_ret ?_
          refine leave_retK (fun _ _ => rT) ?_
          refine awpo_re (s2 := ⟨[(1, .fn 39 [.ref 224 0 0 0] []), (6, .int .i64 (if vr3.1 < n2 then vr3.1 else n2)), (7, .int .i64 left43), (8, .bool (decide (left43 < (if vr3.1 < n2 then vr3.1 else n2)))), (9, .fn 39 [.ref 224 0 0 0] []), (10, .int .i64 0)], [(0, ⟨0, true, true, 10, [[.psl 1 (List.map (encSl 4 TApiEntry.enc) vs1.Merge.Runs), .psl 1 (List.map (encInt .i64) vs1.Merge.At), .psl 2 (List.map TApiLsKey.enc vs1.Merge.Tree.Keys), .psl 1 (List.map (encInt .i64) vs1.Merge.Tree.Lose), .int .i64 vs1.Merge.Tree.Win, .bool vs1.Shadow.Some, .str vs1.Shadow.Last, .bool vs1.Shadow.Bottom, .psl 4 (List.map TApiEntry.enc vs1.Out), .int .i64 vs1.Steps]]⟩), (8, ⟨0, true, true, 10, [[.nils, .nils, .nils, .nils, .int .i64 0, .bool false, .str [], .bool false, .nils, .int .i64 0]]⟩), (224, ⟨0, true, false, 10, [[.psl 1 (List.map (encSl 4 TApiEntry.enc) vr56.2.2.1.Runs), .psl 1 (List.map (encInt .i64) vr56.2.2.1.At), .psl 2 (List.map TApiLsKey.enc vr56.2.2.1.Tree.Keys), .psl 1 (List.map (encInt .i64) vr56.2.2.1.Tree.Lose), .int .i64 vr56.2.2.1.Tree.Win, .bool vr58.2.1.Some, .str vr58.2.1.Last, .bool vr58.2.1.Bottom, .sl 256 g54 4 0 v53.length, .int .i64 (IntKind.i64.wrap (v52 + 1))]]⟩), (256, ⟨g54, true, true, 4, List.map TApiEntry.enc v53⟩), (312, ⟨0, false, true, 1, List.map (encInt .i64) vs1.Merge.At⟩)], 896, []⟩) [] (Nat.le_of_ble_eq_true rfl) ⟨rF, rE, rfl, rfl, trivial, trivial⟩ ?_
          refine awpo_cut (l' := List.range' 2 1 ++ []) rfl ?_
          refine awpo_seg 2 1 904 [] (fun _ => none) rfl rfl rfl (fun _ _ => rT) ?_
          refine awpo_nil ?_
          refine kn_then ?_
          refine awp_re (s2 := ⟨[(1, .fn 39 [.ref 224 0 0 0] []), (5, .int .i64 0), (6, .int .i64 (if vr3.1 < n2 then vr3.1 else n2)), (7, .int .i64 left43)], [(0, ⟨0, true, true, 10, [[.psl 1 (List.map (encSl 4 TApiEntry.enc) vs1.Merge.Runs), .psl 1 (List.map (encInt .i64) vs1.Merge.At), .psl 2 (List.map TApiLsKey.enc vs1.Merge.Tree.Keys), .psl 1 (List.map (encInt .i64) vs1.Merge.Tree.Lose), .int .i64 vs1.Merge.Tree.Win, .bool vs1.Shadow.Some, .str vs1.Shadow.Last, .bool vs1.Shadow.Bottom, .psl 4 (List.map TApiEntry.enc vs1.Out), .int .i64 vs1.Steps]]⟩), (8, ⟨0, true, true, 10, [[.nils, .nils, .nils, .nils, .int .i64 0, .bool false, .str [], .bool false, .nils, .int .i64 0]]⟩), (224, ⟨0, true, false, 10, [[.psl 1 (List.map (encSl 4 TApiEntry.enc) vr56.2.2.1.Runs), .psl 1 (List.map (encInt .i64) vr56.2.2.1.At), .psl 2 (List.map TApiLsKey.enc vr56.2.2.1.Tree.Keys), .psl 1 (List.map (encInt .i64) vr56.2.2.1.Tree.Lose), .int .i64 vr56.2.2.1.Tree.Win, .bool vr58.2.1.Some, .str vr58.2.1.Last, .bool vr58.2.1.Bottom, .sl 256 g54 4 0 v53.length, .int .i64 (IntKind.i64.wrap (v52 + 1))]]⟩), (256, ⟨g54, true, true, 4, List.map TApiEntry.enc v53⟩), (312, ⟨0, false, true, 1, List.map (encInt .i64) vs1.Merge.At⟩)], 904, []⟩) [] (Nat.le_of_ble_eq_true rfl) ⟨rF, rE, rfl, rfl, trivial, trivial⟩ ?_
          refine awp_sr2 920 [1, 5, 6, 7, 12] (fun _ => none) rfl (fun _ _ => rT) ?_
          refine awp_condF rfl ?_
          refine awp_skip ?_
          refine kn_block ?_
          refine kn_then ?_
          refine awp_r2 936 [1, 6, 7] (fun _ => none) rfl (fun _ _ => rT) ?_
          refine kn_then ?_
          exact ⟨⟨(fu, (IntKind.i64.wrap (left43 + 1)), vr56.2.2.1.Runs, vr56.2.2.1.At, vr56.2.2.1.Tree.Keys, vr56.2.2.1.Tree.Lose, vr56.2.2.1.Tree.Win, vr58.2.1.Some, vr58.2.1.Last, vr58.2.1.Bottom, (IntKind.i64.wrap (v52 + 1)), v53, g54), h1⟩, ⟨rF, rE, rfl, rfl, trivial, trivial⟩, Nat.lt_succ_self _⟩
      ·
       replace h1 := iteF h1 hb55
       refine awp_exit ?_
       refine kx_then ?_
       refine kx_then ?_
       refine kx_done ?_
       obtain rfl := Option.some.inj h1
       exact ⟨_, g54, rfl, Nat.le_of_ble_eq_true rfl, ⟨rF, rE, rfl, rfl, trivial, trivial⟩⟩
end Go.T
end
section
namespace Go.T
open Go Go.AM Go.Proofs
set_option maxRecDepth 100000
set_option maxHeartbeats 4000000
set_option linter.unusedVariables false
theorem c_slices_Output {fu : Nat} {vs1 : TApiSlState} {r : List TApiEntry × Int} (h0 : slices_Output fu vs1 = some r) : PCall Try.prog 22 [.agg (TApiSlState.enc vs1)] (.tup [.psl 4 (r.1.map TApiEntry.enc), .int .i64 r.2]) [] := by
 refine awp_pcall Try.func22 rfl (by decide) (Nat.le_of_ble_eq_true rfl) ?_
 dsimp only [Try.f22]
 rw [slices_Output] at h0
 refine (show AWP _ _ _ _ ⟨enumFr 0 _, [], 0, []⟩ from ?_)
 refine awp_sr2 24 [1] (fun _ => none) rfl (fun _ _ => rT) ?_
 obtain ⟨vr2, hvr2, h0⟩ := bindS h0
 refine awp_sr2 80 [1, 4, 5] (fun | 1 => some (.tup [.int .i64 vr2.1, .int .i64 vr2.2], []) | _ => none) rfl (fun _ _ => rC (c_slices_Left hvr2)) ?_
 refine awp_seq ?_
 refine awp_block ?_
 refine awp_sr2 104 [1, 4, 5, 11] (fun _ => none) rfl (fun _ _ => rT) ?_
 refine awp_if rfl (fun hb3 => ?_) (fun hb3 => ?_)
 ·
  replace h0 := iteT h0 hb3
  refine awp_sr2 128 [2, 3] (fun _ => none) rfl (fun _ _ => rT) ?_
  refine awp_ret ?_
  refine kr_block ?_
  refine kr_then ?_
  obtain rfl := Option.some.inj h0
  refine leave_retG [] ?_
  exact rG
 ·
  replace h0 := iteF h0 hb3
  refine awp_sr2 128 [1, 15] (fun _ => none) rfl (fun _ _ => rT) ?_
  refine awp_if rfl (fun hb4 => ?_) (fun hb4 => ?_)
  ·
   replace h0 := iteT h0 hb4
   refine awp_sr2 144 [2, 3] (fun _ => none) rfl (fun _ _ => rT) ?_
   refine awp_ret ?_
   refine kr_block ?_
   refine kr_then ?_
   obtain rfl := Option.some.inj h0
   refine leave_retG [] ?_
   exact rG
  ·
   replace h0 := iteF h0 hb4
   refine awp_skip ?_
   refine kn_block ?_
   refine kn_then ?_
   obtain ⟨hc5, h0⟩ := guS h0
   refine awp_sr2 168 [2, 3] (fun _ => none) rfl (fun _ _ => rT) ?_
   refine awp_re (s2 := ⟨[(2, .sl 144 0 4 0 vs1.Out.length), (3, .int .i64 0)], [(0, ⟨0, true, true, 10, [[.psl 1 (List.map (encSl 4 TApiEntry.enc) vs1.Merge.Runs), .psl 1 (List.map (encInt .i64) vs1.Merge.At), .psl 2 (List.map TApiLsKey.enc vs1.Merge.Tree.Keys), .psl 1 (List.map (encInt .i64) vs1.Merge.Tree.Lose), .int .i64 vs1.Merge.Tree.Win, .bool vs1.Shadow.Some, .str vs1.Shadow.Last, .bool vs1.Shadow.Bottom, .psl 4 (List.map TApiEntry.enc vs1.Out), .int .i64 vs1.Steps]]⟩), (144, ⟨0, true, true, 4, List.map TApiEntry.enc vs1.Out⟩)], 168, []⟩) [] (Nat.le_of_ble_eq_true rfl) ⟨rF, rE, rfl, rfl, trivial, trivial⟩ ?_
   refine awp_ret ?_
   obtain rfl := Option.some.inj h0
   refine leave_retG [] ?_
   exact rG
end Go.T
end
section
namespace Go.T
open Go Go.AM Go.Proofs
set_option maxRecDepth 100000
set_option maxHeartbeats 4000000
set_option linter.unusedVariables false
theorem c_bookendlaw13_awake {fu : Nat} {r : Bool} (h0 : bookendlaw13_awake fu = some r) : PCall Try.prog 10 [] (.bool r) [] := by
 refine awp_pcall Try.func10 rfl (by decide) (Nat.le_of_ble_eq_true rfl) ?_
 dsimp only [Try.f10, List.append]
 rw [bookendlaw13_awake] at h0
 refine (show AWP _ _ _ _ ⟨enumFr 0 _, [], 0, []⟩ from ?_)
 refine awp_sr2 8 [] (fun _ => none) rfl (fun _ _ => rT) ?_
 obtain ⟨vr1, hvr1, h0⟩ := bindS h0
 refine awp_sr2 24 [1] (fun | 0 => some (.psl 1 (vr1.map (encSl 4 TApiEntry.enc)), []) | _ => none) rfl (fun _ _ => rC (c_bookendlaw11_Example hvr1)) ?_
 obtain ⟨vr2, hvr2, h0⟩ := bindS h0
 refine awp_sr2 104 [1, 2, 4] (fun | 1 => some (.tup [.agg (TApiSlState.enc vr2.1), .int .i64 vr2.2.1, .int .i64 vr2.2.2], []) | _ => none) rfl (fun _ _ => rC (c_slices_Begin hvr2)) ?_
 obtain ⟨vr3, hvr3, h0⟩ := bindS h0
 refine awp_sr2 160 [1, 2, 4, 5, 6] (fun | 1 => some (.tup [.int .i64 vr3.1, .int .i64 vr3.2], []) | _ => none) rfl (fun _ _ => rC (c_slices_Left hvr3)) ?_
 obtain ⟨vr4, hvr4, h0⟩ := bindS h0
 refine awp_sr2 240 [1, 2, 4, 5, 6, 7, 8, 9] (fun | 1 => some (.tup [.agg (TApiSlState.enc vr4.1), .int .i64 vr4.2.1, .int .i64 vr4.2.2], []) | _ => none) rfl (fun _ _ => rC (c_slices_Step hvr4)) ?_
 obtain ⟨vr5, hvr5, h0⟩ := bindS h0
 refine awp_sr2 320 [1, 2, 4, 5, 6, 7, 8, 9, 10, 11, 12] (fun | 1 => some (.tup [.agg (TApiSlState.enc vr5.1), .int .i64 vr5.2.1, .int .i64 vr5.2.2], []) | _ => none) rfl (fun _ _ => rC (c_slices_Step hvr5)) ?_
 obtain ⟨vr6, hvr6, h0⟩ := bindS h0
 refine awp_sr2 376 [1, 2, 4, 5, 6, 7, 8, 9, 11, 12, 13, 14] (fun | 1 => some (.tup [.psl 4 (vr6.1.map TApiEntry.enc), .int .i64 vr6.2], []) | _ => none) rfl (fun _ _ => rC (c_slices_Output hvr6)) ?_
 obtain ⟨vr7, hvr7, h0⟩ := bindS h0
 refine awp_sr2 432 [1, 4, 5, 6, 7, 8, 9, 11, 12, 13, 14, 16] (fun | 1 => some (.tup [.psl 4 (vr7.1.map TApiEntry.enc), .int .i64 vr7.2], []) | _ => none) rfl (fun _ _ => rC (c_slices_Output hvr7)) ?_
 obtain ⟨vr8, hvr8, h0⟩ := bindS h0
 refine awp_sr2 504 [1, 4, 5, 6, 7, 8, 9, 11, 12, 13, 14, 16, 17, 18, 19] (fun | 1 => some (.tup [.psl 4 (vr8.1.map TApiEntry.enc), .int .i64 vr8.2.1, .int .i64 vr8.2.2], []) | _ => none) rfl (fun _ _ => rC (c_slices_All hvr8)) ?_
 obtain ⟨b9, hb9, h0⟩ := bindS h0
 obtain ⟨b10, hb10, h0⟩ := bindS h0
 obtain ⟨b11, hb11, h0⟩ := bindS h0
 obtain ⟨b12, hb12, h0⟩ := bindS h0
 obtain ⟨b18, hb18, h0⟩ := bindS h0
 obtain ⟨b19, hb19, h0⟩ := bindS h0
 obtain ⟨b20, hb20, h0⟩ := bindS h0
 obtain ⟨b27, hb27, h0⟩ := bindS h0
 obtain ⟨b28, hb28, h0⟩ := bindS h0
 obtain ⟨b29, hb29, h0⟩ := bindS h0
 obtain ⟨b34, hb34, h0⟩ := bindS h0
 obtain ⟨b35, hb35, h0⟩ := bindS h0
 obtain ⟨b36, hb36, h0⟩ := bindS h0
 refine awp_sd3 (fr' := [(0, .bool b36)]) (hp' := [(72, ⟨0, true, true, 10, [[.psl 1 (List.map (encSl 4 TApiEntry.enc) vr2.1.Merge.Runs), .psl 1 (List.map (encInt .i64) vr2.1.Merge.At), .psl 2 (List.map TApiLsKey.enc vr2.1.Merge.Tree.Keys), .psl 1 (List.map (encInt .i64) vr2.1.Merge.Tree.Lose), .int .i64 vr2.1.Merge.Tree.Win, .bool vr2.1.Shadow.Some, .str vr2.1.Shadow.Last, .bool vr2.1.Shadow.Bottom, .psl 4 (List.map TApiEntry.enc vr2.1.Out), .int .i64 vr2.1.Steps]]⟩), (208, ⟨0, true, true, 10, [[.psl 1 (List.map (encSl 4 TApiEntry.enc) vr4.1.Merge.Runs), .psl 1 (List.map (encInt .i64) vr4.1.Merge.At), .psl 2 (List.map TApiLsKey.enc vr4.1.Merge.Tree.Keys), .psl 1 (List.map (encInt .i64) vr4.1.Merge.Tree.Lose), .int .i64 vr4.1.Merge.Tree.Win, .bool vr4.1.Shadow.Some, .str vr4.1.Shadow.Last, .bool vr4.1.Shadow.Bottom, .psl 4 (List.map TApiEntry.enc vr4.1.Out), .int .i64 vr4.1.Steps]]⟩), (288, ⟨0, true, true, 10, [[.psl 1 (List.map (encSl 4 TApiEntry.enc) vr5.1.Merge.Runs), .psl 1 (List.map (encInt .i64) vr5.1.Merge.At), .psl 2 (List.map TApiLsKey.enc vr5.1.Merge.Tree.Keys), .psl 1 (List.map (encInt .i64) vr5.1.Merge.Tree.Lose), .int .i64 vr5.1.Merge.Tree.Win, .bool vr5.1.Shadow.Some, .str vr5.1.Shadow.Last, .bool vr5.1.Shadow.Bottom, .psl 4 (List.map TApiEntry.enc vr5.1.Out), .int .i64 vr5.1.Steps]]⟩)]) [72, 208, 288] 1256 [0] (fun | 32 => (ix vr1 1).bind fun e13 => (ix e13 0).bind fun e14 => (ix vr1 0).bind fun e15 => (ix e15 0).bind fun e16 => (bookendref11_SameEntries fu vr4.1.Out [e14, e16]).bind fun vr17 => some (.bool vr17, []) | 60 => (ix vr1 1).bind fun e21 => (ix e21 0).bind fun e22 => (ix vr1 0).bind fun e23 => (ix e23 0).bind fun e24 => (ix e21 2).bind fun e25 => (bookendref11_SameEntries fu vr6.1 [e22, e24, e25]).bind fun vr26 => some (.bool vr26, []) | 83 => (ix vr1 1).bind fun e30 => (ix e30 0).bind fun e31 => (ix e30 2).bind fun e32 => (bookendref11_SameEntries fu vr8.1 [e31, e32]).bind fun vr33 => some (.bool vr33, []) | _ => none) rfl rfl rfl (fun Kt hK => by
   cases hg37 : (decide (vr2.2.2 = 0)) with
   | false =>
    replace hb9 := iteF hb9 hg37
    have hqb9 := Option.some.inj hb9
    cases b9 with
    | false =>
     replace hb10 := iteF hb10 rfl
     have hqb10 := Option.some.inj hb10
     cases b10 with
     | false =>
      replace hb11 := iteF hb11 rfl
      have hqb11 := Option.some.inj hb11
      cases b11 with
      | false =>
       replace hb12 := iteF hb12 rfl
       have hqb12 := Option.some.inj hb12
       cases b12 with
       | false =>
        replace hb18 := iteF hb18 rfl
        have hqb18 := Option.some.inj hb18
        cases b18 with
        | false =>
         replace hb19 := iteF hb19 rfl
         have hqb19 := Option.some.inj hb19
         cases b19 with
         | false =>
          replace hb20 := iteF hb20 rfl
          have hqb20 := Option.some.inj hb20
          cases b20 with
          | false =>
           replace hb27 := iteF hb27 rfl
           have hqb27 := Option.some.inj hb27
           cases b27 with
           | false =>
            replace hb28 := iteF hb28 rfl
            have hqb28 := Option.some.inj hb28
            cases b28 with
            | false =>
             replace hb29 := iteF hb29 rfl
             have hqb29 := Option.some.inj hb29
             cases b29 with
             | false =>
              replace hb34 := iteF hb34 rfl
              have hqb34 := Option.some.inj hb34
              cases b34 with
              | false =>
               replace hb35 := iteF hb35 rfl
               have hqb35 := Option.some.inj hb35
               cases b35 with
               | false =>
                replace hb36 := iteF hb36 rfl
                have hqb36 := Option.some.inj hb36
                subst hqb36
                simp (maxSteps := 1000000) only [↓reduceIte, reduceCtorEq, Nat.reduceEqDiff, Nat.reduceLT, Nat.reduceLeDiff, Nat.reduceAdd, Nat.reduceMul, Int.reduceToNat, push_cast, ↓hg37]
                try simp only [↓hg37] at hK
                try have q0 := c_bookendref11_SameEntries hvr17
                try have q1 := c_bookendref11_SameEntries hvr26
                try have q2 := c_bookendref11_SameEntries hvr33
                all_goals exact rUd
               | true =>
                cases hqb35
              | true =>
               cases hqb34
             | true =>
              cases hqb29
            | true =>
             cases hqb28
           | true =>
            cases hqb27
          | true =>
           cases hqb20
         | true =>
          cases hqb19
        | true =>
         cases hqb18
       | true =>
        cases hqb12
      | true =>
       cases hqb11
     | true =>
      cases hqb10
    | true =>
     cases hqb9
   | true =>
    replace hb9 := iteT hb9 hg37
    have hqb9 := Option.some.inj hb9
    cases b9 with
    | false =>
     replace hb10 := iteF hb10 rfl
     have hqb10 := Option.some.inj hb10
     cases b10 with
     | false =>
      replace hb11 := iteF hb11 rfl
      have hqb11 := Option.some.inj hb11
      cases b11 with
      | false =>
       replace hb12 := iteF hb12 rfl
       have hqb12 := Option.some.inj hb12
       cases b12 with
       | false =>
        replace hb18 := iteF hb18 rfl
        have hqb18 := Option.some.inj hb18
        cases b18 with
        | false =>
         replace hb19 := iteF hb19 rfl
         have hqb19 := Option.some.inj hb19
         cases b19 with
         | false =>
          replace hb20 := iteF hb20 rfl
          have hqb20 := Option.some.inj hb20
          cases b20 with
          | false =>
           replace hb27 := iteF hb27 rfl
           have hqb27 := Option.some.inj hb27
           cases b27 with
           | false =>
            replace hb28 := iteF hb28 rfl
            have hqb28 := Option.some.inj hb28
            cases b28 with
            | false =>
             replace hb29 := iteF hb29 rfl
             have hqb29 := Option.some.inj hb29
             cases b29 with
             | false =>
              replace hb34 := iteF hb34 rfl
              have hqb34 := Option.some.inj hb34
              cases b34 with
              | false =>
               replace hb35 := iteF hb35 rfl
               have hqb35 := Option.some.inj hb35
               cases b35 with
               | false =>
                replace hb36 := iteF hb36 rfl
                have hqb36 := Option.some.inj hb36
                subst hqb36
                simp (maxSteps := 1000000) only [↓reduceIte, reduceCtorEq, Nat.reduceEqDiff, Nat.reduceLT, Nat.reduceLeDiff, Nat.reduceAdd, Nat.reduceMul, Int.reduceToNat, push_cast, ↓hg37, ↓hqb9]
                try simp only [↓hg37, ↓hqb9] at hK
                try have q0 := c_bookendref11_SameEntries hvr17
                try have q1 := c_bookendref11_SameEntries hvr26
                try have q2 := c_bookendref11_SameEntries hvr33
                all_goals exact rUd
               | true =>
                cases hqb35
              | true =>
               cases hqb34
             | true =>
              cases hqb29
            | true =>
             cases hqb28
           | true =>
            cases hqb27
          | true =>
           cases hqb20
         | true =>
          cases hqb19
        | true =>
         cases hqb18
       | true =>
        cases hqb12
      | true =>
       cases hqb11
     | true =>
      cases hqb10
    | true =>
     replace hb10 := iteT hb10 rfl
     have hqb10 := Option.some.inj hb10
     cases b10 with
     | false =>
      replace hb11 := iteF hb11 rfl
      have hqb11 := Option.some.inj hb11
      cases b11 with
      | false =>
       replace hb12 := iteF hb12 rfl
       have hqb12 := Option.some.inj hb12
       cases b12 with
       | false =>
        replace hb18 := iteF hb18 rfl
        have hqb18 := Option.some.inj hb18
        cases b18 with
        | false =>
         replace hb19 := iteF hb19 rfl
         have hqb19 := Option.some.inj hb19
         cases b19 with
         | false =>
          replace hb20 := iteF hb20 rfl
          have hqb20 := Option.some.inj hb20
          cases b20 with
          | false =>
           replace hb27 := iteF hb27 rfl
           have hqb27 := Option.some.inj hb27
           cases b27 with
           | false =>
            replace hb28 := iteF hb28 rfl
            have hqb28 := Option.some.inj hb28
            cases b28 with
            | false =>
             replace hb29 := iteF hb29 rfl
             have hqb29 := Option.some.inj hb29
             cases b29 with
             | false =>
              replace hb34 := iteF hb34 rfl
              have hqb34 := Option.some.inj hb34
              cases b34 with
              | false =>
               replace hb35 := iteF hb35 rfl
               have hqb35 := Option.some.inj hb35
               cases b35 with
               | false =>
                replace hb36 := iteF hb36 rfl
                have hqb36 := Option.some.inj hb36
                subst hqb36
                simp (maxSteps := 1000000) only [↓reduceIte, reduceCtorEq, Nat.reduceEqDiff, Nat.reduceLT, Nat.reduceLeDiff, Nat.reduceAdd, Nat.reduceMul, Int.reduceToNat, push_cast, ↓hg37, ↓hqb9, ↓hqb10]
                try simp only [↓hg37, ↓hqb9, ↓hqb10] at hK
                try have q0 := c_bookendref11_SameEntries hvr17
                try have q1 := c_bookendref11_SameEntries hvr26
                try have q2 := c_bookendref11_SameEntries hvr33
                all_goals exact rUd
               | true =>
                cases hqb35
              | true =>
               cases hqb34
             | true =>
              cases hqb29
            | true =>
             cases hqb28
           | true =>
            cases hqb27
          | true =>
           cases hqb20
         | true =>
          cases hqb19
        | true =>
         cases hqb18
       | true =>
        cases hqb12
      | true =>
       cases hqb11
     | true =>
      replace hb11 := iteT hb11 rfl
      have hqb11 := Option.some.inj hb11
      cases b11 with
      | false =>
       replace hb12 := iteF hb12 rfl
       have hqb12 := Option.some.inj hb12
       cases b12 with
       | false =>
        replace hb18 := iteF hb18 rfl
        have hqb18 := Option.some.inj hb18
        cases b18 with
        | false =>
         replace hb19 := iteF hb19 rfl
         have hqb19 := Option.some.inj hb19
         cases b19 with
         | false =>
          replace hb20 := iteF hb20 rfl
          have hqb20 := Option.some.inj hb20
          cases b20 with
          | false =>
           replace hb27 := iteF hb27 rfl
           have hqb27 := Option.some.inj hb27
           cases b27 with
           | false =>
            replace hb28 := iteF hb28 rfl
            have hqb28 := Option.some.inj hb28
            cases b28 with
            | false =>
             replace hb29 := iteF hb29 rfl
             have hqb29 := Option.some.inj hb29
             cases b29 with
             | false =>
              replace hb34 := iteF hb34 rfl
              have hqb34 := Option.some.inj hb34
              cases b34 with
              | false =>
               replace hb35 := iteF hb35 rfl
               have hqb35 := Option.some.inj hb35
               cases b35 with
               | false =>
                replace hb36 := iteF hb36 rfl
                have hqb36 := Option.some.inj hb36
                subst hqb36
                simp (maxSteps := 1000000) only [↓reduceIte, reduceCtorEq, Nat.reduceEqDiff, Nat.reduceLT, Nat.reduceLeDiff, Nat.reduceAdd, Nat.reduceMul, Int.reduceToNat, push_cast, ↓hg37, ↓hqb9, ↓hqb10, ↓hqb11]
                try simp only [↓hg37, ↓hqb9, ↓hqb10, ↓hqb11] at hK
                try have q0 := c_bookendref11_SameEntries hvr17
                try have q1 := c_bookendref11_SameEntries hvr26
                try have q2 := c_bookendref11_SameEntries hvr33
                all_goals exact rUd
               | true =>
                cases hqb35
              | true =>
               cases hqb34
             | true =>
              cases hqb29
            | true =>
             cases hqb28
           | true =>
            cases hqb27
          | true =>
           cases hqb20
         | true =>
          cases hqb19
        | true =>
         cases hqb18
       | true =>
        cases hqb12
      | true =>
       replace hb12 := iteT hb12 rfl
       have hqb12 := Option.some.inj hb12
       cases b12 with
       | false =>
        replace hb18 := iteF hb18 rfl
        have hqb18 := Option.some.inj hb18
        cases b18 with
        | false =>
         replace hb19 := iteF hb19 rfl
         have hqb19 := Option.some.inj hb19
         cases b19 with
         | false =>
          replace hb20 := iteF hb20 rfl
          have hqb20 := Option.some.inj hb20
          cases b20 with
          | false =>
           replace hb27 := iteF hb27 rfl
           have hqb27 := Option.some.inj hb27
           cases b27 with
           | false =>
            replace hb28 := iteF hb28 rfl
            have hqb28 := Option.some.inj hb28
            cases b28 with
            | false =>
             replace hb29 := iteF hb29 rfl
             have hqb29 := Option.some.inj hb29
             cases b29 with
             | false =>
              replace hb34 := iteF hb34 rfl
              have hqb34 := Option.some.inj hb34
              cases b34 with
              | false =>
               replace hb35 := iteF hb35 rfl
               have hqb35 := Option.some.inj hb35
               cases b35 with
               | false =>
                replace hb36 := iteF hb36 rfl
                have hqb36 := Option.some.inj hb36
                subst hqb36
                simp (maxSteps := 1000000) only [↓reduceIte, reduceCtorEq, Nat.reduceEqDiff, Nat.reduceLT, Nat.reduceLeDiff, Nat.reduceAdd, Nat.reduceMul, Int.reduceToNat, push_cast, ↓hg37, ↓hqb9, ↓hqb10, ↓hqb11, ↓hqb12]
                try simp only [↓hg37, ↓hqb9, ↓hqb10, ↓hqb11, ↓hqb12] at hK
                try have q0 := c_bookendref11_SameEntries hvr17
                try have q1 := c_bookendref11_SameEntries hvr26
                try have q2 := c_bookendref11_SameEntries hvr33
                all_goals exact rUd
               | true =>
                cases hqb35
              | true =>
               cases hqb34
             | true =>
              cases hqb29
            | true =>
             cases hqb28
           | true =>
            cases hqb27
          | true =>
           cases hqb20
         | true =>
          cases hqb19
        | true =>
         cases hqb18
       | true =>
        replace hb18 := iteT hb18 rfl
        obtain ⟨e13, he13, hb18⟩ := bindS hb18
        have he13b := (idxS he13).2.1
        have he13c := (idxL 1 he13 rfl).1
        have he13a := (idxL 1 he13 rfl).2
        obtain ⟨e14, he14, hb18⟩ := bindS hb18
        have he14b := (idxS he14).2.1
        have he14c := (idxL 0 he14 rfl).1
        have he14a := (idxL 0 he14 rfl).2
        obtain ⟨e15, he15, hb18⟩ := bindS hb18
        have he15b := (idxS he15).2.1
        have he15c := (idxL 0 he15 rfl).1
        have he15a := (idxL 0 he15 rfl).2
        obtain ⟨e16, he16, hb18⟩ := bindS hb18
        have he16b := (idxS he16).2.1
        have he16c := (idxL 0 he16 rfl).1
        have he16a := (idxL 0 he16 rfl).2
        obtain ⟨vr17, hvr17, hb18⟩ := bindS hb18
        have hqb18 := Option.some.inj hb18
        cases b18 with
        | false =>
         subst hqb18
         replace hb19 := iteF hb19 rfl
         have hqb19 := Option.some.inj hb19
         cases b19 with
         | false =>
          replace hb20 := iteF hb20 rfl
          have hqb20 := Option.some.inj hb20
          cases b20 with
          | false =>
           replace hb27 := iteF hb27 rfl
           have hqb27 := Option.some.inj hb27
           cases b27 with
           | false =>
            replace hb28 := iteF hb28 rfl
            have hqb28 := Option.some.inj hb28
            cases b28 with
            | false =>
             replace hb29 := iteF hb29 rfl
             have hqb29 := Option.some.inj hb29
             cases b29 with
             | false =>
              replace hb34 := iteF hb34 rfl
              have hqb34 := Option.some.inj hb34
              cases b34 with
              | false =>
               replace hb35 := iteF hb35 rfl
               have hqb35 := Option.some.inj hb35
               cases b35 with
               | false =>
                replace hb36 := iteF hb36 rfl
                have hqb36 := Option.some.inj hb36
                subst hqb36
                simp (maxSteps := 1000000) only [↓reduceIte, reduceCtorEq, Nat.reduceEqDiff, Nat.reduceLT, Nat.reduceLeDiff, Nat.reduceAdd, Nat.reduceMul, Int.reduceToNat, push_cast, ↓hg37, ↓hqb9, ↓hqb10, ↓hqb11, ↓hqb12, he13a, he13b, he13c, he13, he14a, he14b, he14c, he14, he15a, he15b, he15c, he15, he16a, he16b, he16c, he16, hvr17]
                try simp only [↓hg37, ↓hqb9, ↓hqb10, ↓hqb11, ↓hqb12] at hK
                try have q0 := c_bookendref11_SameEntries hvr17
                try have q1 := c_bookendref11_SameEntries hvr26
                try have q2 := c_bookendref11_SameEntries hvr33
                all_goals exact rUd
               | true =>
                cases hqb35
              | true =>
               cases hqb34
             | true =>
              cases hqb29
            | true =>
             cases hqb28
           | true =>
            cases hqb27
          | true =>
           cases hqb20
         | true =>
          cases hqb19
        | true =>
         subst hqb18
         replace hb19 := iteT hb19 rfl
         have hqb19 := Option.some.inj hb19
         cases b19 with
         | false =>
          replace hb20 := iteF hb20 rfl
          have hqb20 := Option.some.inj hb20
          cases b20 with
          | false =>
           replace hb27 := iteF hb27 rfl
           have hqb27 := Option.some.inj hb27
           cases b27 with
           | false =>
            replace hb28 := iteF hb28 rfl
            have hqb28 := Option.some.inj hb28
            cases b28 with
            | false =>
             replace hb29 := iteF hb29 rfl
             have hqb29 := Option.some.inj hb29
             cases b29 with
             | false =>
              replace hb34 := iteF hb34 rfl
              have hqb34 := Option.some.inj hb34
              cases b34 with
              | false =>
               replace hb35 := iteF hb35 rfl
               have hqb35 := Option.some.inj hb35
               cases b35 with
               | false =>
                replace hb36 := iteF hb36 rfl
                have hqb36 := Option.some.inj hb36
                subst hqb36
                simp (maxSteps := 1000000) only [↓reduceIte, reduceCtorEq, Nat.reduceEqDiff, Nat.reduceLT, Nat.reduceLeDiff, Nat.reduceAdd, Nat.reduceMul, Int.reduceToNat, push_cast, ↓hg37, ↓hqb9, ↓hqb10, ↓hqb11, ↓hqb12, he13a, he13b, he13c, he13, he14a, he14b, he14c, he14, he15a, he15b, he15c, he15, he16a, he16b, he16c, he16, hvr17, ↓hqb19]
                try simp only [↓hg37, ↓hqb9, ↓hqb10, ↓hqb11, ↓hqb12, ↓hqb19] at hK
                try have q0 := c_bookendref11_SameEntries hvr17
                try have q1 := c_bookendref11_SameEntries hvr26
                try have q2 := c_bookendref11_SameEntries hvr33
                all_goals exact rUd
               | true =>
                cases hqb35
              | true =>
               cases hqb34
             | true =>
              cases hqb29
            | true =>
             cases hqb28
           | true =>
            cases hqb27
          | true =>
           cases hqb20
         | true =>
          replace hb20 := iteT hb20 rfl
          have hqb20 := Option.some.inj hb20
          cases b20 with
          | false =>
           replace hb27 := iteF hb27 rfl
           have hqb27 := Option.some.inj hb27
           cases b27 with
           | false =>
            replace hb28 := iteF hb28 rfl
            have hqb28 := Option.some.inj hb28
            cases b28 with
            | false =>
             replace hb29 := iteF hb29 rfl
             have hqb29 := Option.some.inj hb29
             cases b29 with
             | false =>
              replace hb34 := iteF hb34 rfl
              have hqb34 := Option.some.inj hb34
              cases b34 with
              | false =>
               replace hb35 := iteF hb35 rfl
               have hqb35 := Option.some.inj hb35
               cases b35 with
               | false =>
                replace hb36 := iteF hb36 rfl
                have hqb36 := Option.some.inj hb36
                subst hqb36
                simp (maxSteps := 1000000) only [↓reduceIte, reduceCtorEq, Nat.reduceEqDiff, Nat.reduceLT, Nat.reduceLeDiff, Nat.reduceAdd, Nat.reduceMul, Int.reduceToNat, push_cast, ↓hg37, ↓hqb9, ↓hqb10, ↓hqb11, ↓hqb12, he13a, he13b, he13c, he13, he14a, he14b, he14c, he14, he15a, he15b, he15c, he15, he16a, he16b, he16c, he16, hvr17, ↓hqb19, ↓hqb20]
                try simp only [↓hg37, ↓hqb9, ↓hqb10, ↓hqb11, ↓hqb12, ↓hqb19, ↓hqb20] at hK
                try have q0 := c_bookendref11_SameEntries hvr17
                try have q1 := c_bookendref11_SameEntries hvr26
                try have q2 := c_bookendref11_SameEntries hvr33
                all_goals exact rUd
               | true =>
                cases hqb35
              | true =>
               cases hqb34
             | true =>
              cases hqb29
            | true =>
             cases hqb28
           | true =>
            cases hqb27
          | true =>
           replace hb27 := iteT hb27 rfl
           obtain ⟨e21, he21, hb27⟩ := bindS hb27
           have he21b := (idxS he21).2.1
           have he21c := (idxL 1 he21 rfl).1
           have he21a := (idxL 1 he21 rfl).2
           obtain rfl := Option.some.inj (he13.symm.trans he21)
           obtain ⟨e22, he22, hb27⟩ := bindS hb27
           have he22b := (idxS he22).2.1
           have he22c := (idxL 0 he22 rfl).1
           have he22a := (idxL 0 he22 rfl).2
           obtain rfl := Option.some.inj (he14.symm.trans he22)
           obtain ⟨e23, he23, hb27⟩ := bindS hb27
           have he23b := (idxS he23).2.1
           have he23c := (idxL 0 he23 rfl).1
           have he23a := (idxL 0 he23 rfl).2
           obtain rfl := Option.some.inj (he15.symm.trans he23)
           obtain ⟨e24, he24, hb27⟩ := bindS hb27
           have he24b := (idxS he24).2.1
           have he24c := (idxL 0 he24 rfl).1
           have he24a := (idxL 0 he24 rfl).2
           obtain rfl := Option.some.inj (he16.symm.trans he24)
           obtain ⟨e25, he25, hb27⟩ := bindS hb27
           have he25b := (idxS he25).2.1
           have he25c := (idxL 2 he25 rfl).1
           have he25a := (idxL 2 he25 rfl).2
           obtain ⟨vr26, hvr26, hb27⟩ := bindS hb27
           have hqb27 := Option.some.inj hb27
           cases b27 with
           | false =>
            subst hqb27
            replace hb28 := iteF hb28 rfl
            have hqb28 := Option.some.inj hb28
            cases b28 with
            | false =>
             replace hb29 := iteF hb29 rfl
             have hqb29 := Option.some.inj hb29
             cases b29 with
             | false =>
              replace hb34 := iteF hb34 rfl
              have hqb34 := Option.some.inj hb34
              cases b34 with
              | false =>
               replace hb35 := iteF hb35 rfl
               have hqb35 := Option.some.inj hb35
               cases b35 with
               | false =>
                replace hb36 := iteF hb36 rfl
                have hqb36 := Option.some.inj hb36
                subst hqb36
                simp (maxSteps := 1000000) only [↓reduceIte, reduceCtorEq, Nat.reduceEqDiff, Nat.reduceLT, Nat.reduceLeDiff, Nat.reduceAdd, Nat.reduceMul, Int.reduceToNat, push_cast, ↓hg37, ↓hqb9, ↓hqb10, ↓hqb11, ↓hqb12, he13a, he13b, he13c, he13, he14a, he14b, he14c, he14, he15a, he15b, he15c, he15, he16a, he16b, he16c, he16, hvr17, ↓hqb19, ↓hqb20, he21a, he21b, he21c, he21, he22a, he22b, he22c, he22, he23a, he23b, he23c, he23, he24a, he24b, he24c, he24, he25a, he25b, he25c, he25, hvr26]
                try simp only [↓hg37, ↓hqb9, ↓hqb10, ↓hqb11, ↓hqb12, ↓hqb19, ↓hqb20] at hK
                try have q0 := c_bookendref11_SameEntries hvr17
                try have q1 := c_bookendref11_SameEntries hvr26
                try have q2 := c_bookendref11_SameEntries hvr33
                all_goals exact rUd
               | true =>
                cases hqb35
              | true =>
               cases hqb34
             | true =>
              cases hqb29
            | true =>
             cases hqb28
           | true =>
            subst hqb27
            replace hb28 := iteT hb28 rfl
            have hqb28 := Option.some.inj hb28
            cases b28 with
            | false =>
             replace hb29 := iteF hb29 rfl
             have hqb29 := Option.some.inj hb29
             cases b29 with
             | false =>
              replace hb34 := iteF hb34 rfl
              have hqb34 := Option.some.inj hb34
              cases b34 with
              | false =>
               replace hb35 := iteF hb35 rfl
               have hqb35 := Option.some.inj hb35
               cases b35 with
               | false =>
                replace hb36 := iteF hb36 rfl
                have hqb36 := Option.some.inj hb36
                subst hqb36
                simp (maxSteps := 1000000) only [↓reduceIte, reduceCtorEq, Nat.reduceEqDiff, Nat.reduceLT, Nat.reduceLeDiff, Nat.reduceAdd, Nat.reduceMul, Int.reduceToNat, push_cast, ↓hg37, ↓hqb9, ↓hqb10, ↓hqb11, ↓hqb12, he13a, he13b, he13c, he13, he14a, he14b, he14c, he14, he15a, he15b, he15c, he15, he16a, he16b, he16c, he16, hvr17, ↓hqb19, ↓hqb20, he21a, he21b, he21c, he21, he22a, he22b, he22c, he22, he23a, he23b, he23c, he23, he24a, he24b, he24c, he24, he25a, he25b, he25c, he25, hvr26, ↓hqb28]
                try simp only [↓hg37, ↓hqb9, ↓hqb10, ↓hqb11, ↓hqb12, ↓hqb19, ↓hqb20, ↓hqb28] at hK
                try have q0 := c_bookendref11_SameEntries hvr17
                try have q1 := c_bookendref11_SameEntries hvr26
                try have q2 := c_bookendref11_SameEntries hvr33
                all_goals exact rUd
               | true =>
                cases hqb35
              | true =>
               cases hqb34
             | true =>
              cases hqb29
            | true =>
             replace hb29 := iteT hb29 rfl
             have hqb29 := Option.some.inj hb29
             cases b29 with
             | false =>
              replace hb34 := iteF hb34 rfl
              have hqb34 := Option.some.inj hb34
              cases b34 with
              | false =>
               replace hb35 := iteF hb35 rfl
               have hqb35 := Option.some.inj hb35
               cases b35 with
               | false =>
                replace hb36 := iteF hb36 rfl
                have hqb36 := Option.some.inj hb36
                subst hqb36
                simp (maxSteps := 1000000) only [↓reduceIte, reduceCtorEq, Nat.reduceEqDiff, Nat.reduceLT, Nat.reduceLeDiff, Nat.reduceAdd, Nat.reduceMul, Int.reduceToNat, push_cast, ↓hg37, ↓hqb9, ↓hqb10, ↓hqb11, ↓hqb12, he13a, he13b, he13c, he13, he14a, he14b, he14c, he14, he15a, he15b, he15c, he15, he16a, he16b, he16c, he16, hvr17, ↓hqb19, ↓hqb20, he21a, he21b, he21c, he21, he22a, he22b, he22c, he22, he23a, he23b, he23c, he23, he24a, he24b, he24c, he24, he25a, he25b, he25c, he25, hvr26, ↓hqb28, ↓hqb29]
                try simp only [↓hg37, ↓hqb9, ↓hqb10, ↓hqb11, ↓hqb12, ↓hqb19, ↓hqb20, ↓hqb28, ↓hqb29] at hK
                try have q0 := c_bookendref11_SameEntries hvr17
                try have q1 := c_bookendref11_SameEntries hvr26
                try have q2 := c_bookendref11_SameEntries hvr33
                all_goals exact rUd
               | true =>
                cases hqb35
              | true =>
               cases hqb34
             | true =>
              replace hb34 := iteT hb34 rfl
              obtain ⟨e30, he30, hb34⟩ := bindS hb34
              have he30b := (idxS he30).2.1
              have he30c := (idxL 1 he30 rfl).1
              have he30a := (idxL 1 he30 rfl).2
              obtain rfl := Option.some.inj (he13.symm.trans he30)
              obtain ⟨e31, he31, hb34⟩ := bindS hb34
              have he31b := (idxS he31).2.1
              have he31c := (idxL 0 he31 rfl).1
              have he31a := (idxL 0 he31 rfl).2
              obtain rfl := Option.some.inj (he14.symm.trans he31)
              obtain ⟨e32, he32, hb34⟩ := bindS hb34
              have he32b := (idxS he32).2.1
              have he32c := (idxL 2 he32 rfl).1
              have he32a := (idxL 2 he32 rfl).2
              obtain rfl := Option.some.inj (he25.symm.trans he32)
              obtain ⟨vr33, hvr33, hb34⟩ := bindS hb34
              have hqb34 := Option.some.inj hb34
              cases b34 with
              | false =>
               subst hqb34
               replace hb35 := iteF hb35 rfl
               have hqb35 := Option.some.inj hb35
               cases b35 with
               | false =>
                replace hb36 := iteF hb36 rfl
                have hqb36 := Option.some.inj hb36
                subst hqb36
                simp (maxSteps := 1000000) only [↓reduceIte, reduceCtorEq, Nat.reduceEqDiff, Nat.reduceLT, Nat.reduceLeDiff, Nat.reduceAdd, Nat.reduceMul, Int.reduceToNat, push_cast, ↓hg37, ↓hqb9, ↓hqb10, ↓hqb11, ↓hqb12, he13a, he13b, he13c, he13, he14a, he14b, he14c, he14, he15a, he15b, he15c, he15, he16a, he16b, he16c, he16, hvr17, ↓hqb19, ↓hqb20, he21a, he21b, he21c, he21, he22a, he22b, he22c, he22, he23a, he23b, he23c, he23, he24a, he24b, he24c, he24, he25a, he25b, he25c, he25, hvr26, ↓hqb28, ↓hqb29, he30a, he30b, he30c, he30, he31a, he31b, he31c, he31, he32a, he32b, he32c, he32, hvr33]
                try simp only [↓hg37, ↓hqb9, ↓hqb10, ↓hqb11, ↓hqb12, ↓hqb19, ↓hqb20, ↓hqb28, ↓hqb29] at hK
                try have q0 := c_bookendref11_SameEntries hvr17
                try have q1 := c_bookendref11_SameEntries hvr26
                try have q2 := c_bookendref11_SameEntries hvr33
                all_goals exact rUd
               | true =>
                cases hqb35
              | true =>
               subst hqb34
               replace hb35 := iteT hb35 rfl
               have hqb35 := Option.some.inj hb35
               cases b35 with
               | false =>
                replace hb36 := iteF hb36 rfl
                have hqb36 := Option.some.inj hb36
                subst hqb36
                simp (maxSteps := 1000000) only [↓reduceIte, reduceCtorEq, Nat.reduceEqDiff, Nat.reduceLT, Nat.reduceLeDiff, Nat.reduceAdd, Nat.reduceMul, Int.reduceToNat, push_cast, ↓hg37, ↓hqb9, ↓hqb10, ↓hqb11, ↓hqb12, he13a, he13b, he13c, he13, he14a, he14b, he14c, he14, he15a, he15b, he15c, he15, he16a, he16b, he16c, he16, hvr17, ↓hqb19, ↓hqb20, he21a, he21b, he21c, he21, he22a, he22b, he22c, he22, he23a, he23b, he23c, he23, he24a, he24b, he24c, he24, he25a, he25b, he25c, he25, hvr26, ↓hqb28, ↓hqb29, he30a, he30b, he30c, he30, he31a, he31b, he31c, he31, he32a, he32b, he32c, he32, hvr33, ↓hqb35]
                try simp only [↓hg37, ↓hqb9, ↓hqb10, ↓hqb11, ↓hqb12, ↓hqb19, ↓hqb20, ↓hqb28, ↓hqb29, ↓hqb35] at hK
                try have q0 := c_bookendref11_SameEntries hvr17
                try have q1 := c_bookendref11_SameEntries hvr26
                try have q2 := c_bookendref11_SameEntries hvr33
                all_goals exact rUd
               | true =>
                replace hb36 := iteT hb36 rfl
                have hqb36 := Option.some.inj hb36
                subst hqb36
                simp (maxSteps := 1000000) only [↓reduceIte, reduceCtorEq, Nat.reduceEqDiff, Nat.reduceLT, Nat.reduceLeDiff, Nat.reduceAdd, Nat.reduceMul, Int.reduceToNat, push_cast, ↓hg37, ↓hqb9, ↓hqb10, ↓hqb11, ↓hqb12, he13a, he13b, he13c, he13, he14a, he14b, he14c, he14, he15a, he15b, he15c, he15, he16a, he16b, he16c, he16, hvr17, ↓hqb19, ↓hqb20, he21a, he21b, he21c, he21, he22a, he22b, he22c, he22, he23a, he23b, he23c, he23, he24a, he24b, he24c, he24, he25a, he25b, he25c, he25, hvr26, ↓hqb28, ↓hqb29, he30a, he30b, he30c, he30, he31a, he31b, he31c, he31, he32a, he32b, he32c, he32, hvr33, ↓hqb35]
                try simp only [↓hg37, ↓hqb9, ↓hqb10, ↓hqb11, ↓hqb12, ↓hqb19, ↓hqb20, ↓hqb28, ↓hqb29, ↓hqb35] at hK
                try have q0 := c_bookendref11_SameEntries hvr17
                try have q1 := c_bookendref11_SameEntries hvr26
                try have q2 := c_bookendref11_SameEntries hvr33
                all_goals exact rUd) ?_
 refine awp_re (s2 := ⟨[(0, .bool b36)], [(72, ⟨0, true, true, 10, [[.psl 1 (List.map (encSl 4 TApiEntry.enc) vr2.1.Merge.Runs), .psl 1 (List.map (encInt .i64) vr2.1.Merge.At), .psl 2 (List.map TApiLsKey.enc vr2.1.Merge.Tree.Keys), .psl 1 (List.map (encInt .i64) vr2.1.Merge.Tree.Lose), .int .i64 vr2.1.Merge.Tree.Win, .bool vr2.1.Shadow.Some, .str vr2.1.Shadow.Last, .bool vr2.1.Shadow.Bottom, .psl 4 (List.map TApiEntry.enc vr2.1.Out), .int .i64 vr2.1.Steps]]⟩), (208, ⟨0, true, true, 10, [[.psl 1 (List.map (encSl 4 TApiEntry.enc) vr4.1.Merge.Runs), .psl 1 (List.map (encInt .i64) vr4.1.Merge.At), .psl 2 (List.map TApiLsKey.enc vr4.1.Merge.Tree.Keys), .psl 1 (List.map (encInt .i64) vr4.1.Merge.Tree.Lose), .int .i64 vr4.1.Merge.Tree.Win, .bool vr4.1.Shadow.Some, .str vr4.1.Shadow.Last, .bool vr4.1.Shadow.Bottom, .psl 4 (List.map TApiEntry.enc vr4.1.Out), .int .i64 vr4.1.Steps]]⟩), (288, ⟨0, true, true, 10, [[.psl 1 (List.map (encSl 4 TApiEntry.enc) vr5.1.Merge.Runs), .psl 1 (List.map (encInt .i64) vr5.1.Merge.At), .psl 2 (List.map TApiLsKey.enc vr5.1.Merge.Tree.Keys), .psl 1 (List.map (encInt .i64) vr5.1.Merge.Tree.Lose), .int .i64 vr5.1.Merge.Tree.Win, .bool vr5.1.Shadow.Some, .str vr5.1.Shadow.Last, .bool vr5.1.Shadow.Bottom, .psl 4 (List.map TApiEntry.enc vr5.1.Out), .int .i64 vr5.1.Steps]]⟩)], 1256, []⟩) [] (Nat.le_of_ble_eq_true rfl) ⟨rF, rE, rfl, rfl, trivial, trivial⟩ ?_
 refine awp_ret ?_
 obtain rfl := Option.some.inj h0
 refine leave_retG [] ?_
 exact rG
end Go.T
end
section
namespace Go.T
open Go Go.AM Go.Proofs
set_option maxRecDepth 100000
set_option maxHeartbeats 4000000
set_option linter.unusedVariables false
theorem c_bookendref03_Check {fu : Nat} {vx1 : TApiEntry} {r : Int} (h0 : bookendref03_Check fu vx1 = some r) : PCall Try.prog 47 [.agg (TApiEntry.enc vx1)] (.int .i64 r) [] := by
 refine awp_pcall Try.func47 rfl (by decide) (Nat.le_of_ble_eq_true rfl) ?_
 dsimp only [Try.f47]
 rw [bookendref03_Check] at h0
 refine (show AWP _ _ _ _ ⟨enumFr 0 _, [], 0, []⟩ from ?_)
 refine awp_sr2 16 [1] (fun _ => none) rfl (fun _ _ => rT) ?_
 refine awp_seq ?_
 obtain ⟨b2, hb2, h0⟩ := bindS h0
 refine awp_sr3 (fr' := [(1, .ref 0 0 0 0), (12, .bool b2)]) (hp' := [(0, ⟨0, true, true, 4, [[.str vx1.Key, .str vx1.Val, .bool vx1.Dead, .int .i64 vx1.Seq]]⟩)]) [0] 96 [1, 12] (fun _ => none) rfl (fun Kt hK => by
   cases hg3 : (decide (32 < (vx1.Key.length : Int))) with
   | false =>
    replace hb2 := iteF hb2 hg3
    have hqb2 := Option.some.inj hb2
    subst hqb2
    simp (maxSteps := 1000000) only [↓reduceIte, reduceCtorEq, Nat.reduceEqDiff, Nat.reduceLT, Nat.reduceLeDiff, Nat.reduceAdd, Nat.reduceMul, Int.reduceToNat, push_cast, ↓hg3]
    try simp only [↓hg3] at hK
    all_goals exact rU
   | true =>
    replace hb2 := iteT hb2 hg3
    have hqb2 := Option.some.inj hb2
    subst hqb2
    simp (maxSteps := 1000000) only [↓reduceIte, reduceCtorEq, Nat.reduceEqDiff, Nat.reduceLT, Nat.reduceLeDiff, Nat.reduceAdd, Nat.reduceMul, Int.reduceToNat, push_cast, ↓hg3]
    try simp only [↓hg3] at hK
    all_goals exact rU) ?_
 refine awp_if rfl (fun hb4 => ?_) (fun hb4 => ?_)
 ·
  replace h0 := iteT h0 hb4
  refine awp_sr2 104 [2] (fun _ => none) rfl (fun _ _ => rT) ?_
  refine awp_ret ?_
  refine kr_then ?_
  obtain rfl := Option.some.inj h0
  refine leave_retG [] ?_
  exact rG
 ·
  replace h0 := iteF h0 hb4
  refine awp_skip ?_
  refine kn_then ?_
  refine awp_seq ?_
  obtain ⟨b5, hb5, h0⟩ := bindS h0
  refine awp_sr3 (fr' := [(1, .ref 0 0 0 0), (19, .bool b5)]) (hp' := [(0, ⟨0, true, true, 4, [[.str vx1.Key, .str vx1.Val, .bool vx1.Dead, .int .i64 vx1.Seq]]⟩)]) [0] 152 [1, 19] (fun _ => none) rfl (fun Kt hK => by
    cases hg6 : vx1.Dead with
    | false =>
     replace hb5 := iteF hb5 hg6
     have hqb5 := Option.some.inj hb5
     subst hqb5
     simp (maxSteps := 1000000) only [↓reduceIte, reduceCtorEq, Nat.reduceEqDiff, Nat.reduceLT, Nat.reduceLeDiff, Nat.reduceAdd, Nat.reduceMul, Int.reduceToNat, push_cast, ↓hg6]
     try simp only [↓hg6] at hK
     all_goals exact rU
    | true =>
     replace hb5 := iteT hb5 hg6
     have hqb5 := Option.some.inj hb5
     subst hqb5
     simp (maxSteps := 1000000) only [↓reduceIte, reduceCtorEq, Nat.reduceEqDiff, Nat.reduceLT, Nat.reduceLeDiff, Nat.reduceAdd, Nat.reduceMul, Int.reduceToNat, push_cast, ↓hg6]
     try simp only [↓hg6] at hK
     all_goals exact rU) ?_
  refine awp_if rfl (fun hb7 => ?_) (fun hb7 => ?_)
  ·
   replace h0 := iteT h0 hb7
   refine awp_sr2 160 [2] (fun _ => none) rfl (fun _ _ => rT) ?_
   refine awp_ret ?_
   refine kr_then ?_
   obtain rfl := Option.some.inj h0
   refine leave_retG [] ?_
   exact rG
  ·
   replace h0 := iteF h0 hb7
   refine awp_skip ?_
   refine kn_then ?_
   refine awp_seq ?_
   obtain ⟨b8, hb8, h0⟩ := bindS h0
   refine awp_sr3 (fr' := [(27, .bool b8)]) (hp' := [(0, ⟨0, true, true, 4, [[.str vx1.Key, .str vx1.Val, .bool vx1.Dead, .int .i64 vx1.Seq]]⟩)]) [0] 216 [27] (fun _ => none) rfl (fun Kt hK => by
     cases hg9 : (decide (vx1.Seq < 1)) with
     | false =>
      replace hb8 := iteF hb8 hg9
      have hqb8 := Option.some.inj hb8
      subst hqb8
      simp (maxSteps := 1000000) only [↓reduceIte, reduceCtorEq, Nat.reduceEqDiff, Nat.reduceLT, Nat.reduceLeDiff, Nat.reduceAdd, Nat.reduceMul, Int.reduceToNat, push_cast, ↓hg9]
      try simp only [↓hg9] at hK
      all_goals exact rU
     | true =>
      replace hb8 := iteT hb8 hg9
      have hqb8 := Option.some.inj hb8
      subst hqb8
      simp (maxSteps := 1000000) only [↓reduceIte, reduceCtorEq, Nat.reduceEqDiff, Nat.reduceLT, Nat.reduceLeDiff, Nat.reduceAdd, Nat.reduceMul, Int.reduceToNat, push_cast, ↓hg9]
      try simp only [↓hg9] at hK
      all_goals exact rU) ?_
   refine awp_if rfl (fun hb10 => ?_) (fun hb10 => ?_)
   ·
    replace h0 := iteT h0 hb10
    refine awp_sr2 224 [2] (fun _ => none) rfl (fun _ _ => rT) ?_
    refine awp_ret ?_
    refine kr_then ?_
    obtain rfl := Option.some.inj h0
    refine leave_retG [] ?_
    exact rG
   ·
    replace h0 := iteF h0 hb10
    refine awp_skip ?_
    refine kn_then ?_
    refine awp_sr2 224 [2] (fun _ => none) rfl (fun _ _ => rT) ?_
    refine awp_ret ?_
    obtain rfl := Option.some.inj h0
    refine leave_retG [] ?_
    exact rG
end Go.T
end
section
namespace Go.T
open Go Go.AM Go.Proofs
set_option maxRecDepth 100000
set_option maxHeartbeats 4000000
set_option linter.unusedVariables false
theorem c_bookendref02_common {fu : Nat} {a1 : List UInt8} {b2 : List UInt8} {r : Int} (h0 : bookendref02_common fu a1 b2 = some r) : PCall Try.prog 68 [.str a1, .str b2] (.int .i64 r) [] := by
 refine awp_pcall Try.func68 rfl (by decide) (Nat.le_of_ble_eq_true rfl) ?_
 dsimp only [Try.f68]
 rw [bookendref02_common] at h0
 refine (show AWP _ _ _ _ ⟨enumFr 0 _, [], 0, []⟩ from ?_)
 refine awp_sr2 8 [0, 1] (fun _ => none) rfl (fun _ _ => rT) ?_
 refine awp_sr2 16 [0, 1, 5] (fun _ => none) rfl (fun _ _ => rT) ?_
 obtain ⟨x20, hxx20, h0⟩ := bindS h0
 refine awp_sloop (fun s' => s'.nx ≤ 168 ∧ LeN [] s' ⟨[(5, .int .i64 x20)], [], 168, []⟩) ?_ ?_
 ·
  intro s' hs
  obtain ⟨hn, hs⟩ := hs
  refine awp_re [] hn hs ?_
  refine awp_sr2 184 [4] (fun _ => none) rfl (fun _ _ => rT) ?_
  refine awp_ret ?_
  obtain rfl := Option.some.inj h0
  refine leave_retG [] ?_
  exact rG
 ·
  refine awp_loopF (ι := { p : Nat × Int // bookendref02_common_l1 a1 b2 p.1 p.2 = some x20 }) (fun p => ⟨[(0, .str a1), (1, .str b2), (5, .int .i64 p.1.2)], [], 16, []⟩) (fun p => p.1.1) ⟨(fu, 0), hxx20⟩ ⟨rF, rE, rfl, rfl, trivial, trivial⟩ (fun _ => Nat.le_refl _) ?_
  rintro ⟨⟨fu, n21⟩, h1⟩
  cases fu with
  | zero =>
   replace h1 : bookendref02_common_l1 a1 b2 0 n21 = some x20 := h1
   rw [bookendref02_common_l1] at h1; cases h1
  | succ fu =>
   replace h1 : bookendref02_common_l1 a1 b2 (fu + 1) n21 = some x20 := h1
   rw [bookendref02_common_l1] at h1
   refine (show AWP _ _ _ _ ⟨[(0, .str a1), (1, .str b2), (5, .int .i64 n21)], [], 16, []⟩ from ?_)
   refine awp_seq ?_
   obtain ⟨b22, hb22, h1⟩ := bindS h1
   obtain ⟨b25, hb25, h1⟩ := bindS h1
   refine awp_sd3 (fr' := [(0, .str a1), (1, .str b2), (5, .int .i64 n21), (24, .bool b25)]) (hp' := []) [] 168 [0, 1, 5, 24] (fun _ => none) rfl rfl rfl (fun Kt hK => by
     cases hg26 : (decide (n21 < (a1.length : Int))) with
     | false =>
      replace hb22 := iteF hb22 hg26
      have hqb22 := Option.some.inj hb22
      cases b22 with
      | false =>
       replace hb25 := iteF hb25 rfl
       have hqb25 := Option.some.inj hb25
       subst hqb25
       simp (maxSteps := 1000000) only [↓reduceIte, reduceCtorEq, Nat.reduceEqDiff, Nat.reduceLT, Nat.reduceLeDiff, Nat.reduceAdd, Nat.reduceMul, Int.reduceToNat, push_cast, ↓hg26]
       try simp only [↓hg26] at hK
       all_goals exact rUd
      | true =>
       cases hqb22
     | true =>
      replace hb22 := iteT hb22 hg26
      have hqb22 := Option.some.inj hb22
      cases b22 with
      | false =>
       replace hb25 := iteF hb25 rfl
       have hqb25 := Option.some.inj hb25
       subst hqb25
       simp (maxSteps := 1000000) only [↓reduceIte, reduceCtorEq, Nat.reduceEqDiff, Nat.reduceLT, Nat.reduceLeDiff, Nat.reduceAdd, Nat.reduceMul, Int.reduceToNat, push_cast, ↓hg26, ↓hqb22]
       try simp only [↓hg26, ↓hqb22] at hK
       all_goals exact rUd
      | true =>
       replace hb25 := iteT hb25 rfl
       obtain ⟨e23, he23, hb25⟩ := bindS hb25
       obtain ⟨he23a, he23b, he23c⟩ := idxS he23
       obtain ⟨e24, he24, hb25⟩ := bindS hb25
       obtain ⟨he24a, he24b, he24c⟩ := idxS he24
       have hqb25 := Option.some.inj hb25
       subst hqb25
       simp (maxSteps := 1000000) only [↓reduceIte, reduceCtorEq, Nat.reduceEqDiff, Nat.reduceLT, Nat.reduceLeDiff, Nat.reduceAdd, Nat.reduceMul, Int.reduceToNat, push_cast, ↓hg26, ↓hqb22, he23a, he23b, he23c, he23, he24a, he24b, he24c, he24]
       try simp only [↓hg26, ↓hqb22] at hK
       all_goals exact rUd) ?_
   refine awp_if rfl (fun hb29 => ?_) (fun hb29 => ?_)
   ·
    replace h1 := iteT h1 hb29
    refine awp_skip ?_
    refine kn_then ?_
    refine awp_block ?_
    refine awp_r2 192 [0, 1, 5] (fun _ => none) rfl (fun _ _ => rT) ?_
    refine kn_block ?_
    refine kn_then ?_
    exact ⟨⟨(fu, (IntKind.i64.wrap (n21 + 1))), h1⟩, ⟨rF, rE, rfl, rfl, trivial, trivial⟩, Nat.lt_succ_self _⟩
   ·
    replace h1 := iteF h1 hb29
    refine awp_exit ?_
    refine kx_then ?_
    refine kx_then ?_
    refine kx_done ?_
    obtain rfl := Option.some.inj h1
    exact ⟨Nat.le_of_ble_eq_true rfl, ⟨rF, rE, rfl, rfl, trivial, trivial⟩⟩
end Go.T
end
section
namespace Go.T
open Go Go.AM Go.Proofs
set_option maxRecDepth 100000
set_option maxHeartbeats 4000000
set_option linter.unusedVariables false
theorem c_bookendref02_Order {fu : Nat} {a1 : List UInt8} {b2 : List UInt8} {r : Int} (h0 : bookendref02_Order fu a1 b2 = some r) : PCall Try.prog 48 [.str a1, .str b2] (.int .i64 r) [] := by
 refine awp_pcall Try.func48 rfl (by decide) (Nat.le_of_ble_eq_true rfl) ?_
 dsimp only [Try.f48]
 rw [bookendref02_Order] at h0
 refine (show AWP _ _ _ _ ⟨enumFr 0 _, [], 0, []⟩ from ?_)
 refine awp_sr2 8 [0, 1] (fun _ => none) rfl (fun _ _ => rT) ?_
 obtain ⟨vr3, hvr3, h0⟩ := bindS h0
 refine awp_sr2 40 [0, 1, 5] (fun | 2 => some (.int .i64 vr3, []) | _ => none) rfl (fun _ _ => rC (c_bookendref02_common hvr3)) ?_
 refine awp_seq ?_
 obtain ⟨b4, hb4, h0⟩ := bindS h0
 refine awp_sr3 (fr' := [(0, .str a1), (1, .str b2), (5, .int .i64 vr3), (18, .bool b4)]) (hp' := []) [] 120 [0, 1, 5, 18] (fun _ => none) rfl (fun Kt hK => by
   cases hg5 : (decide (vr3 = (a1.length : Int))) with
   | false =>
    replace hb4 := iteF hb4 hg5
    have hqb4 := Option.some.inj hb4
    subst hqb4
    simp (maxSteps := 1000000) only [↓reduceIte, reduceCtorEq, Nat.reduceEqDiff, Nat.reduceLT, Nat.reduceLeDiff, Nat.reduceAdd, Nat.reduceMul, Int.reduceToNat, push_cast, ↓hg5]
    try simp only [↓hg5] at hK
    all_goals exact rU
   | true =>
    replace hb4 := iteT hb4 hg5
    have hqb4 := Option.some.inj hb4
    subst hqb4
    simp (maxSteps := 1000000) only [↓reduceIte, reduceCtorEq, Nat.reduceEqDiff, Nat.reduceLT, Nat.reduceLeDiff, Nat.reduceAdd, Nat.reduceMul, Int.reduceToNat, push_cast, ↓hg5]
    try simp only [↓hg5] at hK
    all_goals exact rU) ?_
 refine awp_if rfl (fun hb6 => ?_) (fun hb6 => ?_)
 ·
  replace h0 := iteT h0 hb6
  refine awp_sr2 128 [4] (fun _ => none) rfl (fun _ _ => rT) ?_
  refine awp_ret ?_
  refine kr_then ?_
  obtain rfl := Option.some.inj h0
  refine leave_retG [] ?_
  exact rG
 ·
  replace h0 := iteF h0 hb6
  refine awp_skip ?_
  refine kn_then ?_
  refine awp_seq ?_
  obtain ⟨b10, hb10, h0⟩ := bindS h0
  refine awp_sd3 (fr' := [(37, .bool b10)]) (hp' := []) [] 272 [37] (fun _ => none) rfl rfl rfl (fun Kt hK => by
    cases hg11 : (decide (vr3 = (a1.length : Int))) with
    | false =>
     replace hb10 := iteF hb10 hg11
     obtain ⟨b9, hb9, hb10⟩ := bindS hb10
     have hqb10 := Option.some.inj hb10
     cases hg12 : (decide (vr3 < (b2.length : Int))) with
     | false =>
      replace hb9 := iteF hb9 hg12
      have hqb9 := Option.some.inj hb9
      subst hqb10
      subst hqb9
      simp (maxSteps := 1000000) only [↓reduceIte, reduceCtorEq, Nat.reduceEqDiff, Nat.reduceLT, Nat.reduceLeDiff, Nat.reduceAdd, Nat.reduceMul, Int.reduceToNat, push_cast, ↓hg11, ↓hg12]
      try simp only [↓hg11, ↓hg12] at hK
      all_goals exact rUd
     | true =>
      replace hb9 := iteT hb9 hg12
      obtain ⟨e7, he7, hb9⟩ := bindS hb9
      obtain ⟨he7a, he7b, he7c⟩ := idxS he7
      obtain ⟨e8, he8, hb9⟩ := bindS hb9
      obtain ⟨he8a, he8b, he8c⟩ := idxS he8
      have hqb9 := Option.some.inj hb9
      subst hqb10
      subst hqb9
      simp (maxSteps := 1000000) only [↓reduceIte, reduceCtorEq, Nat.reduceEqDiff, Nat.reduceLT, Nat.reduceLeDiff, Nat.reduceAdd, Nat.reduceMul, Int.reduceToNat, push_cast, ↓hg11, ↓hg12, he7a, he7b, he7c, he7, he8a, he8b, he8c, he8]
      try simp only [↓hg11, ↓hg12] at hK
      all_goals exact rUd
    | true =>
     replace hb10 := iteT hb10 hg11
     have hqb10 := Option.some.inj hb10
     subst hqb10
     simp (maxSteps := 1000000) only [↓reduceIte, reduceCtorEq, Nat.reduceEqDiff, Nat.reduceLT, Nat.reduceLeDiff, Nat.reduceAdd, Nat.reduceMul, Int.reduceToNat, push_cast, ↓hg11]
     try simp only [↓hg11] at hK
     all_goals exact rUd) ?_
  refine awp_if rfl (fun hb13 => ?_) (fun hb13 => ?_)
  ·
   replace h0 := iteT h0 hb13
   refine awp_sr2 280 [4] (fun _ => none) rfl (fun _ _ => rT) ?_
   refine awp_ret ?_
   refine kr_then ?_
   obtain rfl := Option.some.inj h0
   refine leave_retG [] ?_
   exact rG
  ·
   replace h0 := iteF h0 hb13
   refine awp_skip ?_
   refine kn_then ?_
   refine awp_sr2 280 [4] (fun _ => none) rfl (fun _ _ => rT) ?_
   refine awp_ret ?_
   obtain rfl := Option.some.inj h0
   refine leave_retG [] ?_
   exact rG
end Go.T
end
section
namespace Go.T
open Go Go.AM Go.Proofs
set_option maxRecDepth 100000
set_option maxHeartbeats 4000000
set_option linter.unusedVariables false
theorem c_bookendref03_CheckList {fu : Nat} {l1 : List TApiEntry} {r : Int × Int} (h0 : bookendref03_CheckList fu l1 = some r) : PCall Try.prog 26 [.psl 4 (l1.map TApiEntry.enc)] (.tup [.int .i64 r.1, .int .i64 r.2]) [] := by
 refine awp_pcall Try.func26 rfl (by decide) (Nat.le_of_ble_eq_true rfl) ?_
 dsimp only [Try.f26]
 rw [bookendref03_CheckList] at h0
 refine (show AWP _ _ _ _ ⟨enumFr 0 _, [], 0, []⟩ from ?_)
 refine awp_sr2 16 [0] (fun _ => none) rfl (fun _ _ => rT) ?_
 refine awp_seq ?_
 refine awp_sr2 40 [0, 8] (fun _ => none) rfl (fun _ _ => rT) ?_
 refine awp_if rfl (fun hb2 => ?_) (fun hb2 => ?_)
 ·
  replace h0 := iteT h0 hb2
  refine awp_sr2 56 [2, 3] (fun _ => none) rfl (fun _ _ => rT) ?_
  refine awp_ret ?_
  refine kr_then ?_
  obtain rfl := Option.some.inj h0
  refine leave_retG [] ?_
  exact rG
 ·
  replace h0 := iteF h0 hb2
  refine awp_skip ?_
  refine kn_then ?_
  refine awp_seq ?_
  refine awp_sr2 48 [0, 4] (fun _ => none) rfl (fun _ _ => rT) ?_
  obtain ⟨x28, hxx28, h0⟩ := bindS h0
  refine awp_bloop (fun s' => ∃ o42 : Unit, x28 = .inl o42 ∧ s'.nx ≤ 80 ∧ LeN [] s' ⟨[], [], 80, []⟩) ?_ ?_
  ·
   intro s' hs
   obtain ⟨o42, rfl, hn, hs⟩ := hs
   refine kn_then ?_
   refine awp_re [] hn hs ?_
   refine awp_sr2 96 [2, 3] (fun _ => none) rfl (fun _ _ => rT) ?_
   refine awp_ret ?_
   obtain rfl := Option.some.inj h0
   refine leave_retG [] ?_
   exact rG
  ·
   refine awp_loopF (ι := { p : Nat × Int // bookendref03_CheckList_l1 l1 p.1 p.2 = some x28 }) (fun p => ⟨[(0, .psl 4 (List.map TApiEntry.enc l1)), (4, .int .i64 p.1.2)], [], 48, []⟩) (fun p => p.1.1) ⟨(fu, 0), hxx28⟩ ⟨rF, rE, rfl, rfl, trivial, trivial⟩ (fun _ => Nat.le_refl _) ?_
   rintro ⟨⟨fu, i29⟩, h1⟩
   cases fu with
   | zero =>
   replace h1 : bookendref03_CheckList_l1 l1 0 i29 = some x28 := h1
   rw [bookendref03_CheckList_l1] at h1; cases h1
   | succ fu =>
    replace h1 : bookendref03_CheckList_l1 l1 (fu + 1) i29 = some x28 := h1
    rw [bookendref03_CheckList_l1] at h1
    refine (show AWP _ _ _ _ ⟨[(0, .psl 4 (List.map TApiEntry.enc l1)), (4, .int .i64 i29)], [], 48, []⟩ from ?_)
    refine awp_seq ?_
    refine awp_sr2 80 [0, 4, 12] (fun _ => none) rfl (fun _ _ => rT) ?_
    refine awp_if rfl (fun hb30 => ?_) (fun hb30 => ?_)
    ·
     replace h1 := iteT h1 hb30
     refine awp_skip ?_
     refine kn_then ?_
     refine awp_seq ?_
     refine awp_block ?_
     obtain ⟨e31, he31, h1⟩ := bindS h1
     obtain ⟨he31a, he31b, he31c⟩ := idxS he31
     obtain ⟨vr32, hvr32, h1⟩ := bindS h1
     refine awp_sr2 128 [0, 4, 5] (fun | 4 => some (.int .i64 vr32, []) | _ => none) rfl (fun _ _ => rB (rA he31a (rA he31b he31c)) (c_bookendref03_Check hvr32)) ?_
     refine awp_seq ?_
     obtain ⟨b33, hb33, h1⟩ := bindS h1
     obtain ⟨b36, hb36, h1⟩ := bindS h1
     refine awp_sd3 (fr' := [(0, .psl 4 (List.map TApiEntry.enc l1)), (4, .int .i64 i29), (5, .int .i64 vr32), (40, .bool b36)]) (hp' := []) [] 296 [0, 4, 5, 40] (fun | 18 => (ix l1 (IntKind.i64.wrap (i29 - 1))).bind fun e34 => (bookendref02_Order fu e34.Key e31.Key).bind fun vr35 => some (.int .i64 vr35, []) | _ => none) rfl rfl rfl (fun Kt hK => by
       cases hg37 : (decide (vr32 = 0)) with
       | false =>
        replace hb33 := iteF hb33 hg37
        have hqb33 := Option.some.inj hb33
        cases b33 with
        | false =>
         replace hb36 := iteF hb36 rfl
         have hqb36 := Option.some.inj hb36
         subst hqb36
         simp (maxSteps := 1000000) only [↓reduceIte, reduceCtorEq, Nat.reduceEqDiff, Nat.reduceLT, Nat.reduceLeDiff, Nat.reduceAdd, Nat.reduceMul, Int.reduceToNat, push_cast, he31a, he31b, he31c, ↓hg37]
         try simp only [↓hg37] at hK
         try have q0 := c_bookendref02_Order hvr35
         all_goals exact rUd
        | true =>
         cases hqb33
       | true =>
        replace hb33 := iteT hb33 hg37
        have hqb33 := Option.some.inj hb33
        cases b33 with
        | false =>
         replace hb36 := iteF hb36 rfl
         have hqb36 := Option.some.inj hb36
         subst hqb36
         simp (maxSteps := 1000000) only [↓reduceIte, reduceCtorEq, Nat.reduceEqDiff, Nat.reduceLT, Nat.reduceLeDiff, Nat.reduceAdd, Nat.reduceMul, Int.reduceToNat, push_cast, he31a, he31b, he31c, ↓hg37, ↓hqb33]
         try simp only [↓hg37, ↓hqb33] at hK
         try have q0 := c_bookendref02_Order hvr35
         all_goals exact rUd
        | true =>
         replace hb36 := iteT hb36 rfl
         obtain ⟨e34, he34, hb36⟩ := bindS hb36
         obtain ⟨he34a, he34b, he34c⟩ := idxS he34
         obtain ⟨vr35, hvr35, hb36⟩ := bindS hb36
         have hqb36 := Option.some.inj hb36
         subst hqb36
         simp (maxSteps := 1000000) only [↓reduceIte, reduceCtorEq, Nat.reduceEqDiff, Nat.reduceLT, Nat.reduceLeDiff, Nat.reduceAdd, Nat.reduceMul, Int.reduceToNat, push_cast, he31a, he31b, he31c, ↓hg37, ↓hqb33, he34a, he34b, he34c, he34, hvr35]
         try simp only [↓hg37, ↓hqb33] at hK
         try have q0 := c_bookendref02_Order hvr35
         all_goals exact rUd) ?_
     refine awp_if rfl (fun hb40 => ?_) (fun hb40 => ?_)
     ·
      replace h1 := iteT h1 hb40
      refine awp_r2 304 [0, 4, 5] (fun _ => none) rfl (fun _ _ => rS (rA he31a (rA he31b he31c))) ?_
      refine kn_then ?_
      refine awp_sr2 320 [0, 4, 5, 42] (fun _ => none) rfl (fun _ _ => rS (rA he31a (rA he31b he31c))) ?_
      refine awp_condT rfl ?_
      refine awp_sr2 352 [2, 3] (fun _ => none) rfl (fun _ _ => rS (rA he31a (rA he31b he31c))) ?_
      refine awp_ret ?_
      obtain rfl := Option.some.inj h1
      refine kr_block ?_
      refine kr_then ?_
      refine kr_then ?_
      refine kr_loop ?_
      refine kr_then ?_
      obtain rfl := Option.some.inj h0
      refine leave_retG [] ?_
      simp (maxSteps := 1000000) only [↓reduceIte, reduceCtorEq, Nat.reduceEqDiff, Nat.reduceLT, Nat.reduceLeDiff, Nat.reduceAdd, Nat.reduceMul, Int.reduceToNat, push_cast, Gives, he31a, he31b, he31c]
      all_goals exact rH
     ·
      replace h1 := iteF h1 hb40
      refine awp_skip ?_
      refine kn_then ?_
      refine awp_sr2 312 [0, 4, 5, 42] (fun _ => none) rfl (fun _ _ => rS (rA he31a (rA he31b he31c))) ?_
      refine awp_if rfl (fun hb41 => ?_) (fun hb41 => ?_)
      ·
       replace h1 := iteT h1 hb41
       refine awp_sr2 344 [2, 3] (fun _ => none) rfl (fun _ _ => rS (rA he31a (rA he31b he31c))) ?_
       refine awp_ret ?_
       obtain rfl := Option.some.inj h1
       refine kr_block ?_
       refine kr_then ?_
       refine kr_then ?_
       refine kr_loop ?_
       refine kr_then ?_
       obtain rfl := Option.some.inj h0
       refine leave_retG [] ?_
       simp (maxSteps := 1000000) only [↓reduceIte, reduceCtorEq, Nat.reduceEqDiff, Nat.reduceLT, Nat.reduceLeDiff, Nat.reduceAdd, Nat.reduceMul, Int.reduceToNat, push_cast, Gives, he31a, he31b, he31c]
       all_goals exact rH
      ·
       replace h1 := iteF h1 hb41
       refine awp_skip ?_
       refine kn_block ?_
       refine kn_then ?_
       refine awp_r2 336 [0, 4] (fun _ => none) rfl (fun _ _ => rS (rA he31a (rA he31b he31c))) ?_
       refine kn_then ?_
       exact ⟨⟨(fu, (IntKind.i64.wrap (i29 + 1))), h1⟩, ⟨rF, rE, rfl, rfl, trivial, trivial⟩, Nat.lt_succ_self _⟩
    ·
     replace h1 := iteF h1 hb30
     refine awp_exit ?_
     refine kx_then ?_
     refine kx_then ?_
     refine kx_done ?_
     obtain rfl := Option.some.inj h1
     exact ⟨_, rfl, Nat.le_of_ble_eq_true rfl, ⟨rF, rE, rfl, rfl, trivial, trivial⟩⟩
end Go.T
end
section
namespace Go.T
open Go Go.AM Go.Proofs
set_option maxRecDepth 100000
set_option maxHeartbeats 4000000
set_option linter.unusedVariables false
theorem c_bookendref11_right {fu : Nat} {runs1 : List (List TApiEntry)} {r : Int × Int} (h0 : bookendref11_right fu runs1 = some r) : PCall Try.prog 49 [.psl 1 (runs1.map (encSl 4 TApiEntry.enc))] (.tup [.int .i64 r.1, .int .i64 r.2]) [] := by
 refine awp_pcall Try.func49 rfl (by decide) (Nat.le_of_ble_eq_true rfl) ?_
 dsimp only [Try.f49]
 rw [bookendref11_right] at h0
 refine (show AWP _ _ _ _ ⟨enumFr 0 _, [], 0, []⟩ from ?_)
 refine awp_sr2 16 [0] (fun _ => none) rfl (fun _ _ => rT) ?_
 refine awp_seq ?_
 refine awp_sr2 40 [0, 9] (fun _ => none) rfl (fun _ _ => rT) ?_
 refine awp_if rfl (fun hb2 => ?_) (fun hb2 => ?_)
 ·
  replace h0 := iteT h0 hb2
  refine awp_sr2 56 [2, 3] (fun _ => none) rfl (fun _ _ => rT) ?_
  refine awp_ret ?_
  refine kr_then ?_
  obtain rfl := Option.some.inj h0
  refine leave_retG [] ?_
  exact rG
 ·
  replace h0 := iteF h0 hb2
  refine awp_skip ?_
  refine kn_then ?_
  refine awp_seq ?_
  refine awp_sr2 64 [0, 12] (fun _ => none) rfl (fun _ _ => rT) ?_
  refine awp_if rfl (fun hb3 => ?_) (fun hb3 => ?_)
  ·
   replace h0 := iteT h0 hb3
   refine awp_sr2 80 [2, 3] (fun _ => none) rfl (fun _ _ => rT) ?_
   refine awp_ret ?_
   refine kr_then ?_
   obtain rfl := Option.some.inj h0
   refine leave_retG [] ?_
   exact rG
  ·
   replace h0 := iteF h0 hb3
   refine awp_skip ?_
   refine kn_then ?_
   refine awp_seq ?_
   refine awp_sr2 72 [0, 4] (fun _ => none) rfl (fun _ _ => rT) ?_
   obtain ⟨x13, hxx13, h0⟩ := bindS h0
   refine awp_bloop (fun s' => ∃ o19 : Unit, x13 = .inl o19 ∧ s'.nx ≤ 104 ∧ LeN [] s' ⟨[], [], 104, []⟩) ?_ ?_
   ·
    intro s' hs
    obtain ⟨o19, rfl, hn, hs⟩ := hs
    refine kn_then ?_
    refine awp_re [] hn hs ?_
    refine awp_sr2 120 [2, 3] (fun _ => none) rfl (fun _ _ => rT) ?_
    refine awp_ret ?_
    obtain rfl := Option.some.inj h0
    refine leave_retG [] ?_
    exact rG
   ·
    refine awp_loopF (ι := { p : Nat × Int // bookendref11_right_l1 runs1 p.1 p.2 = some x13 }) (fun p => ⟨[(0, .psl 1 (List.map (encSl 4 TApiEntry.enc) runs1)), (4, .int .i64 p.1.2)], [], 72, []⟩) (fun p => p.1.1) ⟨(fu, 0), hxx13⟩ ⟨rF, rE, rfl, rfl, trivial, trivial⟩ (fun _ => Nat.le_refl _) ?_
    rintro ⟨⟨fu, i14⟩, h1⟩
    cases fu with
    | zero =>
   replace h1 : bookendref11_right_l1 runs1 0 i14 = some x13 := h1
   rw [bookendref11_right_l1] at h1; cases h1
    | succ fu =>
     replace h1 : bookendref11_right_l1 runs1 (fu + 1) i14 = some x13 := h1
     rw [bookendref11_right_l1] at h1
     refine (show AWP _ _ _ _ ⟨[(0, .psl 1 (List.map (encSl 4 TApiEntry.enc) runs1)), (4, .int .i64 i14)], [], 72, []⟩ from ?_)
     refine awp_seq ?_
     refine awp_sr2 104 [0, 4, 16] (fun _ => none) rfl (fun _ _ => rT) ?_
     refine awp_if rfl (fun hb15 => ?_) (fun hb15 => ?_)
     ·
      replace h1 := iteT h1 hb15
      refine awp_skip ?_
      refine kn_then ?_
      refine awp_seq ?_
      refine awp_block ?_
      obtain ⟨e16, he16, h1⟩ := bindS h1
      obtain ⟨he16a, he16b, he16c⟩ := idxS he16
      obtain ⟨vr17, hvr17, h1⟩ := bindS h1
      refine awp_sr2 184 [0, 4, 6] (fun | 4 => some (.tup [.int .i64 vr17.1, .int .i64 vr17.2], []) | _ => none) rfl (fun _ _ => rB (rA he16a (rA he16b he16c)) (c_bookendref03_CheckList hvr17)) ?_
      refine awp_sr2 200 [0, 4, 6, 28] (fun _ => none) rfl (fun _ _ => rS (rA he16a (rA he16b he16c))) ?_
      refine awp_if rfl (fun hb18 => ?_) (fun hb18 => ?_)
      ·
       replace h1 := iteT h1 hb18
       refine awp_sr2 232 [2, 3] (fun _ => none) rfl (fun _ _ => rS (rA he16a (rA he16b he16c))) ?_
       refine awp_ret ?_
       obtain rfl := Option.some.inj h1
       refine kr_block ?_
       refine kr_then ?_
       refine kr_then ?_
       refine kr_loop ?_
       refine kr_then ?_
       obtain rfl := Option.some.inj h0
       refine leave_retG [] ?_
       simp (maxSteps := 1000000) only [↓reduceIte, reduceCtorEq, Nat.reduceEqDiff, Nat.reduceLT, Nat.reduceLeDiff, Nat.reduceAdd, Nat.reduceMul, Int.reduceToNat, push_cast, Gives, he16a, he16b, he16c]
       all_goals exact rH
      ·
       replace h1 := iteF h1 hb18
       refine awp_skip ?_
       refine kn_block ?_
       refine kn_then ?_
       refine awp_r2 224 [0, 4] (fun _ => none) rfl (fun _ _ => rS (rA he16a (rA he16b he16c))) ?_
       refine kn_then ?_
       exact ⟨⟨(fu, (IntKind.i64.wrap (i14 + 1))), h1⟩, ⟨rF, rE, rfl, rfl, trivial, trivial⟩, Nat.lt_succ_self _⟩
     ·
      replace h1 := iteF h1 hb15
      refine awp_exit ?_
      refine kx_then ?_
      refine kx_then ?_
      refine kx_done ?_
      obtain rfl := Option.some.inj h1
      exact ⟨_, rfl, Nat.le_of_ble_eq_true rfl, ⟨rF, rE, rfl, rfl, trivial, trivial⟩⟩
end Go.T
end
section
namespace Go.T
open Go Go.AM Go.Proofs
set_option maxRecDepth 100000
set_option maxHeartbeats 4000000
set_option linter.unusedVariables false
theorem c_bookendref11_first {fu : Nat} {runs1 : List (List TApiEntry)} {vat2 : List Int} {r : Int} (h0 : bookendref11_first fu runs1 vat2 = some r) : PCall Try.prog 50 [.psl 1 (runs1.map (encSl 4 TApiEntry.enc)), .psl 1 (vat2.map (encInt .i64))] (.int .i64 r) [] := by
 refine awp_pcall Try.func50 rfl (by decide) (Nat.le_of_ble_eq_true rfl) ?_
 dsimp only [Try.f50]
 rw [bookendref11_first] at h0
 refine (show AWP _ _ _ _ ⟨enumFr 0 _, [], 0, []⟩ from ?_)
 refine awp_sr2 8 [0, 1] (fun _ => none) rfl (fun _ _ => rT) ?_
 refine awp_sr2 16 [0, 1, 5] (fun _ => none) rfl (fun _ _ => rT) ?_
 refine awp_seq ?_
 refine awp_sr2 24 [0, 1, 5, 6] (fun _ => none) rfl (fun _ _ => rT) ?_
 obtain ⟨x23, hxx23, h0⟩ := bindS h0
 refine awp_bloop (fun s' => s'.nx ≤ 56 ∧ LeN [] s' ⟨[(5, .int .i64 x23)], [], 56, []⟩) ?_ ?_
 ·
  intro s' hs
  obtain ⟨hn, hs⟩ := hs
  refine kn_then ?_
  refine awp_re [] hn hs ?_
  refine awp_sr2 72 [4] (fun _ => none) rfl (fun _ _ => rT) ?_
  refine awp_ret ?_
  obtain rfl := Option.some.inj h0
  refine leave_retG [] ?_
  exact rG
 ·
  refine awp_loopF (ι := { p : Nat × Int × Int // bookendref11_first_l1 runs1 vat2 p.1 p.2.1 p.2.2 = some x23 }) (fun p => ⟨[(0, .psl 1 (List.map (encSl 4 TApiEntry.enc) runs1)), (1, .psl 1 (List.map (encInt .i64) vat2)), (5, .int .i64 p.1.2.1), (6, .int .i64 p.1.2.2)], [], 24, []⟩) (fun p => p.1.1) ⟨(fu, (-1), 0), hxx23⟩ ⟨rF, rE, rfl, rfl, trivial, trivial⟩ (fun _ => Nat.le_refl _) ?_
  rintro ⟨⟨fu, best24, i25⟩, h1⟩
  cases fu with
  | zero =>
   replace h1 : bookendref11_first_l1 runs1 vat2 0 best24 i25 = some x23 := h1
   rw [bookendref11_first_l1] at h1; cases h1
  | succ fu =>
   replace h1 : bookendref11_first_l1 runs1 vat2 (fu + 1) best24 i25 = some x23 := h1
   rw [bookendref11_first_l1] at h1
   refine (show AWP _ _ _ _ ⟨[(0, .psl 1 (List.map (encSl 4 TApiEntry.enc) runs1)), (1, .psl 1 (List.map (encInt .i64) vat2)), (5, .int .i64 best24), (6, .int .i64 i25)], [], 24, []⟩ from ?_)
   refine awp_seq ?_
   refine awp_sr2 56 [0, 1, 5, 6, 10] (fun _ => none) rfl (fun _ _ => rT) ?_
   refine awp_if rfl (fun hb26 => ?_) (fun hb26 => ?_)
   ·
    replace h1 := iteT h1 hb26
    refine awp_skip ?_
    refine kn_then ?_
    refine awp_seq ?_
    refine awp_block ?_
    obtain ⟨e27, he27, h1⟩ := bindS h1
    obtain ⟨he27a, he27b, he27c⟩ := idxS he27
    obtain ⟨e28, he28, h1⟩ := bindS h1
    obtain ⟨he28a, he28b, he28c⟩ := idxS he28
    obtain ⟨b34, hb34, h1⟩ := bindS h1
    refine awp_sd3 (fr' := [(0, .psl 1 (List.map (encSl 4 TApiEntry.enc) runs1)), (1, .psl 1 (List.map (encInt .i64) vat2)), (5, .int .i64 best24), (6, .int .i64 i25), (51, .bool b34)]) (hp' := []) [] 368 [0, 1, 5, 6, 51] (fun _ => none) rfl rfl rfl (fun Kt hK => by
      cases hg35 : (decide (e27 < (e28.length : Int))) with
      | false =>
       replace hb34 := iteF hb34 hg35
       have hqb34 := Option.some.inj hb34
       subst hqb34
       simp (maxSteps := 1000000) only [↓reduceIte, reduceCtorEq, Nat.reduceEqDiff, Nat.reduceLT, Nat.reduceLeDiff, Nat.reduceAdd, Nat.reduceMul, Int.reduceToNat, push_cast, he27a, he27b, he27c, he28a, he28b, he28c, ↓hg35]
       try simp only [↓hg35] at hK
       all_goals exact rUd
      | true =>
       replace hb34 := iteT hb34 hg35
       obtain ⟨b33, hb33, hb34⟩ := bindS hb34
       have hqb34 := Option.some.inj hb34
       cases hg36 : (decide (best24 < 0)) with
       | false =>
        replace hb33 := iteF hb33 hg36
        obtain ⟨e29, he29, hb33⟩ := bindS hb33
        obtain ⟨he29a, he29b, he29c⟩ := idxS he29
        obtain ⟨e30, he30, hb33⟩ := bindS hb33
        obtain ⟨he30a, he30b, he30c⟩ := idxS he30
        obtain ⟨e31, he31, hb33⟩ := bindS hb33
        obtain ⟨he31a, he31b, he31c⟩ := idxS he31
        obtain ⟨e32, he32, hb33⟩ := bindS hb33
        obtain ⟨he32a, he32b, he32c⟩ := idxS he32
        have hqb33 := Option.some.inj hb33
        subst hqb34
        subst hqb33
        simp (maxSteps := 1000000) only [↓reduceIte, reduceCtorEq, Nat.reduceEqDiff, Nat.reduceLT, Nat.reduceLeDiff, Nat.reduceAdd, Nat.reduceMul, Int.reduceToNat, push_cast, he27a, he27b, he27c, he28a, he28b, he28c, ↓hg35, ↓hg36, he29a, he29b, he29c, he29, he30a, he30b, he30c, he30, he31a, he31b, he31c, he31, he32a, he32b, he32c, he32]
        try simp only [↓hg35, ↓hg36] at hK
        all_goals exact rUd
       | true =>
        replace hb33 := iteT hb33 hg36
        have hqb33 := Option.some.inj hb33
        subst hqb34
        subst hqb33
        simp (maxSteps := 1000000) only [↓reduceIte, reduceCtorEq, Nat.reduceEqDiff, Nat.reduceLT, Nat.reduceLeDiff, Nat.reduceAdd, Nat.reduceMul, Int.reduceToNat, push_cast, he27a, he27b, he27c, he28a, he28b, he28c, ↓hg35, ↓hg36]
        try simp only [↓hg35, ↓hg36] at hK
        all_goals exact rUd) ?_
    refine awp_if rfl (fun hb37 => ?_) (fun hb37 => ?_)
    ·
     replace h1 := iteT h1 hb37
     refine awp_r2 384 [0, 1, 5, 6] (fun _ => none) rfl (fun _ _ => rS (rA he27a (rA he27b (rA he27c (rA he28a (rA he28b he28c)))))) ?_
     refine kn_block ?_
     refine kn_then ?_
     refine awp_r2 408 [0, 1, 5, 6] (fun _ => none) rfl (fun _ _ => rS (rA he27a (rA he27b (rA he27c (rA he28a (rA he28b he28c)))))) ?_
     refine kn_then ?_
     exact ⟨⟨(fu, i25, (IntKind.i64.wrap (i25 + 1))), h1⟩, ⟨rF, rE, rfl, rfl, trivial, trivial⟩, Nat.lt_succ_self _⟩
    ·
     replace h1 := iteF h1 hb37
     refine awp_skip ?_
     refine kn_block ?_
     refine kn_then ?_
     refine awp_r2 392 [0, 1, 5, 6] (fun _ => none) rfl (fun _ _ => rS (rA he27a (rA he27b (rA he27c (rA he28a (rA he28b he28c)))))) ?_
     refine kn_then ?_
     exact ⟨⟨(fu, best24, (IntKind.i64.wrap (i25 + 1))), h1⟩, ⟨rF, rE, rfl, rfl, trivial, trivial⟩, Nat.lt_succ_self _⟩
   ·
    replace h1 := iteF h1 hb26
    refine awp_exit ?_
    refine kx_then ?_
    refine kx_then ?_
    refine kx_done ?_
    obtain rfl := Option.some.inj h1
    exact ⟨Nat.le_of_ble_eq_true rfl, ⟨rF, rE, rfl, rfl, trivial, trivial⟩⟩
end Go.T
end
section
namespace Go.T
open Go Go.AM Go.Proofs
set_option maxRecDepth 100000
set_option maxHeartbeats 4000000
set_option linter.unusedVariables false
theorem c_bookendref11_All {fu : Nat} {runs1 : List (List TApiEntry)} {r : List TApiEntry × List Int × Int} (h0 : bookendref11_All fu runs1 = some r) : PCall Try.prog 27 [.psl 1 (runs1.map (encSl 4 TApiEntry.enc))] (.tup [.psl 4 (r.1.map TApiEntry.enc), .psl 1 (r.2.1.map (encInt .i64)), .int .i64 r.2.2]) [] := by
 refine awp_pcall Try.func27 rfl (by decide) (Nat.le_of_ble_eq_true rfl) ?_
 dsimp only [Try.f27]
 rw [bookendref11_All] at h0
 refine (show AWP _ _ _ _ ⟨enumFr 0 _, [], 0, []⟩ from ?_)
 refine awp_sr2 24 [0] (fun _ => none) rfl (fun _ _ => rT) ?_
 obtain ⟨vr2, hvr2, h0⟩ := bindS h0
 refine awp_sr2 80 [0, 6] (fun | 1 => some (.tup [.int .i64 vr2.1, .int .i64 vr2.2], []) | _ => none) rfl (fun _ _ => rC (c_bookendref11_right hvr2)) ?_
 refine awp_seq ?_
 refine awp_sr2 96 [0, 6, 17] (fun _ => none) rfl (fun _ _ => rT) ?_
 refine awp_if rfl (fun hb3 => ?_) (fun hb3 => ?_)
 ·
  replace h0 := iteT h0 hb3
  refine awp_sr2 128 [2, 3, 4] (fun _ => none) rfl (fun _ _ => rT) ?_
  refine awp_ret ?_
  refine kr_then ?_
  obtain rfl := Option.some.inj h0
  refine leave_retG [] ?_
  exact rG
 ·
  replace h0 := iteF h0 hb3
  refine awp_skip ?_
  refine kn_then ?_
  refine awp_sr2 104 [0, 7] (fun _ => none) rfl (fun _ _ => rT) ?_
  refine awp_sr2 112 [0, 7, 8] (fun _ => none) rfl (fun _ _ => rT) ?_
  obtain ⟨hc4, h0⟩ := guS h0
  refine awp_sr2 144 [0, 7, 8, 9] (fun _ => none) rfl (fun _ _ => rT) ?_
  refine awp_re (s2 := ⟨[(0, .psl 1 (List.map (encSl 4 TApiEntry.enc) runs1)), (7, .nils), (8, .nils), (9, .sl 128 0 1 0 ((List.replicate runs1.length 0 : List Int).length))], [(128, ⟨0, true, true, 1, List.map (encInt .i64) (List.replicate runs1.length 0 : List Int)⟩)], 144, []⟩) [] (Nat.le_of_ble_eq_true rfl) ⟨rF, rE, rfl, rfl, trivial, trivial⟩ ?_
  refine awp_re (s2 := ⟨[(0, .psl 1 (List.map (encSl 4 TApiEntry.enc) runs1)), (7, .sl 144 0 4 0 0), (8, .sl 145 0 1 0 0), (9, .sl 128 0 1 0 ((List.replicate runs1.length 0 : List Int).length))], [(128, ⟨0, true, true, 1, List.map (encInt .i64) (List.replicate runs1.length 0 : List Int)⟩), (144, ⟨0, true, true, 4, List.map TApiEntry.enc []⟩), (145, ⟨0, true, true, 1, List.map (encInt .i64) []⟩)], 146, []⟩) [(144, 4), (145, 1)] (Nat.le_of_ble_eq_true rfl) ⟨rF, rE, rfl, rfl, trivial, rN⟩ ?_
  obtain ⟨x28, hxx28, h0⟩ := bindS h0
  refine awp_bloop (fun _ => False) ?_ ?_
  ·
   intro _ h; exact h.elim
  ·
   refine awp_loopF (ι := { p : Nat × List Int × List TApiEntry × List Int × Nat × Nat × Nat // bookendref11_All_l1 runs1 p.1 p.2.1 p.2.2.1 p.2.2.2.1 = some x28 }) (fun p => ⟨[(0, .psl 1 (List.map (encSl 4 TApiEntry.enc) runs1)), (7, .sl 144 p.1.2.2.2.2.2.1 4 0 p.1.2.2.1.length), (8, .sl 145 p.1.2.2.2.2.2.2 1 0 p.1.2.2.2.1.length), (9, .sl 128 p.1.2.2.2.2.1 1 0 p.1.2.1.length)], [(128, ⟨p.1.2.2.2.2.1, true, true, 1, List.map (encInt .i64) p.1.2.1⟩), (144, ⟨p.1.2.2.2.2.2.1, true, true, 4, List.map TApiEntry.enc p.1.2.2.1⟩), (145, ⟨p.1.2.2.2.2.2.2, true, true, 1, List.map (encInt .i64) p.1.2.2.2.1⟩)], 146, []⟩) (fun p => p.1.1) ⟨(fu, (List.replicate runs1.length 0 : List Int), [], [], 0, 0, 0), hxx28⟩ ⟨rF, rE, rfl, rfl, trivial, trivial⟩ (fun _ => Nat.le_refl _) ?_
   rintro ⟨⟨fu, vat29, l30, vfrom31, g32, g33, g34⟩, h1⟩
   cases fu with
   | zero =>
   replace h1 : bookendref11_All_l1 runs1 0 vat29 l30 vfrom31 = some x28 := h1
   rw [bookendref11_All_l1] at h1; cases h1
   | succ fu =>
    replace h1 : bookendref11_All_l1 runs1 (fu + 1) vat29 l30 vfrom31 = some x28 := h1
    rw [bookendref11_All_l1] at h1
    refine (show AWP _ _ _ _ ⟨[(0, .psl 1 (List.map (encSl 4 TApiEntry.enc) runs1)), (7, .sl 144 g33 4 0 l30.length), (8, .sl 145 g34 1 0 vfrom31.length), (9, .sl 128 g32 1 0 vat29.length)], [(128, ⟨g32, true, true, 1, List.map (encInt .i64) vat29⟩), (144, ⟨g33, true, true, 4, List.map TApiEntry.enc l30⟩), (145, ⟨g34, true, true, 1, List.map (encInt .i64) vfrom31⟩)], 146, []⟩ from ?_)
    refine awp_block ?_
    obtain ⟨vr35, hvr35, h1⟩ := bindS h1
    refine awp_sr2 178 [0, 7, 8, 9, 10] (fun | 2 => some (.int .i64 vr35, []) | _ => none) rfl (fun _ _ => rC (c_bookendref11_first hvr35)) ?_
    refine awp_seq ?_
    refine awp_sr2 194 [0, 7, 8, 9, 10, 26] (fun _ => none) rfl (fun _ _ => rT) ?_
    refine awp_if rfl (fun hb36 => ?_) (fun hb36 => ?_)
    ·
     replace h1 := iteT h1 hb36
     refine awp_sr2 234 [2, 3, 4] (fun _ => none) rfl (fun _ _ => rT) ?_
     refine awp_ret ?_
     obtain rfl := Option.some.inj h1
     refine kr_then ?_
     refine kr_block ?_
     refine kr_then ?_
     refine kr_loop ?_
     obtain rfl := Option.some.inj h0
     refine leave_retG [] ?_
     exact rG
    ·
     replace h1 := iteF h1 hb36
     refine awp_skip ?_
     refine kn_then ?_
     obtain ⟨e37, he37, h1⟩ := bindS h1
     obtain ⟨he37a, he37b, he37c⟩ := idxS he37
     obtain ⟨e38, he38, h1⟩ := bindS h1
     obtain ⟨he38a, he38b, he38c⟩ := idxS he38
     obtain ⟨e39, he39, h1⟩ := bindS h1
     obtain ⟨he39a, he39b, he39c⟩ := idxS he39
     obtain ⟨hc40, h1⟩ := guS h1
     obtain ⟨hc41, h1⟩ := guS h1
     refine awp_sd2 346 [0, 7, 8, 9, 10] (fun _ => none) rfl rfl rfl (fun _ _ => rSd (rA he37a (rA he37b (rA he37c (rA he38a (rA he38b (rA he38c (rA he39a (rA he39b he39c))))))))) ?_
     refine awp_re (s2 := ⟨[(0, .psl 1 (List.map (encSl 4 TApiEntry.enc) runs1)), (7, .sl 144 (g33 + 1) 4 0 ((l30 ++ [e39]).length)), (8, .sl 145 (g34 + 1) 1 0 ((vfrom31 ++ [vr35]).length)), (9, .sl 128 g32 1 0 vat29.length), (10, .int .i64 vr35)], [(128, ⟨g32, true, true, 1, List.map (encInt .i64) vat29⟩), (144, ⟨(g33 + 1), true, true, 4, List.map TApiEntry.enc (l30 ++ [e39])⟩), (145, ⟨(g34 + 1), true, true, 1, List.map (encInt .i64) (vfrom31 ++ [vr35])⟩), (282, ⟨0, true, true, 4, List.map TApiEntry.enc [e39]⟩), (314, ⟨0, true, true, 1, List.map (encInt .i64) [vr35]⟩)], 346, []⟩) [] (Nat.le_of_ble_eq_true rfl) ⟨rF, rE, rfl, rfl, trivial, trivial⟩ ?_
     refine awp_r2 402 [0, 7, 8, 9] (fun _ => none) rfl (fun _ _ => rS (rA he37a (rA he37b (rA he37c (rA he38a (rA he38b (rA he38c (rA he39a (rA he39b he39c))))))))) ?_
     refine kn_block ?_
     refine kn_then ?_
     exact ⟨⟨(fu, (vat29.set vr35.toNat (IntKind.i64.wrap (e38 + 1))), (l30 ++ [e39]), (vfrom31 ++ [vr35]), g32, (g33 + 1), (g34 + 1)), h1⟩, ⟨rF, rE, rfl, rfl, trivial, trivial⟩, Nat.lt_succ_self _⟩
end Go.T
end
section
namespace Go.T
open Go Go.AM Go.Proofs
set_option maxRecDepth 100000
set_option maxHeartbeats 4000000
set_option linter.unusedVariables false
theorem c_bookendref12_Begin {fu : Nat} {bottom1 : Bool} {r : TApiShState} (h0 : bookendref12_Begin fu bottom1 = some r) : PCall Try.prog 33 [.bool bottom1] (.agg (TApiShState.enc r)) [] := by
 refine awp_pcall Try.func33 rfl (by decide) (Nat.le_of_ble_eq_true rfl) ?_
 dsimp only [Try.f33]
 rw [bookendref12_Begin] at h0
 refine (show AWP _ _ _ _ ⟨enumFr 0 _, [], 0, []⟩ from ?_)
 refine awp_sr2 8 [0, 2] (fun _ => none) rfl (fun _ _ => rT) ?_
 refine awp_sr2 32 [2] (fun _ => none) rfl (fun _ _ => rT) ?_
 refine awp_ret ?_
 obtain rfl := Option.some.inj h0
 refine leave_retG [] ?_
 exact rG
end Go.T
end
section
namespace Go.T
open Go Go.AM Go.Proofs
set_option maxRecDepth 100000
set_option maxHeartbeats 4000000
set_option linter.unusedVariables false
theorem c_bookendref12_Check {fu : Nat} {vs1 : TApiShState} {r : Int} (h0 : bookendref12_Check fu vs1 = some r) : PCall Try.prog 69 [.agg (TApiShState.enc vs1)] (.int .i64 r) [] := by
 refine awp_pcall Try.func69 rfl (by decide) (Nat.le_of_ble_eq_true rfl) ?_
 dsimp only [Try.f69]
 rw [bookendref12_Check] at h0
 refine (show AWP _ _ _ _ ⟨enumFr 0 _, [], 0, []⟩ from ?_)
 refine awp_sr2 16 [1] (fun _ => none) rfl (fun _ _ => rT) ?_
 refine awp_seq ?_
 refine awp_sr2 48 [1, 6] (fun _ => none) rfl (fun _ _ => rT) ?_
 refine awp_if rfl (fun hb2 => ?_) (fun hb2 => ?_)
 ·
  replace h0 := iteT h0 hb2
  refine awp_sr2 56 [2] (fun _ => none) rfl (fun _ _ => rT) ?_
  refine awp_ret ?_
  refine kr_then ?_
  obtain rfl := Option.some.inj h0
  refine leave_retG [] ?_
  exact rG
 ·
  replace h0 := iteF h0 hb2
  refine awp_skip ?_
  refine kn_then ?_
  refine awp_seq ?_
  obtain ⟨b3, hb3, h0⟩ := bindS h0
  refine awp_sr3 (fr' := [(14, .bool b3)]) (hp' := [(0, ⟨0, true, true, 3, [[.bool vs1.Some, .str vs1.Last, .bool vs1.Bottom]]⟩)]) [0] 112 [14] (fun _ => none) rfl (fun Kt hK => by
    cases hg4 : (!vs1.Some) with
    | false =>
     replace hb3 := iteF hb3 hg4
     have hqb3 := Option.some.inj hb3
     subst hqb3
     simp (maxSteps := 1000000) only [↓reduceIte, reduceCtorEq, Nat.reduceEqDiff, Nat.reduceLT, Nat.reduceLeDiff, Nat.reduceAdd, Nat.reduceMul, Int.reduceToNat, push_cast, ↓hg4]
     try simp only [↓hg4] at hK
     all_goals exact rU
    | true =>
     replace hb3 := iteT hb3 hg4
     have hqb3 := Option.some.inj hb3
     subst hqb3
     simp (maxSteps := 1000000) only [↓reduceIte, reduceCtorEq, Nat.reduceEqDiff, Nat.reduceLT, Nat.reduceLeDiff, Nat.reduceAdd, Nat.reduceMul, Int.reduceToNat, push_cast, ↓hg4]
     try simp only [↓hg4] at hK
     all_goals exact rU) ?_
  refine awp_if rfl (fun hb5 => ?_) (fun hb5 => ?_)
  ·
   replace h0 := iteT h0 hb5
   refine awp_sr2 120 [2] (fun _ => none) rfl (fun _ _ => rT) ?_
   refine awp_ret ?_
   refine kr_then ?_
   obtain rfl := Option.some.inj h0
   refine leave_retG [] ?_
   exact rG
  ·
   replace h0 := iteF h0 hb5
   refine awp_skip ?_
   refine kn_then ?_
   refine awp_sr2 120 [2] (fun _ => none) rfl (fun _ _ => rT) ?_
   refine awp_ret ?_
   obtain rfl := Option.some.inj h0
   refine leave_retG [] ?_
   exact rG
end Go.T
end
section
namespace Go.T
open Go Go.AM Go.Proofs
set_option maxRecDepth 100000
set_option maxHeartbeats 4000000
set_option linter.unusedVariables false
theorem c_bookendref12_Step {fu : Nat} {vs1 : TApiShState} {vx2 : TApiEntry} {r : Bool × TApiShState × Int} (h0 : bookendref12_Step fu vs1 vx2 = some r) : PCall Try.prog 51 [.agg (TApiShState.enc vs1), .agg (TApiEntry.enc vx2)] (.tup [.bool r.1, .agg (TApiShState.enc r.2.1), .int .i64 r.2.2]) [] := by
 refine awp_pcall Try.func51 rfl (by decide) (Nat.le_of_ble_eq_true rfl) ?_
 dsimp only [Try.f51]
 rw [bookendref12_Step] at h0
 refine (show AWP _ _ _ _ ⟨enumFr 0 _, [], 0, []⟩ from ?_)
 refine awp_sr2 40 [2, 3, 5] (fun _ => none) rfl (fun _ _ => rT) ?_
 obtain ⟨vr3, hvr3, h0⟩ := bindS h0
 refine awp_sr2 64 [2, 3, 5, 7] (fun | 1 => some (.int .i64 vr3, []) | _ => none) rfl (fun _ _ => rC (c_bookendref12_Check hvr3)) ?_
 refine awp_seq ?_
 refine awp_sr2 80 [2, 3, 5, 7, 12] (fun _ => none) rfl (fun _ _ => rT) ?_
 refine awp_if rfl (fun hb4 => ?_) (fun hb4 => ?_)
 ·
  replace h0 := iteT h0 hb4
  obtain ⟨vr5, hvr5, h0⟩ := bindS h0
  refine awp_r2 104 [2, 3, 5, 7] (fun | 1 => some (.int .i64 vr5, []) | _ => none) rfl (fun _ _ => rC (c_bookendref03_Check hvr5)) ?_
  refine kn_then ?_
  refine awp_seq ?_
  obtain ⟨b6, hb6, h0⟩ := bindS h0
  obtain ⟨b7, hb7, h0⟩ := bindS h0
  refine awp_sr3 (fr' := [(2, .ref 0 0 0 0), (3, .ref 8 0 0 0), (5, .ref 24 0 0 0), (7, .int .i64 vr5), (27, .bool b7)]) (hp' := [(0, ⟨0, true, true, 3, [[.bool vs1.Some, .str vs1.Last, .bool vs1.Bottom]]⟩), (8, ⟨0, true, true, 4, [[.str vx2.Key, .str vx2.Val, .bool vx2.Dead, .int .i64 vx2.Seq]]⟩), (24, ⟨0, true, true, 3, [[.bool false, .str [], .bool false]]⟩)]) [0, 8, 24] 208 [2, 3, 5, 7, 27] (fun _ => none) rfl (fun Kt hK => by
    cases hg8 : (decide (vr5 = 0)) with
    | false =>
     replace hb6 := iteF hb6 hg8
     have hqb6 := Option.some.inj hb6
     cases b6 with
     | false =>
      replace hb7 := iteF hb7 rfl
      have hqb7 := Option.some.inj hb7
      subst hqb7
      simp (maxSteps := 1000000) only [↓reduceIte, reduceCtorEq, Nat.reduceEqDiff, Nat.reduceLT, Nat.reduceLeDiff, Nat.reduceAdd, Nat.reduceMul, Int.reduceToNat, push_cast, ↓hg8]
      try simp only [↓hg8] at hK
      all_goals exact rU
     | true =>
      cases hqb6
    | true =>
     replace hb6 := iteT hb6 hg8
     have hqb6 := Option.some.inj hb6
     cases b6 with
     | false =>
      replace hb7 := iteF hb7 rfl
      have hqb7 := Option.some.inj hb7
      subst hqb7
      simp (maxSteps := 1000000) only [↓reduceIte, reduceCtorEq, Nat.reduceEqDiff, Nat.reduceLT, Nat.reduceLeDiff, Nat.reduceAdd, Nat.reduceMul, Int.reduceToNat, push_cast, ↓hg8, ↓hqb6]
      try simp only [↓hg8, ↓hqb6] at hK
      all_goals exact rU
     | true =>
      replace hb7 := iteT hb7 rfl
      have hqb7 := Option.some.inj hb7
      subst hqb7
      simp (maxSteps := 1000000) only [↓reduceIte, reduceCtorEq, Nat.reduceEqDiff, Nat.reduceLT, Nat.reduceLeDiff, Nat.reduceAdd, Nat.reduceMul, Int.reduceToNat, push_cast, ↓hg8, ↓hqb6]
      try simp only [↓hg8, ↓hqb6] at hK
      all_goals exact rU) ?_
  refine awp_if rfl (fun hb11 => ?_) (fun hb11 => ?_)
  ·
   replace h0 := iteT h0 hb11
   refine awp_r2 216 [2, 3, 5, 7] (fun _ => none) rfl (fun _ _ => rT) ?_
   refine kn_then ?_
   refine awp_seq ?_
   refine awp_sr2 232 [2, 3, 5, 7, 29] (fun _ => none) rfl (fun _ _ => rT) ?_
   refine awp_condT rfl ?_
   refine awp_sr2 272 [4, 5, 6] (fun _ => none) rfl (fun _ _ => rT) ?_
   refine awp_ret ?_
   refine kr_then ?_
   obtain rfl := Option.some.inj h0
   refine leave_retG [] ?_
   exact rG
  ·
   replace h0 := iteF h0 hb11
   refine awp_skip ?_
   refine kn_then ?_
   refine awp_seq ?_
   refine awp_sr2 224 [2, 3, 5, 7, 29] (fun _ => none) rfl (fun _ _ => rT) ?_
   refine awp_if rfl (fun hb12 => ?_) (fun hb12 => ?_)
   ·
    replace h0 := iteT h0 hb12
    refine awp_sr2 264 [4, 5, 6] (fun _ => none) rfl (fun _ _ => rT) ?_
    refine awp_ret ?_
    refine kr_then ?_
    obtain rfl := Option.some.inj h0
    refine leave_retG [] ?_
    exact rG
   ·
    replace h0 := iteF h0 hb12
    refine awp_skip ?_
    refine kn_then ?_
    obtain ⟨b13, hb13, h0⟩ := bindS h0
    refine awp_sr3 (fr' := [(2, .ref 0 0 0 0), (3, .ref 8 0 0 0), (5, .ref 24 0 0 0), (8, .bool b13)]) (hp' := [(0, ⟨0, true, true, 3, [[.bool vs1.Some, .str vs1.Last, .bool vs1.Bottom]]⟩), (8, ⟨0, true, true, 4, [[.str vx2.Key, .str vx2.Val, .bool vx2.Dead, .int .i64 vx2.Seq]]⟩), (24, ⟨0, true, true, 3, [[.bool false, .str [], .bool false]]⟩)]) [0, 8, 24] 312 [2, 3, 5, 8] (fun _ => none) rfl (fun Kt hK => by
      cases hg14 : (!vs1.Some) with
      | false =>
       replace hb13 := iteF hb13 hg14
       have hqb13 := Option.some.inj hb13
       subst hqb13
       simp (maxSteps := 1000000) only [↓reduceIte, reduceCtorEq, Nat.reduceEqDiff, Nat.reduceLT, Nat.reduceLeDiff, Nat.reduceAdd, Nat.reduceMul, Int.reduceToNat, push_cast, ↓hg14]
       try simp only [↓hg14] at hK
       all_goals exact rU
      | true =>
       replace hb13 := iteT hb13 hg14
       have hqb13 := Option.some.inj hb13
       subst hqb13
       simp (maxSteps := 1000000) only [↓reduceIte, reduceCtorEq, Nat.reduceEqDiff, Nat.reduceLT, Nat.reduceLeDiff, Nat.reduceAdd, Nat.reduceMul, Int.reduceToNat, push_cast, ↓hg14]
       try simp only [↓hg14] at hK
       all_goals exact rU) ?_
    obtain ⟨b16, hb16, h0⟩ := bindS h0
    refine awp_sd3 (fr' := [(4, .bool b16), (5, .ref 24 0 0 0), (6, .int .i64 0)]) (hp' := [(0, ⟨0, true, true, 3, [[.bool vs1.Some, .str vs1.Last, .bool vs1.Bottom]]⟩), (8, ⟨0, true, true, 4, [[.str vx2.Key, .str vx2.Val, .bool vx2.Dead, .int .i64 vx2.Seq]]⟩), (24, ⟨0, true, true, 3, [[.bool true, .str vx2.Key, .bool vs1.Bottom]]⟩)]) [0, 8, 24] 456 [4, 5, 6] (fun _ => none) rfl rfl rfl (fun Kt hK => by
      cases b13 with
      | false =>
       replace hb16 := iteF hb16 rfl
       have hqb16 := Option.some.inj hb16
       subst hqb16
       exact rTd
      | true =>
       replace hb16 := iteT hb16 rfl
       obtain ⟨b15, hb15, hb16⟩ := bindS hb16
       have hqb16 := Option.some.inj hb16
       cases hg18 : vs1.Bottom with
       | false =>
        replace hb15 := iteF hb15 hg18
        have hqb15 := Option.some.inj hb15
        subst hqb16
        subst hqb15
        simp (maxSteps := 1000000) only [↓reduceIte, reduceCtorEq, Nat.reduceEqDiff, Nat.reduceLT, Nat.reduceLeDiff, Nat.reduceAdd, Nat.reduceMul, Int.reduceToNat, push_cast, ↓hg18]
        try simp only [↓hg18] at hK
        all_goals exact rUd
       | true =>
        replace hb15 := iteT hb15 hg18
        have hqb15 := Option.some.inj hb15
        subst hqb16
        subst hqb15
        simp (maxSteps := 1000000) only [↓reduceIte, reduceCtorEq, Nat.reduceEqDiff, Nat.reduceLT, Nat.reduceLeDiff, Nat.reduceAdd, Nat.reduceMul, Int.reduceToNat, push_cast, ↓hg18]
        try simp only [↓hg18] at hK
        all_goals exact rUd) ?_
    refine awp_ret ?_
    obtain rfl := Option.some.inj h0
    refine leave_retG [] ?_
    exact rG
 ·
  replace h0 := iteF h0 hb4
  refine awp_skip ?_
  refine kn_then ?_
  refine awp_seq ?_
  obtain ⟨b19, hb19, h0⟩ := bindS h0
  obtain ⟨b20, hb20, h0⟩ := bindS h0
  refine awp_sr3 (fr' := [(2, .ref 0 0 0 0), (3, .ref 8 0 0 0), (5, .ref 24 0 0 0), (7, .int .i64 vr3), (27, .bool b20)]) (hp' := [(0, ⟨0, true, true, 3, [[.bool vs1.Some, .str vs1.Last, .bool vs1.Bottom]]⟩), (8, ⟨0, true, true, 4, [[.str vx2.Key, .str vx2.Val, .bool vx2.Dead, .int .i64 vx2.Seq]]⟩), (24, ⟨0, true, true, 3, [[.bool false, .str [], .bool false]]⟩)]) [0, 8, 24] 184 [2, 3, 5, 7, 27] (fun _ => none) rfl (fun Kt hK => by
    cases hg21 : (decide (vr3 = 0)) with
    | false =>
     replace hb19 := iteF hb19 hg21
     have hqb19 := Option.some.inj hb19
     cases b19 with
     | false =>
      replace hb20 := iteF hb20 rfl
      have hqb20 := Option.some.inj hb20
      subst hqb20
      simp (maxSteps := 1000000) only [↓reduceIte, reduceCtorEq, Nat.reduceEqDiff, Nat.reduceLT, Nat.reduceLeDiff, Nat.reduceAdd, Nat.reduceMul, Int.reduceToNat, push_cast, ↓hg21]
      try simp only [↓hg21] at hK
      all_goals exact rU
     | true =>
      cases hqb19
    | true =>
     replace hb19 := iteT hb19 hg21
     have hqb19 := Option.some.inj hb19
     cases b19 with
     | false =>
      replace hb20 := iteF hb20 rfl
      have hqb20 := Option.some.inj hb20
      subst hqb20
      simp (maxSteps := 1000000) only [↓reduceIte, reduceCtorEq, Nat.reduceEqDiff, Nat.reduceLT, Nat.reduceLeDiff, Nat.reduceAdd, Nat.reduceMul, Int.reduceToNat, push_cast, ↓hg21, ↓hqb19]
      try simp only [↓hg21, ↓hqb19] at hK
      all_goals exact rU
     | true =>
      replace hb20 := iteT hb20 rfl
      have hqb20 := Option.some.inj hb20
      subst hqb20
      simp (maxSteps := 1000000) only [↓reduceIte, reduceCtorEq, Nat.reduceEqDiff, Nat.reduceLT, Nat.reduceLeDiff, Nat.reduceAdd, Nat.reduceMul, Int.reduceToNat, push_cast, ↓hg21, ↓hqb19]
      try simp only [↓hg21, ↓hqb19] at hK
      all_goals exact rU) ?_
  refine awp_if rfl (fun hb24 => ?_) (fun hb24 => ?_)
  ·
   replace h0 := iteT h0 hb24
   refine awp_r2 192 [2, 3, 5, 7] (fun _ => none) rfl (fun _ _ => rT) ?_
   refine kn_then ?_
   refine awp_seq ?_
   refine awp_sr2 208 [2, 3, 5, 7, 29] (fun _ => none) rfl (fun _ _ => rT) ?_
   refine awp_condT rfl ?_
   refine awp_sr2 248 [4, 5, 6] (fun _ => none) rfl (fun _ _ => rT) ?_
   refine awp_ret ?_
   refine kr_then ?_
   obtain rfl := Option.some.inj h0
   refine leave_retG [] ?_
   exact rG
  ·
   replace h0 := iteF h0 hb24
   refine awp_skip ?_
   refine kn_then ?_
   refine awp_seq ?_
   refine awp_sr2 200 [2, 3, 5, 7, 29] (fun _ => none) rfl (fun _ _ => rT) ?_
   refine awp_if rfl (fun hb25 => ?_) (fun hb25 => ?_)
   ·
    replace h0 := iteT h0 hb25
    refine awp_sr2 240 [4, 5, 6] (fun _ => none) rfl (fun _ _ => rT) ?_
    refine awp_ret ?_
    refine kr_then ?_
    obtain rfl := Option.some.inj h0
    refine leave_retG [] ?_
    exact rG
   ·
    replace h0 := iteF h0 hb25
    refine awp_skip ?_
    refine kn_then ?_
    obtain ⟨b26, hb26, h0⟩ := bindS h0
    refine awp_sr3 (fr' := [(2, .ref 0 0 0 0), (3, .ref 8 0 0 0), (5, .ref 24 0 0 0), (8, .bool b26)]) (hp' := [(0, ⟨0, true, true, 3, [[.bool vs1.Some, .str vs1.Last, .bool vs1.Bottom]]⟩), (8, ⟨0, true, true, 4, [[.str vx2.Key, .str vx2.Val, .bool vx2.Dead, .int .i64 vx2.Seq]]⟩), (24, ⟨0, true, true, 3, [[.bool false, .str [], .bool false]]⟩)]) [0, 8, 24] 288 [2, 3, 5, 8] (fun _ => none) rfl (fun Kt hK => by
      cases hg27 : (!vs1.Some) with
      | false =>
       replace hb26 := iteF hb26 hg27
       have hqb26 := Option.some.inj hb26
       subst hqb26
       simp (maxSteps := 1000000) only [↓reduceIte, reduceCtorEq, Nat.reduceEqDiff, Nat.reduceLT, Nat.reduceLeDiff, Nat.reduceAdd, Nat.reduceMul, Int.reduceToNat, push_cast, ↓hg27]
       try simp only [↓hg27] at hK
       all_goals exact rU
      | true =>
       replace hb26 := iteT hb26 hg27
       have hqb26 := Option.some.inj hb26
       subst hqb26
       simp (maxSteps := 1000000) only [↓reduceIte, reduceCtorEq, Nat.reduceEqDiff, Nat.reduceLT, Nat.reduceLeDiff, Nat.reduceAdd, Nat.reduceMul, Int.reduceToNat, push_cast, ↓hg27]
       try simp only [↓hg27] at hK
       all_goals exact rU) ?_
    obtain ⟨b29, hb29, h0⟩ := bindS h0
    refine awp_sd3 (fr' := [(4, .bool b29), (5, .ref 24 0 0 0), (6, .int .i64 0)]) (hp' := [(0, ⟨0, true, true, 3, [[.bool vs1.Some, .str vs1.Last, .bool vs1.Bottom]]⟩), (8, ⟨0, true, true, 4, [[.str vx2.Key, .str vx2.Val, .bool vx2.Dead, .int .i64 vx2.Seq]]⟩), (24, ⟨0, true, true, 3, [[.bool true, .str vx2.Key, .bool vs1.Bottom]]⟩)]) [0, 8, 24] 432 [4, 5, 6] (fun _ => none) rfl rfl rfl (fun Kt hK => by
      cases b26 with
      | false =>
       replace hb29 := iteF hb29 rfl
       have hqb29 := Option.some.inj hb29
       subst hqb29
       exact rTd
      | true =>
       replace hb29 := iteT hb29 rfl
       obtain ⟨b28, hb28, hb29⟩ := bindS hb29
       have hqb29 := Option.some.inj hb29
       cases hg31 : vs1.Bottom with
       | false =>
        replace hb28 := iteF hb28 hg31
        have hqb28 := Option.some.inj hb28
        subst hqb29
        subst hqb28
        simp (maxSteps := 1000000) only [↓reduceIte, reduceCtorEq, Nat.reduceEqDiff, Nat.reduceLT, Nat.reduceLeDiff, Nat.reduceAdd, Nat.reduceMul, Int.reduceToNat, push_cast, ↓hg31]
        try simp only [↓hg31] at hK
        all_goals exact rUd
       | true =>
        replace hb28 := iteT hb28 hg31
        have hqb28 := Option.some.inj hb28
        subst hqb29
        subst hqb28
        simp (maxSteps := 1000000) only [↓reduceIte, reduceCtorEq, Nat.reduceEqDiff, Nat.reduceLT, Nat.reduceLeDiff, Nat.reduceAdd, Nat.reduceMul, Int.reduceToNat, push_cast, ↓hg31]
        try simp only [↓hg31] at hK
        all_goals exact rUd) ?_
    refine awp_ret ?_
    obtain rfl := Option.some.inj h0
    refine leave_retG [] ?_
    exact rG
end Go.T
end
section
namespace Go.T
open Go Go.AM Go.Proofs
set_option maxRecDepth 100000
set_option maxHeartbeats 4000000
set_option linter.unusedVariables false
theorem c_bookendref12_Filter {fu : Nat} {l1 : List TApiEntry} {bottom2 : Bool} {r : List TApiEntry × Int × Int} (h0 : bookendref12_Filter fu l1 bottom2 = some r) : PCall Try.prog 28 [.psl 4 (l1.map TApiEntry.enc), .bool bottom2] (.tup [.psl 4 (r.1.map TApiEntry.enc), .int .i64 r.2.1, .int .i64 r.2.2]) [] := by
 refine awp_pcall Try.func28 rfl (by decide) (Nat.le_of_ble_eq_true rfl) ?_
 dsimp only [Try.f28]
 rw [bookendref12_Filter] at h0
 refine (show AWP _ _ _ _ ⟨enumFr 0 _, [], 0, []⟩ from ?_)
 refine awp_sr2 24 [0, 1] (fun _ => none) rfl (fun _ _ => rT) ?_
 refine awp_seq ?_
 refine awp_sr2 48 [0, 1, 15] (fun _ => none) rfl (fun _ _ => rT) ?_
 refine awp_if rfl (fun hb3 => ?_) (fun hb3 => ?_)
 ·
  replace h0 := iteT h0 hb3
  refine awp_sr2 72 [4, 5, 6] (fun _ => none) rfl (fun _ _ => rT) ?_
  refine awp_ret ?_
  refine kr_then ?_
  obtain rfl := Option.some.inj h0
  refine leave_retG [] ?_
  exact rG
 ·
  replace h0 := iteF h0 hb3
  refine awp_skip ?_
  refine kn_then ?_
  obtain ⟨vr4, hvr4, h0⟩ := bindS h0
  refine awp_sr2 80 [0, 7] (fun | 1 => some (.agg (TApiShState.enc vr4), []) | _ => none) rfl (fun _ _ => rC (c_bookendref12_Begin hvr4)) ?_
  refine awp_sr2 88 [0, 7, 8] (fun _ => none) rfl (fun _ _ => rT) ?_
  refine awp_seq ?_
  refine awp_sr2 96 [0, 7, 8, 9] (fun _ => none) rfl (fun _ _ => rT) ?_
  refine awp_re (s2 := ⟨[(0, .psl 4 (List.map TApiEntry.enc l1)), (7, .ref 64 0 0 0), (8, .sl 96 0 4 0 0), (9, .int .i64 0)], [(64, ⟨0, true, true, 3, [[.bool vr4.Some, .str vr4.Last, .bool vr4.Bottom]]⟩), (96, ⟨0, true, true, 4, List.map TApiEntry.enc []⟩)], 97, []⟩) [(96, 4)] (Nat.le_of_ble_eq_true rfl) ⟨rF, rE, rfl, rfl, trivial, rN⟩ ?_
  obtain ⟨x27, hxx27, h0⟩ := bindS h0
  refine awp_bloop (fun s' => ∃ o40 : Bool × List UInt8 × Bool × List TApiEntry, ∃ g41 : Nat, x27 = .inl o40 ∧ s'.nx ≤ 129 ∧ LeN [] s' ⟨[(8, .sl 96 g41 4 0 o40.2.2.2.length)], [(64, ⟨0, true, true, 3, [[.bool o40.1, .str o40.2.1, .bool o40.2.2.1]]⟩), (96, ⟨g41, true, true, 4, List.map TApiEntry.enc o40.2.2.2⟩)], 129, []⟩) ?_ ?_
  ·
   intro s' hs
   obtain ⟨o40, g41, rfl, hn, hs⟩ := hs
   refine kn_then ?_
   refine awp_re [] hn hs ?_
   refine awp_sr2 161 [4, 5, 6] (fun _ => none) rfl (fun _ _ => rT) ?_
   refine awp_ret ?_
   obtain rfl := Option.some.inj h0
   refine leave_retG [] ?_
   exact rG
  ·
   refine awp_loopF (ι := { p : Nat × Int × Bool × List UInt8 × Bool × List TApiEntry × Nat // bookendref12_Filter_l1 l1 p.1 p.2.1 p.2.2.1 p.2.2.2.1 p.2.2.2.2.1 p.2.2.2.2.2.1 = some x27 }) (fun p => ⟨[(0, .psl 4 (List.map TApiEntry.enc l1)), (7, .ref 64 0 0 0), (8, .sl 96 p.1.2.2.2.2.2.2 4 0 p.1.2.2.2.2.2.1.length), (9, .int .i64 p.1.2.1)], [(64, ⟨0, true, true, 3, [[.bool p.1.2.2.1, .str p.1.2.2.2.1, .bool p.1.2.2.2.2.1]]⟩), (96, ⟨p.1.2.2.2.2.2.2, true, true, 4, List.map TApiEntry.enc p.1.2.2.2.2.2.1⟩)], 97, []⟩) (fun p => p.1.1) ⟨(fu, 0, vr4.Some, vr4.Last, vr4.Bottom, [], 0), hxx27⟩ ⟨rF, rE, rfl, rfl, trivial, trivial⟩ (fun _ => Nat.le_refl _) ?_
   rintro ⟨⟨fu, i28, vs29, vs30, vs31, out32, g33⟩, h1⟩
   cases fu with
   | zero =>
   replace h1 : bookendref12_Filter_l1 l1 0 i28 vs29 vs30 vs31 out32 = some x27 := h1
   rw [bookendref12_Filter_l1] at h1; cases h1
   | succ fu =>
    replace h1 : bookendref12_Filter_l1 l1 (fu + 1) i28 vs29 vs30 vs31 out32 = some x27 := h1
    rw [bookendref12_Filter_l1] at h1
    refine (show AWP _ _ _ _ ⟨[(0, .psl 4 (List.map TApiEntry.enc l1)), (7, .ref 64 0 0 0), (8, .sl 96 g33 4 0 out32.length), (9, .int .i64 i28)], [(64, ⟨0, true, true, 3, [[.bool vs29, .str vs30, .bool vs31]]⟩), (96, ⟨g33, true, true, 4, List.map TApiEntry.enc out32⟩)], 97, []⟩ from ?_)
    refine awp_seq ?_
    refine awp_sr2 129 [0, 7, 8, 9, 21] (fun _ => none) rfl (fun _ _ => rT) ?_
    refine awp_if rfl (fun hb34 => ?_) (fun hb34 => ?_)
    ·
     replace h1 := iteT h1 hb34
     refine awp_skip ?_
     refine kn_then ?_
     refine awp_seq ?_
     refine awp_block ?_
     obtain ⟨e35, he35, h1⟩ := bindS h1
     obtain ⟨he35a, he35b, he35c⟩ := idxS he35
     obtain ⟨vr36, hvr36, h1⟩ := bindS h1
     refine awp_sd2 241 [0, 7, 8, 9, 10, 11, 12] (fun | 5 => some (.tup [.bool vr36.1, .agg (TApiShState.enc vr36.2.1), .int .i64 vr36.2.2], []) | _ => none) rfl rfl rfl (fun _ _ => rBd (rA he35a (rA he35b he35c)) (c_bookendref12_Step hvr36)) ?_
     refine awp_seq ?_
     refine awp_sr2 257 [0, 7, 8, 9, 10, 11, 12, 35] (fun _ => none) rfl (fun _ _ => rS (rA he35a (rA he35b he35c))) ?_
     refine awp_if rfl (fun hb37 => ?_) (fun hb37 => ?_)
     ·
      replace h1 := iteT h1 hb37
      refine awp_sr2 297 [4, 5, 6] (fun _ => none) rfl (fun _ _ => rS (rA he35a (rA he35b he35c))) ?_
      refine awp_ret ?_
      obtain rfl := Option.some.inj h1
      refine kr_then ?_
      refine kr_block ?_
      refine kr_then ?_
      refine kr_then ?_
      refine kr_loop ?_
      refine kr_then ?_
      obtain rfl := Option.some.inj h0
      refine leave_retG [] ?_
      simp (maxSteps := 1000000) only [↓reduceIte, reduceCtorEq, Nat.reduceEqDiff, Nat.reduceLT, Nat.reduceLeDiff, Nat.reduceAdd, Nat.reduceMul, Int.reduceToNat, push_cast, Gives, he35a, he35b, he35c]
      all_goals exact rH
     ·
      replace h1 := iteF h1 hb37
      refine awp_skip ?_
      refine kn_then ?_
      refine awp_seq ?_
      refine awp_sr2 265 [0, 7, 8, 9, 11, 38] (fun _ => none) rfl (fun _ _ => rS (rA he35a (rA he35b he35c))) ?_
      refine awp_if rfl (fun hb38 => ?_) (fun hb38 => ?_)
      ·
       replace h1 := iteT h1 hb38
       obtain ⟨hc39, h1⟩ := guS h1
       refine awp_r2 329 [0, 7, 8, 9, 11] (fun _ => none) rfl (fun _ _ => rS (rA he35a (rA he35b he35c))) ?_
       refine kn_then ?_
       refine awp_re (s2 := ⟨[(0, .psl 4 (List.map TApiEntry.enc l1)), (7, .ref 64 0 0 0), (8, .sl 96 (g33 + 1) 4 0 ((out32 ++ [e35]).length)), (9, .int .i64 i28), (11, .ref 209 0 0 0)], [(64, ⟨0, true, true, 3, [[.bool vs29, .str vs30, .bool vs31]]⟩), (96, ⟨(g33 + 1), true, true, 4, List.map TApiEntry.enc (out32 ++ [e35])⟩), (209, ⟨0, true, true, 3, [[.bool vr36.2.1.Some, .str vr36.2.1.Last, .bool vr36.2.1.Bottom]]⟩), (305, ⟨0, true, true, 4, List.map TApiEntry.enc [e35]⟩)], 329, []⟩) [] (Nat.le_of_ble_eq_true rfl) ⟨rF, rE, rfl, rfl, trivial, trivial⟩ ?_
       refine awp_r2 345 [0, 7, 8, 9] (fun _ => none) rfl (fun _ _ => rS (rA he35a (rA he35b he35c))) ?_
       refine kn_block ?_
       refine kn_then ?_
       refine awp_r2 369 [0, 7, 8, 9] (fun _ => none) rfl (fun _ _ => rS (rA he35a (rA he35b he35c))) ?_
       refine kn_then ?_
       exact ⟨⟨(fu, (IntKind.i64.wrap (i28 + 1)), vr36.2.1.Some, vr36.2.1.Last, vr36.2.1.Bottom, (out32 ++ [e35]), (g33 + 1)), h1⟩, ⟨rF, rE, rfl, rfl, trivial, trivial⟩, Nat.lt_succ_self _⟩
      ·
       replace h1 := iteF h1 hb38
       refine awp_skip ?_
       refine kn_then ?_
       refine awp_r2 281 [0, 7, 8, 9] (fun _ => none) rfl (fun _ _ => rS (rA he35a (rA he35b he35c))) ?_
       refine kn_block ?_
       refine kn_then ?_
       refine awp_r2 305 [0, 7, 8, 9] (fun _ => none) rfl (fun _ _ => rS (rA he35a (rA he35b he35c))) ?_
       refine kn_then ?_
       exact ⟨⟨(fu, (IntKind.i64.wrap (i28 + 1)), vr36.2.1.Some, vr36.2.1.Last, vr36.2.1.Bottom, out32, g33), h1⟩, ⟨rF, rE, rfl, rfl, trivial, trivial⟩, Nat.lt_succ_self _⟩
    ·
     replace h1 := iteF h1 hb34
     refine awp_exit ?_
     refine kx_then ?_
     refine kx_then ?_
     refine kx_done ?_
     obtain rfl := Option.some.inj h1
     exact ⟨_, g33, rfl, Nat.le_of_ble_eq_true rfl, ⟨rF, rE, rfl, rfl, trivial, trivial⟩⟩
end Go.T
end
section
namespace Go.T
open Go Go.AM Go.Proofs
set_option maxRecDepth 100000
set_option maxHeartbeats 4000000
set_option linter.unusedVariables false
theorem c_bookendlaw13_SlicesOutputs {fu : Nat} {runs1 : List (List TApiEntry)} {bottom2 : Bool} {r : Bool} (h0 : bookendlaw13_SlicesOutputs fu runs1 bottom2 = some r) : PCall Try.prog 7 [.psl 1 (runs1.map (encSl 4 TApiEntry.enc)), .bool bottom2] (.bool r) [] := by
 refine awp_pcall Try.func7 rfl (by decide) (Nat.le_of_ble_eq_true rfl) ?_
 dsimp only [Try.f7]
 rw [bookendlaw13_SlicesOutputs] at h0
 refine (show AWP _ _ _ _ ⟨enumFr 0 _, [], 0, []⟩ from ?_)
 refine awp_sr2 8 [0, 1] (fun _ => none) rfl (fun _ _ => rT) ?_
 refine awp_seq ?_
 obtain ⟨vr3, hvr3, h0⟩ := bindS h0
 refine awp_sr2 24 [0, 1, 18] (fun | 1 => some (.bool vr3, []) | _ => none) rfl (fun _ _ => rC (c_bookendlaw11_Far hvr3)) ?_
 refine awp_if rfl (fun hb4 => ?_) (fun hb4 => ?_)
 ·
  replace h0 := iteT h0 hb4
  obtain ⟨vr5, hvr5, h0⟩ := bindS h0
  refine awp_sr2 40 [4] (fun | 0 => some (.bool vr5, []) | _ => none) rfl (fun _ _ => rC (c_bookendlaw13_awake hvr5)) ?_
  refine awp_ret ?_
  refine kr_then ?_
  obtain rfl := Option.some.inj h0
  refine leave_retG [] ?_
  exact rG
 ·
  replace h0 := iteF h0 hb4
  refine awp_skip ?_
  refine kn_then ?_
  obtain ⟨vr6, hvr6, h0⟩ := bindS h0
  refine awp_sr2 104 [0, 1, 5, 6, 7] (fun | 2 => some (.tup [.psl 4 (vr6.1.map TApiEntry.enc), .int .i64 vr6.2.1, .int .i64 vr6.2.2], []) | _ => none) rfl (fun _ _ => rC (c_slices_All hvr6)) ?_
  refine awp_seq ?_
  refine awp_sr2 120 [0, 1, 5, 6, 28] (fun _ => none) rfl (fun _ _ => rT) ?_
  refine awp_if rfl (fun hb7 => ?_) (fun hb7 => ?_)
  ·
   replace h0 := iteT h0 hb7
   obtain ⟨b8, hb8, h0⟩ := bindS h0
   obtain ⟨b10, hb10, h0⟩ := bindS h0
   refine awp_sr3 (fr' := [(4, .bool b10)]) (hp' := []) [] 208 [4] (fun | 8 => (bookendlaw13_awake fu).bind fun vr9 => some (.bool vr9, []) | _ => none) rfl (fun Kt hK => by
     cases hg11 : (decide ((vr6.1.length : Int) = 0)) with
     | false =>
      replace hb8 := iteF hb8 hg11
      have hqb8 := Option.some.inj hb8
      cases b8 with
      | false =>
       replace hb10 := iteF hb10 rfl
       have hqb10 := Option.some.inj hb10
       subst hqb10
       simp (maxSteps := 1000000) only [↓reduceIte, reduceCtorEq, Nat.reduceEqDiff, Nat.reduceLT, Nat.reduceLeDiff, Nat.reduceAdd, Nat.reduceMul, Int.reduceToNat, push_cast, ↓hg11]
       try simp only [↓hg11] at hK
       try have q0 := c_bookendlaw13_awake hvr9
       all_goals exact rU
      | true =>
       cases hqb8
     | true =>
      replace hb8 := iteT hb8 hg11
      have hqb8 := Option.some.inj hb8
      cases b8 with
      | false =>
       replace hb10 := iteF hb10 rfl
       have hqb10 := Option.some.inj hb10
       subst hqb10
       simp (maxSteps := 1000000) only [↓reduceIte, reduceCtorEq, Nat.reduceEqDiff, Nat.reduceLT, Nat.reduceLeDiff, Nat.reduceAdd, Nat.reduceMul, Int.reduceToNat, push_cast, ↓hg11, ↓hqb8]
       try simp only [↓hg11, ↓hqb8] at hK
       try have q0 := c_bookendlaw13_awake hvr9
       all_goals exact rU
      | true =>
       replace hb10 := iteT hb10 rfl
       obtain ⟨vr9, hvr9, hb10⟩ := bindS hb10
       have hqb10 := Option.some.inj hb10
       subst hqb10
       simp (maxSteps := 1000000) only [↓reduceIte, reduceCtorEq, Nat.reduceEqDiff, Nat.reduceLT, Nat.reduceLeDiff, Nat.reduceAdd, Nat.reduceMul, Int.reduceToNat, push_cast, ↓hg11, ↓hqb8, hvr9]
       try simp only [↓hg11, ↓hqb8] at hK
       try have q0 := c_bookendlaw13_awake hvr9
       all_goals exact rU) ?_
   refine awp_ret ?_
   refine kr_then ?_
   obtain rfl := Option.some.inj h0
   refine leave_retG [] ?_
   exact rG
  ·
   replace h0 := iteF h0 hb7
   refine awp_skip ?_
   refine kn_then ?_
   obtain ⟨vr14, hvr14, h0⟩ := bindS h0
   refine awp_sr2 176 [0, 1, 5, 6, 9] (fun | 1 => some (.tup [.int .i64 vr14.1, .int .i64 vr14.2], []) | _ => none) rfl (fun _ _ => rC (c_bookendref03_CheckList hvr14)) ?_
   obtain ⟨vr15, hvr15, h0⟩ := bindS h0
   refine awp_sr2 248 [1, 5, 6, 9, 10, 12] (fun | 1 => some (.tup [.psl 4 (vr15.1.map TApiEntry.enc), .psl 1 (vr15.2.1.map (encInt .i64)), .int .i64 vr15.2.2], []) | _ => none) rfl (fun _ _ => rC (c_bookendref11_All hvr15)) ?_
   obtain ⟨vr16, hvr16, h0⟩ := bindS h0
   refine awp_sr2 328 [1, 5, 6, 9, 10, 12, 13, 15] (fun | 2 => some (.tup [.psl 4 (vr16.1.map TApiEntry.enc), .int .i64 vr16.2.1, .int .i64 vr16.2.2], []) | _ => none) rfl (fun _ _ => rC (c_bookendref12_Filter hvr16)) ?_
   refine awp_seq ?_
   obtain ⟨b17, hb17, h0⟩ := bindS h0
   obtain ⟨b18, hb18, h0⟩ := bindS h0
   obtain ⟨b19, hb19, h0⟩ := bindS h0
   obtain ⟨b21, hb21, h0⟩ := bindS h0
   refine awp_sr3 (fr' := [(1, .bool bottom2), (5, .psl 4 (List.map TApiEntry.enc vr6.1)), (78, .bool b21)]) (hp' := []) [] 504 [1, 5, 78] (fun | 19 => (bookendref11_SameEntries fu vr6.1 vr16.1).bind fun vr20 => some (.bool vr20, []) | _ => none) rfl (fun Kt hK => by
     cases hg22 : (!(decide (vr14.2 = 0))) with
     | false =>
      replace hb17 := iteF hb17 hg22
      have hqb17 := Option.some.inj hb17
      cases b17 with
      | false =>
       replace hb18 := iteF hb18 rfl
       have hqb18 := Option.some.inj hb18
       cases b18 with
       | false =>
        replace hb19 := iteF hb19 rfl
        have hqb19 := Option.some.inj hb19
        cases b19 with
        | false =>
         replace hb21 := iteF hb21 rfl
         obtain ⟨vr20, hvr20, hb21⟩ := bindS hb21
         have hqb21 := Option.some.inj hb21
         subst hqb21
         simp (maxSteps := 1000000) only [↓reduceIte, reduceCtorEq, Nat.reduceEqDiff, Nat.reduceLT, Nat.reduceLeDiff, Nat.reduceAdd, Nat.reduceMul, Int.reduceToNat, push_cast, ↓hg22, ↓hqb17, ↓hqb18, ↓hqb19, hvr20]
         try simp only [↓hg22, ↓hqb17, ↓hqb18, ↓hqb19] at hK
         try have q0 := c_bookendref11_SameEntries hvr20
         all_goals exact rU
        | true =>
         replace hb21 := iteT hb21 rfl
         have hqb21 := Option.some.inj hb21
         subst hqb21
         simp (maxSteps := 1000000) only [↓reduceIte, reduceCtorEq, Nat.reduceEqDiff, Nat.reduceLT, Nat.reduceLeDiff, Nat.reduceAdd, Nat.reduceMul, Int.reduceToNat, push_cast, ↓hg22, ↓hqb17, ↓hqb18, ↓hqb19]
         try simp only [↓hg22, ↓hqb17, ↓hqb18, ↓hqb19] at hK
         try have q0 := c_bookendref11_SameEntries hvr20
         all_goals exact rU
       | true =>
        replace hb19 := iteT hb19 rfl
        have hqb19 := Option.some.inj hb19
        cases b19 with
        | false =>
         cases hqb19
        | true =>
         replace hb21 := iteT hb21 rfl
         have hqb21 := Option.some.inj hb21
         subst hqb21
         simp (maxSteps := 1000000) only [↓reduceIte, reduceCtorEq, Nat.reduceEqDiff, Nat.reduceLT, Nat.reduceLeDiff, Nat.reduceAdd, Nat.reduceMul, Int.reduceToNat, push_cast, ↓hg22, ↓hqb17, ↓hqb18]
         try simp only [↓hg22, ↓hqb17, ↓hqb18] at hK
         try have q0 := c_bookendref11_SameEntries hvr20
         all_goals exact rU
      | true =>
       replace hb18 := iteT hb18 rfl
       have hqb18 := Option.some.inj hb18
       cases b18 with
       | false =>
        cases hqb18
       | true =>
        replace hb19 := iteT hb19 rfl
        have hqb19 := Option.some.inj hb19
        cases b19 with
        | false =>
         cases hqb19
        | true =>
         replace hb21 := iteT hb21 rfl
         have hqb21 := Option.some.inj hb21
         subst hqb21
         simp (maxSteps := 1000000) only [↓reduceIte, reduceCtorEq, Nat.reduceEqDiff, Nat.reduceLT, Nat.reduceLeDiff, Nat.reduceAdd, Nat.reduceMul, Int.reduceToNat, push_cast, ↓hg22, ↓hqb17]
         try simp only [↓hg22, ↓hqb17] at hK
         try have q0 := c_bookendref11_SameEntries hvr20
         all_goals exact rU
     | true =>
      replace hb17 := iteT hb17 hg22
      have hqb17 := Option.some.inj hb17
      cases b17 with
      | false =>
       cases hqb17
      | true =>
       replace hb18 := iteT hb18 rfl
       have hqb18 := Option.some.inj hb18
       cases b18 with
       | false =>
        cases hqb18
       | true =>
        replace hb19 := iteT hb19 rfl
        have hqb19 := Option.some.inj hb19
        cases b19 with
        | false =>
         cases hqb19
        | true =>
         replace hb21 := iteT hb21 rfl
         have hqb21 := Option.some.inj hb21
         subst hqb21
         simp (maxSteps := 1000000) only [↓reduceIte, reduceCtorEq, Nat.reduceEqDiff, Nat.reduceLT, Nat.reduceLeDiff, Nat.reduceAdd, Nat.reduceMul, Int.reduceToNat, push_cast, ↓hg22]
         try simp only [↓hg22] at hK
         try have q0 := c_bookendref11_SameEntries hvr20
         all_goals exact rU) ?_
   refine awp_if rfl (fun hb32 => ?_) (fun hb32 => ?_)
   ·
    replace h0 := iteT h0 hb32
    refine awp_sr2 512 [4] (fun _ => none) rfl (fun _ _ => rT) ?_
    refine awp_ret ?_
    refine kr_then ?_
    obtain rfl := Option.some.inj h0
    refine leave_retG [] ?_
    exact rG
   ·
    replace h0 := iteF h0 hb32
    refine awp_skip ?_
    refine kn_then ?_
    refine awp_seq ?_
    refine awp_sr2 512 [1, 5, 16] (fun _ => none) rfl (fun _ _ => rT) ?_
    obtain ⟨x44, hxx44, h0⟩ := bindS h0
    refine awp_bloop (fun s' => ∃ o51 : Unit, x44 = .inl o51 ∧ s'.nx ≤ 544 ∧ LeN [] s' ⟨[], [], 544, []⟩) ?_ ?_
    ·
     intro s' hs
     obtain ⟨o51, rfl, hn, hs⟩ := hs
     refine kn_then ?_
     refine awp_re [] hn hs ?_
     obtain ⟨vr52, hvr52, h0⟩ := bindS h0
     refine awp_sr2 560 [4] (fun | 0 => some (.bool vr52, []) | _ => none) rfl (fun _ _ => rC (c_bookendlaw13_awake hvr52)) ?_
     refine awp_ret ?_
     obtain rfl := Option.some.inj h0
     refine leave_retG [] ?_
     exact rG
    ·
     refine awp_loopF (ι := { p : Nat × Int // bookendlaw13_SlicesOutputs_l1 vr6 bottom2 p.1 p.2 = some x44 }) (fun p => ⟨[(1, .bool bottom2), (5, .psl 4 (List.map TApiEntry.enc vr6.1)), (16, .int .i64 p.1.2)], [], 512, []⟩) (fun p => p.1.1) ⟨(fu, 0), hxx44⟩ ⟨rF, rE, rfl, rfl, trivial, trivial⟩ (fun _ => Nat.le_refl _) ?_
     rintro ⟨⟨fu, i45⟩, h1⟩
     cases fu with
     | zero =>
   replace h1 : bookendlaw13_SlicesOutputs_l1 vr6 bottom2 0 i45 = some x44 := h1
   rw [bookendlaw13_SlicesOutputs_l1] at h1; cases h1
     | succ fu =>
      replace h1 : bookendlaw13_SlicesOutputs_l1 vr6 bottom2 (fu + 1) i45 = some x44 := h1
      rw [bookendlaw13_SlicesOutputs_l1] at h1
      refine (show AWP _ _ _ _ ⟨[(1, .bool bottom2), (5, .psl 4 (List.map TApiEntry.enc vr6.1)), (16, .int .i64 i45)], [], 512, []⟩ from ?_)
      refine awp_seq ?_
      refine awp_sr2 544 [1, 5, 16, 82] (fun _ => none) rfl (fun _ _ => rT) ?_
      refine awp_if rfl (fun hb46 => ?_) (fun hb46 => ?_)
      ·
       replace h1 := iteT h1 hb46
       refine awp_skip ?_
       refine kn_then ?_
       refine awp_seq ?_
       refine awp_block ?_
       obtain ⟨b48, hb48, h1⟩ := bindS h1
       refine awp_sr3 (fr' := [(1, .bool bottom2), (5, .psl 4 (List.map TApiEntry.enc vr6.1)), (16, .int .i64 i45), (92, .bool b48)]) (hp' := []) [] 608 [1, 5, 16, 92] (fun _ => none) rfl (fun Kt hK => by
         cases bottom2 with
         | false =>
          replace hb48 := iteF hb48 rfl
          have hqb48 := Option.some.inj hb48
          subst hqb48
          exact rT
         | true =>
          replace hb48 := iteT hb48 rfl
          obtain ⟨e47, he47, hb48⟩ := bindS hb48
          obtain ⟨he47a, he47b, he47c⟩ := idxS he47
          have hqb48 := Option.some.inj hb48
          subst hqb48
          exact rS (rA he47a (rA he47b (rA he47c he47)))) ?_
       refine awp_if rfl (fun hb50 => ?_) (fun hb50 => ?_)
       ·
        replace h1 := iteT h1 hb50
        refine awp_sr2 616 [4] (fun _ => none) rfl (fun _ _ => rT) ?_
        refine awp_ret ?_
        obtain rfl := Option.some.inj h1
        refine kr_block ?_
        refine kr_then ?_
        refine kr_then ?_
        refine kr_loop ?_
        refine kr_then ?_
        obtain rfl := Option.some.inj h0
        refine leave_retG [] ?_
        exact rG
       ·
        replace h1 := iteF h1 hb50
        refine awp_skip ?_
        refine kn_block ?_
        refine kn_then ?_
        refine awp_r2 632 [1, 5, 16] (fun _ => none) rfl (fun _ _ => rT) ?_
        refine kn_then ?_
        exact ⟨⟨(fu, (IntKind.i64.wrap (i45 + 1))), h1⟩, ⟨rF, rE, rfl, rfl, trivial, trivial⟩, Nat.lt_succ_self _⟩
      ·
       replace h1 := iteF h1 hb46
       refine awp_exit ?_
       refine kx_then ?_
       refine kx_then ?_
       refine kx_done ?_
       obtain rfl := Option.some.inj h1
       exact ⟨_, rfl, Nat.le_of_ble_eq_true rfl, ⟨rF, rE, rfl, rfl, trivial, trivial⟩⟩
end Go.T
end
section
namespace Go.Proofs.Ytjmdbbhkgnlmmaa
open Go.T
theorem slicesOutputs : Rows.SlicesOutputsSaid :=
  slicesOutputs_over (fun x0 x1 w0 w1 => by
    obtain ⟨fu, h⟩ := (slicesOutputs_ev x0 x1).one
    exact ⟨_, c_bookendlaw13_SlicesOutputs h⟩)
end Go.Proofs.Ytjmdbbhkgnlmmaa
end
