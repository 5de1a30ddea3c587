/- The job of a small level is as the document says; no condition. -/
import Derived.Test.YtnlggkiekcpahaaAGt
import Derived.Test.YtnlggkiekcpahaaALkJobsKnown
import Derived.Test.YtnlggkiekcpahaaA1
set_option linter.unusedSimpArgs false
set_option linter.unusedVariables false
section
namespace Go.T
open Go Go.AM Go.Proofs
set_option maxRecDepth 100000
set_option maxHeartbeats 4000000
set_option linter.unusedVariables false
theorem c_shadow_Filter {fu : Nat} {l1 : List TApiEntry} {bottom2 : Bool} {r : List TApiEntry × Int × Int} (h0 : shadow_Filter fu l1 bottom2 = some r) : PCall Try.prog 61 [.psl 4 (l1.map TApiEntry.enc), .bool bottom2] (.tup [.psl 4 (r.1.map TApiEntry.enc), .int .i64 r.2.1, .int .i64 r.2.2]) [] := by
 refine awp_pcall Try.func61 rfl (by decide) (Nat.le_of_ble_eq_true rfl) ?_
 dsimp only [Try.f61]
 rw [shadow_Filter] at h0
 refine (show AWP _ _ _ _ ⟨enumFr 0 _, [], 0, []⟩ from ?_)
 refine awp_sr2 24 [0, 1, 4] (fun _ => none) rfl (fun _ _ => rT) ?_
 refine awp_sops2 9 rfl ?_
 refine awpo_cut (l' := List.range' 0 3 ++ (3 :: (List.range' 4 5 ++ []))) rfl ?_
 refine awpo_seg 0 3 48 (3 :: (List.range' 4 5 ++ [])) (fun _ => none) rfl rfl rfl (fun _ _ => rT) ?_
 refine awpo_in rfl rfl rfl rfl rfl Try.func84 rfl (by decide) rfl (Nat.le_of_ble_eq_true rfl) ?_
 dsimp only [Try.f84]
 refine awp_re (s2 := ⟨[(0, .psl 4 (List.map TApiEntry.enc l1)), (1, .bool bottom2), (2, .fn 85 [] [.ref 0 0 0 0])], [(0, ⟨0, true, true, 1, [[.nils]]⟩)], 48, []⟩) [] (Nat.le_of_ble_eq_true rfl) ⟨rF, rE, rfl, rfl, trivial, trivial⟩ ?_
 refine awp_sr2 64 [0, 1, 2] (fun _ => none) rfl (fun _ _ => rT) ?_
 refine awp_seq ?_
 refine awp_sr2 88 [0, 1, 2, 16] (fun _ => none) rfl (fun _ _ => rT) ?_
 refine awp_if rfl (fun hb3 => ?_) (fun hb3 => ?_)
 ·
  replace h0 := iteT h0 hb3
  refine awp_sr2 104 [6, 7] (fun _ => none) rfl (fun _ _ => rT) ?_
  refine awp_ret ?_
  refine kr_then ?_
  refine leave_retK (fun _ _ => rT) ?_
  refine awpo_re (s2 := ⟨[(0, .psl 4 (List.map TApiEntry.enc l1)), (1, .bool bottom2), (4, .ref 0 0 0 0), (8, .psl 4 (List.map TApiEntry.enc l1)), (9, .bool bottom2), (10, .fn 85 [] [.ref 0 0 0 0]), (11, .tup [.int .i64 (-1), .int .i64 3])], [(0, ⟨0, true, true, 1, [[.nils]]⟩)], 104, []⟩) [] (Nat.le_of_ble_eq_true rfl) ⟨rF, rE, rfl, rfl, trivial, trivial⟩ ?_
  refine awpo_cut (l' := List.range' 4 5 ++ []) rfl ?_
  refine awpo_seg 4 5 144 [] (fun _ => none) rfl rfl rfl (fun _ _ => rT) ?_
  refine awpo_nil ?_
  refine kn_then ?_
  refine awp_re (s2 := ⟨[(4, .ref 0 0 0 0), (5, .int .i64 (-1)), (6, .int .i64 3)], [(0, ⟨0, true, true, 1, [[.nils]]⟩)], 144, []⟩) [] (Nat.le_of_ble_eq_true rfl) ⟨rF, rE, rfl, rfl, trivial, trivial⟩ ?_
  refine awp_seq ?_
  refine awp_sr2 160 [4, 5, 6, 15] (fun _ => none) rfl (fun _ _ => rT) ?_
  refine awp_condT rfl ?_
  refine awp_sr2 200 [4, 5, 6] (fun _ => none) rfl (fun _ _ => rT) ?_
  refine awp_ret ?_
  refine kr_then ?_
  obtain rfl := Option.some.inj h0
  refine leave_retG [] ?_
  exact rG
 ·
  replace h0 := iteF h0 hb3
  refine awp_skip ?_
  refine kn_then ?_
  obtain ⟨vr4, hvr4, h0⟩ := bindS h0
  refine awp_sr2 120 [0, 2, 8] (fun | 1 => some (.agg (TApiShState.enc vr4), []) | _ => none) rfl (fun _ _ => rC (c_shadow_Begin hvr4)) ?_
  refine awp_seq ?_
  refine awp_sr2 144 [2, 8, 19, 20, 21] (fun _ => none) rfl (fun _ _ => rT) ?_
  refine awp_re (s2 := ⟨[(2, .fn 85 [] [.ref 0 0 0 0]), (8, .ref 104 0 0 0), (19, .psl 4 (List.map TApiEntry.enc l1)), (20, .int .i64 (l1.length : Int)), (21, .int .i64 0)], [(0, ⟨0, true, false, 1, [[.sl 144 0 4 0 0]]⟩), (104, ⟨0, true, true, 3, [[.bool vr4.Some, .str vr4.Last, .bool vr4.Bottom]]⟩), (144, ⟨0, true, true, 4, List.map TApiEntry.enc []⟩)], 145, []⟩) [(144, 4)] (Nat.le_of_ble_eq_true rfl) ⟨rF, rE, rfl, rfl, trivial, rN⟩ ?_
  obtain ⟨x59, hxx59, h0⟩ := bindS h0
  refine awp_bloop (fun s' => ∃ o82 : Bool × List UInt8 × List TApiEntry, ∃ g83 : Nat, x59 = .inl o82 ∧ s'.nx ≤ 153 ∧ LeN [] s' ⟨[], [(0, ⟨0, true, false, 1, [[.sl 144 g83 4 0 o82.2.2.length]]⟩), (104, ⟨0, true, true, 3, [[.bool o82.1, .str o82.2.1, .bool vr4.Bottom]]⟩), (144, ⟨g83, true, true, 4, List.map TApiEntry.enc o82.2.2⟩)], 153, []⟩) ?_ ?_
  ·
   intro s' hs
   obtain ⟨o82, g83, rfl, hn, hs⟩ := hs
   refine kn_then ?_
   refine awp_re [] hn hs ?_
   refine awp_sr2 169 [6, 7] (fun _ => none) rfl (fun _ _ => rT) ?_
   refine awp_ret ?_
   refine leave_retK (fun _ _ => rT) ?_
   refine awpo_re (s2 := ⟨[(0, .psl 4 (List.map TApiEntry.enc l1)), (1, .bool bottom2), (4, .ref 0 0 0 0), (8, .psl 4 (List.map TApiEntry.enc l1)), (9, .bool bottom2), (10, .fn 85 [] [.ref 0 0 0 0]), (11, .tup [.int .i64 0, .int .i64 0])], [(0, ⟨0, true, false, 1, [[.sl 144 g83 4 0 o82.2.2.length]]⟩), (144, ⟨g83, true, true, 4, List.map TApiEntry.enc o82.2.2⟩)], 169, []⟩) [] (Nat.le_of_ble_eq_true rfl) ⟨rF, rE, rfl, rfl, trivial, trivial⟩ ?_
   refine awpo_cut (l' := List.range' 4 5 ++ []) rfl ?_
   refine awpo_seg 4 5 209 [] (fun _ => none) rfl rfl rfl (fun _ _ => rT) ?_
   refine awpo_nil ?_
   refine kn_then ?_
   refine awp_re (s2 := ⟨[(4, .ref 0 0 0 0), (5, .int .i64 0), (6, .int .i64 0)], [(0, ⟨0, true, false, 1, [[.sl 144 g83 4 0 o82.2.2.length]]⟩), (144, ⟨g83, true, true, 4, List.map TApiEntry.enc o82.2.2⟩)], 209, []⟩) [] (Nat.le_of_ble_eq_true rfl) ⟨rF, rE, rfl, rfl, trivial, trivial⟩ ?_
   refine awp_seq ?_
   refine awp_sr2 225 [4, 5, 6, 15] (fun _ => none) rfl (fun _ _ => rT) ?_
   refine awp_condF rfl ?_
   refine awp_skip ?_
   refine kn_then ?_
   refine awp_sr2 257 [4, 5, 6] (fun _ => none) rfl (fun _ _ => rT) ?_
   refine awp_ret ?_
   obtain rfl := Option.some.inj h0
   refine leave_retG [] ?_
   exact rG
  ·
   refine awp_loopF (ι := { p : Nat × Int × Bool × List UInt8 × List TApiEntry × Nat // shadow_Filter_l1 l1 vr4 p.1 p.2.1 p.2.2.1 p.2.2.2.1 p.2.2.2.2.1 = some x59 }) (fun p => ⟨[(2, .fn 85 [] [.ref 0 0 0 0]), (8, .ref 104 0 0 0), (19, .psl 4 (List.map TApiEntry.enc l1)), (20, .int .i64 (l1.length : Int)), (21, .int .i64 p.1.2.1)], [(0, ⟨0, true, false, 1, [[.sl 144 p.1.2.2.2.2.2 4 0 p.1.2.2.2.2.1.length]]⟩), (104, ⟨0, true, true, 3, [[.bool p.1.2.2.1, .str p.1.2.2.2.1, .bool vr4.Bottom]]⟩), (144, ⟨p.1.2.2.2.2.2, true, true, 4, List.map TApiEntry.enc p.1.2.2.2.2.1⟩)], 145, []⟩) (fun p => p.1.1) ⟨(fu, 0, vr4.Some, vr4.Last, [], 0), hxx59⟩ ⟨rF, rE, rfl, rfl, trivial, trivial⟩ (fun _ => Nat.le_refl _) ?_
   rintro ⟨⟨fu, v60, v61, v62, v63, g64⟩, h1⟩
   cases fu with
   | zero =>
   replace h1 : shadow_Filter_l1 l1 vr4 0 v60 v61 v62 v63 = some x59 := h1
   rw [shadow_Filter_l1] at h1; cases h1
   | succ fu =>
    replace h1 : shadow_Filter_l1 l1 vr4 (fu + 1) v60 v61 v62 v63 = some x59 := h1
    rw [shadow_Filter_l1] at h1
    refine (show AWP _ _ _ _ ⟨[(2, .fn 85 [] [.ref 0 0 0 0]), (8, .ref 104 0 0 0), (19, .psl 4 (List.map TApiEntry.enc l1)), (20, .int .i64 (l1.length : Int)), (21, .int .i64 v60)], [(0, ⟨0, true, false, 1, [[.sl 144 g64 4 0 v63.length]]⟩), (104, ⟨0, true, true, 3, [[.bool v61, .str v62, .bool vr4.Bottom]]⟩), (144, ⟨g64, true, true, 4, List.map TApiEntry.enc v63⟩)], 145, []⟩ from ?_)
    refine awp_sr2 153 [2, 8, 19, 20, 21, 22] (fun _ => none) rfl (fun _ _ => rT) ?_
    refine awp_seq ?_
    refine awp_if rfl (fun hb65 => ?_) (fun hb65 => ?_)
    ·
     replace h1 := iteT h1 hb65
     refine awp_skip ?_
     refine kn_then ?_
     refine awp_seq ?_
     refine awp_block ?_
     obtain ⟨e66, he66, h1⟩ := bindS h1
     obtain ⟨he66a, he66b, he66c⟩ := idxS he66
     refine awp_sr2 201 [2, 8, 9, 10, 19, 20, 21] (fun _ => none) rfl (fun _ _ => rS (rA he66a (rA he66b he66c))) ?_
     refine awp_sops2 11 rfl ?_
     refine awpo_cut (l' := List.range' 0 2 ++ (2 :: (List.range' 3 8 ++ []))) rfl ?_
     refine awpo_seg 0 2 217 (2 :: (List.range' 3 8 ++ [])) (fun _ => none) rfl rfl rfl (fun _ _ => rS (rA he66a (rA he66b he66c))) ?_
     refine awpo_in rfl rfl rfl rfl rfl Try.func91 rfl (by decide) rfl (Nat.le_of_ble_eq_true rfl) ?_
     dsimp only [Try.f91]
     refine awp_re (s2 := ⟨[(0, .agg [.bool v61, .str v62, .bool vr4.Bottom]), (1, .agg [.str e66.Key, .str e66.Val, .bool e66.Dead, .int .i64 e66.Seq])], [(0, ⟨0, true, false, 1, [[.sl 144 g64 4 0 v63.length]]⟩), (104, ⟨0, true, true, 3, [[.bool v61, .str v62, .bool vr4.Bottom]]⟩), (144, ⟨g64, true, true, 4, List.map TApiEntry.enc v63⟩), (177, ⟨0, true, true, 4, [[.str e66.Key, .str e66.Val, .bool e66.Dead, .int .i64 e66.Seq]]⟩)], 217, []⟩) [] (Nat.le_of_ble_eq_true rfl) ⟨rF, rE, rfl, rfl, trivial, trivial⟩ ?_
     refine awp_sr2 257 [2, 3, 5] (fun _ => none) rfl (fun _ _ => rS (rA he66a (rA he66b he66c))) ?_
     refine awp_seq ?_
     obtain ⟨vr67, hvr67, h1⟩ := bindS h1
     refine awp_sr2 281 [2, 3, 5, 7] (fun | 1 => some (.int .i64 vr67, []) | _ => none) rfl (fun _ _ => rB (rA he66a (rA he66b he66c)) (c_shadow_Check hvr67)) ?_
     refine awp_sr2 297 [2, 3, 5, 7, 13] (fun _ => none) rfl (fun _ _ => rS (rA he66a (rA he66b he66c))) ?_
     refine awp_if rfl (fun hb68 => ?_) (fun hb68 => ?_)
     ·
      replace h1 := iteT h1 hb68
      refine awp_sr2 337 [4, 5, 6] (fun _ => none) rfl (fun _ _ => rS (rA he66a (rA he66b he66c))) ?_
      refine awp_ret ?_
      refine kr_then ?_
      refine leave_retK (fun _ _ => rS (rA he66a (rA he66b he66c))) ?_
      refine awpo_re (s2 := ⟨[(2, .fn 85 [] [.ref 0 0 0 0]), (8, .ref 104 0 0 0), (9, .int .i64 v60), (10, .ref 177 0 0 0), (19, .psl 4 (List.map TApiEntry.enc l1)), (20, .int .i64 (l1.length : Int)), (21, .int .i64 v60), (27, .agg [.bool v61, .str v62, .bool vr4.Bottom]), (28, .agg [.str e66.Key, .str e66.Val, .bool e66.Dead, .int .i64 e66.Seq]), (29, .tup [.nili, .agg [.bool false, .str [], .bool false], .int .i64 vr67])], [(0, ⟨0, true, false, 1, [[.sl 144 g64 4 0 v63.length]]⟩), (104, ⟨0, true, true, 3, [[.bool v61, .str v62, .bool vr4.Bottom]]⟩), (144, ⟨g64, true, true, 4, List.map TApiEntry.enc v63⟩), (177, ⟨0, true, true, 4, [[.str e66.Key, .str e66.Val, .bool e66.Dead, .int .i64 e66.Seq]]⟩)], 337, []⟩) [] (Nat.le_of_ble_eq_true rfl) ⟨rF, rE, rfl, rfl, trivial, trivial⟩ ?_
      refine awpo_cut (l' := List.range' 3 8 ++ []) rfl ?_
      refine awpo_seg 3 8 401 [] (fun _ => none) rfl rfl rfl (fun _ _ => rS (rA he66a (rA he66b he66c))) ?_
      refine awpo_nil ?_
      refine kn_then ?_
      refine awp_re (s2 := ⟨[(2, .fn 85 [] [.ref 0 0 0 0]), (8, .ref 104 0 0 0), (9, .int .i64 v60), (11, .nili), (12, .ref 369 0 0 0), (13, .int .i64 vr67), (19, .psl 4 (List.map TApiEntry.enc l1)), (20, .int .i64 (l1.length : Int)), (21, .int .i64 v60)], [(0, ⟨0, true, false, 1, [[.sl 144 g64 4 0 v63.length]]⟩), (104, ⟨0, true, true, 3, [[.bool v61, .str v62, .bool vr4.Bottom]]⟩), (144, ⟨g64, true, true, 4, List.map TApiEntry.enc v63⟩), (177, ⟨0, true, true, 4, [[.str e66.Key, .str e66.Val, .bool e66.Dead, .int .i64 e66.Seq]]⟩), (369, ⟨0, true, true, 3, [[.bool false, .str [], .bool false]]⟩)], 401, []⟩) [] (Nat.le_of_ble_eq_true rfl) ⟨rF, rE, rfl, rfl, trivial, trivial⟩ ?_
      refine awp_seq ?_
      refine awp_sr2 417 [2, 8, 9, 11, 12, 13, 19, 20, 21, 34] (fun _ => none) rfl (fun _ _ => rS (rA he66a (rA he66b he66c))) ?_
      refine awp_condKT rfl hb68 ?_
      refine awp_sr2 449 [6, 7] (fun _ => none) rfl (fun _ _ => rS (rA he66a (rA he66b he66c))) ?_
      refine awp_ret ?_
      obtain rfl := Option.some.inj h1
      refine kr_then ?_
      refine kr_block ?_
      refine kr_then ?_
      refine kr_then ?_
      refine kr_loop ?_
      refine kr_then ?_
      refine leave_retK (fun _ _ => rS (rA he66a (rA he66b he66c))) ?_
      refine awpo_re (s2 := ⟨[(0, .psl 4 (List.map TApiEntry.enc l1)), (1, .bool bottom2), (4, .ref 0 0 0 0), (8, .psl 4 (List.map TApiEntry.enc l1)), (9, .bool bottom2), (10, .fn 85 [] [.ref 0 0 0 0]), (11, .tup [.int .i64 v60, .int .i64 vr67])], [(0, ⟨0, true, false, 1, [[.sl 144 g64 4 0 v63.length]]⟩), (144, ⟨g64, true, true, 4, List.map TApiEntry.enc v63⟩)], 449, []⟩) [] (Nat.le_of_ble_eq_true rfl) ⟨rF, rE, rfl, rfl, trivial, trivial⟩ ?_
      refine awpo_cut (l' := List.range' 4 5 ++ []) rfl ?_
      refine awpo_seg 4 5 489 [] (fun _ => none) rfl rfl rfl (fun _ _ => rS (rA he66a (rA he66b he66c))) ?_
      refine awpo_nil ?_
      refine kn_then ?_
      refine awp_re (s2 := ⟨[(4, .ref 0 0 0 0), (5, .int .i64 v60), (6, .int .i64 vr67)], [(0, ⟨0, true, false, 1, [[.sl 144 g64 4 0 v63.length]]⟩), (144, ⟨g64, true, true, 4, List.map TApiEntry.enc v63⟩)], 489, []⟩) [] (Nat.le_of_ble_eq_true rfl) ⟨rF, rE, rfl, rfl, trivial, trivial⟩ ?_
      refine awp_seq ?_
      refine awp_sr2 505 [4, 5, 6, 15] (fun _ => none) rfl (fun _ _ => rS (rA he66a (rA he66b he66c))) ?_
      refine awp_condKT rfl hb68 ?_
      refine awp_sr2 545 [4, 5, 6] (fun _ => none) rfl (fun _ _ => rS (rA he66a (rA he66b he66c))) ?_
      refine awp_ret ?_
      refine kr_then ?_
      obtain rfl := Option.some.inj h0
      refine leave_retG [] ?_
      simp (maxSteps := 1000000) only [↓reduceIte, reduceCtorEq, Nat.reduceEqDiff, Nat.reduceLT, Nat.reduceLeDiff, Nat.reduceAdd, Nat.reduceMul, Int.reduceToNat, push_cast, Gives, he66a, he66b, he66c]
      all_goals exact rH
     ·
      replace h1 := iteF h1 hb68
      refine awp_skip ?_
      refine kn_then ?_
      refine awp_seq ?_
      obtain ⟨vr69, hvr69, h1⟩ := bindS h1
      refine awp_sr2 321 [2, 3, 5, 8] (fun | 1 => some (.int .i64 vr69, []) | _ => none) rfl (fun _ _ => rB (rA he66a (rA he66b he66c)) (c_entries_Check hvr69)) ?_
      refine awp_sr2 337 [2, 3, 5, 8, 19] (fun _ => none) rfl (fun _ _ => rS (rA he66a (rA he66b he66c))) ?_
      refine awp_if rfl (fun hb70 => ?_) (fun hb70 => ?_)
      ·
       replace h1 := iteT h1 hb70
       refine awp_sr2 377 [4, 5, 6] (fun _ => none) rfl (fun _ _ => rS (rA he66a (rA he66b he66c))) ?_
       refine awp_ret ?_
       refine kr_then ?_
       refine leave_retK (fun _ _ => rS (rA he66a (rA he66b he66c))) ?_
       refine awpo_re (s2 := ⟨[(2, .fn 85 [] [.ref 0 0 0 0]), (8, .ref 104 0 0 0), (9, .int .i64 v60), (10, .ref 177 0 0 0), (19, .psl 4 (List.map TApiEntry.enc l1)), (20, .int .i64 (l1.length : Int)), (21, .int .i64 v60), (27, .agg [.bool v61, .str v62, .bool vr4.Bottom]), (28, .agg [.str e66.Key, .str e66.Val, .bool e66.Dead, .int .i64 e66.Seq]), (29, .tup [.nili, .agg [.bool false, .str [], .bool false], .int .i64 vr69])], [(0, ⟨0, true, false, 1, [[.sl 144 g64 4 0 v63.length]]⟩), (104, ⟨0, true, true, 3, [[.bool v61, .str v62, .bool vr4.Bottom]]⟩), (144, ⟨g64, true, true, 4, List.map TApiEntry.enc v63⟩), (177, ⟨0, true, true, 4, [[.str e66.Key, .str e66.Val, .bool e66.Dead, .int .i64 e66.Seq]]⟩)], 377, []⟩) [] (Nat.le_of_ble_eq_true rfl) ⟨rF, rE, rfl, rfl, trivial, trivial⟩ ?_
       refine awpo_cut (l' := List.range' 3 8 ++ []) rfl ?_
       refine awpo_seg 3 8 441 [] (fun _ => none) rfl rfl rfl (fun _ _ => rS (rA he66a (rA he66b he66c))) ?_
       refine awpo_nil ?_
       refine kn_then ?_
       refine awp_re (s2 := ⟨[(2, .fn 85 [] [.ref 0 0 0 0]), (8, .ref 104 0 0 0), (9, .int .i64 v60), (11, .nili), (12, .ref 409 0 0 0), (13, .int .i64 vr69), (19, .psl 4 (List.map TApiEntry.enc l1)), (20, .int .i64 (l1.length : Int)), (21, .int .i64 v60)], [(0, ⟨0, true, false, 1, [[.sl 144 g64 4 0 v63.length]]⟩), (104, ⟨0, true, true, 3, [[.bool v61, .str v62, .bool vr4.Bottom]]⟩), (144, ⟨g64, true, true, 4, List.map TApiEntry.enc v63⟩), (177, ⟨0, true, true, 4, [[.str e66.Key, .str e66.Val, .bool e66.Dead, .int .i64 e66.Seq]]⟩), (409, ⟨0, true, true, 3, [[.bool false, .str [], .bool false]]⟩)], 441, []⟩) [] (Nat.le_of_ble_eq_true rfl) ⟨rF, rE, rfl, rfl, trivial, trivial⟩ ?_
       refine awp_seq ?_
       refine awp_sr2 457 [2, 8, 9, 11, 12, 13, 19, 20, 21, 34] (fun _ => none) rfl (fun _ _ => rS (rA he66a (rA he66b he66c))) ?_
       refine awp_condKT rfl hb70 ?_
       refine awp_sr2 489 [6, 7] (fun _ => none) rfl (fun _ _ => rS (rA he66a (rA he66b he66c))) ?_
       refine awp_ret ?_
       obtain rfl := Option.some.inj h1
       refine kr_then ?_
       refine kr_block ?_
       refine kr_then ?_
       refine kr_then ?_
       refine kr_loop ?_
       refine kr_then ?_
       refine leave_retK (fun _ _ => rS (rA he66a (rA he66b he66c))) ?_
       refine awpo_re (s2 := ⟨[(0, .psl 4 (List.map TApiEntry.enc l1)), (1, .bool bottom2), (4, .ref 0 0 0 0), (8, .psl 4 (List.map TApiEntry.enc l1)), (9, .bool bottom2), (10, .fn 85 [] [.ref 0 0 0 0]), (11, .tup [.int .i64 v60, .int .i64 vr69])], [(0, ⟨0, true, false, 1, [[.sl 144 g64 4 0 v63.length]]⟩), (144, ⟨g64, true, true, 4, List.map TApiEntry.enc v63⟩)], 489, []⟩) [] (Nat.le_of_ble_eq_true rfl) ⟨rF, rE, rfl, rfl, trivial, trivial⟩ ?_
       refine awpo_cut (l' := List.range' 4 5 ++ []) rfl ?_
       refine awpo_seg 4 5 529 [] (fun _ => none) rfl rfl rfl (fun _ _ => rS (rA he66a (rA he66b he66c))) ?_
       refine awpo_nil ?_
       refine kn_then ?_
       refine awp_re (s2 := ⟨[(4, .ref 0 0 0 0), (5, .int .i64 v60), (6, .int .i64 vr69)], [(0, ⟨0, true, false, 1, [[.sl 144 g64 4 0 v63.length]]⟩), (144, ⟨g64, true, true, 4, List.map TApiEntry.enc v63⟩)], 529, []⟩) [] (Nat.le_of_ble_eq_true rfl) ⟨rF, rE, rfl, rfl, trivial, trivial⟩ ?_
       refine awp_seq ?_
       refine awp_sr2 545 [4, 5, 6, 15] (fun _ => none) rfl (fun _ _ => rS (rA he66a (rA he66b he66c))) ?_
       refine awp_condKT rfl hb70 ?_
       refine awp_sr2 585 [4, 5, 6] (fun _ => none) rfl (fun _ _ => rS (rA he66a (rA he66b he66c))) ?_
       refine awp_ret ?_
       refine kr_then ?_
       obtain rfl := Option.some.inj h0
       refine leave_retG [] ?_
       simp (maxSteps := 1000000) only [↓reduceIte, reduceCtorEq, Nat.reduceEqDiff, Nat.reduceLT, Nat.reduceLeDiff, Nat.reduceAdd, Nat.reduceMul, Int.reduceToNat, push_cast, Gives, he66a, he66b, he66c]
       all_goals exact rH
      ·
       replace h1 := iteF h1 hb70
       refine awp_skip ?_
       refine kn_then ?_
       refine awp_seq ?_
       obtain ⟨b71, hb71, h1⟩ := bindS h1
       refine awp_sr3 (fr' := [(2, .ref 217 0 0 0), (3, .ref 225 0 0 0), (5, .ref 241 0 0 0), (30, .bool b71)]) (hp' := [(0, ⟨0, true, false, 1, [[.sl 144 g64 4 0 v63.length]]⟩), (104, ⟨0, true, true, 3, [[.bool v61, .str v62, .bool vr4.Bottom]]⟩), (144, ⟨g64, true, true, 4, List.map TApiEntry.enc v63⟩), (177, ⟨0, true, true, 4, [[.str e66.Key, .str e66.Val, .bool e66.Dead, .int .i64 e66.Seq]]⟩), (217, ⟨0, true, true, 3, [[.bool v61, .str v62, .bool vr4.Bottom]]⟩), (225, ⟨0, true, true, 4, [[.str e66.Key, .str e66.Val, .bool e66.Dead, .int .i64 e66.Seq]]⟩), (241, ⟨0, true, true, 3, [[.bool false, .str [], .bool false]]⟩)]) [0, 104, 144, 177, 217, 225, 241] 409 [2, 3, 5, 30] (fun _ => none) rfl (fun Kt hK => by
         cases v61 with
         | false =>
          replace hb71 := iteF hb71 rfl
          have hqb71 := Option.some.inj hb71
          subst hqb71
          exact rS (rA he66a (rA he66b he66c))
         | true =>
          replace hb71 := iteT hb71 rfl
          have hqb71 := Option.some.inj hb71
          subst hqb71
          exact rS (rA he66a (rA he66b he66c))) ?_
       refine awp_if rfl (fun hb73 => ?_) (fun hb73 => ?_)
       ·
        replace h1 := iteT h1 hb73
        refine awp_sr2 441 [4, 5, 6] (fun _ => none) rfl (fun _ _ => rS (rA he66a (rA he66b he66c))) ?_
        refine awp_ret ?_
        refine kr_then ?_
        refine leave_retK (fun _ _ => rS (rA he66a (rA he66b he66c))) ?_
        refine awpo_re (s2 := ⟨[(2, .fn 85 [] [.ref 0 0 0 0]), (8, .ref 104 0 0 0), (9, .int .i64 v60), (10, .ref 177 0 0 0), (19, .psl 4 (List.map TApiEntry.enc l1)), (20, .int .i64 (l1.length : Int)), (21, .int .i64 v60), (27, .agg [.bool v61, .str v62, .bool vr4.Bottom]), (28, .agg [.str e66.Key, .str e66.Val, .bool e66.Dead, .int .i64 e66.Seq]), (29, .tup [.nili, .agg [.bool false, .str [], .bool false], .int .i64 6])], [(0, ⟨0, true, false, 1, [[.sl 144 g64 4 0 v63.length]]⟩), (104, ⟨0, true, true, 3, [[.bool v61, .str v62, .bool vr4.Bottom]]⟩), (144, ⟨g64, true, true, 4, List.map TApiEntry.enc v63⟩), (177, ⟨0, true, true, 4, [[.str e66.Key, .str e66.Val, .bool e66.Dead, .int .i64 e66.Seq]]⟩)], 441, []⟩) [] (Nat.le_of_ble_eq_true rfl) ⟨rF, rE, rfl, rfl, trivial, trivial⟩ ?_
        refine awpo_cut (l' := List.range' 3 8 ++ []) rfl ?_
        refine awpo_seg 3 8 505 [] (fun _ => none) rfl rfl rfl (fun _ _ => rS (rA he66a (rA he66b he66c))) ?_
        refine awpo_nil ?_
        refine kn_then ?_
        refine awp_re (s2 := ⟨[(2, .fn 85 [] [.ref 0 0 0 0]), (8, .ref 104 0 0 0), (9, .int .i64 v60), (11, .nili), (12, .ref 473 0 0 0), (13, .int .i64 6), (19, .psl 4 (List.map TApiEntry.enc l1)), (20, .int .i64 (l1.length : Int)), (21, .int .i64 v60)], [(0, ⟨0, true, false, 1, [[.sl 144 g64 4 0 v63.length]]⟩), (104, ⟨0, true, true, 3, [[.bool v61, .str v62, .bool vr4.Bottom]]⟩), (144, ⟨g64, true, true, 4, List.map TApiEntry.enc v63⟩), (177, ⟨0, true, true, 4, [[.str e66.Key, .str e66.Val, .bool e66.Dead, .int .i64 e66.Seq]]⟩), (473, ⟨0, true, true, 3, [[.bool false, .str [], .bool false]]⟩)], 505, []⟩) [] (Nat.le_of_ble_eq_true rfl) ⟨rF, rE, rfl, rfl, trivial, trivial⟩ ?_
        refine awp_seq ?_
        refine awp_sr2 521 [2, 8, 9, 11, 12, 13, 19, 20, 21, 34] (fun _ => none) rfl (fun _ _ => rS (rA he66a (rA he66b he66c))) ?_
        refine awp_condT rfl ?_
        refine awp_sr2 553 [6, 7] (fun _ => none) rfl (fun _ _ => rS (rA he66a (rA he66b he66c))) ?_
        refine awp_ret ?_
        obtain rfl := Option.some.inj h1
        refine kr_then ?_
        refine kr_block ?_
        refine kr_then ?_
        refine kr_then ?_
        refine kr_loop ?_
        refine kr_then ?_
        refine leave_retK (fun _ _ => rS (rA he66a (rA he66b he66c))) ?_
        refine awpo_re (s2 := ⟨[(0, .psl 4 (List.map TApiEntry.enc l1)), (1, .bool bottom2), (4, .ref 0 0 0 0), (8, .psl 4 (List.map TApiEntry.enc l1)), (9, .bool bottom2), (10, .fn 85 [] [.ref 0 0 0 0]), (11, .tup [.int .i64 v60, .int .i64 6])], [(0, ⟨0, true, false, 1, [[.sl 144 g64 4 0 v63.length]]⟩), (144, ⟨g64, true, true, 4, List.map TApiEntry.enc v63⟩)], 553, []⟩) [] (Nat.le_of_ble_eq_true rfl) ⟨rF, rE, rfl, rfl, trivial, trivial⟩ ?_
        refine awpo_cut (l' := List.range' 4 5 ++ []) rfl ?_
        refine awpo_seg 4 5 593 [] (fun _ => none) rfl rfl rfl (fun _ _ => rS (rA he66a (rA he66b he66c))) ?_
        refine awpo_nil ?_
        refine kn_then ?_
        refine awp_re (s2 := ⟨[(4, .ref 0 0 0 0), (5, .int .i64 v60), (6, .int .i64 6)], [(0, ⟨0, true, false, 1, [[.sl 144 g64 4 0 v63.length]]⟩), (144, ⟨g64, true, true, 4, List.map TApiEntry.enc v63⟩)], 593, []⟩) [] (Nat.le_of_ble_eq_true rfl) ⟨rF, rE, rfl, rfl, trivial, trivial⟩ ?_
        refine awp_seq ?_
        refine awp_sr2 609 [4, 5, 6, 15] (fun _ => none) rfl (fun _ _ => rS (rA he66a (rA he66b he66c))) ?_
        refine awp_condT rfl ?_
        refine awp_sr2 649 [4, 5, 6] (fun _ => none) rfl (fun _ _ => rS (rA he66a (rA he66b he66c))) ?_
        refine awp_ret ?_
        refine kr_then ?_
        obtain rfl := Option.some.inj h0
        refine leave_retG [] ?_
        simp (maxSteps := 1000000) only [↓reduceIte, reduceCtorEq, Nat.reduceEqDiff, Nat.reduceLT, Nat.reduceLeDiff, Nat.reduceAdd, Nat.reduceMul, Int.reduceToNat, push_cast, Gives, he66a, he66b, he66c]
        all_goals exact rH
       ·
        replace h1 := iteF h1 hb73
        refine awp_skip ?_
        refine kn_then ?_
        refine awp_sr2 465 [2, 3, 5, 9] (fun _ => none) rfl (fun _ _ => rS (rA he66a (rA he66b he66c))) ?_
        refine awp_seq ?_
        refine awp_block ?_
        obtain ⟨b74, hb74, h1⟩ := bindS h1
        refine awp_sr3 (fr' := [(2, .ref 217 0 0 0), (3, .ref 225 0 0 0), (5, .ref 241 0 0 0), (9, .ref 449 0 0 0), (37, .bool b74)]) (hp' := [(0, ⟨0, true, false, 1, [[.sl 144 g64 4 0 v63.length]]⟩), (104, ⟨0, true, true, 3, [[.bool v61, .str v62, .bool vr4.Bottom]]⟩), (144, ⟨g64, true, true, 4, List.map TApiEntry.enc v63⟩), (177, ⟨0, true, true, 4, [[.str e66.Key, .str e66.Val, .bool e66.Dead, .int .i64 e66.Seq]]⟩), (217, ⟨0, true, true, 3, [[.bool v61, .str v62, .bool vr4.Bottom]]⟩), (225, ⟨0, true, true, 4, [[.str e66.Key, .str e66.Val, .bool e66.Dead, .int .i64 e66.Seq]]⟩), (241, ⟨0, true, true, 3, [[.bool false, .str [], .bool false]]⟩), (449, ⟨0, true, true, 3, [[.bool true, .str e66.Key, .bool vr4.Bottom]]⟩)]) [0, 104, 144, 177, 217, 225, 241, 449] 545 [2, 3, 5, 9, 37] (fun _ => none) rfl (fun Kt hK => by
          cases v61 with
          | false =>
           replace hb74 := iteF hb74 rfl
           have hqb74 := Option.some.inj hb74
           subst hqb74
           exact rS (rA he66a (rA he66b he66c))
          | true =>
           replace hb74 := iteT hb74 rfl
           have hqb74 := Option.some.inj hb74
           subst hqb74
           exact rS (rA he66a (rA he66b he66c))) ?_
        refine awp_if rfl (fun hb76 => ?_) (fun hb76 => ?_)
        ·
         replace h1 := iteT h1 hb76
         refine awp_sd2 593 [4, 5, 6] (fun _ => none) rfl rfl rfl (fun _ _ => rSd (rA he66a (rA he66b he66c))) ?_
         refine awp_ret ?_
         refine kr_block ?_
         refine kr_then ?_
         refine leave_retK (fun _ _ => rS (rA he66a (rA he66b he66c))) ?_
         refine awpo_re (s2 := ⟨[(2, .fn 85 [] [.ref 0 0 0 0]), (8, .ref 104 0 0 0), (9, .int .i64 v60), (10, .ref 177 0 0 0), (19, .psl 4 (List.map TApiEntry.enc l1)), (20, .int .i64 (l1.length : Int)), (21, .int .i64 v60), (27, .agg [.bool v61, .str v62, .bool vr4.Bottom]), (28, .agg [.str e66.Key, .str e66.Val, .bool e66.Dead, .int .i64 e66.Seq]), (29, .tup [.iface 163 (.agg [.str e66.Key, .str e66.Val, .bool e66.Dead, .int .i64 e66.Seq]), .agg [.bool true, .str e66.Key, .bool vr4.Bottom], .int .i64 0])], [(0, ⟨0, true, false, 1, [[.sl 144 g64 4 0 v63.length]]⟩), (104, ⟨0, true, true, 3, [[.bool v61, .str v62, .bool vr4.Bottom]]⟩), (144, ⟨g64, true, true, 4, List.map TApiEntry.enc v63⟩), (177, ⟨0, true, true, 4, [[.str e66.Key, .str e66.Val, .bool e66.Dead, .int .i64 e66.Seq]]⟩)], 593, []⟩) [] (Nat.le_of_ble_eq_true rfl) ⟨rF, rE, rfl, rfl, trivial, trivial⟩ ?_
         refine awpo_cut (l' := List.range' 3 8 ++ []) rfl ?_
         refine awpo_seg 3 8 657 [] (fun _ => none) rfl rfl rfl (fun _ _ => rS (rA he66a (rA he66b he66c))) ?_
         refine awpo_nil ?_
         refine kn_then ?_
         refine awp_re (s2 := ⟨[(2, .fn 85 [] [.ref 0 0 0 0]), (8, .ref 104 0 0 0), (9, .int .i64 v60), (11, .iface 163 (.agg [.str e66.Key, .str e66.Val, .bool e66.Dead, .int .i64 e66.Seq])), (12, .ref 625 0 0 0), (13, .int .i64 0), (19, .psl 4 (List.map TApiEntry.enc l1)), (20, .int .i64 (l1.length : Int)), (21, .int .i64 v60)], [(0, ⟨0, true, false, 1, [[.sl 144 g64 4 0 v63.length]]⟩), (104, ⟨0, true, true, 3, [[.bool v61, .str v62, .bool vr4.Bottom]]⟩), (144, ⟨g64, true, true, 4, List.map TApiEntry.enc v63⟩), (177, ⟨0, true, true, 4, [[.str e66.Key, .str e66.Val, .bool e66.Dead, .int .i64 e66.Seq]]⟩), (625, ⟨0, true, true, 3, [[.bool true, .str e66.Key, .bool vr4.Bottom]]⟩)], 657, []⟩) [] (Nat.le_of_ble_eq_true rfl) ⟨rF, rE, rfl, rfl, trivial, trivial⟩ ?_
         refine awp_seq ?_
         refine awp_sr2 673 [2, 8, 9, 11, 12, 13, 19, 20, 21, 34] (fun _ => none) rfl (fun _ _ => rS (rA he66a (rA he66b he66c))) ?_
         refine awp_condF rfl ?_
         refine awp_skip ?_
         refine kn_then ?_
         refine awp_sops2 3 rfl ?_
         refine awpo_cut (l' := List.range' 0 2 ++ (2 :: (List.range' 3 0 ++ []))) rfl ?_
         refine awpo_seg 0 2 689 (2 :: (List.range' 3 0 ++ [])) (fun _ => none) rfl rfl rfl (fun _ _ => rS (rA he66a (rA he66b he66c))) ?_
         refine awpo_in rfl rfl rfl rfl rfl Try.func85 rfl (by decide) rfl (Nat.le_of_ble_eq_true rfl) ?_
         dsimp only [Try.f85]
         refine awp_re (s2 := ⟨[(0, .iface 163 (.agg [.str e66.Key, .str e66.Val, .bool e66.Dead, .int .i64 e66.Seq])), (1, .ref 0 0 0 0)], [(0, ⟨0, true, false, 1, [[.sl 144 g64 4 0 v63.length]]⟩), (104, ⟨0, true, true, 3, [[.bool v61, .str v62, .bool vr4.Bottom]]⟩), (144, ⟨g64, true, true, 4, List.map TApiEntry.enc v63⟩), (177, ⟨0, true, true, 4, [[.str e66.Key, .str e66.Val, .bool e66.Dead, .int .i64 e66.Seq]]⟩), (625, ⟨0, true, true, 3, [[.bool true, .str e66.Key, .bool vr4.Bottom]]⟩)], 689, []⟩) [] (Nat.le_of_ble_eq_true rfl) ⟨rF, rE, rfl, rfl, trivial, trivial⟩ ?_
         refine awp_sr2 753 [0, 1, 4] (fun _ => none) rfl (fun _ _ => rS (rA he66a (rA he66b he66c))) ?_
         refine awp_sr2 761 [0, 1, 10] (fun _ => none) rfl (fun _ _ => rS (rA he66a (rA he66b he66c))) ?_
         refine awp_condF rfl ?_
         refine awp_skip ?_
         refine leave_endK (fun _ _ => rS (rA he66a (rA he66b he66c))) ?_
         refine awpo_re (s2 := ⟨[(2, .fn 85 [] [.ref 0 0 0 0]), (8, .ref 104 0 0 0), (9, .int .i64 v60), (11, .iface 163 (.agg [.str e66.Key, .str e66.Val, .bool e66.Dead, .int .i64 e66.Seq])), (12, .ref 625 0 0 0), (13, .int .i64 0), (19, .psl 4 (List.map TApiEntry.enc l1)), (20, .int .i64 (l1.length : Int)), (21, .int .i64 v60), (34, .bool false), (37, .fn 85 [] [.ref 0 0 0 0]), (38, .iface 163 (.agg [.str e66.Key, .str e66.Val, .bool e66.Dead, .int .i64 e66.Seq])), (39, .tup [])], [(0, ⟨0, true, false, 1, [[.sl 144 g64 4 0 v63.length]]⟩), (104, ⟨0, true, true, 3, [[.bool v61, .str v62, .bool vr4.Bottom]]⟩), (144, ⟨g64, true, true, 4, List.map TApiEntry.enc v63⟩), (177, ⟨0, true, true, 4, [[.str e66.Key, .str e66.Val, .bool e66.Dead, .int .i64 e66.Seq]]⟩), (625, ⟨0, true, true, 3, [[.bool true, .str e66.Key, .bool vr4.Bottom]]⟩)], 761, []⟩) [] (Nat.le_of_ble_eq_true rfl) ⟨rF, rE, rfl, rfl, trivial, trivial⟩ ?_
         refine awpo_cut (l' := []) rfl ?_
         refine awpo_nil ?_
         refine kn_then ?_
         refine awp_re (s2 := ⟨[(2, .fn 85 [] [.ref 0 0 0 0]), (8, .ref 104 0 0 0), (12, .ref 625 0 0 0), (19, .psl 4 (List.map TApiEntry.enc l1)), (20, .int .i64 (l1.length : Int)), (21, .int .i64 v60)], [(0, ⟨0, true, false, 1, [[.sl 144 g64 4 0 v63.length]]⟩), (104, ⟨0, true, true, 3, [[.bool v61, .str v62, .bool vr4.Bottom]]⟩), (144, ⟨g64, true, true, 4, List.map TApiEntry.enc v63⟩), (177, ⟨0, true, true, 4, [[.str e66.Key, .str e66.Val, .bool e66.Dead, .int .i64 e66.Seq]]⟩), (625, ⟨0, true, true, 3, [[.bool true, .str e66.Key, .bool vr4.Bottom]]⟩)], 761, []⟩) [] (Nat.le_of_ble_eq_true rfl) ⟨rF, rE, rfl, rfl, trivial, trivial⟩ ?_
         refine awp_r2 777 [2, 8, 19, 20, 21] (fun _ => none) rfl (fun _ _ => rS (rA he66a (rA he66b he66c))) ?_
         refine kn_block ?_
         refine kn_then ?_
         refine awp_r2 793 [2, 8, 19, 20, 21] (fun _ => none) rfl (fun _ _ => rS (rA he66a (rA he66b he66c))) ?_
         refine kn_then ?_
         exact ⟨⟨(fu, (IntKind.i64.wrap (v60 + 1)), true, e66.Key, v63, g64), h1⟩, ⟨rF, rE, rfl, rfl, trivial, trivial⟩, Nat.lt_succ_self _⟩
        ·
         replace h1 := iteF h1 hb76
         obtain ⟨b77, hb77, h1⟩ := bindS h1
         refine awp_sr3 (fr' := [(3, .ref 225 0 0 0), (5, .ref 241 0 0 0), (9, .ref 449 0 0 0), (50, .bool b77)]) (hp' := [(0, ⟨0, true, false, 1, [[.sl 144 g64 4 0 v63.length]]⟩), (104, ⟨0, true, true, 3, [[.bool v61, .str v62, .bool vr4.Bottom]]⟩), (144, ⟨g64, true, true, 4, List.map TApiEntry.enc v63⟩), (177, ⟨0, true, true, 4, [[.str e66.Key, .str e66.Val, .bool e66.Dead, .int .i64 e66.Seq]]⟩), (217, ⟨0, true, true, 3, [[.bool v61, .str v62, .bool vr4.Bottom]]⟩), (225, ⟨0, true, true, 4, [[.str e66.Key, .str e66.Val, .bool e66.Dead, .int .i64 e66.Seq]]⟩), (241, ⟨0, true, true, 3, [[.bool false, .str [], .bool false]]⟩), (449, ⟨0, true, true, 3, [[.bool true, .str e66.Key, .bool vr4.Bottom]]⟩)]) [0, 104, 144, 177, 217, 225, 241, 449] 601 [3, 5, 9, 50] (fun _ => none) rfl (fun Kt hK => by
           cases hg78 : vr4.Bottom with
           | false =>
            replace hb77 := iteF hb77 hg78
            have hqb77 := Option.some.inj hb77
            subst hqb77
            simp (maxSteps := 1000000) only [↓reduceIte, reduceCtorEq, Nat.reduceEqDiff, Nat.reduceLT, Nat.reduceLeDiff, Nat.reduceAdd, Nat.reduceMul, Int.reduceToNat, push_cast, he66a, he66b, he66c, ↓hg78]
            try simp only [↓hg78] at hK
            all_goals exact rU
           | true =>
            replace hb77 := iteT hb77 hg78
            have hqb77 := Option.some.inj hb77
            subst hqb77
            simp (maxSteps := 1000000) only [↓reduceIte, reduceCtorEq, Nat.reduceEqDiff, Nat.reduceLT, Nat.reduceLeDiff, Nat.reduceAdd, Nat.reduceMul, Int.reduceToNat, push_cast, he66a, he66b, he66c, ↓hg78]
            try simp only [↓hg78] at hK
            all_goals exact rU) ?_
         refine awp_if rfl (fun hb79 => ?_) (fun hb79 => ?_)
         ·
          replace h1 := iteT h1 hb79
          refine awp_sd2 649 [4, 5, 6] (fun _ => none) rfl rfl rfl (fun _ _ => rSd (rA he66a (rA he66b he66c))) ?_
          refine awp_ret ?_
          refine kr_block ?_
          refine kr_then ?_
          refine leave_retK (fun _ _ => rS (rA he66a (rA he66b he66c))) ?_
          refine awpo_re (s2 := ⟨[(2, .fn 85 [] [.ref 0 0 0 0]), (8, .ref 104 0 0 0), (9, .int .i64 v60), (10, .ref 177 0 0 0), (19, .psl 4 (List.map TApiEntry.enc l1)), (20, .int .i64 (l1.length : Int)), (21, .int .i64 v60), (27, .agg [.bool v61, .str v62, .bool vr4.Bottom]), (28, .agg [.str e66.Key, .str e66.Val, .bool e66.Dead, .int .i64 e66.Seq]), (29, .tup [.iface 164 (.agg [.str e66.Key, .str e66.Val, .bool e66.Dead, .int .i64 e66.Seq]), .agg [.bool true, .str e66.Key, .bool vr4.Bottom], .int .i64 0])], [(0, ⟨0, true, false, 1, [[.sl 144 g64 4 0 v63.length]]⟩), (104, ⟨0, true, true, 3, [[.bool v61, .str v62, .bool vr4.Bottom]]⟩), (144, ⟨g64, true, true, 4, List.map TApiEntry.enc v63⟩), (177, ⟨0, true, true, 4, [[.str e66.Key, .str e66.Val, .bool e66.Dead, .int .i64 e66.Seq]]⟩)], 649, []⟩) [] (Nat.le_of_ble_eq_true rfl) ⟨rF, rE, rfl, rfl, trivial, trivial⟩ ?_
          refine awpo_cut (l' := List.range' 3 8 ++ []) rfl ?_
          refine awpo_seg 3 8 713 [] (fun _ => none) rfl rfl rfl (fun _ _ => rS (rA he66a (rA he66b he66c))) ?_
          refine awpo_nil ?_
          refine kn_then ?_
          refine awp_re (s2 := ⟨[(2, .fn 85 [] [.ref 0 0 0 0]), (8, .ref 104 0 0 0), (9, .int .i64 v60), (11, .iface 164 (.agg [.str e66.Key, .str e66.Val, .bool e66.Dead, .int .i64 e66.Seq])), (12, .ref 681 0 0 0), (13, .int .i64 0), (19, .psl 4 (List.map TApiEntry.enc l1)), (20, .int .i64 (l1.length : Int)), (21, .int .i64 v60)], [(0, ⟨0, true, false, 1, [[.sl 144 g64 4 0 v63.length]]⟩), (104, ⟨0, true, true, 3, [[.bool v61, .str v62, .bool vr4.Bottom]]⟩), (144, ⟨g64, true, true, 4, List.map TApiEntry.enc v63⟩), (177, ⟨0, true, true, 4, [[.str e66.Key, .str e66.Val, .bool e66.Dead, .int .i64 e66.Seq]]⟩), (681, ⟨0, true, true, 3, [[.bool true, .str e66.Key, .bool vr4.Bottom]]⟩)], 713, []⟩) [] (Nat.le_of_ble_eq_true rfl) ⟨rF, rE, rfl, rfl, trivial, trivial⟩ ?_
          refine awp_seq ?_
          refine awp_sr2 729 [2, 8, 9, 11, 12, 13, 19, 20, 21, 34] (fun _ => none) rfl (fun _ _ => rS (rA he66a (rA he66b he66c))) ?_
          refine awp_condF rfl ?_
          refine awp_skip ?_
          refine kn_then ?_
          refine awp_sops2 3 rfl ?_
          refine awpo_cut (l' := List.range' 0 2 ++ (2 :: (List.range' 3 0 ++ []))) rfl ?_
          refine awpo_seg 0 2 745 (2 :: (List.range' 3 0 ++ [])) (fun _ => none) rfl rfl rfl (fun _ _ => rS (rA he66a (rA he66b he66c))) ?_
          refine awpo_in rfl rfl rfl rfl rfl Try.func85 rfl (by decide) rfl (Nat.le_of_ble_eq_true rfl) ?_
          dsimp only [Try.f85]
          refine awp_re (s2 := ⟨[(0, .iface 164 (.agg [.str e66.Key, .str e66.Val, .bool e66.Dead, .int .i64 e66.Seq])), (1, .ref 0 0 0 0)], [(0, ⟨0, true, false, 1, [[.sl 144 g64 4 0 v63.length]]⟩), (104, ⟨0, true, true, 3, [[.bool v61, .str v62, .bool vr4.Bottom]]⟩), (144, ⟨g64, true, true, 4, List.map TApiEntry.enc v63⟩), (177, ⟨0, true, true, 4, [[.str e66.Key, .str e66.Val, .bool e66.Dead, .int .i64 e66.Seq]]⟩), (681, ⟨0, true, true, 3, [[.bool true, .str e66.Key, .bool vr4.Bottom]]⟩)], 745, []⟩) [] (Nat.le_of_ble_eq_true rfl) ⟨rF, rE, rfl, rfl, trivial, trivial⟩ ?_
          refine awp_sr2 809 [0, 1, 4] (fun _ => none) rfl (fun _ _ => rS (rA he66a (rA he66b he66c))) ?_
          refine awp_sr2 817 [0, 1, 10] (fun _ => none) rfl (fun _ _ => rS (rA he66a (rA he66b he66c))) ?_
          refine awp_condF rfl ?_
          refine awp_skip ?_
          refine leave_endK (fun _ _ => rS (rA he66a (rA he66b he66c))) ?_
          refine awpo_re (s2 := ⟨[(2, .fn 85 [] [.ref 0 0 0 0]), (8, .ref 104 0 0 0), (9, .int .i64 v60), (11, .iface 164 (.agg [.str e66.Key, .str e66.Val, .bool e66.Dead, .int .i64 e66.Seq])), (12, .ref 681 0 0 0), (13, .int .i64 0), (19, .psl 4 (List.map TApiEntry.enc l1)), (20, .int .i64 (l1.length : Int)), (21, .int .i64 v60), (34, .bool false), (37, .fn 85 [] [.ref 0 0 0 0]), (38, .iface 164 (.agg [.str e66.Key, .str e66.Val, .bool e66.Dead, .int .i64 e66.Seq])), (39, .tup [])], [(0, ⟨0, true, false, 1, [[.sl 144 g64 4 0 v63.length]]⟩), (104, ⟨0, true, true, 3, [[.bool v61, .str v62, .bool vr4.Bottom]]⟩), (144, ⟨g64, true, true, 4, List.map TApiEntry.enc v63⟩), (177, ⟨0, true, true, 4, [[.str e66.Key, .str e66.Val, .bool e66.Dead, .int .i64 e66.Seq]]⟩), (681, ⟨0, true, true, 3, [[.bool true, .str e66.Key, .bool vr4.Bottom]]⟩)], 817, []⟩) [] (Nat.le_of_ble_eq_true rfl) ⟨rF, rE, rfl, rfl, trivial, trivial⟩ ?_
          refine awpo_cut (l' := []) rfl ?_
          refine awpo_nil ?_
          refine kn_then ?_
          refine awp_re (s2 := ⟨[(2, .fn 85 [] [.ref 0 0 0 0]), (8, .ref 104 0 0 0), (12, .ref 681 0 0 0), (19, .psl 4 (List.map TApiEntry.enc l1)), (20, .int .i64 (l1.length : Int)), (21, .int .i64 v60)], [(0, ⟨0, true, false, 1, [[.sl 144 g64 4 0 v63.length]]⟩), (104, ⟨0, true, true, 3, [[.bool v61, .str v62, .bool vr4.Bottom]]⟩), (144, ⟨g64, true, true, 4, List.map TApiEntry.enc v63⟩), (177, ⟨0, true, true, 4, [[.str e66.Key, .str e66.Val, .bool e66.Dead, .int .i64 e66.Seq]]⟩), (681, ⟨0, true, true, 3, [[.bool true, .str e66.Key, .bool vr4.Bottom]]⟩)], 817, []⟩) [] (Nat.le_of_ble_eq_true rfl) ⟨rF, rE, rfl, rfl, trivial, trivial⟩ ?_
          refine awp_r2 833 [2, 8, 19, 20, 21] (fun _ => none) rfl (fun _ _ => rS (rA he66a (rA he66b he66c))) ?_
          refine kn_block ?_
          refine kn_then ?_
          refine awp_r2 849 [2, 8, 19, 20, 21] (fun _ => none) rfl (fun _ _ => rS (rA he66a (rA he66b he66c))) ?_
          refine kn_then ?_
          exact ⟨⟨(fu, (IntKind.i64.wrap (v60 + 1)), true, e66.Key, v63, g64), h1⟩, ⟨rF, rE, rfl, rfl, trivial, trivial⟩, Nat.lt_succ_self _⟩
         ·
          replace h1 := iteF h1 hb79
          refine awp_skip ?_
          refine kn_block ?_
          refine kn_then ?_
          refine awp_sd2 649 [4, 5, 6] (fun _ => none) rfl rfl rfl (fun _ _ => rSd (rA he66a (rA he66b he66c))) ?_
          refine awp_ret ?_
          refine leave_retK (fun _ _ => rS (rA he66a (rA he66b he66c))) ?_
          refine awpo_re (s2 := ⟨[(2, .fn 85 [] [.ref 0 0 0 0]), (8, .ref 104 0 0 0), (9, .int .i64 v60), (10, .ref 177 0 0 0), (19, .psl 4 (List.map TApiEntry.enc l1)), (20, .int .i64 (l1.length : Int)), (21, .int .i64 v60), (27, .agg [.bool v61, .str v62, .bool vr4.Bottom]), (28, .agg [.str e66.Key, .str e66.Val, .bool e66.Dead, .int .i64 e66.Seq]), (29, .tup [.iface 143 (.agg [.str e66.Key, .str e66.Val, .bool e66.Dead, .int .i64 e66.Seq]), .agg [.bool true, .str e66.Key, .bool vr4.Bottom], .int .i64 0])], [(0, ⟨0, true, false, 1, [[.sl 144 g64 4 0 v63.length]]⟩), (104, ⟨0, true, true, 3, [[.bool v61, .str v62, .bool vr4.Bottom]]⟩), (144, ⟨g64, true, true, 4, List.map TApiEntry.enc v63⟩), (177, ⟨0, true, true, 4, [[.str e66.Key, .str e66.Val, .bool e66.Dead, .int .i64 e66.Seq]]⟩)], 649, []⟩) [] (Nat.le_of_ble_eq_true rfl) ⟨rF, rE, rfl, rfl, trivial, trivial⟩ ?_
          refine awpo_cut (l' := List.range' 3 8 ++ []) rfl ?_
          refine awpo_seg 3 8 713 [] (fun _ => none) rfl rfl rfl (fun _ _ => rS (rA he66a (rA he66b he66c))) ?_
          refine awpo_nil ?_
          refine kn_then ?_
          refine awp_re (s2 := ⟨[(2, .fn 85 [] [.ref 0 0 0 0]), (8, .ref 104 0 0 0), (9, .int .i64 v60), (11, .iface 143 (.agg [.str e66.Key, .str e66.Val, .bool e66.Dead, .int .i64 e66.Seq])), (12, .ref 681 0 0 0), (13, .int .i64 0), (19, .psl 4 (List.map TApiEntry.enc l1)), (20, .int .i64 (l1.length : Int)), (21, .int .i64 v60)], [(0, ⟨0, true, false, 1, [[.sl 144 g64 4 0 v63.length]]⟩), (104, ⟨0, true, true, 3, [[.bool v61, .str v62, .bool vr4.Bottom]]⟩), (144, ⟨g64, true, true, 4, List.map TApiEntry.enc v63⟩), (177, ⟨0, true, true, 4, [[.str e66.Key, .str e66.Val, .bool e66.Dead, .int .i64 e66.Seq]]⟩), (681, ⟨0, true, true, 3, [[.bool true, .str e66.Key, .bool vr4.Bottom]]⟩)], 713, []⟩) [] (Nat.le_of_ble_eq_true rfl) ⟨rF, rE, rfl, rfl, trivial, trivial⟩ ?_
          refine awp_seq ?_
          refine awp_sr2 729 [2, 8, 9, 11, 12, 13, 19, 20, 21, 34] (fun _ => none) rfl (fun _ _ => rS (rA he66a (rA he66b he66c))) ?_
          refine awp_condF rfl ?_
          refine awp_skip ?_
          refine kn_then ?_
          refine awp_sops2 3 rfl ?_
          refine awpo_cut (l' := List.range' 0 2 ++ (2 :: (List.range' 3 0 ++ []))) rfl ?_
          refine awpo_seg 0 2 745 (2 :: (List.range' 3 0 ++ [])) (fun _ => none) rfl rfl rfl (fun _ _ => rS (rA he66a (rA he66b he66c))) ?_
          refine awpo_in rfl rfl rfl rfl rfl Try.func85 rfl (by decide) rfl (Nat.le_of_ble_eq_true rfl) ?_
          dsimp only [Try.f85]
          refine awp_re (s2 := ⟨[(0, .iface 143 (.agg [.str e66.Key, .str e66.Val, .bool e66.Dead, .int .i64 e66.Seq])), (1, .ref 0 0 0 0)], [(0, ⟨0, true, false, 1, [[.sl 144 g64 4 0 v63.length]]⟩), (104, ⟨0, true, true, 3, [[.bool v61, .str v62, .bool vr4.Bottom]]⟩), (144, ⟨g64, true, true, 4, List.map TApiEntry.enc v63⟩), (177, ⟨0, true, true, 4, [[.str e66.Key, .str e66.Val, .bool e66.Dead, .int .i64 e66.Seq]]⟩), (681, ⟨0, true, true, 3, [[.bool true, .str e66.Key, .bool vr4.Bottom]]⟩)], 745, []⟩) [] (Nat.le_of_ble_eq_true rfl) ⟨rF, rE, rfl, rfl, trivial, trivial⟩ ?_
          refine awp_sr2 809 [0, 1, 4] (fun _ => none) rfl (fun _ _ => rS (rA he66a (rA he66b he66c))) ?_
          refine awp_sr2 817 [0, 1, 10] (fun _ => none) rfl (fun _ _ => rS (rA he66a (rA he66b he66c))) ?_
          refine awp_condT rfl ?_
          obtain ⟨vr80, hvr80, h1⟩ := bindS h1
          obtain ⟨hc81, h1⟩ := guS h1
          refine awp_d2 865 [] (fun | 2 => some (.agg (TApiEntry.enc vr80), []) | _ => none) rfl rfl rfl (fun _ _ => rBd (rA he66a (rA he66b he66c)) (c_shadow_kept_entry hvr80)) ?_
          refine leave_endK (fun _ _ => rS (rA he66a (rA he66b he66c))) ?_
          refine awpo_re (s2 := ⟨[(2, .fn 85 [] [.ref 0 0 0 0]), (8, .ref 104 0 0 0), (9, .int .i64 v60), (11, .iface 143 (.agg [.str e66.Key, .str e66.Val, .bool e66.Dead, .int .i64 e66.Seq])), (12, .ref 681 0 0 0), (13, .int .i64 0), (19, .psl 4 (List.map TApiEntry.enc l1)), (20, .int .i64 (l1.length : Int)), (21, .int .i64 v60), (34, .bool false), (37, .fn 85 [] [.ref 0 0 0 0]), (38, .iface 143 (.agg [.str e66.Key, .str e66.Val, .bool e66.Dead, .int .i64 e66.Seq])), (39, .tup [])], [(0, ⟨0, true, false, 1, [[.sl 144 (g64 + 1) 4 0 ((v63 ++ [vr80]).length)]]⟩), (104, ⟨0, true, true, 3, [[.bool v61, .str v62, .bool vr4.Bottom]]⟩), (144, ⟨(g64 + 1), true, true, 4, List.map TApiEntry.enc (v63 ++ [vr80])⟩), (177, ⟨0, true, true, 4, [[.str e66.Key, .str e66.Val, .bool e66.Dead, .int .i64 e66.Seq]]⟩), (681, ⟨0, true, true, 3, [[.bool true, .str e66.Key, .bool vr4.Bottom]]⟩)], 865, []⟩) [] (Nat.le_of_ble_eq_true rfl) ⟨rF, rE, rfl, rfl, trivial, trivial⟩ ?_
          refine awpo_cut (l' := []) rfl ?_
          refine awpo_nil ?_
          refine kn_then ?_
          refine awp_re (s2 := ⟨[(2, .fn 85 [] [.ref 0 0 0 0]), (8, .ref 104 0 0 0), (12, .ref 681 0 0 0), (19, .psl 4 (List.map TApiEntry.enc l1)), (20, .int .i64 (l1.length : Int)), (21, .int .i64 v60)], [(0, ⟨0, true, false, 1, [[.sl 144 (g64 + 1) 4 0 ((v63 ++ [vr80]).length)]]⟩), (104, ⟨0, true, true, 3, [[.bool v61, .str v62, .bool vr4.Bottom]]⟩), (144, ⟨(g64 + 1), true, true, 4, List.map TApiEntry.enc (v63 ++ [vr80])⟩), (177, ⟨0, true, true, 4, [[.str e66.Key, .str e66.Val, .bool e66.Dead, .int .i64 e66.Seq]]⟩), (681, ⟨0, true, true, 3, [[.bool true, .str e66.Key, .bool vr4.Bottom]]⟩)], 865, []⟩) [] (Nat.le_of_ble_eq_true rfl) ⟨rF, rE, rfl, rfl, trivial, trivial⟩ ?_
          refine awp_r2 881 [2, 8, 19, 20, 21] (fun _ => none) rfl (fun _ _ => rS (rA he66a (rA he66b he66c))) ?_
          refine kn_block ?_
          refine kn_then ?_
          refine awp_r2 897 [2, 8, 19, 20, 21] (fun _ => none) rfl (fun _ _ => rS (rA he66a (rA he66b he66c))) ?_
          refine kn_then ?_
          exact ⟨⟨(fu, (IntKind.i64.wrap (v60 + 1)), true, e66.Key, (v63 ++ [vr80]), (g64 + 1)), h1⟩, ⟨rF, rE, rfl, rfl, trivial, trivial⟩, Nat.lt_succ_self _⟩
    ·
     replace h1 := iteF h1 hb65
     refine awp_exit ?_
     refine kx_then ?_
     refine kx_then ?_
     refine kx_done ?_
     obtain rfl := Option.some.inj h1
     exact ⟨_, g64, rfl, Nat.le_of_ble_eq_true rfl, ⟨rF, rE, rfl, rfl, trivial, trivial⟩⟩
end Go.T
end
section
namespace Go.T
open Go Go.AM Go.Proofs
set_option maxRecDepth 100000
set_option maxHeartbeats 4000000
set_option linter.unusedVariables false
theorem c_slices_alike {fu : Nat} {a1 : List TApiEntry} {b2 : List TApiEntry} {r : Bool} (h0 : slices_alike fu a1 b2 = some r) : PCall Try.prog 62 [.psl 4 (a1.map TApiEntry.enc), .psl 4 (b2.map TApiEntry.enc)] (.bool r) [] := by
 refine awp_pcall Try.func62 rfl (by decide) (Nat.le_of_ble_eq_true rfl) ?_
 dsimp only [Try.f62]
 rw [slices_alike] at h0
 refine (show AWP _ _ _ _ ⟨enumFr 0 _, [], 0, []⟩ from ?_)
 refine awp_sr2 8 [0, 1] (fun _ => none) rfl (fun _ _ => rT) ?_
 refine awp_seq ?_
 refine awp_sr2 48 [0, 1, 11] (fun _ => none) rfl (fun _ _ => rT) ?_
 refine awp_if rfl (fun hb3 => ?_) (fun hb3 => ?_)
 ·
  replace h0 := iteT h0 hb3
  refine awp_sr2 56 [4] (fun _ => none) rfl (fun _ _ => rT) ?_
  refine awp_ret ?_
  refine kr_then ?_
  obtain rfl := Option.some.inj h0
  refine leave_retG [] ?_
  exact rG
 ·
  replace h0 := iteF h0 hb3
  refine awp_skip ?_
  refine kn_then ?_
  refine awp_seq ?_
  refine awp_sr2 72 [1, 12, 13, 14] (fun _ => none) rfl (fun _ _ => rT) ?_
  obtain ⟨x13, hxx13, h0⟩ := bindS h0
  refine awp_bloop (fun s' => ∃ o19 : Unit, x13 = .inl o19 ∧ s'.nx ≤ 80 ∧ LeN [] s' ⟨[], [], 80, []⟩) ?_ ?_
  ·
   intro s' hs
   obtain ⟨o19, rfl, hn, hs⟩ := hs
   refine kn_then ?_
   refine awp_re [] hn hs ?_
   refine awp_sr2 88 [4] (fun _ => none) rfl (fun _ _ => rT) ?_
   refine awp_ret ?_
   obtain rfl := Option.some.inj h0
   refine leave_retG [] ?_
   exact rG
  ·
   refine awp_loopF (ι := { p : Nat × Int // slices_alike_l1 a1 b2 p.1 p.2 = some x13 }) (fun p => ⟨[(1, .psl 4 (List.map TApiEntry.enc b2)), (12, .psl 4 (List.map TApiEntry.enc a1)), (13, .int .i64 (a1.length : Int)), (14, .int .i64 p.1.2)], [], 72, []⟩) (fun p => p.1.1) ⟨(fu, 0), hxx13⟩ ⟨rF, rE, rfl, rfl, trivial, trivial⟩ (fun _ => Nat.le_refl _) ?_
   rintro ⟨⟨fu, v14⟩, h1⟩
   cases fu with
   | zero =>
   replace h1 : slices_alike_l1 a1 b2 0 v14 = some x13 := h1
   rw [slices_alike_l1] at h1; cases h1
   | succ fu =>
    replace h1 : slices_alike_l1 a1 b2 (fu + 1) v14 = some x13 := h1
    rw [slices_alike_l1] at h1
    refine (show AWP _ _ _ _ ⟨[(1, .psl 4 (List.map TApiEntry.enc b2)), (12, .psl 4 (List.map TApiEntry.enc a1)), (13, .int .i64 (a1.length : Int)), (14, .int .i64 v14)], [], 72, []⟩ from ?_)
    refine awp_sr2 80 [1, 12, 13, 14, 15] (fun _ => none) rfl (fun _ _ => rT) ?_
    refine awp_seq ?_
    refine awp_if rfl (fun hb15 => ?_) (fun hb15 => ?_)
    ·
     replace h1 := iteT h1 hb15
     refine awp_skip ?_
     refine kn_then ?_
     refine awp_seq ?_
     refine awp_block ?_
     obtain ⟨e16, he16, h1⟩ := bindS h1
     obtain ⟨he16a, he16b, he16c⟩ := idxS he16
     refine awp_sr2 128 [1, 5, 6, 12, 13, 14] (fun _ => none) rfl (fun _ _ => rS (rA he16a (rA he16b he16c))) ?_
     obtain ⟨e17, he17, h1⟩ := bindS h1
     obtain ⟨he17a, he17b, he17c⟩ := idxS he17
     refine awp_sd2 176 [1, 12, 13, 14, 24] (fun _ => none) rfl rfl rfl (fun _ _ => rSd (rA he16a (rA he16b (rA he16c (rA he17a (rA he17b he17c)))))) ?_
     refine awp_if rfl (fun hb18 => ?_) (fun hb18 => ?_)
     ·
      replace h1 := iteT h1 hb18
      refine awp_sr2 184 [4] (fun _ => none) rfl (fun _ _ => rS (rA he16a (rA he16b (rA he16c (rA he17a (rA he17b he17c)))))) ?_
      refine awp_ret ?_
      obtain rfl := Option.some.inj h1
      refine kr_block ?_
      refine kr_then ?_
      refine kr_then ?_
      refine kr_loop ?_
      refine kr_then ?_
      obtain rfl := Option.some.inj h0
      refine leave_retG [] ?_
      simp (maxSteps := 1000000) only [↓reduceIte, reduceCtorEq, Nat.reduceEqDiff, Nat.reduceLT, Nat.reduceLeDiff, Nat.reduceAdd, Nat.reduceMul, Int.reduceToNat, push_cast, Gives, he16a, he16b, he16c, he17a, he17b, he17c]
      all_goals exact rH
     ·
      replace h1 := iteF h1 hb18
      refine awp_skip ?_
      refine kn_block ?_
      refine kn_then ?_
      refine awp_r2 192 [1, 12, 13, 14] (fun _ => none) rfl (fun _ _ => rS (rA he16a (rA he16b (rA he16c (rA he17a (rA he17b he17c)))))) ?_
      refine kn_then ?_
      exact ⟨⟨(fu, (IntKind.i64.wrap (v14 + 1))), h1⟩, ⟨rF, rE, rfl, rfl, trivial, trivial⟩, Nat.lt_succ_self _⟩
    ·
     replace h1 := iteF h1 hb15
     refine awp_exit ?_
     refine kx_then ?_
     refine kx_then ?_
     refine kx_done ?_
     obtain rfl := Option.some.inj h1
     exact ⟨_, rfl, Nat.le_of_ble_eq_true rfl, ⟨rF, rE, rfl, rfl, trivial, trivial⟩⟩
end Go.T
end
section
namespace Go.T
open Go Go.AM Go.Proofs
set_option maxRecDepth 100000
set_option maxHeartbeats 4000000
set_option linter.unusedVariables false
theorem c_slices_Check {fu : Nat} {vs1 : TApiSlState} {r : Int} (h0 : slices_Check fu vs1 = some r) : PCall Try.prog 43 [.agg (TApiSlState.enc vs1)] (.int .i64 r) [] := by
 refine awp_pcall Try.func43 rfl (by decide) (Nat.le_of_ble_eq_true rfl) ?_
 dsimp only [Try.f43]
 rw [slices_Check] at h0
 refine (show AWP _ _ _ _ ⟨enumFr 0 _, [], 0, []⟩ from ?_)
 refine awp_sr2 16 [1] (fun _ => none) rfl (fun _ _ => rT) ?_
 refine awp_seq ?_
 obtain ⟨vr2, hvr2, h0⟩ := bindS h0
 refine awp_sr2 80 [1, 4] (fun | 2 => some (.tup [.int .i64 vr2.1, .int .i64 vr2.2], []) | _ => none) rfl (fun _ _ => rC (c_merge_Check hvr2)) ?_
 refine awp_sr2 96 [1, 4, 21] (fun _ => none) rfl (fun _ _ => rT) ?_
 refine awp_if rfl (fun hb3 => ?_) (fun hb3 => ?_)
 ·
  replace h0 := iteT h0 hb3
  refine awp_sr2 112 [2] (fun _ => none) rfl (fun _ _ => rT) ?_
  refine awp_ret ?_
  refine kr_then ?_
  obtain rfl := Option.some.inj h0
  refine leave_retG [] ?_
  exact rG
 ·
  replace h0 := iteF h0 hb3
  refine awp_skip ?_
  refine kn_then ?_
  refine awp_sr2 104 [1, 5] (fun _ => none) rfl (fun _ _ => rT) ?_
  refine awp_seq ?_
  refine awp_sr2 144 [1, 5, 25, 26, 27] (fun _ => none) rfl (fun _ _ => rT) ?_
  obtain ⟨x10, hxx10, h0⟩ := bindS h0
  refine awp_bloop (fun s' => s'.nx ≤ 152 ∧ LeN [] s' ⟨[(1, .ref 0 0 0 0), (5, .int .i64 x10)], [(0, ⟨0, true, true, 10, [[.psl 1 (List.map (encSl 4 TApiEntry.enc) vs1.Merge.Runs), .psl 1 (List.map (encInt .i64) vs1.Merge.At), .psl 2 (List.map TApiLsKey.enc vs1.Merge.Tree.Keys), .psl 1 (List.map (encInt .i64) vs1.Merge.Tree.Lose), .int .i64 vs1.Merge.Tree.Win, .bool vs1.Shadow.Some, .str vs1.Shadow.Last, .bool vs1.Shadow.Bottom, .psl 4 (List.map TApiEntry.enc vs1.Out), .int .i64 vs1.Steps]]⟩)], 152, []⟩) ?_ ?_
  ·
   intro s' hs
   obtain ⟨hn, hs⟩ := hs
   refine kn_then ?_
   refine awp_re [] hn hs ?_
   refine awp_seq ?_
   refine awp_block ?_
   obtain ⟨b15, hb15, h0⟩ := bindS h0
   refine awp_sr3 (fr' := [(1, .ref 0 0 0 0), (5, .int .i64 x10), (35, .bool b15)]) (hp' := [(0, ⟨0, true, true, 10, [[.psl 1 (List.map (encSl 4 TApiEntry.enc) vs1.Merge.Runs), .psl 1 (List.map (encInt .i64) vs1.Merge.At), .psl 2 (List.map TApiLsKey.enc vs1.Merge.Tree.Keys), .psl 1 (List.map (encInt .i64) vs1.Merge.Tree.Lose), .int .i64 vs1.Merge.Tree.Win, .bool vs1.Shadow.Some, .str vs1.Shadow.Last, .bool vs1.Shadow.Bottom, .psl 4 (List.map TApiEntry.enc vs1.Out), .int .i64 vs1.Steps]]⟩)]) [0] 224 [1, 5, 35] (fun _ => none) rfl (fun Kt hK => by
     cases hg16 : (decide (20000 < (vs1.Out.length : Int))) with
     | false =>
      replace hb15 := iteF hb15 hg16
      have hqb15 := Option.some.inj hb15
      subst hqb15
      simp (maxSteps := 1000000) only [↓reduceIte, reduceCtorEq, Nat.reduceEqDiff, Nat.reduceLT, Nat.reduceLeDiff, Nat.reduceAdd, Nat.reduceMul, Int.reduceToNat, push_cast, ↓hg16]
      try simp only [↓hg16] at hK
      all_goals exact rU
     | true =>
      replace hb15 := iteT hb15 hg16
      have hqb15 := Option.some.inj hb15
      subst hqb15
      simp (maxSteps := 1000000) only [↓reduceIte, reduceCtorEq, Nat.reduceEqDiff, Nat.reduceLT, Nat.reduceLeDiff, Nat.reduceAdd, Nat.reduceMul, Int.reduceToNat, push_cast, ↓hg16]
      try simp only [↓hg16] at hK
      all_goals exact rU) ?_
   refine awp_if rfl (fun hb17 => ?_) (fun hb17 => ?_)
   ·
    replace h0 := iteT h0 hb17
    refine awp_sr2 232 [2] (fun _ => none) rfl (fun _ _ => rT) ?_
    refine awp_ret ?_
    refine kr_block ?_
    refine kr_then ?_
    obtain rfl := Option.some.inj h0
    refine leave_retG [] ?_
    exact rG
   ·
    replace h0 := iteF h0 hb17
    refine awp_sr2 264 [1, 5, 44] (fun _ => none) rfl (fun _ _ => rT) ?_
    refine awp_if rfl (fun hb18 => ?_) (fun hb18 => ?_)
    ·
     replace h0 := iteT h0 hb18
     refine awp_sr2 272 [2] (fun _ => none) rfl (fun _ _ => rT) ?_
     refine awp_ret ?_
     refine kr_block ?_
     refine kr_then ?_
     obtain rfl := Option.some.inj h0
     refine leave_retG [] ?_
     exact rG
    ·
     replace h0 := iteF h0 hb18
     refine awp_skip ?_
     refine kn_block ?_
     refine kn_then ?_
     obtain ⟨vr19, hvr19, h0⟩ := bindS h0
     refine awp_sr2 352 [1, 5, 8, 10] (fun | 3 => some (.tup [.psl 4 (vr19.1.map TApiEntry.enc), .psl 1 (vr19.2.1.map (encInt .i64)), .int .i64 vr19.2.2], []) | _ => none) rfl (fun _ _ => rC (c_merge_All hvr19)) ?_
     refine awp_seq ?_
     refine awp_sr2 368 [1, 5, 8, 10, 58] (fun _ => none) rfl (fun _ _ => rT) ?_
     refine awp_if rfl (fun hb20 => ?_) (fun hb20 => ?_)
     ·
      replace h0 := iteT h0 hb20
      refine awp_sr2 384 [2] (fun _ => none) rfl (fun _ _ => rT) ?_
      refine awp_ret ?_
      refine kr_then ?_
      obtain rfl := Option.some.inj h0
      refine leave_retG [] ?_
      exact rG
     ·
      replace h0 := iteF h0 hb20
      refine awp_skip ?_
      refine kn_then ?_
      obtain ⟨hc21, h0⟩ := guS h0
      obtain ⟨vr22, hvr22, h0⟩ := bindS h0
      refine awp_sd2 480 [1, 5, 8, 10, 11] (fun | 6 => some (.tup [.psl 4 (vr22.1.map TApiEntry.enc), .int .i64 vr22.2.1, .int .i64 vr22.2.2], []) | _ => none) rfl rfl rfl (fun _ _ => rCd (c_shadow_Filter hvr22)) ?_
      refine awp_seq ?_
      refine awp_sr2 496 [1, 5, 8, 10, 11, 72] (fun _ => none) rfl (fun _ _ => rT) ?_
      refine awp_if rfl (fun hb23 => ?_) (fun hb23 => ?_)
      ·
       replace h0 := iteT h0 hb23
       refine awp_sr2 512 [2] (fun _ => none) rfl (fun _ _ => rT) ?_
       refine awp_ret ?_
       refine kr_then ?_
       obtain rfl := Option.some.inj h0
       refine leave_retG [] ?_
       exact rG
      ·
       replace h0 := iteF h0 hb23
       refine awp_skip ?_
       refine kn_then ?_
       obtain ⟨vr24, hvr24, h0⟩ := bindS h0
       refine awp_sr2 544 [1, 5, 8, 11, 13] (fun | 3 => some (.agg (TApiShState.enc vr24), []) | _ => none) rfl (fun _ _ => rC (c_shadow_Begin hvr24)) ?_
       refine awp_seq ?_
       refine awp_sr2 560 [1, 5, 8, 11, 13, 79] (fun _ => none) rfl (fun _ _ => rT) ?_
       refine awp_if rfl (fun hb25 => ?_) (fun hb25 => ?_)
       ·
        replace h0 := iteT h0 hb25
        obtain ⟨e26, he26, h0⟩ := bindS h0
        obtain ⟨he26a, he26b, he26c⟩ := idxS he26
        refine awp_d2 640 [1, 11, 13] (fun _ => none) rfl rfl rfl (fun _ _ => rSd (rA he26a (rA he26b he26c))) ?_
        refine kn_then ?_
        refine awp_seq ?_
        obtain ⟨vr27, hvr27, h0⟩ := bindS h0
        obtain ⟨b28, hb28, h0⟩ := bindS h0
        refine awp_sr3 (fr' := [(98, .bool b28)]) (hp' := [(0, ⟨0, true, true, 10, [[.psl 1 (List.map (encSl 4 TApiEntry.enc) vs1.Merge.Runs), .psl 1 (List.map (encInt .i64) vs1.Merge.At), .psl 2 (List.map TApiLsKey.enc vs1.Merge.Tree.Keys), .psl 1 (List.map (encInt .i64) vs1.Merge.Tree.Lose), .int .i64 vs1.Merge.Tree.Win, .bool vs1.Shadow.Some, .str vs1.Shadow.Last, .bool vs1.Shadow.Bottom, .psl 4 (List.map TApiEntry.enc vs1.Out), .int .i64 vs1.Steps]]⟩), (528, ⟨0, true, true, 3, [[.bool true, .str e26.Key, .bool vr24.Bottom]]⟩)]) [0, 528] 728 [98] (fun | 3 => some (.bool vr27, []) | _ => none) rfl (fun Kt hK => by
          cases hg29 : (!vr27) with
          | false =>
           replace hb28 := iteF hb28 hg29
           have hqb28 := Option.some.inj hb28
           subst hqb28
           simp (maxSteps := 1000000) only [↓reduceIte, reduceCtorEq, Nat.reduceEqDiff, Nat.reduceLT, Nat.reduceLeDiff, Nat.reduceAdd, Nat.reduceMul, Int.reduceToNat, push_cast, he26a, he26b, he26c, ↓hg29]
           try simp only [↓hg29] at hK
           try have q0 := c_slices_alike hvr27
           all_goals exact rU
          | true =>
           replace hb28 := iteT hb28 hg29
           have hqb28 := Option.some.inj hb28
           subst hqb28
           simp (maxSteps := 1000000) only [↓reduceIte, reduceCtorEq, Nat.reduceEqDiff, Nat.reduceLT, Nat.reduceLeDiff, Nat.reduceAdd, Nat.reduceMul, Int.reduceToNat, push_cast, he26a, he26b, he26c, ↓hg29]
           try simp only [↓hg29] at hK
           try have q0 := c_slices_alike hvr27
           all_goals exact rU) ?_
        refine awp_if rfl (fun hb30 => ?_) (fun hb30 => ?_)
        ·
         replace h0 := iteT h0 hb30
         refine awp_sr2 736 [2] (fun _ => none) rfl (fun _ _ => rS (rA he26a (rA he26b he26c))) ?_
         refine awp_ret ?_
         refine kr_then ?_
         obtain rfl := Option.some.inj h0
         refine leave_retG [] ?_
         simp (maxSteps := 1000000) only [↓reduceIte, reduceCtorEq, Nat.reduceEqDiff, Nat.reduceLT, Nat.reduceLeDiff, Nat.reduceAdd, Nat.reduceMul, Int.reduceToNat, push_cast, Gives, he26a, he26b, he26c]
         all_goals exact rH
        ·
         replace h0 := iteF h0 hb30
         refine awp_skip ?_
         refine kn_then ?_
         refine awp_sr2 736 [2] (fun _ => none) rfl (fun _ _ => rS (rA he26a (rA he26b he26c))) ?_
         refine awp_ret ?_
         obtain rfl := Option.some.inj h0
         refine leave_retG [] ?_
         simp (maxSteps := 1000000) only [↓reduceIte, reduceCtorEq, Nat.reduceEqDiff, Nat.reduceLT, Nat.reduceLeDiff, Nat.reduceAdd, Nat.reduceMul, Int.reduceToNat, push_cast, Gives, he26a, he26b, he26c]
         all_goals exact rH
       ·
        replace h0 := iteF h0 hb25
        refine awp_skip ?_
        refine kn_then ?_
        refine awp_seq ?_
        obtain ⟨vr31, hvr31, h0⟩ := bindS h0
        obtain ⟨b32, hb32, h0⟩ := bindS h0
        refine awp_sr3 (fr' := [(98, .bool b32)]) (hp' := [(0, ⟨0, true, true, 10, [[.psl 1 (List.map (encSl 4 TApiEntry.enc) vs1.Merge.Runs), .psl 1 (List.map (encInt .i64) vs1.Merge.At), .psl 2 (List.map TApiLsKey.enc vs1.Merge.Tree.Keys), .psl 1 (List.map (encInt .i64) vs1.Merge.Tree.Lose), .int .i64 vs1.Merge.Tree.Win, .bool vs1.Shadow.Some, .str vs1.Shadow.Last, .bool vs1.Shadow.Bottom, .psl 4 (List.map TApiEntry.enc vs1.Out), .int .i64 vs1.Steps]]⟩), (528, ⟨0, true, true, 3, [[.bool vr24.Some, .str vr24.Last, .bool vr24.Bottom]]⟩)]) [0, 528] 648 [98] (fun | 3 => some (.bool vr31, []) | _ => none) rfl (fun Kt hK => by
          cases hg33 : (!vr31) with
          | false =>
           replace hb32 := iteF hb32 hg33
           have hqb32 := Option.some.inj hb32
           subst hqb32
           simp (maxSteps := 1000000) only [↓reduceIte, reduceCtorEq, Nat.reduceEqDiff, Nat.reduceLT, Nat.reduceLeDiff, Nat.reduceAdd, Nat.reduceMul, Int.reduceToNat, push_cast, ↓hg33]
           try simp only [↓hg33] at hK
           try have q0 := c_slices_alike hvr31
           all_goals exact rU
          | true =>
           replace hb32 := iteT hb32 hg33
           have hqb32 := Option.some.inj hb32
           subst hqb32
           simp (maxSteps := 1000000) only [↓reduceIte, reduceCtorEq, Nat.reduceEqDiff, Nat.reduceLT, Nat.reduceLeDiff, Nat.reduceAdd, Nat.reduceMul, Int.reduceToNat, push_cast, ↓hg33]
           try simp only [↓hg33] at hK
           try have q0 := c_slices_alike hvr31
           all_goals exact rU) ?_
        refine awp_if rfl (fun hb34 => ?_) (fun hb34 => ?_)
        ·
         replace h0 := iteT h0 hb34
         refine awp_sr2 656 [2] (fun _ => none) rfl (fun _ _ => rT) ?_
         refine awp_ret ?_
         refine kr_then ?_
         obtain rfl := Option.some.inj h0
         refine leave_retG [] ?_
         exact rG
        ·
         replace h0 := iteF h0 hb34
         refine awp_skip ?_
         refine kn_then ?_
         refine awp_sr2 656 [2] (fun _ => none) rfl (fun _ _ => rT) ?_
         refine awp_ret ?_
         obtain rfl := Option.some.inj h0
         refine leave_retG [] ?_
         exact rG
  ·
   refine awp_loopF (ι := { p : Nat × Int × Int // slices_Check_l1 vs1 p.1 p.2.1 p.2.2 = some x10 }) (fun p => ⟨[(1, .ref 0 0 0 0), (5, .int .i64 p.1.2.1), (25, .psl 1 (List.map (encInt .i64) vs1.Merge.At)), (26, .int .i64 (vs1.Merge.At.length : Int)), (27, .int .i64 p.1.2.2)], [(0, ⟨0, true, true, 10, [[.psl 1 (List.map (encSl 4 TApiEntry.enc) vs1.Merge.Runs), .psl 1 (List.map (encInt .i64) vs1.Merge.At), .psl 2 (List.map TApiLsKey.enc vs1.Merge.Tree.Keys), .psl 1 (List.map (encInt .i64) vs1.Merge.Tree.Lose), .int .i64 vs1.Merge.Tree.Win, .bool vs1.Shadow.Some, .str vs1.Shadow.Last, .bool vs1.Shadow.Bottom, .psl 4 (List.map TApiEntry.enc vs1.Out), .int .i64 vs1.Steps]]⟩)], 144, []⟩) (fun p => p.1.1) ⟨(fu, 0, 0), hxx10⟩ ⟨rF, rE, rfl, rfl, trivial, trivial⟩ (fun _ => Nat.le_refl _) ?_
   rintro ⟨⟨fu, n11, v12⟩, h1⟩
   cases fu with
   | zero =>
   replace h1 : slices_Check_l1 vs1 0 n11 v12 = some x10 := h1
   rw [slices_Check_l1] at h1; cases h1
   | succ fu =>
    replace h1 : slices_Check_l1 vs1 (fu + 1) n11 v12 = some x10 := h1
    rw [slices_Check_l1] at h1
    refine (show AWP _ _ _ _ ⟨[(1, .ref 0 0 0 0), (5, .int .i64 n11), (25, .psl 1 (List.map (encInt .i64) vs1.Merge.At)), (26, .int .i64 (vs1.Merge.At.length : Int)), (27, .int .i64 v12)], [(0, ⟨0, true, true, 10, [[.psl 1 (List.map (encSl 4 TApiEntry.enc) vs1.Merge.Runs), .psl 1 (List.map (encInt .i64) vs1.Merge.At), .psl 2 (List.map TApiLsKey.enc vs1.Merge.Tree.Keys), .psl 1 (List.map (encInt .i64) vs1.Merge.Tree.Lose), .int .i64 vs1.Merge.Tree.Win, .bool vs1.Shadow.Some, .str vs1.Shadow.Last, .bool vs1.Shadow.Bottom, .psl 4 (List.map TApiEntry.enc vs1.Out), .int .i64 vs1.Steps]]⟩)], 144, []⟩ from ?_)
    refine awp_sr2 152 [1, 5, 25, 26, 27, 28] (fun _ => none) rfl (fun _ _ => rT) ?_
    refine awp_seq ?_
    refine awp_if rfl (fun hb13 => ?_) (fun hb13 => ?_)
    ·
     replace h1 := iteT h1 hb13
     refine awp_skip ?_
     refine kn_then ?_
     refine awp_seq ?_
     refine awp_block ?_
     obtain ⟨e14, he14, h1⟩ := bindS h1
     obtain ⟨he14a, he14b, he14c⟩ := idxS he14
     refine awp_sr2 176 [1, 5, 7, 25, 26, 27] (fun _ => none) rfl (fun _ _ => rS (rA he14a (rA he14b he14c))) ?_
     refine awp_r2 208 [1, 5, 25, 26, 27] (fun _ => none) rfl (fun _ _ => rS (rA he14a (rA he14b he14c))) ?_
     refine kn_block ?_
     refine kn_then ?_
     refine awp_r2 224 [1, 5, 25, 26, 27] (fun _ => none) rfl (fun _ _ => rS (rA he14a (rA he14b he14c))) ?_
     refine kn_then ?_
     exact ⟨⟨(fu, (IntKind.i64.wrap (n11 + e14)), (IntKind.i64.wrap (v12 + 1))), h1⟩, ⟨rF, rE, rfl, rfl, trivial, trivial⟩, Nat.lt_succ_self _⟩
    ·
     replace h1 := iteF h1 hb13
     refine awp_exit ?_
     refine kx_then ?_
     refine kx_then ?_
     refine kx_done ?_
     obtain rfl := Option.some.inj h1
     exact ⟨Nat.le_of_ble_eq_true rfl, ⟨rF, rE, rfl, rfl, trivial, trivial⟩⟩
end Go.T
end
section
namespace Go.T
open Go Go.AM Go.Proofs
set_option maxRecDepth 100000
set_option maxHeartbeats 4000000
set_option linter.unusedVariables false
theorem c_merge_Left {fu : Nat} {vs1 : TApiMgState} {r : Int × Int} (h0 : merge_Left fu vs1 = some r) : PCall Try.prog 44 [.agg (TApiMgState.enc vs1)] (.tup [.int .i64 r.1, .int .i64 r.2]) [] := by
 refine awp_pcall Try.func44 rfl (by decide) (Nat.le_of_ble_eq_true rfl) ?_
 dsimp only [Try.f44]
 rw [merge_Left] at h0
 refine (show AWP _ _ _ _ ⟨enumFr 0 _, [], 0, []⟩ from ?_)
 refine awp_sr2 24 [1] (fun _ => none) rfl (fun _ _ => rT) ?_
 refine awp_seq ?_
 obtain ⟨vr2, hvr2, h0⟩ := bindS h0
 refine awp_sr2 80 [1, 5] (fun | 1 => some (.tup [.int .i64 vr2.1, .int .i64 vr2.2], []) | _ => none) rfl (fun _ _ => rC (c_merge_Check hvr2)) ?_
 refine awp_sr2 96 [1, 5, 15] (fun _ => none) rfl (fun _ _ => rT) ?_
 refine awp_if rfl (fun hb3 => ?_) (fun hb3 => ?_)
 ·
  replace h0 := iteT h0 hb3
  refine awp_sr2 120 [2, 3] (fun _ => none) rfl (fun _ _ => rT) ?_
  refine awp_ret ?_
  refine kr_then ?_
  obtain rfl := Option.some.inj h0
  refine leave_retG [] ?_
  exact rG
 ·
  replace h0 := iteF h0 hb3
  refine awp_skip ?_
  refine kn_then ?_
  refine awp_sr2 104 [1, 6] (fun _ => none) rfl (fun _ _ => rT) ?_
  refine awp_seq ?_
  refine awp_sr2 136 [1, 6, 18, 19, 20] (fun _ => none) rfl (fun _ _ => rT) ?_
  obtain ⟨x12, hxx12, h0⟩ := bindS h0
  refine awp_bloop (fun s' => s'.nx ≤ 144 ∧ LeN [] s' ⟨[(6, .int .i64 x12)], [(0, ⟨0, true, true, 5, [[.psl 1 (List.map (encSl 4 TApiEntry.enc) vs1.Runs), .psl 1 (List.map (encInt .i64) vs1.At), .psl 2 (List.map TApiLsKey.enc vs1.Tree.Keys), .psl 1 (List.map (encInt .i64) vs1.Tree.Lose), .int .i64 vs1.Tree.Win]]⟩)], 144, []⟩) ?_ ?_
  ·
   intro s' hs
   obtain ⟨hn, hs⟩ := hs
   refine kn_then ?_
   refine awp_re [] hn hs ?_
   refine awp_sr2 168 [2, 3] (fun _ => none) rfl (fun _ _ => rT) ?_
   refine awp_ret ?_
   obtain rfl := Option.some.inj h0
   refine leave_retG [] ?_
   exact rG
  ·
   refine awp_loopF (ι := { p : Nat × Int × Int // merge_Left_l1 vs1 p.1 p.2.1 p.2.2 = some x12 }) (fun p => ⟨[(1, .ref 0 0 0 0), (6, .int .i64 p.1.2.1), (18, .psl 1 (List.map (encSl 4 TApiEntry.enc) vs1.Runs)), (19, .int .i64 (vs1.Runs.length : Int)), (20, .int .i64 p.1.2.2)], [(0, ⟨0, true, true, 5, [[.psl 1 (List.map (encSl 4 TApiEntry.enc) vs1.Runs), .psl 1 (List.map (encInt .i64) vs1.At), .psl 2 (List.map TApiLsKey.enc vs1.Tree.Keys), .psl 1 (List.map (encInt .i64) vs1.Tree.Lose), .int .i64 vs1.Tree.Win]]⟩)], 136, []⟩) (fun p => p.1.1) ⟨(fu, 0, 0), hxx12⟩ ⟨rF, rE, rfl, rfl, trivial, trivial⟩ (fun _ => Nat.le_refl _) ?_
   rintro ⟨⟨fu, n13, v14⟩, h1⟩
   cases fu with
   | zero =>
   replace h1 : merge_Left_l1 vs1 0 n13 v14 = some x12 := h1
   rw [merge_Left_l1] at h1; cases h1
   | succ fu =>
    replace h1 : merge_Left_l1 vs1 (fu + 1) n13 v14 = some x12 := h1
    rw [merge_Left_l1] at h1
    refine (show AWP _ _ _ _ ⟨[(1, .ref 0 0 0 0), (6, .int .i64 n13), (18, .psl 1 (List.map (encSl 4 TApiEntry.enc) vs1.Runs)), (19, .int .i64 (vs1.Runs.length : Int)), (20, .int .i64 v14)], [(0, ⟨0, true, true, 5, [[.psl 1 (List.map (encSl 4 TApiEntry.enc) vs1.Runs), .psl 1 (List.map (encInt .i64) vs1.At), .psl 2 (List.map TApiLsKey.enc vs1.Tree.Keys), .psl 1 (List.map (encInt .i64) vs1.Tree.Lose), .int .i64 vs1.Tree.Win]]⟩)], 136, []⟩ from ?_)
    refine awp_sr2 144 [1, 6, 18, 19, 20, 21] (fun _ => none) rfl (fun _ _ => rT) ?_
    refine awp_seq ?_
    refine awp_if rfl (fun hb15 => ?_) (fun hb15 => ?_)
    ·
     replace h1 := iteT h1 hb15
     refine awp_skip ?_
     refine kn_then ?_
     refine awp_seq ?_
     refine awp_block ?_
     obtain ⟨e16, he16, h1⟩ := bindS h1
     obtain ⟨he16a, he16b, he16c⟩ := idxS he16
     refine awp_sr2 184 [1, 6, 7, 8, 18, 19, 20] (fun _ => none) rfl (fun _ _ => rS (rA he16a (rA he16b he16c))) ?_
     obtain ⟨e17, he17, h1⟩ := bindS h1
     obtain ⟨he17a, he17b, he17c⟩ := idxS he17
     refine awp_r2 272 [1, 6, 18, 19, 20] (fun _ => none) rfl (fun _ _ => rS (rA he16a (rA he16b (rA he16c (rA he17a (rA he17b he17c)))))) ?_
     refine kn_block ?_
     refine kn_then ?_
     refine awp_r2 288 [1, 6, 18, 19, 20] (fun _ => none) rfl (fun _ _ => rS (rA he16a (rA he16b (rA he16c (rA he17a (rA he17b he17c)))))) ?_
     refine kn_then ?_
     exact ⟨⟨(fu, (IntKind.i64.wrap (n13 + (IntKind.i64.wrap ((e16.length : Int) - e17)))), (IntKind.i64.wrap (v14 + 1))), h1⟩, ⟨rF, rE, rfl, rfl, trivial, trivial⟩, Nat.lt_succ_self _⟩
    ·
     replace h1 := iteF h1 hb15
     refine awp_exit ?_
     refine kx_then ?_
     refine kx_then ?_
     refine kx_done ?_
     obtain rfl := Option.some.inj h1
     exact ⟨Nat.le_of_ble_eq_true rfl, ⟨rF, rE, rfl, rfl, trivial, trivial⟩⟩
end Go.T
end
section
namespace Go.T
open Go Go.AM Go.Proofs
set_option maxRecDepth 100000
set_option maxHeartbeats 4000000
set_option linter.unusedVariables false
theorem c_slices_Left {fu : Nat} {vs1 : TApiSlState} {r : Int × Int} (h0 : slices_Left fu vs1 = some r) : PCall Try.prog 25 [.agg (TApiSlState.enc vs1)] (.tup [.int .i64 r.1, .int .i64 r.2]) [] := by
 refine awp_pcall Try.func25 rfl (by decide) (Nat.le_of_ble_eq_true rfl) ?_
 dsimp only [Try.f25]
 rw [slices_Left] at h0
 refine (show AWP _ _ _ _ ⟨enumFr 0 _, [], 0, []⟩ from ?_)
 refine awp_sr2 24 [1] (fun _ => none) rfl (fun _ _ => rT) ?_
 refine awp_seq ?_
 obtain ⟨vr2, hvr2, h0⟩ := bindS h0
 refine awp_sr2 48 [1, 4] (fun | 1 => some (.int .i64 vr2, []) | _ => none) rfl (fun _ _ => rC (c_slices_Check hvr2)) ?_
 refine awp_sr2 64 [1, 4, 8] (fun _ => none) rfl (fun _ _ => rT) ?_
 refine awp_if rfl (fun hb3 => ?_) (fun hb3 => ?_)
 ·
  replace h0 := iteT h0 hb3
  refine awp_sr2 88 [2, 3] (fun _ => none) rfl (fun _ _ => rT) ?_
  refine awp_ret ?_
  refine kr_then ?_
  obtain rfl := Option.some.inj h0
  refine leave_retG [] ?_
  exact rG
 ·
  replace h0 := iteF h0 hb3
  refine awp_skip ?_
  refine kn_then ?_
  obtain ⟨vr4, hvr4, h0⟩ := bindS h0
  refine awp_sr2 120 [2, 3] (fun | 2 => some (.tup [.int .i64 vr4.1, .int .i64 vr4.2], []) | _ => none) rfl (fun _ _ => rC (c_merge_Left hvr4)) ?_
  refine awp_ret ?_
  obtain rfl := Option.some.inj h0
  refine leave_retG [] ?_
  exact rG
end Go.T
end
section
namespace Go.T
open Go Go.AM Go.Proofs
set_option maxRecDepth 100000
set_option maxHeartbeats 4000000
set_option linter.unusedVariables false
theorem c_slices_Collect_int {fu : Nat} {seq1 : Int} {seq2 : List TApiLvLevel} {r : List Int} (h0 : slices_Collect_int fu seq1 seq2 = some r) : PCall Try.prog 48 [.fn 41 [] [.pp [.int .i64 seq1, .psl 1 (seq2.map TApiLvLevel.enc)]]] (.psl 1 (r.map (encInt .i64))) [] := by
 refine awp_pcall Try.func48 rfl (by decide) (Nat.le_of_ble_eq_true rfl) ?_
 dsimp only [Try.f48]
 rw [slices_Collect_int] at h0
 refine (show AWP _ _ _ _ ⟨enumFr 0 _, [], 0, []⟩ from ?_)
 refine awp_sr2 8 [0] (fun _ => none) rfl (fun _ _ => rT) ?_
 refine awp_sops2 3 rfl ?_
 refine awpo_cut (l' := List.range' 0 1 ++ (1 :: (List.range' 2 1 ++ []))) rfl ?_
 refine awpo_seg 0 1 16 (1 :: (List.range' 2 1 ++ [])) (fun _ => none) rfl rfl rfl (fun _ _ => rT) ?_
 refine awpo_in rfl rfl rfl rfl rfl Try.func64 rfl (by decide) rfl (Nat.le_of_ble_eq_true rfl) ?_
 dsimp only [Try.f64]
 refine awp_re (s2 := ⟨[(0, .nils), (1, .fn 41 [] [.pp [.int .i64 seq1, .psl 1 (List.map TApiLvLevel.enc seq2)]])], [], 16, []⟩) [] (Nat.le_of_ble_eq_true rfl) ⟨rF, rE, rfl, rfl, trivial, trivial⟩ ?_
 refine awp_sr2 32 [1, 2, 4] (fun _ => none) rfl (fun _ _ => rT) ?_
 refine awp_seq ?_
 refine awp_sr2 40 [2, 4, 6] (fun _ => none) rfl (fun _ _ => rT) ?_
 refine awp_block ?_
 refine awp_rangeV rfl Try.func41 rfl (by decide) (Nat.le_of_ble_eq_true rfl) ?_
 intro RC3 hRC3
 have stRC3 : RC3.st = .ready ∧ RC3.pend = none := by rw [hRC3]; exact ⟨rfl, rfl⟩
 have okRC3 : RCok 40 RC3 := by rw [hRC3]; exact And.intro (rR) rfl
 dsimp only [Try.f41]
 refine awp_re (s2 := ⟨[(0, .yld 40), (1, .pp [.int .i64 seq1, .psl 1 (List.map TApiLvLevel.enc seq2)])], [(16, ⟨0, true, true, 1, [[.nils]]⟩)], 41, [(40, RC3)]⟩) [] (Nat.le_of_ble_eq_true rfl) ⟨rF, rE, rfl, rfl, (LpLe.consR (Nat.le_of_ble_eq_true rfl) rfl okRC3 (Nat.le_of_ble_eq_true rfl) trivial), trivial⟩ ?_
 refine awp_sr2 73 [0, 6, 7, 8] (fun _ => none) rfl (fun _ _ => rT) ?_
 refine awp_post ?_
 refine awp_re (s2 := ⟨[(0, .yld 40), (6, .psl 1 (List.map TApiLvLevel.enc seq2)), (7, .int .i64 (seq2.length : Int)), (8, .int .i64 0)], [(16, ⟨0, true, false, 1, [[.sl 73 0 1 0 0]]⟩), (73, ⟨0, true, true, 1, List.map (encInt .i64) []⟩)], 74, [(40, RC3)]⟩) [(73, 1)] (Nat.le_of_ble_eq_true rfl) ⟨rF, rE, rfl, rfl, (LpLe.consR (Nat.le_of_ble_eq_true rfl) rfl okRC3 (Nat.le_of_ble_eq_true rfl) trivial), rN⟩ ?_
 obtain ⟨x17, hxx17, h0⟩ := bindS h0
 refine awp_bloop (fun s' => ∃ g25 : Nat, s'.nx ≤ 82 ∧ LeN [] s' ⟨[], [(16, ⟨0, true, false, 1, [[.sl 73 g25 1 0 x17.length]]⟩), (73, ⟨g25, true, true, 1, List.map (encInt .i64) x17⟩)], 82, [(40, RC3)]⟩) ?_ ?_
 ·
  intro s' hs
  obtain ⟨g25, hn, hs⟩ := hs
  refine ⟨_, hn, hs, ?_⟩
  refine leave_endK (fun _ _ => rT) ?_
  refine behind_ok stRC3 rfl ?_
  refine kn_block ?_
  refine kn_then ?_
  refine awp_re (s2 := ⟨[(2, .ref 16 0 0 0), (4, .nils), (6, .fn 41 [] [.pp [.int .i64 seq1, .psl 1 (List.map TApiLvLevel.enc seq2)]])], [(16, ⟨0, true, false, 1, [[.sl 73 g25 1 0 x17.length]]⟩), (73, ⟨g25, true, true, 1, List.map (encInt .i64) x17⟩)], 82, []⟩) [] (Nat.le_of_ble_eq_true rfl) ⟨rF, rE, rfl, rfl, trivial, trivial⟩ ?_
  refine awp_sr2 98 [4] (fun _ => none) rfl (fun _ _ => rT) ?_
  refine awp_ret ?_
  refine leave_retK (fun _ _ => rT) ?_
  refine awpo_re (s2 := ⟨[(0, .fn 41 [] [.pp [.int .i64 seq1, .psl 1 (List.map TApiLvLevel.enc seq2)]]), (3, .fn 41 [] [.pp [.int .i64 seq1, .psl 1 (List.map TApiLvLevel.enc seq2)]]), (4, .sl 73 g25 1 0 x17.length)], [(73, ⟨g25, true, true, 1, List.map (encInt .i64) x17⟩)], 98, []⟩) [] (Nat.le_of_ble_eq_true rfl) ⟨rF, rE, rfl, rfl, trivial, trivial⟩ ?_
  refine awpo_cut (l' := List.range' 2 1 ++ []) rfl ?_
  refine awpo_seg 2 1 106 [] (fun _ => none) rfl rfl rfl (fun _ _ => rT) ?_
  refine awpo_nil ?_
  refine kn_then ?_
  refine awp_re (s2 := ⟨[(2, .sl 73 g25 1 0 x17.length)], [(73, ⟨g25, true, true, 1, List.map (encInt .i64) x17⟩)], 106, []⟩) [] (Nat.le_of_ble_eq_true rfl) ⟨rF, rE, rfl, rfl, trivial, trivial⟩ ?_
  refine awp_ret ?_
  obtain rfl := Option.some.inj h0
  refine leave_retG [] ?_
  exact rG
 ·
  refine awp_loopF (ι := { p : Nat × Int × List Int × Nat // slices_Collect_int_l1 seq2 p.1 p.2.1 p.2.2.1 = some x17 }) (fun p => ⟨[(0, .yld 40), (6, .psl 1 (List.map TApiLvLevel.enc seq2)), (7, .int .i64 (seq2.length : Int)), (8, .int .i64 p.1.2.1)], [(16, ⟨0, true, false, 1, [[.sl 73 p.1.2.2.2 1 0 p.1.2.2.1.length]]⟩), (73, ⟨p.1.2.2.2, true, true, 1, List.map (encInt .i64) p.1.2.2.1⟩)], 74, [(40, RC3)]⟩) (fun p => p.1.1) ⟨(fu, 0, [], 0), hxx17⟩ ⟨rF, rE, rfl, rfl, (LpLe.consR (Nat.le_of_ble_eq_true rfl) rfl okRC3 (Nat.le_of_ble_eq_true rfl) trivial), trivial⟩ (fun _ => Nat.le_refl _) ?_
  rintro ⟨⟨fu, v18, v19, g20⟩, h1⟩
  cases fu with
  | zero =>
   replace h1 : slices_Collect_int_l1 seq2 0 v18 v19 = some x17 := h1
   rw [slices_Collect_int_l1] at h1; cases h1
  | succ fu =>
   replace h1 : slices_Collect_int_l1 seq2 (fu + 1) v18 v19 = some x17 := h1
   rw [slices_Collect_int_l1] at h1
   refine (show AWP _ _ _ _ ⟨[(0, .yld 40), (6, .psl 1 (List.map TApiLvLevel.enc seq2)), (7, .int .i64 (seq2.length : Int)), (8, .int .i64 v18)], [(16, ⟨0, true, false, 1, [[.sl 73 g20 1 0 v19.length]]⟩), (73, ⟨g20, true, true, 1, List.map (encInt .i64) v19⟩)], 74, [(40, RC3)]⟩ from ?_)
   refine awp_sr2 82 [0, 6, 7, 8, 9] (fun _ => none) rfl (fun _ _ => rT) ?_
   refine awp_seq ?_
   refine awp_if rfl (fun hb21 => ?_) (fun hb21 => ?_)
   ·
    replace h1 := iteT h1 hb21
    refine awp_skip ?_
    refine kn_then ?_
    refine awp_seq ?_
    refine awp_block ?_
    obtain ⟨e22, he22, h1⟩ := bindS h1
    obtain ⟨he22a, he22b, he22c⟩ := idxS he22
    refine awp_sr2 130 [0, 3, 4, 6, 7, 8] (fun _ => none) rfl (fun _ _ => rS (rA he22a (rA he22b he22c))) ?_
    refine awp_sops2 10 rfl ?_
    refine awpo_cut (l' := List.range' 0 5 ++ (List.range' 5 5 ++ [])) rfl ?_
    refine awpo_seg 0 5 170 (List.range' 5 5 ++ []) (fun _ => none) rfl rfl rfl (fun _ _ => rS (rA he22a (rA he22b he22c))) ?_
    refine awpo_re (s2 := ⟨[(0, .yld 40), (3, .int .i64 v18), (4, .ref 106 0 0 0), (6, .psl 1 (List.map TApiLvLevel.enc seq2)), (7, .int .i64 (seq2.length : Int)), (8, .int .i64 v18), (13, .ref 106 0 0 0), (14, .psl 2 (List.map TApiRun.enc e22.Runs)), (15, .int .i64 (e22.Runs.length : Int)), (16, .bool (decide ((e22.Runs.length : Int) = 2))), (17, .bool (decide ((e22.Runs.length : Int) = 2)))], [(16, ⟨0, true, false, 1, [[.sl 73 g20 1 0 v19.length]]⟩), (73, ⟨g20, true, true, 1, List.map (encInt .i64) v19⟩), (106, ⟨0, true, true, 1, [[.psl 2 (List.map TApiRun.enc e22.Runs)]]⟩)], 170, [(40, RC3)]⟩) [] (Nat.le_of_ble_eq_true rfl) ⟨rF, rE, rfl, rfl, (LpLe.consR (Nat.le_of_ble_eq_true rfl) rfl okRC3 (Nat.le_of_ble_eq_true rfl) trivial), trivial⟩ ?_
    generalize hg23 : (decide ((e22.Runs.length : Int) = 2)) = b23
    cases b23 with
    | true =>
     replace h1 := iteT h1 hg23
     refine awpo_cut (l' := List.range' 5 2 ++ (7 :: (List.range' 8 2 ++ []))) rfl ?_
     refine awpo_seg 5 2 186 (7 :: (List.range' 8 2 ++ [])) (fun _ => none) rfl rfl rfl (fun _ _ => rS (rA he22a (rA he22b he22c))) ?_
     refine awpo_yieldV hRC3 rfl rfl rfl rfl rfl rfl rfl rfl rfl ?_
     refine awp_re (s2 := ⟨[(2, .ref 16 0 0 0), (4, .nils), (6, .fn 41 [] [.pp [.int .i64 seq1, .psl 1 (List.map TApiLvLevel.enc seq2)]]), (7, .int .i64 v18)], [(16, ⟨0, true, false, 1, [[.sl 73 g20 1 0 v19.length]]⟩), (73, ⟨g20, true, true, 1, List.map (encInt .i64) v19⟩), (106, ⟨0, true, true, 1, [[.psl 2 (List.map TApiRun.enc e22.Runs)]]⟩)], 186, [(40, RC3)]⟩) [] (Nat.le_of_ble_eq_true rfl) ⟨rF, rE, rfl, rfl, (LpLe.consR (Nat.le_of_ble_eq_true rfl) rfl okRC3 (Nat.le_of_ble_eq_true rfl) trivial), trivial⟩ ?_
     refine awp_r2 194 [2, 4, 5] (fun _ => none) rfl (fun _ _ => rS (rA he22a (rA he22b he22c))) ?_
     refine kn_then ?_
     refine ⟨RC3, rfl, stRC3.1, ?_⟩
     refine awp_re (s2 := ⟨[(2, .ref 16 0 0 0), (4, .nils), (5, .int .i64 v18)], [(16, ⟨0, true, false, 1, [[.sl 73 g20 1 0 v19.length]]⟩), (73, ⟨g20, true, true, 1, List.map (encInt .i64) v19⟩), (106, ⟨0, true, true, 1, [[.psl 2 (List.map TApiRun.enc e22.Runs)]]⟩)], 194, [(40, { RC3 with st := .busy, pend := RC3.pend })]⟩) [] (Nat.le_of_ble_eq_true rfl) ⟨rF, rE, rfl, rfl, (LpLe.consR (Nat.le_of_ble_eq_true rfl) rfl okRC3 (Nat.le_of_ble_eq_true rfl) trivial), trivial⟩ ?_
     refine awp_block ?_
     obtain ⟨hc24, h1⟩ := guS h1
     refine awp_r2 234 [2, 4] (fun _ => none) rfl (fun _ _ => rS (rA he22a (rA he22b he22c))) ?_
     refine kn_block ?_
     refine round_ok stRC3 rfl ?_
     refine awpo_re (s2 := ⟨[(0, .yld 40), (3, .int .i64 v18), (4, .ref 106 0 0 0), (6, .psl 1 (List.map TApiLvLevel.enc seq2)), (7, .int .i64 (seq2.length : Int)), (8, .int .i64 v18), (13, .ref 106 0 0 0), (14, .psl 2 (List.map TApiRun.enc e22.Runs)), (15, .int .i64 (e22.Runs.length : Int)), (16, .bool true), (17, .bool true), (18, .yld 40), (19, .int .i64 v18), (20, .bool true)], [(16, ⟨0, true, false, 1, [[.sl 73 (g20 + 1) 1 0 ((v19 ++ [v18]).length)]]⟩), (73, ⟨(g20 + 1), true, true, 1, List.map (encInt .i64) (v19 ++ [v18])⟩), (106, ⟨0, true, true, 1, [[.psl 2 (List.map TApiRun.enc e22.Runs)]]⟩), (210, ⟨0, true, true, 1, List.map (encInt .i64) [v18]⟩)], 234, [(40, RC3)]⟩) [] (Nat.le_of_ble_eq_true rfl) ⟨rF, rE, rfl, rfl, (LpLe.consR (Nat.le_of_ble_eq_true rfl) rfl okRC3 (Nat.le_of_ble_eq_true rfl) trivial), trivial⟩ ?_
     refine awpo_cut (l' := List.range' 8 2 ++ []) rfl ?_
     refine awpo_seg 8 2 250 [] (fun _ => none) rfl rfl rfl (fun _ _ => rS (rA he22a (rA he22b he22c))) ?_
     refine awpo_nil ?_
     refine kn_then ?_
     refine awp_re (s2 := ⟨[(0, .yld 40), (6, .psl 1 (List.map TApiLvLevel.enc seq2)), (7, .int .i64 (seq2.length : Int)), (8, .int .i64 v18), (18, .yld 40), (19, .int .i64 v18), (20, .bool true), (21, .bool false), (22, .bool false)], [(16, ⟨0, true, false, 1, [[.sl 73 (g20 + 1) 1 0 ((v19 ++ [v18]).length)]]⟩), (73, ⟨(g20 + 1), true, true, 1, List.map (encInt .i64) (v19 ++ [v18])⟩), (106, ⟨0, true, true, 1, [[.psl 2 (List.map TApiRun.enc e22.Runs)]]⟩), (210, ⟨0, true, true, 1, List.map (encInt .i64) [v18]⟩)], 250, [(40, RC3)]⟩) [] (Nat.le_of_ble_eq_true rfl) ⟨rF, rE, rfl, rfl, (LpLe.consR (Nat.le_of_ble_eq_true rfl) rfl okRC3 (Nat.le_of_ble_eq_true rfl) trivial), trivial⟩ ?_
     refine awp_condF rfl ?_
     refine awp_skip ?_
     refine kn_block ?_
     refine kn_then ?_
     refine awp_r2 266 [0, 6, 7, 8, 18, 19, 20, 21] (fun _ => none) rfl (fun _ _ => rS (rA he22a (rA he22b he22c))) ?_
     refine kn_then ?_
     exact ⟨⟨(fu, (IntKind.i64.wrap (v18 + 1)), (v19 ++ [v18]), (g20 + 1)), h1⟩, ⟨rF, rE, rfl, rfl, (LpLe.consR (Nat.le_of_ble_eq_true rfl) rfl okRC3 (Nat.le_of_ble_eq_true rfl) trivial), trivial⟩, Nat.lt_succ_self _⟩
    | false =>
     replace h1 := iteF h1 hg23
     refine awpo_cut (l' := List.range' 5 5 ++ []) rfl ?_
     refine awpo_seg 5 5 210 [] (fun _ => none) rfl rfl rfl (fun _ _ => rS (rA he22a (rA he22b he22c))) ?_
     refine awpo_nil ?_
     refine kn_then ?_
     refine awp_re (s2 := ⟨[(0, .yld 40), (6, .psl 1 (List.map TApiLvLevel.enc seq2)), (7, .int .i64 (seq2.length : Int)), (8, .int .i64 v18), (22, .bool false)], [(16, ⟨0, true, false, 1, [[.sl 73 g20 1 0 v19.length]]⟩), (73, ⟨g20, true, true, 1, List.map (encInt .i64) v19⟩), (106, ⟨0, true, true, 1, [[.psl 2 (List.map TApiRun.enc e22.Runs)]]⟩)], 210, [(40, RC3)]⟩) [] (Nat.le_of_ble_eq_true rfl) ⟨rF, rE, rfl, rfl, (LpLe.consR (Nat.le_of_ble_eq_true rfl) rfl okRC3 (Nat.le_of_ble_eq_true rfl) trivial), trivial⟩ ?_
     refine awp_condF rfl ?_
     refine awp_skip ?_
     refine kn_block ?_
     refine kn_then ?_
     refine awp_r2 226 [0, 6, 7, 8] (fun _ => none) rfl (fun _ _ => rS (rA he22a (rA he22b he22c))) ?_
     refine kn_then ?_
     exact ⟨⟨(fu, (IntKind.i64.wrap (v18 + 1)), v19, g20), h1⟩, ⟨rF, rE, rfl, rfl, (LpLe.consR (Nat.le_of_ble_eq_true rfl) rfl okRC3 (Nat.le_of_ble_eq_true rfl) trivial), trivial⟩, Nat.lt_succ_self _⟩
   ·
    replace h1 := iteF h1 hb21
    refine awp_exit ?_
    refine kx_then ?_
    refine kx_then ?_
    refine kx_done ?_
    obtain rfl := Option.some.inj h1
    exact ⟨g20, Nat.le_of_ble_eq_true rfl, ⟨rF, rE, rfl, rfl, (LpLe.consR (Nat.le_of_ble_eq_true rfl) rfl okRC3 (Nat.le_of_ble_eq_true rfl) trivial), trivial⟩⟩
end Go.T
end
section
namespace Go.T
open Go Go.AM Go.Proofs
set_option maxRecDepth 100000
set_option maxHeartbeats 4000000
set_option linter.unusedVariables false
theorem c_merge_Next {fu : Nat} {vs1 : TApiMgState} {r : TApiEntry × Int × TApiMgState × Int} (h0 : merge_Next fu vs1 = some r) : PCall Try.prog 69 [.agg (TApiMgState.enc vs1)] (.tup [.agg (TApiEntry.enc r.1), .int .i64 r.2.1, .agg (TApiMgState.enc r.2.2.1), .int .i64 r.2.2.2]) [] := by
 refine awp_pcall Try.func69 rfl (by decide) (Nat.le_of_ble_eq_true rfl) ?_
 dsimp only [Try.f69]
 rw [merge_Next] at h0
 refine (show AWP _ _ _ _ ⟨enumFr 0 _, [], 0, []⟩ from ?_)
 refine awp_sr2 40 [1, 2, 4] (fun _ => none) rfl (fun _ _ => rT) ?_
 refine awp_sops2 7 rfl ?_
 refine awpo_cut (l' := List.range' 0 1 ++ (1 :: (List.range' 2 5 ++ []))) rfl ?_
 refine awpo_seg 0 1 48 (1 :: (List.range' 2 5 ++ [])) (fun _ => none) rfl rfl rfl (fun _ _ => rT) ?_
 refine awpo_in rfl rfl rfl rfl rfl Try.func88 rfl (by decide) rfl (Nat.le_of_ble_eq_true rfl) ?_
 dsimp only [Try.f88]
 refine awp_re (s2 := ⟨[(0, .agg [.psl 1 (List.map (encSl 4 TApiEntry.enc) vs1.Runs), .psl 1 (List.map (encInt .i64) vs1.At), .psl 2 (List.map TApiLsKey.enc vs1.Tree.Keys), .psl 1 (List.map (encInt .i64) vs1.Tree.Lose), .int .i64 vs1.Tree.Win])], [(0, ⟨0, true, true, 5, [[.psl 1 (List.map (encSl 4 TApiEntry.enc) vs1.Runs), .psl 1 (List.map (encInt .i64) vs1.At), .psl 2 (List.map TApiLsKey.enc vs1.Tree.Keys), .psl 1 (List.map (encInt .i64) vs1.Tree.Lose), .int .i64 vs1.Tree.Win]]⟩), (8, ⟨0, true, true, 4, [[.str [], .str [], .bool false, .int .i64 0]]⟩), (24, ⟨0, true, true, 5, [[.nils, .nils, .nils, .nils, .int .i64 0]]⟩)], 48, []⟩) [] (Nat.le_of_ble_eq_true rfl) ⟨rF, rE, rfl, rfl, trivial, trivial⟩ ?_
 refine awp_sr2 72 [1] (fun _ => none) rfl (fun _ _ => rT) ?_
 refine awp_seq ?_
 obtain ⟨vr2, hvr2, h0⟩ := bindS h0
 refine awp_sr2 128 [1, 5] (fun | 1 => some (.tup [.int .i64 vr2.1, .int .i64 vr2.2], []) | _ => none) rfl (fun _ _ => rC (c_merge_Check hvr2)) ?_
 refine awp_sr2 144 [1, 5, 12] (fun _ => none) rfl (fun _ _ => rT) ?_
 refine awp_if rfl (fun hb3 => ?_) (fun hb3 => ?_)
 ·
  replace h0 := iteT h0 hb3
  refine awp_sr2 168 [2, 3] (fun _ => none) rfl (fun _ _ => rT) ?_
  refine awp_ret ?_
  refine kr_then ?_
  refine leave_retK (fun _ _ => rT) ?_
  refine awpo_re (s2 := ⟨[(1, .ref 0 0 0 0), (2, .ref 8 0 0 0), (4, .ref 24 0 0 0), (8, .agg [.psl 1 (List.map (encSl 4 TApiEntry.enc) vs1.Runs), .psl 1 (List.map (encInt .i64) vs1.At), .psl 2 (List.map TApiLsKey.enc vs1.Tree.Keys), .psl 1 (List.map (encInt .i64) vs1.Tree.Lose), .int .i64 vs1.Tree.Win]), (9, .tup [.nilp, .int .i64 vr2.2])], [(0, ⟨0, true, true, 5, [[.psl 1 (List.map (encSl 4 TApiEntry.enc) vs1.Runs), .psl 1 (List.map (encInt .i64) vs1.At), .psl 2 (List.map TApiLsKey.enc vs1.Tree.Keys), .psl 1 (List.map (encInt .i64) vs1.Tree.Lose), .int .i64 vs1.Tree.Win]]⟩), (8, ⟨0, true, true, 4, [[.str [], .str [], .bool false, .int .i64 0]]⟩), (24, ⟨0, true, true, 5, [[.nils, .nils, .nils, .nils, .int .i64 0]]⟩)], 168, []⟩) [] (Nat.le_of_ble_eq_true rfl) ⟨rF, rE, rfl, rfl, trivial, trivial⟩ ?_
  refine awpo_cut (l' := List.range' 2 5 ++ []) rfl ?_
  refine awpo_seg 2 5 208 [] (fun _ => none) rfl rfl rfl (fun _ _ => rT) ?_
  refine awpo_nil ?_
  refine kn_then ?_
  refine awp_re (s2 := ⟨[(2, .ref 8 0 0 0), (4, .ref 24 0 0 0), (5, .int .i64 vr2.2), (6, .nilp)], [(0, ⟨0, true, true, 5, [[.psl 1 (List.map (encSl 4 TApiEntry.enc) vs1.Runs), .psl 1 (List.map (encInt .i64) vs1.At), .psl 2 (List.map TApiLsKey.enc vs1.Tree.Keys), .psl 1 (List.map (encInt .i64) vs1.Tree.Lose), .int .i64 vs1.Tree.Win]]⟩), (8, ⟨0, true, true, 4, [[.str [], .str [], .bool false, .int .i64 0]]⟩), (24, ⟨0, true, true, 5, [[.nils, .nils, .nils, .nils, .int .i64 0]]⟩)], 208, []⟩) [] (Nat.le_of_ble_eq_true rfl) ⟨rF, rE, rfl, rfl, trivial, trivial⟩ ?_
  refine awp_seq ?_
  refine awp_sr2 224 [2, 4, 5, 6, 13] (fun _ => none) rfl (fun _ _ => rT) ?_
  refine awp_condKT rfl hb3 ?_
  refine awp_sr2 280 [2, 3, 4, 5] (fun _ => none) rfl (fun _ _ => rT) ?_
  refine awp_ret ?_
  refine kr_then ?_
  obtain rfl := Option.some.inj h0
  refine leave_retG [] ?_
  exact rG
 ·
  replace h0 := iteF h0 hb3
  refine awp_skip ?_
  refine kn_then ?_
  obtain ⟨vr4, hvr4, h0⟩ := bindS h0
  obtain ⟨vr5, hvr5, h0⟩ := bindS h0
  refine awp_sd2 248 [2, 3] (fun | 2 => some (.psl 1 (vr4.map (encSl 4 TApiEntry.enc)), []) | 5 => some (.sl 0 0 1 0 vr5.length, [⟨0, true, true, 1, vr5.map (encInt .i64)⟩]) | _ => none) rfl rfl rfl (fun Kt hK => by
    try have q0 := c_slices_Clone_apiEntry hvr4
    try have q1 := c_slices_Clone_int_2 hvr5
    exact rTd) ?_
  refine awp_ret ?_
  refine leave_retK (fun _ _ => rT) ?_
  refine awpo_re (s2 := ⟨[(1, .ref 0 0 0 0), (2, .ref 8 0 0 0), (4, .ref 24 0 0 0), (8, .agg [.psl 1 (List.map (encSl 4 TApiEntry.enc) vs1.Runs), .psl 1 (List.map (encInt .i64) vs1.At), .psl 2 (List.map TApiLsKey.enc vs1.Tree.Keys), .psl 1 (List.map (encInt .i64) vs1.Tree.Lose), .int .i64 vs1.Tree.Win]), (9, .tup [.ref 224 0 0 0, .int .i64 0])], [(0, ⟨0, true, true, 5, [[.psl 1 (List.map (encSl 4 TApiEntry.enc) vs1.Runs), .psl 1 (List.map (encInt .i64) vs1.At), .psl 2 (List.map TApiLsKey.enc vs1.Tree.Keys), .psl 1 (List.map (encInt .i64) vs1.Tree.Lose), .int .i64 vs1.Tree.Win]]⟩), (8, ⟨0, true, true, 4, [[.str [], .str [], .bool false, .int .i64 0]]⟩), (24, ⟨0, true, true, 5, [[.nils, .nils, .nils, .nils, .int .i64 0]]⟩), (184, ⟨0, true, true, 1, List.map (encInt .i64) vr5⟩), (224, ⟨0, true, false, 5, [[.psl 1 (List.map (encSl 4 TApiEntry.enc) vr4), .sl 184 0 1 0 vr5.length, .psl 2 (List.map TApiLsKey.enc vs1.Tree.Keys), .psl 1 (List.map (encInt .i64) vs1.Tree.Lose), .int .i64 vs1.Tree.Win]]⟩)], 248, []⟩) [] (Nat.le_of_ble_eq_true rfl) ⟨rF, rE, rfl, rfl, trivial, trivial⟩ ?_
  refine awpo_cut (l' := List.range' 2 5 ++ []) rfl ?_
  refine awpo_seg 2 5 288 [] (fun _ => none) rfl rfl rfl (fun _ _ => rT) ?_
  refine awpo_nil ?_
  refine kn_then ?_
  refine awp_re (s2 := ⟨[(2, .ref 8 0 0 0), (4, .ref 24 0 0 0), (5, .int .i64 0), (6, .ref 224 0 0 0)], [(0, ⟨0, true, true, 5, [[.psl 1 (List.map (encSl 4 TApiEntry.enc) vs1.Runs), .psl 1 (List.map (encInt .i64) vs1.At), .psl 2 (List.map TApiLsKey.enc vs1.Tree.Keys), .psl 1 (List.map (encInt .i64) vs1.Tree.Lose), .int .i64 vs1.Tree.Win]]⟩), (8, ⟨0, true, true, 4, [[.str [], .str [], .bool false, .int .i64 0]]⟩), (24, ⟨0, true, true, 5, [[.nils, .nils, .nils, .nils, .int .i64 0]]⟩), (184, ⟨0, true, true, 1, List.map (encInt .i64) vr5⟩), (224, ⟨0, true, false, 5, [[.psl 1 (List.map (encSl 4 TApiEntry.enc) vr4), .sl 184 0 1 0 vr5.length, .psl 2 (List.map TApiLsKey.enc vs1.Tree.Keys), .psl 1 (List.map (encInt .i64) vs1.Tree.Lose), .int .i64 vs1.Tree.Win]]⟩)], 288, []⟩) [] (Nat.le_of_ble_eq_true rfl) ⟨rF, rE, rfl, rfl, trivial, trivial⟩ ?_
  refine awp_seq ?_
  refine awp_sr2 304 [2, 4, 5, 6, 13] (fun _ => none) rfl (fun _ _ => rT) ?_
  refine awp_condF rfl ?_
  refine awp_skip ?_
  refine kn_then ?_
  obtain ⟨vr6, hvr6, h0⟩ := bindS h0
  refine awp_sr2 376 [2, 3, 4, 5, 6] (fun | 1 => some (.tup [.agg (TApiEntry.enc vr6.1), .int .i64 vr6.2.1, .int .i64 vr6.2.2], []) | _ => none) rfl (fun _ _ => rC (c_merge_reader_peek hvr6)) ?_
  refine awp_seq ?_
  refine awp_sr2 392 [2, 3, 4, 5, 6, 24] (fun _ => none) rfl (fun _ _ => rT) ?_
  refine awp_if rfl (fun hb7 => ?_) (fun hb7 => ?_)
  ·
   replace h0 := iteT h0 hb7
   refine awp_sr2 448 [2, 3, 4, 5] (fun _ => none) rfl (fun _ _ => rT) ?_
   refine awp_ret ?_
   refine kr_then ?_
   obtain rfl := Option.some.inj h0
   refine leave_retG [] ?_
   exact rG
  ·
   replace h0 := iteF h0 hb7
   refine awp_skip ?_
   refine kn_then ?_
   refine awp_sops2 3 rfl ?_
   refine awpo_cut (l' := List.range' 0 2 ++ (2 :: (List.range' 3 0 ++ []))) rfl ?_
   refine awpo_seg 0 2 408 (2 :: (List.range' 3 0 ++ [])) (fun _ => none) rfl rfl rfl (fun _ _ => rT) ?_
   refine awpo_in rfl rfl rfl rfl rfl Try.func90 rfl (by decide) rfl (Nat.le_of_ble_eq_true rfl) ?_
   dsimp only [Try.f90]
   refine awp_re (s2 := ⟨[(0, .ref 224 0 0 0), (1, .int .i64 vr6.2.1)], [(0, ⟨0, true, true, 5, [[.psl 1 (List.map (encSl 4 TApiEntry.enc) vs1.Runs), .psl 1 (List.map (encInt .i64) vs1.At), .psl 2 (List.map TApiLsKey.enc vs1.Tree.Keys), .psl 1 (List.map (encInt .i64) vs1.Tree.Lose), .int .i64 vs1.Tree.Win]]⟩), (8, ⟨0, true, true, 4, [[.str vr6.1.Key, .str vr6.1.Val, .bool vr6.1.Dead, .int .i64 vr6.1.Seq]]⟩), (24, ⟨0, true, true, 5, [[.nils, .nils, .nils, .nils, .int .i64 0]]⟩), (184, ⟨0, true, true, 1, List.map (encInt .i64) vr5⟩), (224, ⟨0, true, false, 5, [[.psl 1 (List.map (encSl 4 TApiEntry.enc) vr4), .sl 184 0 1 0 vr5.length, .psl 2 (List.map TApiLsKey.enc vs1.Tree.Keys), .psl 1 (List.map (encInt .i64) vs1.Tree.Lose), .int .i64 vs1.Tree.Win]]⟩)], 408, []⟩) [] (Nat.le_of_ble_eq_true rfl) ⟨rF, rE, rfl, rfl, trivial, trivial⟩ ?_
   obtain ⟨e8, he8, h0⟩ := bindS h0
   obtain ⟨he8a, he8b, he8c⟩ := idxS he8
   refine awp_sr2 496 [0, 1] (fun _ => none) rfl (fun _ _ => rS (rA he8a (rA he8b he8c))) ?_
   refine awp_re (s2 := ⟨[(0, .ref 224 0 0 0), (1, .int .i64 vr6.2.1)], [(0, ⟨0, true, true, 5, [[.psl 1 (List.map (encSl 4 TApiEntry.enc) vs1.Runs), .psl 1 (List.map (encInt .i64) vs1.At), .psl 2 (List.map TApiLsKey.enc vs1.Tree.Keys), .psl 1 (List.map (encInt .i64) vs1.Tree.Lose), .int .i64 vs1.Tree.Win]]⟩), (8, ⟨0, true, true, 4, [[.str vr6.1.Key, .str vr6.1.Val, .bool vr6.1.Dead, .int .i64 vr6.1.Seq]]⟩), (24, ⟨0, true, true, 5, [[.nils, .nils, .nils, .nils, .int .i64 0]]⟩), (184, ⟨0, true, true, 1, List.map (encInt .i64) (vr5.set vr6.2.1.toNat (IntKind.i64.wrap (e8 + 1)))⟩), (224, ⟨0, true, false, 5, [[.psl 1 (List.map (encSl 4 TApiEntry.enc) vr4), .sl 184 0 1 0 ((vr5.set vr6.2.1.toNat (IntKind.i64.wrap (e8 + 1))).length), .psl 2 (List.map TApiLsKey.enc vs1.Tree.Keys), .psl 1 (List.map (encInt .i64) vs1.Tree.Lose), .int .i64 vs1.Tree.Win]]⟩)], 496, []⟩) [] (Nat.le_of_ble_eq_true rfl) ⟨rF, rE, rfl, rfl, trivial, trivial⟩ ?_
   obtain ⟨e9, he9, h0⟩ := bindS h0
   obtain ⟨he9a, he9b, he9c⟩ := idxS he9
   obtain ⟨e10, he10, h0⟩ := bindS h0
   obtain ⟨he10a, he10b, he10c⟩ := idxS he10
   obtain ⟨vr11, hvr11, h0⟩ := bindS h0
   obtain ⟨vr12, hvr12, h0⟩ := bindS h0
   refine awp_d2 752 [] (fun | 22 => some (.agg (TApiLsKey.enc vr11), []) | 23 => some (.tup [.agg (TApiLsTree.enc vr12.1), .int .i64 vr12.2.1, .int .i64 vr12.2.2], []) | _ => none) rfl rfl rfl (fun Kt hK => by
     try have q0 := c_merge_next hvr11
     try have q1 := c_loser_Replace hvr12
     exact rSd (rA he8a (rA he8b (rA he8c (rA he9a (rA he9b (rA he9c (rA he10a (rA he10b he10c))))))))) ?_
   refine leave_endK (fun _ _ => rS (rA he8a (rA he8b (rA he8c (rA he9a (rA he9b (rA he9c (rA he10a (rA he10b he10c))))))))) ?_
   refine awpo_re (s2 := ⟨[(2, .ref 8 0 0 0), (3, .int .i64 vr6.2.1), (4, .ref 24 0 0 0), (5, .int .i64 vr6.2.2), (6, .ref 224 0 0 0), (24, .bool (!(decide (vr6.2.2 = 0)))), (28, .ref 224 0 0 0), (29, .int .i64 vr6.2.1), (30, .tup [])], [(0, ⟨0, true, true, 5, [[.psl 1 (List.map (encSl 4 TApiEntry.enc) vs1.Runs), .psl 1 (List.map (encInt .i64) vs1.At), .psl 2 (List.map TApiLsKey.enc vs1.Tree.Keys), .psl 1 (List.map (encInt .i64) vs1.Tree.Lose), .int .i64 vs1.Tree.Win]]⟩), (8, ⟨0, true, true, 4, [[.str vr6.1.Key, .str vr6.1.Val, .bool vr6.1.Dead, .int .i64 vr6.1.Seq]]⟩), (24, ⟨0, true, true, 5, [[.nils, .nils, .nils, .nils, .int .i64 0]]⟩), (184, ⟨0, true, true, 1, List.map (encInt .i64) (vr5.set vr6.2.1.toNat (IntKind.i64.wrap (e8 + 1)))⟩), (224, ⟨0, true, false, 5, [[.psl 1 (List.map (encSl 4 TApiEntry.enc) vr4), .sl 184 0 1 0 ((vr5.set vr6.2.1.toNat (IntKind.i64.wrap (e8 + 1))).length), .psl 2 (List.map TApiLsKey.enc vr12.1.Keys), .psl 1 (List.map (encInt .i64) vr12.1.Lose), .int .i64 vr12.1.Win]]⟩)], 752, []⟩) [] (Nat.le_of_ble_eq_true rfl) ⟨rF, rE, rfl, rfl, trivial, trivial⟩ ?_
   refine awpo_cut (l' := []) rfl ?_
   refine awpo_nil ?_
   refine kn_then ?_
   refine awp_re (s2 := ⟨[(2, .ref 8 0 0 0), (3, .int .i64 vr6.2.1), (4, .ref 24 0 0 0), (6, .ref 224 0 0 0)], [(0, ⟨0, true, true, 5, [[.psl 1 (List.map (encSl 4 TApiEntry.enc) vs1.Runs), .psl 1 (List.map (encInt .i64) vs1.At), .psl 2 (List.map TApiLsKey.enc vs1.Tree.Keys), .psl 1 (List.map (encInt .i64) vs1.Tree.Lose), .int .i64 vs1.Tree.Win]]⟩), (8, ⟨0, true, true, 4, [[.str vr6.1.Key, .str vr6.1.Val, .bool vr6.1.Dead, .int .i64 vr6.1.Seq]]⟩), (24, ⟨0, true, true, 5, [[.nils, .nils, .nils, .nils, .int .i64 0]]⟩), (184, ⟨0, true, true, 1, List.map (encInt .i64) (vr5.set vr6.2.1.toNat (IntKind.i64.wrap (e8 + 1)))⟩), (224, ⟨0, true, false, 5, [[.psl 1 (List.map (encSl 4 TApiEntry.enc) vr4), .sl 184 0 1 0 ((vr5.set vr6.2.1.toNat (IntKind.i64.wrap (e8 + 1))).length), .psl 2 (List.map TApiLsKey.enc vr12.1.Keys), .psl 1 (List.map (encInt .i64) vr12.1.Lose), .int .i64 vr12.1.Win]]⟩)], 752, []⟩) [] (Nat.le_of_ble_eq_true rfl) ⟨rF, rE, rfl, rfl, trivial, trivial⟩ ?_
   refine awp_sd2 832 [2, 3, 4, 5] (fun _ => none) rfl rfl rfl (fun _ _ => rSd (rA he8a (rA he8b (rA he8c (rA he9a (rA he9b (rA he9c (rA he10a (rA he10b he10c))))))))) ?_
   refine awp_ret ?_
   obtain rfl := Option.some.inj h0
   refine leave_retG [] ?_
   simp (maxSteps := 1000000) only [↓reduceIte, reduceCtorEq, Nat.reduceEqDiff, Nat.reduceLT, Nat.reduceLeDiff, Nat.reduceAdd, Nat.reduceMul, Int.reduceToNat, push_cast, Gives, he8a, he8b, he8c, he9a, he9b, he9c, he10a, he10b, he10c]
   all_goals exact rH
end Go.T
end
section
namespace Go.T
open Go Go.AM Go.Proofs
set_option maxRecDepth 100000
set_option maxHeartbeats 4000000
set_option linter.unusedVariables false
theorem c_shadow_Step {fu : Nat} {vs1 : TApiShState} {vx2 : TApiEntry} {r : Bool × TApiShState × Int} (h0 : shadow_Step fu vs1 vx2 = some r) : PCall Try.prog 70 [.agg (TApiShState.enc vs1), .agg (TApiEntry.enc vx2)] (.tup [.bool r.1, .agg (TApiShState.enc r.2.1), .int .i64 r.2.2]) [] := by
 refine awp_pcall Try.func70 rfl (by decide) (Nat.le_of_ble_eq_true rfl) ?_
 dsimp only [Try.f70]
 rw [shadow_Step] at h0
 refine (show AWP _ _ _ _ ⟨enumFr 0 _, [], 0, []⟩ from ?_)
 refine awp_sr2 40 [2, 3, 5] (fun _ => none) rfl (fun _ _ => rT) ?_
 refine awp_sops2 10 rfl ?_
 refine awpo_cut (l' := List.range' 0 2 ++ (2 :: (List.range' 3 7 ++ []))) rfl ?_
 refine awpo_seg 0 2 56 (2 :: (List.range' 3 7 ++ [])) (fun _ => none) rfl rfl rfl (fun _ _ => rT) ?_
 refine awpo_in rfl rfl rfl rfl rfl Try.func91 rfl (by decide) rfl (Nat.le_of_ble_eq_true rfl) ?_
 dsimp only [Try.f91]
 refine awp_re (s2 := ⟨[(0, .agg [.bool vs1.Some, .str vs1.Last, .bool vs1.Bottom]), (1, .agg [.str vx2.Key, .str vx2.Val, .bool vx2.Dead, .int .i64 vx2.Seq])], [(0, ⟨0, true, true, 3, [[.bool vs1.Some, .str vs1.Last, .bool vs1.Bottom]]⟩), (8, ⟨0, true, true, 4, [[.str vx2.Key, .str vx2.Val, .bool vx2.Dead, .int .i64 vx2.Seq]]⟩), (24, ⟨0, true, true, 3, [[.bool false, .str [], .bool false]]⟩)], 56, []⟩) [] (Nat.le_of_ble_eq_true rfl) ⟨rF, rE, rfl, rfl, trivial, trivial⟩ ?_
 refine awp_sr2 96 [2, 3, 5] (fun _ => none) rfl (fun _ _ => rT) ?_
 refine awp_seq ?_
 obtain ⟨vr3, hvr3, h0⟩ := bindS h0
 refine awp_sr2 120 [2, 3, 5, 7] (fun | 1 => some (.int .i64 vr3, []) | _ => none) rfl (fun _ _ => rC (c_shadow_Check hvr3)) ?_
 refine awp_sr2 136 [2, 3, 5, 7, 13] (fun _ => none) rfl (fun _ _ => rT) ?_
 refine awp_if rfl (fun hb4 => ?_) (fun hb4 => ?_)
 ·
  replace h0 := iteT h0 hb4
  refine awp_sr2 176 [4, 5, 6] (fun _ => none) rfl (fun _ _ => rT) ?_
  refine awp_ret ?_
  refine kr_then ?_
  refine leave_retK (fun _ _ => rT) ?_
  refine awpo_re (s2 := ⟨[(2, .ref 0 0 0 0), (3, .ref 8 0 0 0), (5, .ref 24 0 0 0), (9, .agg [.bool vs1.Some, .str vs1.Last, .bool vs1.Bottom]), (10, .agg [.str vx2.Key, .str vx2.Val, .bool vx2.Dead, .int .i64 vx2.Seq]), (11, .tup [.nili, .agg [.bool false, .str [], .bool false], .int .i64 vr3])], [(0, ⟨0, true, true, 3, [[.bool vs1.Some, .str vs1.Last, .bool vs1.Bottom]]⟩), (8, ⟨0, true, true, 4, [[.str vx2.Key, .str vx2.Val, .bool vx2.Dead, .int .i64 vx2.Seq]]⟩), (24, ⟨0, true, true, 3, [[.bool false, .str [], .bool false]]⟩)], 176, []⟩) [] (Nat.le_of_ble_eq_true rfl) ⟨rF, rE, rfl, rfl, trivial, trivial⟩ ?_
  refine awpo_cut (l' := List.range' 3 7 ++ []) rfl ?_
  refine awpo_seg 3 7 232 [] (fun _ => none) rfl rfl rfl (fun _ _ => rT) ?_
  refine awpo_nil ?_
  refine kn_then ?_
  refine awp_re (s2 := ⟨[(5, .ref 24 0 0 0), (6, .int .i64 vr3), (7, .nili)], [(0, ⟨0, true, true, 3, [[.bool vs1.Some, .str vs1.Last, .bool vs1.Bottom]]⟩), (8, ⟨0, true, true, 4, [[.str vx2.Key, .str vx2.Val, .bool vx2.Dead, .int .i64 vx2.Seq]]⟩), (24, ⟨0, true, true, 3, [[.bool false, .str [], .bool false]]⟩)], 232, []⟩) [] (Nat.le_of_ble_eq_true rfl) ⟨rF, rE, rfl, rfl, trivial, trivial⟩ ?_
  refine awp_sr2 280 [4, 5, 6] (fun _ => none) rfl (fun _ _ => rT) ?_
  refine awp_sd2 328 [4, 5, 6] (fun _ => none) rfl rfl rfl (fun _ _ => rTd) ?_
  refine awp_ret ?_
  obtain rfl := Option.some.inj h0
  refine leave_retG [] ?_
  exact rG
 ·
  replace h0 := iteF h0 hb4
  refine awp_skip ?_
  refine kn_then ?_
  refine awp_seq ?_
  obtain ⟨vr5, hvr5, h0⟩ := bindS h0
  refine awp_sr2 160 [2, 3, 5, 8] (fun | 1 => some (.int .i64 vr5, []) | _ => none) rfl (fun _ _ => rC (c_entries_Check hvr5)) ?_
  refine awp_sr2 176 [2, 3, 5, 8, 19] (fun _ => none) rfl (fun _ _ => rT) ?_
  refine awp_if rfl (fun hb6 => ?_) (fun hb6 => ?_)
  ·
   replace h0 := iteT h0 hb6
   refine awp_sr2 216 [4, 5, 6] (fun _ => none) rfl (fun _ _ => rT) ?_
   refine awp_ret ?_
   refine kr_then ?_
   refine leave_retK (fun _ _ => rT) ?_
   refine awpo_re (s2 := ⟨[(2, .ref 0 0 0 0), (3, .ref 8 0 0 0), (5, .ref 24 0 0 0), (9, .agg [.bool vs1.Some, .str vs1.Last, .bool vs1.Bottom]), (10, .agg [.str vx2.Key, .str vx2.Val, .bool vx2.Dead, .int .i64 vx2.Seq]), (11, .tup [.nili, .agg [.bool false, .str [], .bool false], .int .i64 vr5])], [(0, ⟨0, true, true, 3, [[.bool vs1.Some, .str vs1.Last, .bool vs1.Bottom]]⟩), (8, ⟨0, true, true, 4, [[.str vx2.Key, .str vx2.Val, .bool vx2.Dead, .int .i64 vx2.Seq]]⟩), (24, ⟨0, true, true, 3, [[.bool false, .str [], .bool false]]⟩)], 216, []⟩) [] (Nat.le_of_ble_eq_true rfl) ⟨rF, rE, rfl, rfl, trivial, trivial⟩ ?_
   refine awpo_cut (l' := List.range' 3 7 ++ []) rfl ?_
   refine awpo_seg 3 7 272 [] (fun _ => none) rfl rfl rfl (fun _ _ => rT) ?_
   refine awpo_nil ?_
   refine kn_then ?_
   refine awp_re (s2 := ⟨[(5, .ref 24 0 0 0), (6, .int .i64 vr5), (7, .nili)], [(0, ⟨0, true, true, 3, [[.bool vs1.Some, .str vs1.Last, .bool vs1.Bottom]]⟩), (8, ⟨0, true, true, 4, [[.str vx2.Key, .str vx2.Val, .bool vx2.Dead, .int .i64 vx2.Seq]]⟩), (24, ⟨0, true, true, 3, [[.bool false, .str [], .bool false]]⟩)], 272, []⟩) [] (Nat.le_of_ble_eq_true rfl) ⟨rF, rE, rfl, rfl, trivial, trivial⟩ ?_
   refine awp_sr2 320 [4, 5, 6] (fun _ => none) rfl (fun _ _ => rT) ?_
   refine awp_sd2 368 [4, 5, 6] (fun _ => none) rfl rfl rfl (fun _ _ => rTd) ?_
   refine awp_ret ?_
   obtain rfl := Option.some.inj h0
   refine leave_retG [] ?_
   exact rG
  ·
   replace h0 := iteF h0 hb6
   refine awp_skip ?_
   refine kn_then ?_
   refine awp_seq ?_
   obtain ⟨b7, hb7, h0⟩ := bindS h0
   refine awp_sr3 (fr' := [(2, .ref 56 0 0 0), (3, .ref 64 0 0 0), (5, .ref 80 0 0 0), (30, .bool b7)]) (hp' := [(0, ⟨0, true, true, 3, [[.bool vs1.Some, .str vs1.Last, .bool vs1.Bottom]]⟩), (8, ⟨0, true, true, 4, [[.str vx2.Key, .str vx2.Val, .bool vx2.Dead, .int .i64 vx2.Seq]]⟩), (24, ⟨0, true, true, 3, [[.bool false, .str [], .bool false]]⟩), (56, ⟨0, true, true, 3, [[.bool vs1.Some, .str vs1.Last, .bool vs1.Bottom]]⟩), (64, ⟨0, true, true, 4, [[.str vx2.Key, .str vx2.Val, .bool vx2.Dead, .int .i64 vx2.Seq]]⟩), (80, ⟨0, true, true, 3, [[.bool false, .str [], .bool false]]⟩)]) [0, 8, 24, 56, 64, 80] 248 [2, 3, 5, 30] (fun _ => none) rfl (fun Kt hK => by
     cases hg8 : vs1.Some with
     | false =>
      replace hb7 := iteF hb7 hg8
      have hqb7 := Option.some.inj hb7
      subst hqb7
      simp (maxSteps := 1000000) only [↓reduceIte, reduceCtorEq, Nat.reduceEqDiff, Nat.reduceLT, Nat.reduceLeDiff, Nat.reduceAdd, Nat.reduceMul, Int.reduceToNat, push_cast, ↓hg8]
      try simp only [↓hg8] at hK
      all_goals exact rU
     | true =>
      replace hb7 := iteT hb7 hg8
      have hqb7 := Option.some.inj hb7
      subst hqb7
      simp (maxSteps := 1000000) only [↓reduceIte, reduceCtorEq, Nat.reduceEqDiff, Nat.reduceLT, Nat.reduceLeDiff, Nat.reduceAdd, Nat.reduceMul, Int.reduceToNat, push_cast, ↓hg8]
      try simp only [↓hg8] at hK
      all_goals exact rU) ?_
   refine awp_if rfl (fun hb9 => ?_) (fun hb9 => ?_)
   ·
    replace h0 := iteT h0 hb9
    refine awp_sr2 280 [4, 5, 6] (fun _ => none) rfl (fun _ _ => rT) ?_
    refine awp_ret ?_
    refine kr_then ?_
    refine leave_retK (fun _ _ => rT) ?_
    refine awpo_re (s2 := ⟨[(2, .ref 0 0 0 0), (3, .ref 8 0 0 0), (5, .ref 24 0 0 0), (9, .agg [.bool vs1.Some, .str vs1.Last, .bool vs1.Bottom]), (10, .agg [.str vx2.Key, .str vx2.Val, .bool vx2.Dead, .int .i64 vx2.Seq]), (11, .tup [.nili, .agg [.bool false, .str [], .bool false], .int .i64 6])], [(0, ⟨0, true, true, 3, [[.bool vs1.Some, .str vs1.Last, .bool vs1.Bottom]]⟩), (8, ⟨0, true, true, 4, [[.str vx2.Key, .str vx2.Val, .bool vx2.Dead, .int .i64 vx2.Seq]]⟩), (24, ⟨0, true, true, 3, [[.bool false, .str [], .bool false]]⟩)], 280, []⟩) [] (Nat.le_of_ble_eq_true rfl) ⟨rF, rE, rfl, rfl, trivial, trivial⟩ ?_
    refine awpo_cut (l' := List.range' 3 7 ++ []) rfl ?_
    refine awpo_seg 3 7 336 [] (fun _ => none) rfl rfl rfl (fun _ _ => rT) ?_
    refine awpo_nil ?_
    refine kn_then ?_
    refine awp_re (s2 := ⟨[(5, .ref 24 0 0 0), (6, .int .i64 6), (7, .nili)], [(0, ⟨0, true, true, 3, [[.bool vs1.Some, .str vs1.Last, .bool vs1.Bottom]]⟩), (8, ⟨0, true, true, 4, [[.str vx2.Key, .str vx2.Val, .bool vx2.Dead, .int .i64 vx2.Seq]]⟩), (24, ⟨0, true, true, 3, [[.bool false, .str [], .bool false]]⟩)], 336, []⟩) [] (Nat.le_of_ble_eq_true rfl) ⟨rF, rE, rfl, rfl, trivial, trivial⟩ ?_
    refine awp_sr2 384 [4, 5, 6] (fun _ => none) rfl (fun _ _ => rT) ?_
    refine awp_sd2 432 [4, 5, 6] (fun _ => none) rfl rfl rfl (fun _ _ => rTd) ?_
    refine awp_ret ?_
    obtain rfl := Option.some.inj h0
    refine leave_retG [] ?_
    exact rG
   ·
    replace h0 := iteF h0 hb9
    refine awp_skip ?_
    refine kn_then ?_
    refine awp_sr2 304 [2, 3, 5, 9] (fun _ => none) rfl (fun _ _ => rT) ?_
    refine awp_seq ?_
    refine awp_block ?_
    obtain ⟨b10, hb10, h0⟩ := bindS h0
    refine awp_sr3 (fr' := [(2, .ref 56 0 0 0), (3, .ref 64 0 0 0), (5, .ref 80 0 0 0), (9, .ref 288 0 0 0), (37, .bool b10)]) (hp' := [(0, ⟨0, true, true, 3, [[.bool vs1.Some, .str vs1.Last, .bool vs1.Bottom]]⟩), (8, ⟨0, true, true, 4, [[.str vx2.Key, .str vx2.Val, .bool vx2.Dead, .int .i64 vx2.Seq]]⟩), (24, ⟨0, true, true, 3, [[.bool false, .str [], .bool false]]⟩), (56, ⟨0, true, true, 3, [[.bool vs1.Some, .str vs1.Last, .bool vs1.Bottom]]⟩), (64, ⟨0, true, true, 4, [[.str vx2.Key, .str vx2.Val, .bool vx2.Dead, .int .i64 vx2.Seq]]⟩), (80, ⟨0, true, true, 3, [[.bool false, .str [], .bool false]]⟩), (288, ⟨0, true, true, 3, [[.bool true, .str vx2.Key, .bool vs1.Bottom]]⟩)]) [0, 8, 24, 56, 64, 80, 288] 384 [2, 3, 5, 9, 37] (fun _ => none) rfl (fun Kt hK => by
      cases hg11 : vs1.Some with
      | false =>
       replace hb10 := iteF hb10 hg11
       have hqb10 := Option.some.inj hb10
       subst hqb10
       simp (maxSteps := 1000000) only [↓reduceIte, reduceCtorEq, Nat.reduceEqDiff, Nat.reduceLT, Nat.reduceLeDiff, Nat.reduceAdd, Nat.reduceMul, Int.reduceToNat, push_cast, ↓hg11]
       try simp only [↓hg11] at hK
       all_goals exact rU
      | true =>
       replace hb10 := iteT hb10 hg11
       have hqb10 := Option.some.inj hb10
       subst hqb10
       simp (maxSteps := 1000000) only [↓reduceIte, reduceCtorEq, Nat.reduceEqDiff, Nat.reduceLT, Nat.reduceLeDiff, Nat.reduceAdd, Nat.reduceMul, Int.reduceToNat, push_cast, ↓hg11]
       try simp only [↓hg11] at hK
       all_goals exact rU) ?_
    refine awp_if rfl (fun hb12 => ?_) (fun hb12 => ?_)
    ·
     replace h0 := iteT h0 hb12
     refine awp_sd2 432 [4, 5, 6] (fun _ => none) rfl rfl rfl (fun _ _ => rTd) ?_
     refine awp_ret ?_
     refine kr_block ?_
     refine kr_then ?_
     refine leave_retK (fun _ _ => rT) ?_
     refine awpo_re (s2 := ⟨[(2, .ref 0 0 0 0), (3, .ref 8 0 0 0), (5, .ref 24 0 0 0), (9, .agg [.bool vs1.Some, .str vs1.Last, .bool vs1.Bottom]), (10, .agg [.str vx2.Key, .str vx2.Val, .bool vx2.Dead, .int .i64 vx2.Seq]), (11, .tup [.iface 163 (.agg [.str vx2.Key, .str vx2.Val, .bool vx2.Dead, .int .i64 vx2.Seq]), .agg [.bool true, .str vx2.Key, .bool vs1.Bottom], .int .i64 0])], [(0, ⟨0, true, true, 3, [[.bool vs1.Some, .str vs1.Last, .bool vs1.Bottom]]⟩), (8, ⟨0, true, true, 4, [[.str vx2.Key, .str vx2.Val, .bool vx2.Dead, .int .i64 vx2.Seq]]⟩), (24, ⟨0, true, true, 3, [[.bool false, .str [], .bool false]]⟩)], 432, []⟩) [] (Nat.le_of_ble_eq_true rfl) ⟨rF, rE, rfl, rfl, trivial, trivial⟩ ?_
     refine awpo_cut (l' := List.range' 3 7 ++ []) rfl ?_
     refine awpo_seg 3 7 488 [] (fun _ => none) rfl rfl rfl (fun _ _ => rT) ?_
     refine awpo_nil ?_
     refine kn_then ?_
     refine awp_re (s2 := ⟨[(5, .ref 24 0 0 0), (6, .int .i64 0), (7, .iface 163 (.agg [.str vx2.Key, .str vx2.Val, .bool vx2.Dead, .int .i64 vx2.Seq]))], [(0, ⟨0, true, true, 3, [[.bool vs1.Some, .str vs1.Last, .bool vs1.Bottom]]⟩), (8, ⟨0, true, true, 4, [[.str vx2.Key, .str vx2.Val, .bool vx2.Dead, .int .i64 vx2.Seq]]⟩), (24, ⟨0, true, true, 3, [[.bool true, .str vx2.Key, .bool vs1.Bottom]]⟩)], 488, []⟩) [] (Nat.le_of_ble_eq_true rfl) ⟨rF, rE, rfl, rfl, trivial, trivial⟩ ?_
     refine awp_sr2 536 [4, 5, 6] (fun _ => none) rfl (fun _ _ => rT) ?_
     refine awp_sd2 584 [4, 5, 6] (fun _ => none) rfl rfl rfl (fun _ _ => rTd) ?_
     refine awp_ret ?_
     obtain rfl := Option.some.inj h0
     refine leave_retG [] ?_
     exact rG
    ·
     replace h0 := iteF h0 hb12
     obtain ⟨b13, hb13, h0⟩ := bindS h0
     refine awp_sr3 (fr' := [(3, .ref 64 0 0 0), (5, .ref 80 0 0 0), (9, .ref 288 0 0 0), (50, .bool b13)]) (hp' := [(0, ⟨0, true, true, 3, [[.bool vs1.Some, .str vs1.Last, .bool vs1.Bottom]]⟩), (8, ⟨0, true, true, 4, [[.str vx2.Key, .str vx2.Val, .bool vx2.Dead, .int .i64 vx2.Seq]]⟩), (24, ⟨0, true, true, 3, [[.bool false, .str [], .bool false]]⟩), (56, ⟨0, true, true, 3, [[.bool vs1.Some, .str vs1.Last, .bool vs1.Bottom]]⟩), (64, ⟨0, true, true, 4, [[.str vx2.Key, .str vx2.Val, .bool vx2.Dead, .int .i64 vx2.Seq]]⟩), (80, ⟨0, true, true, 3, [[.bool false, .str [], .bool false]]⟩), (288, ⟨0, true, true, 3, [[.bool true, .str vx2.Key, .bool vs1.Bottom]]⟩)]) [0, 8, 24, 56, 64, 80, 288] 440 [3, 5, 9, 50] (fun _ => none) rfl (fun Kt hK => by
       cases hg14 : vs1.Bottom with
       | false =>
        replace hb13 := iteF hb13 hg14
        have hqb13 := Option.some.inj hb13
        subst hqb13
        simp (maxSteps := 1000000) only [↓reduceIte, reduceCtorEq, Nat.reduceEqDiff, Nat.reduceLT, Nat.reduceLeDiff, Nat.reduceAdd, Nat.reduceMul, Int.reduceToNat, push_cast, ↓hg14]
        try simp only [↓hg14] at hK
        all_goals exact rU
       | true =>
        replace hb13 := iteT hb13 hg14
        have hqb13 := Option.some.inj hb13
        subst hqb13
        simp (maxSteps := 1000000) only [↓reduceIte, reduceCtorEq, Nat.reduceEqDiff, Nat.reduceLT, Nat.reduceLeDiff, Nat.reduceAdd, Nat.reduceMul, Int.reduceToNat, push_cast, ↓hg14]
        try simp only [↓hg14] at hK
        all_goals exact rU) ?_
     refine awp_if rfl (fun hb15 => ?_) (fun hb15 => ?_)
     ·
      replace h0 := iteT h0 hb15
      refine awp_sd2 488 [4, 5, 6] (fun _ => none) rfl rfl rfl (fun _ _ => rTd) ?_
      refine awp_ret ?_
      refine kr_block ?_
      refine kr_then ?_
      refine leave_retK (fun _ _ => rT) ?_
      refine awpo_re (s2 := ⟨[(2, .ref 0 0 0 0), (3, .ref 8 0 0 0), (5, .ref 24 0 0 0), (9, .agg [.bool vs1.Some, .str vs1.Last, .bool vs1.Bottom]), (10, .agg [.str vx2.Key, .str vx2.Val, .bool vx2.Dead, .int .i64 vx2.Seq]), (11, .tup [.iface 164 (.agg [.str vx2.Key, .str vx2.Val, .bool vx2.Dead, .int .i64 vx2.Seq]), .agg [.bool true, .str vx2.Key, .bool vs1.Bottom], .int .i64 0])], [(0, ⟨0, true, true, 3, [[.bool vs1.Some, .str vs1.Last, .bool vs1.Bottom]]⟩), (8, ⟨0, true, true, 4, [[.str vx2.Key, .str vx2.Val, .bool vx2.Dead, .int .i64 vx2.Seq]]⟩), (24, ⟨0, true, true, 3, [[.bool false, .str [], .bool false]]⟩)], 488, []⟩) [] (Nat.le_of_ble_eq_true rfl) ⟨rF, rE, rfl, rfl, trivial, trivial⟩ ?_
      refine awpo_cut (l' := List.range' 3 7 ++ []) rfl ?_
      refine awpo_seg 3 7 544 [] (fun _ => none) rfl rfl rfl (fun _ _ => rT) ?_
      refine awpo_nil ?_
      refine kn_then ?_
      refine awp_re (s2 := ⟨[(5, .ref 24 0 0 0), (6, .int .i64 0), (7, .iface 164 (.agg [.str vx2.Key, .str vx2.Val, .bool vx2.Dead, .int .i64 vx2.Seq]))], [(0, ⟨0, true, true, 3, [[.bool vs1.Some, .str vs1.Last, .bool vs1.Bottom]]⟩), (8, ⟨0, true, true, 4, [[.str vx2.Key, .str vx2.Val, .bool vx2.Dead, .int .i64 vx2.Seq]]⟩), (24, ⟨0, true, true, 3, [[.bool true, .str vx2.Key, .bool vs1.Bottom]]⟩)], 544, []⟩) [] (Nat.le_of_ble_eq_true rfl) ⟨rF, rE, rfl, rfl, trivial, trivial⟩ ?_
      refine awp_sr2 592 [4, 5, 6] (fun _ => none) rfl (fun _ _ => rT) ?_
      refine awp_sd2 640 [4, 5, 6] (fun _ => none) rfl rfl rfl (fun _ _ => rTd) ?_
      refine awp_ret ?_
      obtain rfl := Option.some.inj h0
      refine leave_retG [] ?_
      exact rG
     ·
      replace h0 := iteF h0 hb15
      refine awp_skip ?_
      refine kn_block ?_
      refine kn_then ?_
      refine awp_sd2 488 [4, 5, 6] (fun _ => none) rfl rfl rfl (fun _ _ => rTd) ?_
      refine awp_ret ?_
      refine leave_retK (fun _ _ => rT) ?_
      refine awpo_re (s2 := ⟨[(2, .ref 0 0 0 0), (3, .ref 8 0 0 0), (5, .ref 24 0 0 0), (9, .agg [.bool vs1.Some, .str vs1.Last, .bool vs1.Bottom]), (10, .agg [.str vx2.Key, .str vx2.Val, .bool vx2.Dead, .int .i64 vx2.Seq]), (11, .tup [.iface 143 (.agg [.str vx2.Key, .str vx2.Val, .bool vx2.Dead, .int .i64 vx2.Seq]), .agg [.bool true, .str vx2.Key, .bool vs1.Bottom], .int .i64 0])], [(0, ⟨0, true, true, 3, [[.bool vs1.Some, .str vs1.Last, .bool vs1.Bottom]]⟩), (8, ⟨0, true, true, 4, [[.str vx2.Key, .str vx2.Val, .bool vx2.Dead, .int .i64 vx2.Seq]]⟩), (24, ⟨0, true, true, 3, [[.bool false, .str [], .bool false]]⟩)], 488, []⟩) [] (Nat.le_of_ble_eq_true rfl) ⟨rF, rE, rfl, rfl, trivial, trivial⟩ ?_
      refine awpo_cut (l' := List.range' 3 7 ++ []) rfl ?_
      refine awpo_seg 3 7 544 [] (fun _ => none) rfl rfl rfl (fun _ _ => rT) ?_
      refine awpo_nil ?_
      refine kn_then ?_
      refine awp_re (s2 := ⟨[(5, .ref 24 0 0 0), (6, .int .i64 0), (7, .iface 143 (.agg [.str vx2.Key, .str vx2.Val, .bool vx2.Dead, .int .i64 vx2.Seq]))], [(0, ⟨0, true, true, 3, [[.bool vs1.Some, .str vs1.Last, .bool vs1.Bottom]]⟩), (8, ⟨0, true, true, 4, [[.str vx2.Key, .str vx2.Val, .bool vx2.Dead, .int .i64 vx2.Seq]]⟩), (24, ⟨0, true, true, 3, [[.bool true, .str vx2.Key, .bool vs1.Bottom]]⟩)], 544, []⟩) [] (Nat.le_of_ble_eq_true rfl) ⟨rF, rE, rfl, rfl, trivial, trivial⟩ ?_
      refine awp_sr2 592 [4, 5, 6] (fun _ => none) rfl (fun _ _ => rT) ?_
      refine awp_sd2 640 [4, 5, 6] (fun _ => none) rfl rfl rfl (fun _ _ => rTd) ?_
      refine awp_ret ?_
      obtain rfl := Option.some.inj h0
      refine leave_retG [] ?_
      exact rG
end Go.T
end
section
namespace Go.T
open Go Go.AM Go.Proofs
set_option maxRecDepth 100000
set_option maxHeartbeats 4000000
set_option linter.unusedVariables false
theorem c_slices_Step {fu : Nat} {vs1 : TApiSlState} {n2 : Int} {r : TApiSlState × Int × Int} (h0 : slices_Step fu vs1 n2 = some r) : PCall Try.prog 31 [.agg (TApiSlState.enc vs1), .int .i64 n2] (.tup [.agg (TApiSlState.enc r.1), .int .i64 r.2.1, .int .i64 r.2.2]) [] := by
 refine awp_pcall Try.func31 rfl (by decide) (Nat.le_of_ble_eq_true rfl) ?_
 dsimp only [Try.f31]
 rw [slices_Step] at h0
 refine (show AWP _ _ _ _ ⟨enumFr 0 _, [], 0, []⟩ from ?_)
 refine awp_sr2 32 [1, 2, 4] (fun _ => none) rfl (fun _ _ => rT) ?_
 obtain ⟨vr3, hvr3, h0⟩ := bindS h0
 refine awp_sr2 88 [1, 2, 4, 6, 7] (fun | 1 => some (.tup [.int .i64 vr3.1, .int .i64 vr3.2], []) | _ => none) rfl (fun _ _ => rC (c_slices_Left hvr3)) ?_
 refine awp_seq ?_
 refine awp_block ?_
 refine awp_sr2 112 [1, 2, 4, 6, 7, 15] (fun _ => none) rfl (fun _ _ => rT) ?_
 refine awp_if rfl (fun hb4 => ?_) (fun hb4 => ?_)
 ·
  replace h0 := iteT h0 hb4
  refine awp_sr2 152 [4, 5, 6] (fun _ => none) rfl (fun _ _ => rT) ?_
  refine awp_ret ?_
  refine kr_block ?_
  refine kr_then ?_
  obtain rfl := Option.some.inj h0
  refine leave_retG [] ?_
  exact rG
 ·
  replace h0 := iteF h0 hb4
  refine awp_sr2 136 [1, 2, 4, 7, 20] (fun _ => none) rfl (fun _ _ => rT) ?_
  refine awp_if rfl (fun hb5 => ?_) (fun hb5 => ?_)
  ·
   replace h0 := iteT h0 hb5
   refine awp_sr2 168 [4, 5, 6] (fun _ => none) rfl (fun _ _ => rT) ?_
   refine awp_ret ?_
   refine kr_block ?_
   refine kr_then ?_
   obtain rfl := Option.some.inj h0
   refine leave_retG [] ?_
   exact rG
  ·
   replace h0 := iteF h0 hb5
   refine awp_skip ?_
   refine kn_block ?_
   refine kn_then ?_
   refine awp_sr2 168 [2, 4, 5] (fun _ => none) rfl (fun _ _ => rT) ?_
   refine awp_seq ?_
   refine awp_sr2 208 [2, 4, 5, 31] (fun _ => none) rfl (fun _ _ => rT) ?_
   refine awp_if rfl (fun hb6 => ?_) (fun hb6 => ?_)
   ·
    replace h0 := iteT h0 hb6
    refine awp_sr2 240 [4, 5, 6] (fun _ => none) rfl (fun _ _ => rT) ?_
    refine awp_ret ?_
    refine kr_then ?_
    obtain rfl := Option.some.inj h0
    refine leave_retG [] ?_
    exact rG
   ·
    replace h0 := iteF h0 hb6
    refine awp_skip ?_
    refine kn_then ?_
    refine awp_sr2 240 [2, 4, 5, 8] (fun _ => none) rfl (fun _ _ => rT) ?_
    obtain ⟨hc7, h0⟩ := guS h0
    refine awp_sr2 288 [2, 4, 5, 8] (fun _ => none) rfl (fun _ _ => rT) ?_
    refine awp_re (s2 := ⟨[(2, .ref 0 0 0 0), (4, .ref 8 0 0 0), (5, .int .i64 (if vr3.1 < n2 then vr3.1 else n2)), (8, .ref 224 0 0 0)], [(0, ⟨0, true, true, 10, [[.psl 1 (List.map (encSl 4 TApiEntry.enc) vs1.Merge.Runs), .psl 1 (List.map (encInt .i64) vs1.Merge.At), .psl 2 (List.map TApiLsKey.enc vs1.Merge.Tree.Keys), .psl 1 (List.map (encInt .i64) vs1.Merge.Tree.Lose), .int .i64 vs1.Merge.Tree.Win, .bool vs1.Shadow.Some, .str vs1.Shadow.Last, .bool vs1.Shadow.Bottom, .psl 4 (List.map TApiEntry.enc vs1.Out), .int .i64 vs1.Steps]]⟩), (8, ⟨0, true, true, 10, [[.nils, .nils, .nils, .nils, .int .i64 0, .bool false, .str [], .bool false, .nils, .int .i64 0]]⟩), (224, ⟨0, true, false, 10, [[.psl 1 (List.map (encSl 4 TApiEntry.enc) vs1.Merge.Runs), .psl 1 (List.map (encInt .i64) vs1.Merge.At), .psl 2 (List.map TApiLsKey.enc vs1.Merge.Tree.Keys), .psl 1 (List.map (encInt .i64) vs1.Merge.Tree.Lose), .int .i64 vs1.Merge.Tree.Win, .bool vs1.Shadow.Some, .str vs1.Shadow.Last, .bool vs1.Shadow.Bottom, .sl 256 0 4 0 vs1.Out.length, .int .i64 vs1.Steps]]⟩), (256, ⟨0, true, true, 4, List.map TApiEntry.enc vs1.Out⟩)], 288, []⟩) [] (Nat.le_of_ble_eq_true rfl) ⟨rF, rE, rfl, rfl, trivial, trivial⟩ ?_
    obtain ⟨hc8, h0⟩ := guS h0
    refine awp_sr2 352 [4, 5, 8] (fun _ => none) rfl (fun _ _ => rT) ?_
    refine awp_re (s2 := ⟨[(4, .ref 8 0 0 0), (5, .int .i64 (if vr3.1 < n2 then vr3.1 else n2)), (8, .ref 224 0 0 0)], [(0, ⟨0, true, true, 10, [[.psl 1 (List.map (encSl 4 TApiEntry.enc) vs1.Merge.Runs), .psl 1 (List.map (encInt .i64) vs1.Merge.At), .psl 2 (List.map TApiLsKey.enc vs1.Merge.Tree.Keys), .psl 1 (List.map (encInt .i64) vs1.Merge.Tree.Lose), .int .i64 vs1.Merge.Tree.Win, .bool vs1.Shadow.Some, .str vs1.Shadow.Last, .bool vs1.Shadow.Bottom, .psl 4 (List.map TApiEntry.enc vs1.Out), .int .i64 vs1.Steps]]⟩), (8, ⟨0, true, true, 10, [[.nils, .nils, .nils, .nils, .int .i64 0, .bool false, .str [], .bool false, .nils, .int .i64 0]]⟩), (224, ⟨0, true, false, 10, [[.psl 1 (List.map (encSl 4 TApiEntry.enc) vs1.Merge.Runs), .sl 312 0 1 0 vs1.Merge.At.length, .psl 2 (List.map TApiLsKey.enc vs1.Merge.Tree.Keys), .psl 1 (List.map (encInt .i64) vs1.Merge.Tree.Lose), .int .i64 vs1.Merge.Tree.Win, .bool vs1.Shadow.Some, .str vs1.Shadow.Last, .bool vs1.Shadow.Bottom, .sl 256 0 4 0 vs1.Out.length, .int .i64 vs1.Steps]]⟩), (256, ⟨0, true, true, 4, List.map TApiEntry.enc vs1.Out⟩), (312, ⟨0, true, true, 1, List.map (encInt .i64) vs1.Merge.At⟩)], 352, []⟩) [] (Nat.le_of_ble_eq_true rfl) ⟨rF, rE, rfl, rfl, trivial, trivial⟩ ?_
    refine awp_seq ?_
    refine awp_sops2 4 rfl ?_
    refine awpo_cut (l' := List.range' 0 2 ++ (2 :: (List.range' 3 1 ++ []))) rfl ?_
    refine awpo_seg 0 2 368 (2 :: (List.range' 3 1 ++ [])) (fun _ => none) rfl rfl rfl (fun _ _ => rT) ?_
    refine awpo_in rfl rfl rfl rfl rfl Try.func50 rfl (by decide) rfl (Nat.le_of_ble_eq_true rfl) ?_
    dsimp only [Try.f50]
    refine awp_re (s2 := ⟨[(0, .int .i64 (if vr3.1 < n2 then vr3.1 else n2)), (1, .fn 51 [.ref 224 0 0 0] [])], [(0, ⟨0, true, true, 10, [[.psl 1 (List.map (encSl 4 TApiEntry.enc) vs1.Merge.Runs), .psl 1 (List.map (encInt .i64) vs1.Merge.At), .psl 2 (List.map TApiLsKey.enc vs1.Merge.Tree.Keys), .psl 1 (List.map (encInt .i64) vs1.Merge.Tree.Lose), .int .i64 vs1.Merge.Tree.Win, .bool vs1.Shadow.Some, .str vs1.Shadow.Last, .bool vs1.Shadow.Bottom, .psl 4 (List.map TApiEntry.enc vs1.Out), .int .i64 vs1.Steps]]⟩), (8, ⟨0, true, true, 10, [[.nils, .nils, .nils, .nils, .int .i64 0, .bool false, .str [], .bool false, .nils, .int .i64 0]]⟩), (224, ⟨0, true, false, 10, [[.psl 1 (List.map (encSl 4 TApiEntry.enc) vs1.Merge.Runs), .sl 312 0 1 0 vs1.Merge.At.length, .psl 2 (List.map TApiLsKey.enc vs1.Merge.Tree.Keys), .psl 1 (List.map (encInt .i64) vs1.Merge.Tree.Lose), .int .i64 vs1.Merge.Tree.Win, .bool vs1.Shadow.Some, .str vs1.Shadow.Last, .bool vs1.Shadow.Bottom, .sl 256 0 4 0 vs1.Out.length, .int .i64 vs1.Steps]]⟩), (256, ⟨0, true, true, 4, List.map TApiEntry.enc vs1.Out⟩), (312, ⟨0, true, true, 1, List.map (encInt .i64) vs1.Merge.At⟩)], 368, []⟩) [] (Nat.le_of_ble_eq_true rfl) ⟨rF, rE, rfl, rfl, trivial, trivial⟩ ?_
    refine awp_sr2 376 [0, 1] (fun _ => none) rfl (fun _ _ => rT) ?_
    refine awp_seq ?_
    refine awp_sr2 392 [1, 6, 7] (fun _ => none) rfl (fun _ _ => rT) ?_
    refine awp_frz2 [312] (fun Kt hK => by simp only [↓reduceIte, reduceCtorEq, Nat.reduceEqDiff, Nat.reduceLT, Nat.reduceLeDiff, Nat.reduceAdd, Nat.reduceMul, Int.reduceToNat, Nat.reduceBEq, push_cast]; exact hK) ?_
    refine awp_re (s2 := ⟨[(1, .fn 51 [.ref 224 0 0 0] []), (6, .int .i64 (if vr3.1 < n2 then vr3.1 else n2)), (7, .int .i64 0)], [(0, ⟨0, true, true, 10, [[.psl 1 (List.map (encSl 4 TApiEntry.enc) vs1.Merge.Runs), .psl 1 (List.map (encInt .i64) vs1.Merge.At), .psl 2 (List.map TApiLsKey.enc vs1.Merge.Tree.Keys), .psl 1 (List.map (encInt .i64) vs1.Merge.Tree.Lose), .int .i64 vs1.Merge.Tree.Win, .bool vs1.Shadow.Some, .str vs1.Shadow.Last, .bool vs1.Shadow.Bottom, .psl 4 (List.map TApiEntry.enc vs1.Out), .int .i64 vs1.Steps]]⟩), (8, ⟨0, true, true, 10, [[.nils, .nils, .nils, .nils, .int .i64 0, .bool false, .str [], .bool false, .nils, .int .i64 0]]⟩), (224, ⟨0, true, false, 10, [[.psl 1 (List.map (encSl 4 TApiEntry.enc) vs1.Merge.Runs), .psl 1 (List.map (encInt .i64) vs1.Merge.At), .psl 2 (List.map TApiLsKey.enc vs1.Merge.Tree.Keys), .psl 1 (List.map (encInt .i64) vs1.Merge.Tree.Lose), .int .i64 vs1.Merge.Tree.Win, .bool vs1.Shadow.Some, .str vs1.Shadow.Last, .bool vs1.Shadow.Bottom, .sl 256 0 4 0 vs1.Out.length, .int .i64 vs1.Steps]]⟩), (256, ⟨0, true, true, 4, List.map TApiEntry.enc vs1.Out⟩), (312, ⟨0, false, true, 1, List.map (encInt .i64) vs1.Merge.At⟩)], 392, []⟩) [] (Nat.le_of_ble_eq_true rfl) ⟨rF, rE, rfl, rfl, trivial, trivial⟩ ?_
    obtain ⟨x42, hxx42, h0⟩ := bindS h0
    refine awp_bloop (fun s' => ∃ o62 : List (List TApiEntry) × List Int × List TApiLsKey × List Int × Int × Bool × List UInt8 × Bool × Int × List TApiEntry, ∃ g63 : Nat, x42 = .inl o62 ∧ s'.nx ≤ 400 ∧ LeN [] s' ⟨[], [(0, ⟨0, true, true, 10, [[.psl 1 (List.map (encSl 4 TApiEntry.enc) vs1.Merge.Runs), .psl 1 (List.map (encInt .i64) vs1.Merge.At), .psl 2 (List.map TApiLsKey.enc vs1.Merge.Tree.Keys), .psl 1 (List.map (encInt .i64) vs1.Merge.Tree.Lose), .int .i64 vs1.Merge.Tree.Win, .bool vs1.Shadow.Some, .str vs1.Shadow.Last, .bool vs1.Shadow.Bottom, .psl 4 (List.map TApiEntry.enc vs1.Out), .int .i64 vs1.Steps]]⟩), (8, ⟨0, true, true, 10, [[.nils, .nils, .nils, .nils, .int .i64 0, .bool false, .str [], .bool false, .nils, .int .i64 0]]⟩), (224, ⟨0, true, false, 10, [[.psl 1 (List.map (encSl 4 TApiEntry.enc) o62.1), .psl 1 (List.map (encInt .i64) o62.2.1), .psl 2 (List.map TApiLsKey.enc o62.2.2.1), .psl 1 (List.map (encInt .i64) o62.2.2.2.1), .int .i64 o62.2.2.2.2.1, .bool o62.2.2.2.2.2.1, .str o62.2.2.2.2.2.2.1, .bool o62.2.2.2.2.2.2.2.1, .sl 256 g63 4 0 o62.2.2.2.2.2.2.2.2.2.length, .int .i64 o62.2.2.2.2.2.2.2.2.1]]⟩), (256, ⟨g63, true, true, 4, List.map TApiEntry.enc o62.2.2.2.2.2.2.2.2.2⟩), (312, ⟨0, false, true, 1, List.map (encInt .i64) vs1.Merge.At⟩)], 400, []⟩) ?_ ?_
    ·
     intro s' hs
     obtain ⟨o62, g63, rfl, hn, hs⟩ := hs
     refine kn_then ?_
     refine awp_re [] hn hs ?_
     refine awp_sr2 408 [4] (fun _ => none) rfl (fun _ _ => rT) ?_
     refine awp_ret ?_
     refine leave_retK (fun _ _ => rT) ?_
     refine awpo_re (s2 := ⟨[(4, .ref 8 0 0 0), (5, .int .i64 (if vr3.1 < n2 then vr3.1 else n2)), (8, .ref 224 0 0 0), (47, .int .i64 (if vr3.1 < n2 then vr3.1 else n2)), (48, .fn 51 [.ref 224 0 0 0] []), (49, .int .i64 0)], [(0, ⟨0, true, true, 10, [[.psl 1 (List.map (encSl 4 TApiEntry.enc) vs1.Merge.Runs), .psl 1 (List.map (encInt .i64) vs1.Merge.At), .psl 2 (List.map TApiLsKey.enc vs1.Merge.Tree.Keys), .psl 1 (List.map (encInt .i64) vs1.Merge.Tree.Lose), .int .i64 vs1.Merge.Tree.Win, .bool vs1.Shadow.Some, .str vs1.Shadow.Last, .bool vs1.Shadow.Bottom, .psl 4 (List.map TApiEntry.enc vs1.Out), .int .i64 vs1.Steps]]⟩), (8, ⟨0, true, true, 10, [[.nils, .nils, .nils, .nils, .int .i64 0, .bool false, .str [], .bool false, .nils, .int .i64 0]]⟩), (224, ⟨0, true, false, 10, [[.psl 1 (List.map (encSl 4 TApiEntry.enc) o62.1), .psl 1 (List.map (encInt .i64) o62.2.1), .psl 2 (List.map TApiLsKey.enc o62.2.2.1), .psl 1 (List.map (encInt .i64) o62.2.2.2.1), .int .i64 o62.2.2.2.2.1, .bool o62.2.2.2.2.2.1, .str o62.2.2.2.2.2.2.1, .bool o62.2.2.2.2.2.2.2.1, .sl 256 g63 4 0 o62.2.2.2.2.2.2.2.2.2.length, .int .i64 o62.2.2.2.2.2.2.2.2.1]]⟩), (256, ⟨g63, true, true, 4, List.map TApiEntry.enc o62.2.2.2.2.2.2.2.2.2⟩), (312, ⟨0, false, true, 1, List.map (encInt .i64) vs1.Merge.At⟩)], 408, []⟩) [] (Nat.le_of_ble_eq_true rfl) ⟨rF, rE, rfl, rfl, trivial, trivial⟩ ?_
     refine awpo_cut (l' := List.range' 3 1 ++ []) rfl ?_
     refine awpo_seg 3 1 416 [] (fun _ => none) rfl rfl rfl (fun _ _ => rT) ?_
     refine awpo_nil ?_
     refine kn_then ?_
     refine awp_re (s2 := ⟨[(4, .ref 8 0 0 0), (5, .int .i64 (if vr3.1 < n2 then vr3.1 else n2)), (8, .ref 224 0 0 0), (9, .int .i64 0)], [(0, ⟨0, true, true, 10, [[.psl 1 (List.map (encSl 4 TApiEntry.enc) vs1.Merge.Runs), .psl 1 (List.map (encInt .i64) vs1.Merge.At), .psl 2 (List.map TApiLsKey.enc vs1.Merge.Tree.Keys), .psl 1 (List.map (encInt .i64) vs1.Merge.Tree.Lose), .int .i64 vs1.Merge.Tree.Win, .bool vs1.Shadow.Some, .str vs1.Shadow.Last, .bool vs1.Shadow.Bottom, .psl 4 (List.map TApiEntry.enc vs1.Out), .int .i64 vs1.Steps]]⟩), (8, ⟨0, true, true, 10, [[.nils, .nils, .nils, .nils, .int .i64 0, .bool false, .str [], .bool false, .nils, .int .i64 0]]⟩), (224, ⟨0, true, false, 10, [[.psl 1 (List.map (encSl 4 TApiEntry.enc) o62.1), .psl 1 (List.map (encInt .i64) o62.2.1), .psl 2 (List.map TApiLsKey.enc o62.2.2.1), .psl 1 (List.map (encInt .i64) o62.2.2.2.1), .int .i64 o62.2.2.2.2.1, .bool o62.2.2.2.2.2.1, .str o62.2.2.2.2.2.2.1, .bool o62.2.2.2.2.2.2.2.1, .sl 256 g63 4 0 o62.2.2.2.2.2.2.2.2.2.length, .int .i64 o62.2.2.2.2.2.2.2.2.1]]⟩), (256, ⟨g63, true, true, 4, List.map TApiEntry.enc o62.2.2.2.2.2.2.2.2.2⟩), (312, ⟨0, false, true, 1, List.map (encInt .i64) vs1.Merge.At⟩)], 416, []⟩) [] (Nat.le_of_ble_eq_true rfl) ⟨rF, rE, rfl, rfl, trivial, trivial⟩ ?_
     refine awp_sr2 432 [4, 5, 8, 9, 51] (fun _ => none) rfl (fun _ _ => rT) ?_
     refine awp_condF rfl ?_
     refine awp_skip ?_
     refine kn_then ?_
     refine awp_sr2 480 [4, 5, 6] (fun _ => none) rfl (fun _ _ => rT) ?_
     refine awp_ret ?_
     obtain rfl := Option.some.inj h0
     refine leave_retG [] ?_
     exact rG
    ·
     refine awp_loopF (ι := { p : Nat × Int × List (List TApiEntry) × List Int × List TApiLsKey × List Int × Int × Bool × List UInt8 × Bool × Int × List TApiEntry × Nat // slices_Step_l1 vr3 n2 p.1 p.2.1 p.2.2.1 p.2.2.2.1 p.2.2.2.2.1 p.2.2.2.2.2.1 p.2.2.2.2.2.2.1 p.2.2.2.2.2.2.2.1 p.2.2.2.2.2.2.2.2.1 p.2.2.2.2.2.2.2.2.2.1 p.2.2.2.2.2.2.2.2.2.2.1 p.2.2.2.2.2.2.2.2.2.2.2.1 = some x42 }) (fun p => ⟨[(1, .fn 51 [.ref 224 0 0 0] []), (6, .int .i64 (if vr3.1 < n2 then vr3.1 else n2)), (7, .int .i64 p.1.2.1)], [(0, ⟨0, true, true, 10, [[.psl 1 (List.map (encSl 4 TApiEntry.enc) vs1.Merge.Runs), .psl 1 (List.map (encInt .i64) vs1.Merge.At), .psl 2 (List.map TApiLsKey.enc vs1.Merge.Tree.Keys), .psl 1 (List.map (encInt .i64) vs1.Merge.Tree.Lose), .int .i64 vs1.Merge.Tree.Win, .bool vs1.Shadow.Some, .str vs1.Shadow.Last, .bool vs1.Shadow.Bottom, .psl 4 (List.map TApiEntry.enc vs1.Out), .int .i64 vs1.Steps]]⟩), (8, ⟨0, true, true, 10, [[.nils, .nils, .nils, .nils, .int .i64 0, .bool false, .str [], .bool false, .nils, .int .i64 0]]⟩), (224, ⟨0, true, false, 10, [[.psl 1 (List.map (encSl 4 TApiEntry.enc) p.1.2.2.1), .psl 1 (List.map (encInt .i64) p.1.2.2.2.1), .psl 2 (List.map TApiLsKey.enc p.1.2.2.2.2.1), .psl 1 (List.map (encInt .i64) p.1.2.2.2.2.2.1), .int .i64 p.1.2.2.2.2.2.2.1, .bool p.1.2.2.2.2.2.2.2.1, .str p.1.2.2.2.2.2.2.2.2.1, .bool p.1.2.2.2.2.2.2.2.2.2.1, .sl 256 p.1.2.2.2.2.2.2.2.2.2.2.2.2 4 0 p.1.2.2.2.2.2.2.2.2.2.2.2.1.length, .int .i64 p.1.2.2.2.2.2.2.2.2.2.2.1]]⟩), (256, ⟨p.1.2.2.2.2.2.2.2.2.2.2.2.2, true, true, 4, List.map TApiEntry.enc p.1.2.2.2.2.2.2.2.2.2.2.2.1⟩), (312, ⟨0, false, true, 1, List.map (encInt .i64) vs1.Merge.At⟩)], 392, []⟩) (fun p => p.1.1) ⟨(fu, 0, vs1.Merge.Runs, vs1.Merge.At, vs1.Merge.Tree.Keys, vs1.Merge.Tree.Lose, vs1.Merge.Tree.Win, vs1.Shadow.Some, vs1.Shadow.Last, vs1.Shadow.Bottom, vs1.Steps, vs1.Out, 0), hxx42⟩ ⟨rF, rE, rfl, rfl, trivial, trivial⟩ (fun _ => Nat.le_refl _) ?_
     rintro ⟨⟨fu, left43, v44, v45, v46, v47, v48, v49, v50, v51, v52, v53, g54⟩, h1⟩
     cases fu with
     | zero =>
   replace h1 : slices_Step_l1 vr3 n2 0 left43 v44 v45 v46 v47 v48 v49 v50 v51 v52 v53 = some x42 := h1
   rw [slices_Step_l1] at h1; cases h1
     | succ fu =>
      replace h1 : slices_Step_l1 vr3 n2 (fu + 1) left43 v44 v45 v46 v47 v48 v49 v50 v51 v52 v53 = some x42 := h1
      rw [slices_Step_l1] at h1
      refine (show AWP _ _ _ _ ⟨[(1, .fn 51 [.ref 224 0 0 0] []), (6, .int .i64 (if vr3.1 < n2 then vr3.1 else n2)), (7, .int .i64 left43)], [(0, ⟨0, true, true, 10, [[.psl 1 (List.map (encSl 4 TApiEntry.enc) vs1.Merge.Runs), .psl 1 (List.map (encInt .i64) vs1.Merge.At), .psl 2 (List.map TApiLsKey.enc vs1.Merge.Tree.Keys), .psl 1 (List.map (encInt .i64) vs1.Merge.Tree.Lose), .int .i64 vs1.Merge.Tree.Win, .bool vs1.Shadow.Some, .str vs1.Shadow.Last, .bool vs1.Shadow.Bottom, .psl 4 (List.map TApiEntry.enc vs1.Out), .int .i64 vs1.Steps]]⟩), (8, ⟨0, true, true, 10, [[.nils, .nils, .nils, .nils, .int .i64 0, .bool false, .str [], .bool false, .nils, .int .i64 0]]⟩), (224, ⟨0, true, false, 10, [[.psl 1 (List.map (encSl 4 TApiEntry.enc) v44), .psl 1 (List.map (encInt .i64) v45), .psl 2 (List.map TApiLsKey.enc v46), .psl 1 (List.map (encInt .i64) v47), .int .i64 v48, .bool v49, .str v50, .bool v51, .sl 256 g54 4 0 v53.length, .int .i64 v52]]⟩), (256, ⟨g54, true, true, 4, List.map TApiEntry.enc v53⟩), (312, ⟨0, false, true, 1, List.map (encInt .i64) vs1.Merge.At⟩)], 392, []⟩ from ?_)
      refine awp_sr2 400 [1, 6, 7, 8] (fun _ => none) rfl (fun _ _ => rT) ?_
      refine awp_seq ?_
      refine awp_if rfl (fun hb55 => ?_) (fun hb55 => ?_)
      ·
       replace h1 := iteT h1 hb55
       refine awp_skip ?_
       refine kn_then ?_
       refine awp_seq ?_
       refine awp_block ?_
       refine awp_sops2 3 rfl ?_
       refine awpo_cut (l' := List.range' 0 1 ++ (1 :: (List.range' 2 1 ++ []))) rfl ?_
       refine awpo_seg 0 1 408 (1 :: (List.range' 2 1 ++ [])) (fun _ => none) rfl rfl rfl (fun _ _ => rT) ?_
       refine awpo_in rfl rfl rfl rfl rfl Try.func51 rfl (by decide) rfl (Nat.le_of_ble_eq_true rfl) ?_
       dsimp only [Try.f51]
       refine awp_re (s2 := ⟨[(0, .ref 224 0 0 0)], [(0, ⟨0, true, true, 10, [[.psl 1 (List.map (encSl 4 TApiEntry.enc) vs1.Merge.Runs), .psl 1 (List.map (encInt .i64) vs1.Merge.At), .psl 2 (List.map TApiLsKey.enc vs1.Merge.Tree.Keys), .psl 1 (List.map (encInt .i64) vs1.Merge.Tree.Lose), .int .i64 vs1.Merge.Tree.Win, .bool vs1.Shadow.Some, .str vs1.Shadow.Last, .bool vs1.Shadow.Bottom, .psl 4 (List.map TApiEntry.enc vs1.Out), .int .i64 vs1.Steps]]⟩), (8, ⟨0, true, true, 10, [[.nils, .nils, .nils, .nils, .int .i64 0, .bool false, .str [], .bool false, .nils, .int .i64 0]]⟩), (224, ⟨0, true, false, 10, [[.psl 1 (List.map (encSl 4 TApiEntry.enc) v44), .psl 1 (List.map (encInt .i64) v45), .psl 2 (List.map TApiLsKey.enc v46), .psl 1 (List.map (encInt .i64) v47), .int .i64 v48, .bool v49, .str v50, .bool v51, .sl 256 g54 4 0 v53.length, .int .i64 v52]]⟩), (256, ⟨g54, true, true, 4, List.map TApiEntry.enc v53⟩), (312, ⟨0, false, true, 1, List.map (encInt .i64) vs1.Merge.At⟩)], 408, []⟩) [] (Nat.le_of_ble_eq_true rfl) ⟨rF, rE, rfl, rfl, trivial, trivial⟩ ?_
       refine awp_sr2 416 [0] (fun _ => none) rfl (fun _ _ => rT) ?_
       obtain ⟨vr56, hvr56, h1⟩ := bindS h1
       refine awp_sr2 552 [0, 3, 5, 6] (fun | 5 => some (.tup [.agg (TApiEntry.enc vr56.1), .int .i64 vr56.2.1, .agg (TApiMgState.enc vr56.2.2.1), .int .i64 vr56.2.2.2], []) | _ => none) rfl (fun _ _ => rC (c_merge_Next hvr56)) ?_
       refine awp_seq ?_
       refine awp_sr2 568 [0, 3, 5, 6, 21] (fun _ => none) rfl (fun _ _ => rT) ?_
       refine awp_if rfl (fun hb57 => ?_) (fun hb57 => ?_)
       ·
        replace h1 := iteT h1 hb57
        refine awp_sr2 584 [2] (fun _ => none) rfl (fun _ _ => rT) ?_
        refine awp_ret ?_
        refine kr_then ?_
        refine leave_retK (fun _ _ => rT) ?_
        refine awpo_re (s2 := ⟨[(1, .fn 51 [.ref 224 0 0 0] []), (6, .int .i64 (if vr3.1 < n2 then vr3.1 else n2)), (7, .int .i64 left43), (8, .bool (decide (left43 < (if vr3.1 < n2 then vr3.1 else n2)))), (9, .fn 51 [.ref 224 0 0 0] []), (10, .int .i64 vr56.2.2.2)], [(0, ⟨0, true, true, 10, [[.psl 1 (List.map (encSl 4 TApiEntry.enc) vs1.Merge.Runs), .psl 1 (List.map (encInt .i64) vs1.Merge.At), .psl 2 (List.map TApiLsKey.enc vs1.Merge.Tree.Keys), .psl 1 (List.map (encInt .i64) vs1.Merge.Tree.Lose), .int .i64 vs1.Merge.Tree.Win, .bool vs1.Shadow.Some, .str vs1.Shadow.Last, .bool vs1.Shadow.Bottom, .psl 4 (List.map TApiEntry.enc vs1.Out), .int .i64 vs1.Steps]]⟩), (8, ⟨0, true, true, 10, [[.nils, .nils, .nils, .nils, .int .i64 0, .bool false, .str [], .bool false, .nils, .int .i64 0]]⟩), (224, ⟨0, true, false, 10, [[.psl 1 (List.map (encSl 4 TApiEntry.enc) v44), .psl 1 (List.map (encInt .i64) v45), .psl 2 (List.map TApiLsKey.enc v46), .psl 1 (List.map (encInt .i64) v47), .int .i64 v48, .bool v49, .str v50, .bool v51, .sl 256 g54 4 0 v53.length, .int .i64 v52]]⟩), (256, ⟨g54, true, true, 4, List.map TApiEntry.enc v53⟩), (312, ⟨0, false, true, 1, List.map (encInt .i64) vs1.Merge.At⟩)], 584, []⟩) [] (Nat.le_of_ble_eq_true rfl) ⟨rF, rE, rfl, rfl, trivial, trivial⟩ ?_
        refine awpo_cut (l' := List.range' 2 1 ++ []) rfl ?_
        refine awpo_seg 2 1 592 [] (fun _ => none) rfl rfl rfl (fun _ _ => rT) ?_
        refine awpo_nil ?_
        refine kn_then ?_
        refine awp_re (s2 := ⟨[(1, .fn 51 [.ref 224 0 0 0] []), (5, .int .i64 vr56.2.2.2), (6, .int .i64 (if vr3.1 < n2 then vr3.1 else n2)), (7, .int .i64 left43)], [(0, ⟨0, true, true, 10, [[.psl 1 (List.map (encSl 4 TApiEntry.enc) vs1.Merge.Runs), .psl 1 (List.map (encInt .i64) vs1.Merge.At), .psl 2 (List.map TApiLsKey.enc vs1.Merge.Tree.Keys), .psl 1 (List.map (encInt .i64) vs1.Merge.Tree.Lose), .int .i64 vs1.Merge.Tree.Win, .bool vs1.Shadow.Some, .str vs1.Shadow.Last, .bool vs1.Shadow.Bottom, .psl 4 (List.map TApiEntry.enc vs1.Out), .int .i64 vs1.Steps]]⟩), (8, ⟨0, true, true, 10, [[.nils, .nils, .nils, .nils, .int .i64 0, .bool false, .str [], .bool false, .nils, .int .i64 0]]⟩), (224, ⟨0, true, false, 10, [[.psl 1 (List.map (encSl 4 TApiEntry.enc) v44), .psl 1 (List.map (encInt .i64) v45), .psl 2 (List.map TApiLsKey.enc v46), .psl 1 (List.map (encInt .i64) v47), .int .i64 v48, .bool v49, .str v50, .bool v51, .sl 256 g54 4 0 v53.length, .int .i64 v52]]⟩), (256, ⟨g54, true, true, 4, List.map TApiEntry.enc v53⟩), (312, ⟨0, false, true, 1, List.map (encInt .i64) vs1.Merge.At⟩)], 592, []⟩) [] (Nat.le_of_ble_eq_true rfl) ⟨rF, rE, rfl, rfl, trivial, trivial⟩ ?_
        refine awp_sr2 608 [1, 5, 6, 7, 12] (fun _ => none) rfl (fun _ _ => rT) ?_
        refine awp_condKT rfl hb57 ?_
        refine awp_sr2 624 [4] (fun _ => none) rfl (fun _ _ => rT) ?_
        refine awp_ret ?_
        obtain rfl := Option.some.inj h1
        refine kr_block ?_
        refine kr_then ?_
        refine kr_then ?_
        refine kr_loop ?_
        refine kr_then ?_
        refine leave_retK (fun _ _ => rT) ?_
        refine awpo_re (s2 := ⟨[(4, .ref 8 0 0 0), (5, .int .i64 (if vr3.1 < n2 then vr3.1 else n2)), (8, .ref 224 0 0 0), (47, .int .i64 (if vr3.1 < n2 then vr3.1 else n2)), (48, .fn 51 [.ref 224 0 0 0] []), (49, .int .i64 vr56.2.2.2)], [(0, ⟨0, true, true, 10, [[.psl 1 (List.map (encSl 4 TApiEntry.enc) vs1.Merge.Runs), .psl 1 (List.map (encInt .i64) vs1.Merge.At), .psl 2 (List.map TApiLsKey.enc vs1.Merge.Tree.Keys), .psl 1 (List.map (encInt .i64) vs1.Merge.Tree.Lose), .int .i64 vs1.Merge.Tree.Win, .bool vs1.Shadow.Some, .str vs1.Shadow.Last, .bool vs1.Shadow.Bottom, .psl 4 (List.map TApiEntry.enc vs1.Out), .int .i64 vs1.Steps]]⟩), (8, ⟨0, true, true, 10, [[.nils, .nils, .nils, .nils, .int .i64 0, .bool false, .str [], .bool false, .nils, .int .i64 0]]⟩), (224, ⟨0, true, false, 10, [[.psl 1 (List.map (encSl 4 TApiEntry.enc) v44), .psl 1 (List.map (encInt .i64) v45), .psl 2 (List.map TApiLsKey.enc v46), .psl 1 (List.map (encInt .i64) v47), .int .i64 v48, .bool v49, .str v50, .bool v51, .sl 256 g54 4 0 v53.length, .int .i64 v52]]⟩), (256, ⟨g54, true, true, 4, List.map TApiEntry.enc v53⟩), (312, ⟨0, false, true, 1, List.map (encInt .i64) vs1.Merge.At⟩)], 624, []⟩) [] (Nat.le_of_ble_eq_true rfl) ⟨rF, rE, rfl, rfl, trivial, trivial⟩ ?_
        refine awpo_cut (l' := List.range' 3 1 ++ []) rfl ?_
        refine awpo_seg 3 1 632 [] (fun _ => none) rfl rfl rfl (fun _ _ => rT) ?_
        refine awpo_nil ?_
        refine kn_then ?_
        refine awp_re (s2 := ⟨[(4, .ref 8 0 0 0), (5, .int .i64 (if vr3.1 < n2 then vr3.1 else n2)), (8, .ref 224 0 0 0), (9, .int .i64 vr56.2.2.2)], [(0, ⟨0, true, true, 10, [[.psl 1 (List.map (encSl 4 TApiEntry.enc) vs1.Merge.Runs), .psl 1 (List.map (encInt .i64) vs1.Merge.At), .psl 2 (List.map TApiLsKey.enc vs1.Merge.Tree.Keys), .psl 1 (List.map (encInt .i64) vs1.Merge.Tree.Lose), .int .i64 vs1.Merge.Tree.Win, .bool vs1.Shadow.Some, .str vs1.Shadow.Last, .bool vs1.Shadow.Bottom, .psl 4 (List.map TApiEntry.enc vs1.Out), .int .i64 vs1.Steps]]⟩), (8, ⟨0, true, true, 10, [[.nils, .nils, .nils, .nils, .int .i64 0, .bool false, .str [], .bool false, .nils, .int .i64 0]]⟩), (224, ⟨0, true, false, 10, [[.psl 1 (List.map (encSl 4 TApiEntry.enc) v44), .psl 1 (List.map (encInt .i64) v45), .psl 2 (List.map TApiLsKey.enc v46), .psl 1 (List.map (encInt .i64) v47), .int .i64 v48, .bool v49, .str v50, .bool v51, .sl 256 g54 4 0 v53.length, .int .i64 v52]]⟩), (256, ⟨g54, true, true, 4, List.map TApiEntry.enc v53⟩), (312, ⟨0, false, true, 1, List.map (encInt .i64) vs1.Merge.At⟩)], 632, []⟩) [] (Nat.le_of_ble_eq_true rfl) ⟨rF, rE, rfl, rfl, trivial, trivial⟩ ?_
        refine awp_sr2 648 [4, 5, 8, 9, 51] (fun _ => none) rfl (fun _ _ => rT) ?_
        refine awp_condKT rfl hb57 ?_
        refine awp_sr2 688 [4, 5, 6] (fun _ => none) rfl (fun _ _ => rT) ?_
        refine awp_ret ?_
        refine kr_then ?_
        obtain rfl := Option.some.inj h0
        refine leave_retG [] ?_
        exact rG
       ·
        replace h1 := iteF h1 hb57
        refine awp_skip ?_
        refine kn_then ?_
        obtain ⟨vr58, hvr58, h1⟩ := bindS h1
        refine awp_sd2 688 [0, 3, 5, 6, 7, 8] (fun | 6 => some (.tup [.bool vr58.1, .agg (TApiShState.enc vr58.2.1), .int .i64 vr58.2.2], []) | _ => none) rfl rfl rfl (fun _ _ => rCd (c_shadow_Step hvr58)) ?_
        refine awp_seq ?_
        refine awp_sr2 704 [0, 3, 5, 6, 7, 8, 35] (fun _ => none) rfl (fun _ _ => rT) ?_
        refine awp_if rfl (fun hb59 => ?_) (fun hb59 => ?_)
        ·
         replace h1 := iteT h1 hb59
         refine awp_sr2 720 [2] (fun _ => none) rfl (fun _ _ => rT) ?_
         refine awp_ret ?_
         refine kr_then ?_
         refine leave_retK (fun _ _ => rT) ?_
         refine awpo_re (s2 := ⟨[(1, .fn 51 [.ref 224 0 0 0] []), (6, .int .i64 (if vr3.1 < n2 then vr3.1 else n2)), (7, .int .i64 left43), (8, .bool (decide (left43 < (if vr3.1 < n2 then vr3.1 else n2)))), (9, .fn 51 [.ref 224 0 0 0] []), (10, .int .i64 vr58.2.2)], [(0, ⟨0, true, true, 10, [[.psl 1 (List.map (encSl 4 TApiEntry.enc) vs1.Merge.Runs), .psl 1 (List.map (encInt .i64) vs1.Merge.At), .psl 2 (List.map TApiLsKey.enc vs1.Merge.Tree.Keys), .psl 1 (List.map (encInt .i64) vs1.Merge.Tree.Lose), .int .i64 vs1.Merge.Tree.Win, .bool vs1.Shadow.Some, .str vs1.Shadow.Last, .bool vs1.Shadow.Bottom, .psl 4 (List.map TApiEntry.enc vs1.Out), .int .i64 vs1.Steps]]⟩), (8, ⟨0, true, true, 10, [[.nils, .nils, .nils, .nils, .int .i64 0, .bool false, .str [], .bool false, .nils, .int .i64 0]]⟩), (224, ⟨0, true, false, 10, [[.psl 1 (List.map (encSl 4 TApiEntry.enc) v44), .psl 1 (List.map (encInt .i64) v45), .psl 2 (List.map TApiLsKey.enc v46), .psl 1 (List.map (encInt .i64) v47), .int .i64 v48, .bool v49, .str v50, .bool v51, .sl 256 g54 4 0 v53.length, .int .i64 v52]]⟩), (256, ⟨g54, true, true, 4, List.map TApiEntry.enc v53⟩), (312, ⟨0, false, true, 1, List.map (encInt .i64) vs1.Merge.At⟩)], 720, []⟩) [] (Nat.le_of_ble_eq_true rfl) ⟨rF, rE, rfl, rfl, trivial, trivial⟩ ?_
         refine awpo_cut (l' := List.range' 2 1 ++ []) rfl ?_
         refine awpo_seg 2 1 728 [] (fun _ => none) rfl rfl rfl (fun _ _ => rT) ?_
         refine awpo_nil ?_
         refine kn_then ?_
         refine awp_re (s2 := ⟨[(1, .fn 51 [.ref 224 0 0 0] []), (5, .int .i64 vr58.2.2), (6, .int .i64 (if vr3.1 < n2 then vr3.1 else n2)), (7, .int .i64 left43)], [(0, ⟨0, true, true, 10, [[.psl 1 (List.map (encSl 4 TApiEntry.enc) vs1.Merge.Runs), .psl 1 (List.map (encInt .i64) vs1.Merge.At), .psl 2 (List.map TApiLsKey.enc vs1.Merge.Tree.Keys), .psl 1 (List.map (encInt .i64) vs1.Merge.Tree.Lose), .int .i64 vs1.Merge.Tree.Win, .bool vs1.Shadow.Some, .str vs1.Shadow.Last, .bool vs1.Shadow.Bottom, .psl 4 (List.map TApiEntry.enc vs1.Out), .int .i64 vs1.Steps]]⟩), (8, ⟨0, true, true, 10, [[.nils, .nils, .nils, .nils, .int .i64 0, .bool false, .str [], .bool false, .nils, .int .i64 0]]⟩), (224, ⟨0, true, false, 10, [[.psl 1 (List.map (encSl 4 TApiEntry.enc) v44), .psl 1 (List.map (encInt .i64) v45), .psl 2 (List.map TApiLsKey.enc v46), .psl 1 (List.map (encInt .i64) v47), .int .i64 v48, .bool v49, .str v50, .bool v51, .sl 256 g54 4 0 v53.length, .int .i64 v52]]⟩), (256, ⟨g54, true, true, 4, List.map TApiEntry.enc v53⟩), (312, ⟨0, false, true, 1, List.map (encInt .i64) vs1.Merge.At⟩)], 728, []⟩) [] (Nat.le_of_ble_eq_true rfl) ⟨rF, rE, rfl, rfl, trivial, trivial⟩ ?_
         refine awp_sr2 744 [1, 5, 6, 7, 12] (fun _ => none) rfl (fun _ _ => rT) ?_
         refine awp_condKT rfl hb59 ?_
         refine awp_sr2 760 [4] (fun _ => none) rfl (fun _ _ => rT) ?_
         refine awp_ret ?_
         obtain rfl := Option.some.inj h1
         refine kr_block ?_
         refine kr_then ?_
         refine kr_then ?_
         refine kr_loop ?_
         refine kr_then ?_
         refine leave_retK (fun _ _ => rT) ?_
         refine awpo_re (s2 := ⟨[(4, .ref 8 0 0 0), (5, .int .i64 (if vr3.1 < n2 then vr3.1 else n2)), (8, .ref 224 0 0 0), (47, .int .i64 (if vr3.1 < n2 then vr3.1 else n2)), (48, .fn 51 [.ref 224 0 0 0] []), (49, .int .i64 vr58.2.2)], [(0, ⟨0, true, true, 10, [[.psl 1 (List.map (encSl 4 TApiEntry.enc) vs1.Merge.Runs), .psl 1 (List.map (encInt .i64) vs1.Merge.At), .psl 2 (List.map TApiLsKey.enc vs1.Merge.Tree.Keys), .psl 1 (List.map (encInt .i64) vs1.Merge.Tree.Lose), .int .i64 vs1.Merge.Tree.Win, .bool vs1.Shadow.Some, .str vs1.Shadow.Last, .bool vs1.Shadow.Bottom, .psl 4 (List.map TApiEntry.enc vs1.Out), .int .i64 vs1.Steps]]⟩), (8, ⟨0, true, true, 10, [[.nils, .nils, .nils, .nils, .int .i64 0, .bool false, .str [], .bool false, .nils, .int .i64 0]]⟩), (224, ⟨0, true, false, 10, [[.psl 1 (List.map (encSl 4 TApiEntry.enc) v44), .psl 1 (List.map (encInt .i64) v45), .psl 2 (List.map TApiLsKey.enc v46), .psl 1 (List.map (encInt .i64) v47), .int .i64 v48, .bool v49, .str v50, .bool v51, .sl 256 g54 4 0 v53.length, .int .i64 v52]]⟩), (256, ⟨g54, true, true, 4, List.map TApiEntry.enc v53⟩), (312, ⟨0, false, true, 1, List.map (encInt .i64) vs1.Merge.At⟩)], 760, []⟩) [] (Nat.le_of_ble_eq_true rfl) ⟨rF, rE, rfl, rfl, trivial, trivial⟩ ?_
         refine awpo_cut (l' := List.range' 3 1 ++ []) rfl ?_
         refine awpo_seg 3 1 768 [] (fun _ => none) rfl rfl rfl (fun _ _ => rT) ?_
         refine awpo_nil ?_
         refine kn_then ?_
         refine awp_re (s2 := ⟨[(4, .ref 8 0 0 0), (5, .int .i64 (if vr3.1 < n2 then vr3.1 else n2)), (8, .ref 224 0 0 0), (9, .int .i64 vr58.2.2)], [(0, ⟨0, true, true, 10, [[.psl 1 (List.map (encSl 4 TApiEntry.enc) vs1.Merge.Runs), .psl 1 (List.map (encInt .i64) vs1.Merge.At), .psl 2 (List.map TApiLsKey.enc vs1.Merge.Tree.Keys), .psl 1 (List.map (encInt .i64) vs1.Merge.Tree.Lose), .int .i64 vs1.Merge.Tree.Win, .bool vs1.Shadow.Some, .str vs1.Shadow.Last, .bool vs1.Shadow.Bottom, .psl 4 (List.map TApiEntry.enc vs1.Out), .int .i64 vs1.Steps]]⟩), (8, ⟨0, true, true, 10, [[.nils, .nils, .nils, .nils, .int .i64 0, .bool false, .str [], .bool false, .nils, .int .i64 0]]⟩), (224, ⟨0, true, false, 10, [[.psl 1 (List.map (encSl 4 TApiEntry.enc) v44), .psl 1 (List.map (encInt .i64) v45), .psl 2 (List.map TApiLsKey.enc v46), .psl 1 (List.map (encInt .i64) v47), .int .i64 v48, .bool v49, .str v50, .bool v51, .sl 256 g54 4 0 v53.length, .int .i64 v52]]⟩), (256, ⟨g54, true, true, 4, List.map TApiEntry.enc v53⟩), (312, ⟨0, false, true, 1, List.map (encInt .i64) vs1.Merge.At⟩)], 768, []⟩) [] (Nat.le_of_ble_eq_true rfl) ⟨rF, rE, rfl, rfl, trivial, trivial⟩ ?_
         refine awp_sr2 784 [4, 5, 8, 9, 51] (fun _ => none) rfl (fun _ _ => rT) ?_
         refine awp_condKT rfl hb59 ?_
         refine awp_sr2 824 [4, 5, 6] (fun _ => none) rfl (fun _ _ => rT) ?_
         refine awp_ret ?_
         refine kr_then ?_
         obtain rfl := Option.some.inj h0
         refine leave_retG [] ?_
         exact rG
        ·
         replace h1 := iteF h1 hb59
         refine awp_skip ?_
         refine kn_then ?_
         refine awp_sd2 800 [0, 3, 7] (fun _ => none) rfl rfl rfl (fun _ _ => rTd) ?_
         refine awp_sr2 880 [0, 3, 7] (fun _ => none) rfl (fun _ _ => rT) ?_
         refine awp_seq ?_
         refine awp_sr2 888 [0, 3, 56] (fun _ => none) rfl (fun _ _ => rT) ?_
         refine awp_if rfl (fun hb60 => ?_) (fun hb60 => ?_)
         ·
          replace h1 := iteT h1 hb60
          obtain ⟨hc61, h1⟩ := guS h1
          refine awp_d2 992 [] (fun _ => none) rfl rfl rfl (fun _ _ => rTd) ?_
          refine kn_then ?_
          refine awp_re (s2 := ⟨[], [(0, ⟨0, true, true, 10, [[.psl 1 (List.map (encSl 4 TApiEntry.enc) vs1.Merge.Runs), .psl 1 (List.map (encInt .i64) vs1.Merge.At), .psl 2 (List.map TApiLsKey.enc vs1.Merge.Tree.Keys), .psl 1 (List.map (encInt .i64) vs1.Merge.Tree.Lose), .int .i64 vs1.Merge.Tree.Win, .bool vs1.Shadow.Some, .str vs1.Shadow.Last, .bool vs1.Shadow.Bottom, .psl 4 (List.map TApiEntry.enc vs1.Out), .int .i64 vs1.Steps]]⟩), (8, ⟨0, true, true, 10, [[.nils, .nils, .nils, .nils, .int .i64 0, .bool false, .str [], .bool false, .nils, .int .i64 0]]⟩), (224, ⟨0, true, false, 10, [[.psl 1 (List.map (encSl 4 TApiEntry.enc) vr56.2.2.1.Runs), .psl 1 (List.map (encInt .i64) vr56.2.2.1.At), .psl 2 (List.map TApiLsKey.enc vr56.2.2.1.Tree.Keys), .psl 1 (List.map (encInt .i64) vr56.2.2.1.Tree.Lose), .int .i64 vr56.2.2.1.Tree.Win, .bool vr58.2.1.Some, .str vr58.2.1.Last, .bool vr58.2.1.Bottom, .sl 256 (g54 + 1) 4 0 ((v53 ++ [vr56.1]).length), .int .i64 (IntKind.i64.wrap (v52 + 1))]]⟩), (256, ⟨(g54 + 1), true, true, 4, List.map TApiEntry.enc (v53 ++ [vr56.1])⟩), (312, ⟨0, false, true, 1, List.map (encInt .i64) vs1.Merge.At⟩), (504, ⟨0, true, true, 4, [[.str vr56.1.Key, .str vr56.1.Val, .bool vr56.1.Dead, .int .i64 vr56.1.Seq]]⟩), (512, ⟨0, true, true, 5, [[.psl 1 (List.map (encSl 4 TApiEntry.enc) vr56.2.2.1.Runs), .psl 1 (List.map (encInt .i64) vr56.2.2.1.At), .psl 2 (List.map TApiLsKey.enc vr56.2.2.1.Tree.Keys), .psl 1 (List.map (encInt .i64) vr56.2.2.1.Tree.Lose), .int .i64 vr56.2.2.1.Tree.Win]]⟩), (656, ⟨0, true, true, 3, [[.bool vr58.2.1.Some, .str vr58.2.1.Last, .bool vr58.2.1.Bottom]]⟩), (944, ⟨0, true, true, 4, List.map TApiEntry.enc [vr56.1]⟩)], 992, []⟩) [] (Nat.le_of_ble_eq_true rfl) ⟨rF, rE, rfl, rfl, trivial, trivial⟩ ?_
          refine awp_sr2 1000 [2] (fun _ => none) rfl (fun _ _ => rT) ?_
          refine awp_ret ?_
          refine leave_retK (fun _ _ => rT) ?_
          refine awpo_re (s2 := ⟨[(1, .fn 51 [.ref 224 0 0 0] []), (6, .int .i64 (if vr3.1 < n2 then vr3.1 else n2)), (7, .int .i64 left43), (8, .bool (decide (left43 < (if vr3.1 < n2 then vr3.1 else n2)))), (9, .fn 51 [.ref 224 0 0 0] []), (10, .int .i64 0)], [(0, ⟨0, true, true, 10, [[.psl 1 (List.map (encSl 4 TApiEntry.enc) vs1.Merge.Runs), .psl 1 (List.map (encInt .i64) vs1.Merge.At), .psl 2 (List.map TApiLsKey.enc vs1.Merge.Tree.Keys), .psl 1 (List.map (encInt .i64) vs1.Merge.Tree.Lose), .int .i64 vs1.Merge.Tree.Win, .bool vs1.Shadow.Some, .str vs1.Shadow.Last, .bool vs1.Shadow.Bottom, .psl 4 (List.map TApiEntry.enc vs1.Out), .int .i64 vs1.Steps]]⟩), (8, ⟨0, true, true, 10, [[.nils, .nils, .nils, .nils, .int .i64 0, .bool false, .str [], .bool false, .nils, .int .i64 0]]⟩), (224, ⟨0, true, false, 10, [[.psl 1 (List.map (encSl 4 TApiEntry.enc) vr56.2.2.1.Runs), .psl 1 (List.map (encInt .i64) vr56.2.2.1.At), .psl 2 (List.map TApiLsKey.enc vr56.2.2.1.Tree.Keys), .psl 1 (List.map (encInt .i64) vr56.2.2.1.Tree.Lose), .int .i64 vr56.2.2.1.Tree.Win, .bool vr58.2.1.Some, .str vr58.2.1.Last, .bool vr58.2.1.Bottom, .sl 256 (g54 + 1) 4 0 ((v53 ++ [vr56.1]).length), .int .i64 (IntKind.i64.wrap (v52 + 1))]]⟩), (256, ⟨(g54 + 1), true, true, 4, List.map TApiEntry.enc (v53 ++ [vr56.1])⟩), (312, ⟨0, false, true, 1, List.map (encInt .i64) vs1.Merge.At⟩)], 1000, []⟩) [] (Nat.le_of_ble_eq_true rfl) ⟨rF, rE, rfl, rfl, trivial, trivial⟩ ?_
          refine awpo_cut (l' := List.range' 2 1 ++ []) rfl ?_
          refine awpo_seg 2 1 1008 [] (fun _ => none) rfl rfl rfl (fun _ _ => rT) ?_
          refine awpo_nil ?_
          refine kn_then ?_
          refine awp_re (s2 := ⟨[(1, .fn 51 [.ref 224 0 0 0] []), (5, .int .i64 0), (6, .int .i64 (if vr3.1 < n2 then vr3.1 else n2)), (7, .int .i64 left43)], [(0, ⟨0, true, true, 10, [[.psl 1 (List.map (encSl 4 TApiEntry.enc) vs1.Merge.Runs), .psl 1 (List.map (encInt .i64) vs1.Merge.At), .psl 2 (List.map TApiLsKey.enc vs1.Merge.Tree.Keys), .psl 1 (List.map (encInt .i64) vs1.Merge.Tree.Lose), .int .i64 vs1.Merge.Tree.Win, .bool vs1.Shadow.Some, .str vs1.Shadow.Last, .bool vs1.Shadow.Bottom, .psl 4 (List.map TApiEntry.enc vs1.Out), .int .i64 vs1.Steps]]⟩), (8, ⟨0, true, true, 10, [[.nils, .nils, .nils, .nils, .int .i64 0, .bool false, .str [], .bool false, .nils, .int .i64 0]]⟩), (224, ⟨0, true, false, 10, [[.psl 1 (List.map (encSl 4 TApiEntry.enc) vr56.2.2.1.Runs), .psl 1 (List.map (encInt .i64) vr56.2.2.1.At), .psl 2 (List.map TApiLsKey.enc vr56.2.2.1.Tree.Keys), .psl 1 (List.map (encInt .i64) vr56.2.2.1.Tree.Lose), .int .i64 vr56.2.2.1.Tree.Win, .bool vr58.2.1.Some, .str vr58.2.1.Last, .bool vr58.2.1.Bottom, .sl 256 (g54 + 1) 4 0 ((v53 ++ [vr56.1]).length), .int .i64 (IntKind.i64.wrap (v52 + 1))]]⟩), (256, ⟨(g54 + 1), true, true, 4, List.map TApiEntry.enc (v53 ++ [vr56.1])⟩), (312, ⟨0, false, true, 1, List.map (encInt .i64) vs1.Merge.At⟩)], 1008, []⟩) [] (Nat.le_of_ble_eq_true rfl) ⟨rF, rE, rfl, rfl, trivial, trivial⟩ ?_
          refine awp_sr2 1024 [1, 5, 6, 7, 12] (fun _ => none) rfl (fun _ _ => rT) ?_
          refine awp_condF rfl ?_
          refine awp_skip ?_
          refine kn_block ?_
          refine kn_then ?_
          refine awp_r2 1040 [1, 6, 7] (fun _ => none) rfl (fun _ _ => rT) ?_
          refine kn_then ?_
          exact ⟨⟨(fu, (IntKind.i64.wrap (left43 + 1)), vr56.2.2.1.Runs, vr56.2.2.1.At, vr56.2.2.1.Tree.Keys, vr56.2.2.1.Tree.Lose, vr56.2.2.1.Tree.Win, vr58.2.1.Some, vr58.2.1.Last, vr58.2.1.Bottom, (IntKind.i64.wrap (v52 + 1)), (v53 ++ [vr56.1]), (g54 + 1)), h1⟩, ⟨rF, rE, rfl, rfl, trivial, trivial⟩, Nat.lt_succ_self _⟩
         ·
          replace h1 := iteF h1 hb60
          refine awp_skip ?_
          refine kn_then ?_
          refine awp_sr2 896 [2] (fun _ => none) rfl (fun _ _ => rT) ?_
          refine awp_ret ?_
          refine leave_retK (fun _ _ => rT) ?_
          refine awpo_re (s2 := ⟨[(1, .fn 51 [.ref 224 0 0 0] []), (6, .int .i64 (if vr3.1 < n2 then vr3.1 else n2)), (7, .int .i64 left43), (8, .bool (decide (left43 < (if vr3.1 < n2 then vr3.1 else n2)))), (9, .fn 51 [.ref 224 0 0 0] []), (10, .int .i64 0)], [(0, ⟨0, true, true, 10, [[.psl 1 (List.map (encSl 4 TApiEntry.enc) vs1.Merge.Runs), .psl 1 (List.map (encInt .i64) vs1.Merge.At), .psl 2 (List.map TApiLsKey.enc vs1.Merge.Tree.Keys), .psl 1 (List.map (encInt .i64) vs1.Merge.Tree.Lose), .int .i64 vs1.Merge.Tree.Win, .bool vs1.Shadow.Some, .str vs1.Shadow.Last, .bool vs1.Shadow.Bottom, .psl 4 (List.map TApiEntry.enc vs1.Out), .int .i64 vs1.Steps]]⟩), (8, ⟨0, true, true, 10, [[.nils, .nils, .nils, .nils, .int .i64 0, .bool false, .str [], .bool false, .nils, .int .i64 0]]⟩), (224, ⟨0, true, false, 10, [[.psl 1 (List.map (encSl 4 TApiEntry.enc) vr56.2.2.1.Runs), .psl 1 (List.map (encInt .i64) vr56.2.2.1.At), .psl 2 (List.map TApiLsKey.enc vr56.2.2.1.Tree.Keys), .psl 1 (List.map (encInt .i64) vr56.2.2.1.Tree.Lose), .int .i64 vr56.2.2.1.Tree.Win, .bool vr58.2.1.Some, .str vr58.2.1.Last, .bool vr58.2.1.Bottom, .sl 256 g54 4 0 v53.length, .int .i64 (IntKind.i64.wrap (v52 + 1))]]⟩), (256, ⟨g54, true, true, 4, List.map TApiEntry.enc v53⟩), (312, ⟨0, false, true, 1, List.map (encInt .i64) vs1.Merge.At⟩)], 896, []⟩) [] (Nat.le_of_ble_eq_true rfl) ⟨rF, rE, rfl, rfl, trivial, trivial⟩ ?_
          refine awpo_cut (l' := List.range' 2 1 ++ []) rfl ?_
          refine awpo_seg 2 1 904 [] (fun _ => none) rfl rfl rfl (fun _ _ => rT) ?_
          refine awpo_nil ?_
          refine kn_then ?_
          refine awp_re (s2 := ⟨[(1, .fn 51 [.ref 224 0 0 0] []), (5, .int .i64 0), (6, .int .i64 (if vr3.1 < n2 then vr3.1 else n2)), (7, .int .i64 left43)], [(0, ⟨0, true, true, 10, [[.psl 1 (List.map (encSl 4 TApiEntry.enc) vs1.Merge.Runs), .psl 1 (List.map (encInt .i64) vs1.Merge.At), .psl 2 (List.map TApiLsKey.enc vs1.Merge.Tree.Keys), .psl 1 (List.map (encInt .i64) vs1.Merge.Tree.Lose), .int .i64 vs1.Merge.Tree.Win, .bool vs1.Shadow.Some, .str vs1.Shadow.Last, .bool vs1.Shadow.Bottom, .psl 4 (List.map TApiEntry.enc vs1.Out), .int .i64 vs1.Steps]]⟩), (8, ⟨0, true, true, 10, [[.nils, .nils, .nils, .nils, .int .i64 0, .bool false, .str [], .bool false, .nils, .int .i64 0]]⟩), (224, ⟨0, true, false, 10, [[.psl 1 (List.map (encSl 4 TApiEntry.enc) vr56.2.2.1.Runs), .psl 1 (List.map (encInt .i64) vr56.2.2.1.At), .psl 2 (List.map TApiLsKey.enc vr56.2.2.1.Tree.Keys), .psl 1 (List.map (encInt .i64) vr56.2.2.1.Tree.Lose), .int .i64 vr56.2.2.1.Tree.Win, .bool vr58.2.1.Some, .str vr58.2.1.Last, .bool vr58.2.1.Bottom, .sl 256 g54 4 0 v53.length, .int .i64 (IntKind.i64.wrap (v52 + 1))]]⟩), (256, ⟨g54, true, true, 4, List.map TApiEntry.enc v53⟩), (312, ⟨0, false, true, 1, List.map (encInt .i64) vs1.Merge.At⟩)], 904, []⟩) [] (Nat.le_of_ble_eq_true rfl) ⟨rF, rE, rfl, rfl, trivial, trivial⟩ ?_
          refine awp_sr2 920 [1, 5, 6, 7, 12] (fun _ => none) rfl (fun _ _ => rT) ?_
          refine awp_condF rfl ?_
          refine awp_skip ?_
          refine kn_block ?_
          refine kn_then ?_
          refine awp_r2 936 [1, 6, 7] (fun _ => none) rfl (fun _ _ => rT) ?_
          refine kn_then ?_
          exact ⟨⟨(fu, (IntKind.i64.wrap (left43 + 1)), vr56.2.2.1.Runs, vr56.2.2.1.At, vr56.2.2.1.Tree.Keys, vr56.2.2.1.Tree.Lose, vr56.2.2.1.Tree.Win, vr58.2.1.Some, vr58.2.1.Last, vr58.2.1.Bottom, (IntKind.i64.wrap (v52 + 1)), v53, g54), h1⟩, ⟨rF, rE, rfl, rfl, trivial, trivial⟩, Nat.lt_succ_self _⟩
      ·
       replace h1 := iteF h1 hb55
       refine awp_exit ?_
       refine kx_then ?_
       refine kx_then ?_
       refine kx_done ?_
       obtain rfl := Option.some.inj h1
       exact ⟨_, g54, rfl, Nat.le_of_ble_eq_true rfl, ⟨rF, rE, rfl, rfl, trivial, trivial⟩⟩
end Go.T
end
section
namespace Go.T
open Go Go.AM Go.Proofs
set_option maxRecDepth 100000
set_option maxHeartbeats 4000000
set_option linter.unusedVariables false
theorem c_slices_Equal_apiEntry {fu : Nat} {s11 : List TApiEntry} {s22 : List TApiEntry} {r : Bool} (h0 : slices_Equal_apiEntry fu s11 s22 = some r) : PCall Try.prog 87 [.psl 4 (s11.map TApiEntry.enc), .psl 4 (s22.map TApiEntry.enc)] (.bool r) [] := by
 refine awp_pcall Try.func87 rfl (by decide) (Nat.le_of_ble_eq_true rfl) ?_
 dsimp only [Try.f87]
 rw [slices_Equal_apiEntry] at h0
 refine (show AWP _ _ _ _ ⟨enumFr 0 _, [], 0, []⟩ from ?_)
 refine awp_sr2 8 [0, 1] (fun _ => none) rfl (fun _ _ => rT) ?_
 refine awp_seq ?_
 refine awp_sr2 48 [0, 1, 10] (fun _ => none) rfl (fun _ _ => rT) ?_
 refine awp_if rfl (fun hb3 => ?_) (fun hb3 => ?_)
 ·
  replace h0 := iteT h0 hb3
  refine awp_sr2 56 [4] (fun _ => none) rfl (fun _ _ => rT) ?_
  refine awp_ret ?_
  refine kr_then ?_
  obtain rfl := Option.some.inj h0
  refine leave_retG [] ?_
  exact rG
 ·
  replace h0 := iteF h0 hb3
  refine awp_skip ?_
  refine kn_then ?_
  refine awp_seq ?_
  refine awp_sr2 72 [0, 1, 12, 13] (fun _ => none) rfl (fun _ _ => rT) ?_
  obtain ⟨x13, hxx13, h0⟩ := bindS h0
  refine awp_bloop (fun s' => ∃ o19 : Unit, x13 = .inl o19 ∧ s'.nx ≤ 80 ∧ LeN [] s' ⟨[], [], 80, []⟩) ?_ ?_
  ·
   intro s' hs
   obtain ⟨o19, rfl, hn, hs⟩ := hs
   refine kn_then ?_
   refine awp_re [] hn hs ?_
   refine awp_sr2 88 [4] (fun _ => none) rfl (fun _ _ => rT) ?_
   refine awp_ret ?_
   obtain rfl := Option.some.inj h0
   refine leave_retG [] ?_
   exact rG
  ·
   refine awp_loopF (ι := { p : Nat × Int // slices_Equal_apiEntry_l1 s11 s22 p.1 p.2 = some x13 }) (fun p => ⟨[(0, .psl 4 (List.map TApiEntry.enc s11)), (1, .psl 4 (List.map TApiEntry.enc s22)), (12, .int .i64 (s11.length : Int)), (13, .int .i64 p.1.2)], [], 72, []⟩) (fun p => p.1.1) ⟨(fu, 0), hxx13⟩ ⟨rF, rE, rfl, rfl, trivial, trivial⟩ (fun _ => Nat.le_refl _) ?_
   rintro ⟨⟨fu, v14⟩, h1⟩
   cases fu with
   | zero =>
   replace h1 : slices_Equal_apiEntry_l1 s11 s22 0 v14 = some x13 := h1
   rw [slices_Equal_apiEntry_l1] at h1; cases h1
   | succ fu =>
    replace h1 : slices_Equal_apiEntry_l1 s11 s22 (fu + 1) v14 = some x13 := h1
    rw [slices_Equal_apiEntry_l1] at h1
    refine (show AWP _ _ _ _ ⟨[(0, .psl 4 (List.map TApiEntry.enc s11)), (1, .psl 4 (List.map TApiEntry.enc s22)), (12, .int .i64 (s11.length : Int)), (13, .int .i64 v14)], [], 72, []⟩ from ?_)
    refine awp_sr2 80 [0, 1, 12, 13, 14] (fun _ => none) rfl (fun _ _ => rT) ?_
    refine awp_seq ?_
    refine awp_if rfl (fun hb15 => ?_) (fun hb15 => ?_)
    ·
     replace h1 := iteT h1 hb15
     refine awp_skip ?_
     refine kn_then ?_
     refine awp_seq ?_
     refine awp_block ?_
     refine awp_sr2 96 [0, 1, 5, 12, 13] (fun _ => none) rfl (fun _ _ => rT) ?_
     obtain ⟨e16, he16, h1⟩ := bindS h1
     obtain ⟨he16a, he16b, he16c⟩ := idxS he16
     obtain ⟨e17, he17, h1⟩ := bindS h1
     obtain ⟨he17a, he17b, he17c⟩ := idxS he17
     refine awp_sd2 168 [0, 1, 12, 13, 24] (fun _ => none) rfl rfl rfl (fun _ _ => rSd (rA he16a (rA he16b (rA he16c (rA he17a (rA he17b he17c)))))) ?_
     refine awp_if rfl (fun hb18 => ?_) (fun hb18 => ?_)
     ·
      replace h1 := iteT h1 hb18
      refine awp_sr2 176 [4] (fun _ => none) rfl (fun _ _ => rS (rA he16a (rA he16b (rA he16c (rA he17a (rA he17b he17c)))))) ?_
      refine awp_ret ?_
      obtain rfl := Option.some.inj h1
      refine kr_block ?_
      refine kr_then ?_
      refine kr_then ?_
      refine kr_loop ?_
      refine kr_then ?_
      obtain rfl := Option.some.inj h0
      refine leave_retG [] ?_
      simp (maxSteps := 1000000) only [↓reduceIte, reduceCtorEq, Nat.reduceEqDiff, Nat.reduceLT, Nat.reduceLeDiff, Nat.reduceAdd, Nat.reduceMul, Int.reduceToNat, push_cast, Gives, he16a, he16b, he16c, he17a, he17b, he17c]
      all_goals exact rH
     ·
      replace h1 := iteF h1 hb18
      refine awp_skip ?_
      refine kn_block ?_
      refine kn_then ?_
      refine awp_r2 184 [0, 1, 12, 13] (fun _ => none) rfl (fun _ _ => rS (rA he16a (rA he16b (rA he16c (rA he17a (rA he17b he17c)))))) ?_
      refine kn_then ?_
      exact ⟨⟨(fu, (IntKind.i64.wrap (v14 + 1))), h1⟩, ⟨rF, rE, rfl, rfl, trivial, trivial⟩, Nat.lt_succ_self _⟩
    ·
     replace h1 := iteF h1 hb15
     refine awp_exit ?_
     refine kx_then ?_
     refine kx_then ?_
     refine kx_done ?_
     obtain rfl := Option.some.inj h1
     exact ⟨_, rfl, Nat.le_of_ble_eq_true rfl, ⟨rF, rE, rfl, rfl, trivial, trivial⟩⟩
end Go.T
end
section
namespace Go.T
open Go Go.AM Go.Proofs
set_option maxRecDepth 100000
set_option maxHeartbeats 4000000
set_option linter.unusedVariables false
theorem c_jobs_sameEntries {fu : Nat} {a1 : List TApiEntry} {b2 : List TApiEntry} {r : Bool} (h0 : jobs_sameEntries fu a1 b2 = some r) : PCall Try.prog 66 [.psl 4 (a1.map TApiEntry.enc), .psl 4 (b2.map TApiEntry.enc)] (.bool r) [] := by
 refine awp_pcall Try.func66 rfl (by decide) (Nat.le_of_ble_eq_true rfl) ?_
 dsimp only [Try.f66]
 rw [jobs_sameEntries] at h0
 refine (show AWP _ _ _ _ ⟨enumFr 0 _, [], 0, []⟩ from ?_)
 refine awp_sr2 8 [0, 1] (fun _ => none) rfl (fun _ _ => rT) ?_
 obtain ⟨vr3, hvr3, h0⟩ := bindS h0
 refine awp_sr2 40 [4] (fun | 2 => some (.bool vr3, []) | _ => none) rfl (fun _ _ => rC (c_slices_Equal_apiEntry hvr3)) ?_
 refine awp_ret ?_
 obtain rfl := Option.some.inj h0
 refine leave_retG [] ?_
 exact rG
end Go.T
end
section
namespace Go.T
open Go Go.AM Go.Proofs
set_option maxRecDepth 100000
set_option maxHeartbeats 4000000
set_option linter.unusedVariables false
theorem c_slices_EqualFunc_apiEntry {fu : Nat} {s11 : List (List TApiEntry)} {s22 : List (List TApiEntry)} {r : Bool} (h0 : slices_EqualFunc_apiEntry fu s11 s22 = some r) : PCall Try.prog 65 [.psl 1 (s11.map (encSl 4 TApiEntry.enc)), .psl 1 (s22.map (encSl 4 TApiEntry.enc)), .fn 66 [] []] (.bool r) [] := by
 refine awp_pcall Try.func65 rfl (by decide) (Nat.le_of_ble_eq_true rfl) ?_
 dsimp only [Try.f65]
 rw [slices_EqualFunc_apiEntry] at h0
 refine (show AWP _ _ _ _ ⟨enumFr 0 _, [], 0, []⟩ from ?_)
 refine awp_sr2 8 [0, 1, 2] (fun _ => none) rfl (fun _ _ => rT) ?_
 refine awp_seq ?_
 refine awp_sr2 48 [0, 1, 2, 14] (fun _ => none) rfl (fun _ _ => rT) ?_
 refine awp_if rfl (fun hb3 => ?_) (fun hb3 => ?_)
 ·
  replace h0 := iteT h0 hb3
  refine awp_sr2 56 [6] (fun _ => none) rfl (fun _ _ => rT) ?_
  refine awp_ret ?_
  refine kr_then ?_
  obtain rfl := Option.some.inj h0
  refine leave_retG [] ?_
  exact rG
 ·
  replace h0 := iteF h0 hb3
  refine awp_skip ?_
  refine kn_then ?_
  refine awp_seq ?_
  refine awp_sr2 72 [1, 2, 15, 16, 17] (fun _ => none) rfl (fun _ _ => rT) ?_
  obtain ⟨x15, hxx15, h0⟩ := bindS h0
  refine awp_bloop (fun s' => ∃ o22 : Unit, x15 = .inl o22 ∧ s'.nx ≤ 80 ∧ LeN [] s' ⟨[], [], 80, []⟩) ?_ ?_
  ·
   intro s' hs
   obtain ⟨o22, rfl, hn, hs⟩ := hs
   refine kn_then ?_
   refine awp_re [] hn hs ?_
   refine awp_sr2 88 [6] (fun _ => none) rfl (fun _ _ => rT) ?_
   refine awp_ret ?_
   obtain rfl := Option.some.inj h0
   refine leave_retG [] ?_
   exact rG
  ·
   refine awp_loopF (ι := { p : Nat × Int // slices_EqualFunc_apiEntry_l1 s11 s22 p.1 p.2 = some x15 }) (fun p => ⟨[(1, .psl 1 (List.map (encSl 4 TApiEntry.enc) s22)), (2, .fn 66 [] []), (15, .psl 1 (List.map (encSl 4 TApiEntry.enc) s11)), (16, .int .i64 (s11.length : Int)), (17, .int .i64 p.1.2)], [], 72, []⟩) (fun p => p.1.1) ⟨(fu, 0), hxx15⟩ ⟨rF, rE, rfl, rfl, trivial, trivial⟩ (fun _ => Nat.le_refl _) ?_
   rintro ⟨⟨fu, v16⟩, h1⟩
   cases fu with
   | zero =>
   replace h1 : slices_EqualFunc_apiEntry_l1 s11 s22 0 v16 = some x15 := h1
   rw [slices_EqualFunc_apiEntry_l1] at h1; cases h1
   | succ fu =>
    replace h1 : slices_EqualFunc_apiEntry_l1 s11 s22 (fu + 1) v16 = some x15 := h1
    rw [slices_EqualFunc_apiEntry_l1] at h1
    refine (show AWP _ _ _ _ ⟨[(1, .psl 1 (List.map (encSl 4 TApiEntry.enc) s22)), (2, .fn 66 [] []), (15, .psl 1 (List.map (encSl 4 TApiEntry.enc) s11)), (16, .int .i64 (s11.length : Int)), (17, .int .i64 v16)], [], 72, []⟩ from ?_)
    refine awp_sr2 80 [1, 2, 15, 16, 17, 18] (fun _ => none) rfl (fun _ _ => rT) ?_
    refine awp_seq ?_
    refine awp_if rfl (fun hb17 => ?_) (fun hb17 => ?_)
    ·
     replace h1 := iteT h1 hb17
     refine awp_skip ?_
     refine kn_then ?_
     refine awp_seq ?_
     refine awp_block ?_
     obtain ⟨e18, he18, h1⟩ := bindS h1
     obtain ⟨he18a, he18b, he18c⟩ := idxS he18
     refine awp_sr2 120 [1, 2, 7, 8, 15, 16, 17] (fun _ => none) rfl (fun _ _ => rS (rA he18a (rA he18b he18c))) ?_
     obtain ⟨e19, he19, h1⟩ := bindS h1
     obtain ⟨he19a, he19b, he19c⟩ := idxS he19
     refine awp_sr2 160 [1, 2, 8, 9, 15, 16, 17] (fun _ => none) rfl (fun _ _ => rS (rA he18a (rA he18b (rA he18c (rA he19a (rA he19b he19c)))))) ?_
     obtain ⟨vr20, hvr20, h1⟩ := bindS h1
     refine awp_sr2 200 [1, 2, 15, 16, 17, 30] (fun | 3 => some (.bool vr20, []) | _ => none) rfl (fun _ _ => rB (rA he18a (rA he18b (rA he18c (rA he19a (rA he19b he19c))))) (c_jobs_sameEntries hvr20)) ?_
     refine awp_if rfl (fun hb21 => ?_) (fun hb21 => ?_)
     ·
      replace h1 := iteT h1 hb21
      refine awp_sr2 208 [6] (fun _ => none) rfl (fun _ _ => rS (rA he18a (rA he18b (rA he18c (rA he19a (rA he19b he19c)))))) ?_
      refine awp_ret ?_
      obtain rfl := Option.some.inj h1
      refine kr_block ?_
      refine kr_then ?_
      refine kr_then ?_
      refine kr_loop ?_
      refine kr_then ?_
      obtain rfl := Option.some.inj h0
      refine leave_retG [] ?_
      simp (maxSteps := 1000000) only [↓reduceIte, reduceCtorEq, Nat.reduceEqDiff, Nat.reduceLT, Nat.reduceLeDiff, Nat.reduceAdd, Nat.reduceMul, Int.reduceToNat, push_cast, Gives, he18a, he18b, he18c, he19a, he19b, he19c]
      all_goals exact rH
     ·
      replace h1 := iteF h1 hb21
      refine awp_skip ?_
      refine kn_block ?_
      refine kn_then ?_
      refine awp_r2 216 [1, 2, 15, 16, 17] (fun _ => none) rfl (fun _ _ => rS (rA he18a (rA he18b (rA he18c (rA he19a (rA he19b he19c)))))) ?_
      refine kn_then ?_
      exact ⟨⟨(fu, (IntKind.i64.wrap (v16 + 1))), h1⟩, ⟨rF, rE, rfl, rfl, trivial, trivial⟩, Nat.lt_succ_self _⟩
    ·
     replace h1 := iteF h1 hb17
     refine awp_exit ?_
     refine kx_then ?_
     refine kx_then ?_
     refine kx_done ?_
     obtain rfl := Option.some.inj h1
     exact ⟨_, rfl, Nat.le_of_ble_eq_true rfl, ⟨rF, rE, rfl, rfl, trivial, trivial⟩⟩
end Go.T
end
section
namespace Go.T
open Go Go.AM Go.Proofs
set_option maxRecDepth 100000
set_option maxHeartbeats 4000000
set_option linter.unusedVariables false
theorem c_jobs_same {fu : Nat} {a1 : TApiSlState} {b2 : TApiSlState} {r : Bool} (h0 : jobs_same fu a1 b2 = some r) : PCall Try.prog 49 [.agg (TApiSlState.enc a1), .agg (TApiSlState.enc b2)] (.bool r) [] := by
 refine awp_pcall Try.func49 rfl (by decide) (Nat.le_of_ble_eq_true rfl) ?_
 dsimp only [Try.f49, List.append]
 rw [jobs_same] at h0
 refine (show AWP _ _ _ _ ⟨enumFr 0 _, [], 0, []⟩ from ?_)
 refine awp_sr2 24 [2, 3] (fun _ => none) rfl (fun _ _ => rT) ?_
 refine awp_sd2 88 [2, 3, 5, 6] (fun _ => none) rfl rfl rfl (fun _ _ => rTd) ?_
 obtain ⟨vr3, hvr3, h0⟩ := bindS h0
 obtain ⟨b5, hb5, h0⟩ := bindS h0
 obtain ⟨b7, hb7, h0⟩ := bindS h0
 obtain ⟨b9, hb9, h0⟩ := bindS h0
 obtain ⟨b10, hb10, h0⟩ := bindS h0
 obtain ⟨b11, hb11, h0⟩ := bindS h0
 obtain ⟨b13, hb13, h0⟩ := bindS h0
 obtain ⟨b14, hb14, h0⟩ := bindS h0
 refine awp_sr3 (fr' := [(4, .bool b14)]) (hp' := [(0, ⟨0, true, true, 10, [[.psl 1 (List.map (encSl 4 TApiEntry.enc) a1.Merge.Runs), .psl 1 (List.map (encInt .i64) a1.Merge.At), .psl 2 (List.map TApiLsKey.enc a1.Merge.Tree.Keys), .psl 1 (List.map (encInt .i64) a1.Merge.Tree.Lose), .int .i64 a1.Merge.Tree.Win, .bool a1.Shadow.Some, .str a1.Shadow.Last, .bool a1.Shadow.Bottom, .psl 4 (List.map TApiEntry.enc a1.Out), .int .i64 a1.Steps]]⟩), (8, ⟨0, true, true, 10, [[.psl 1 (List.map (encSl 4 TApiEntry.enc) b2.Merge.Runs), .psl 1 (List.map (encInt .i64) b2.Merge.At), .psl 2 (List.map TApiLsKey.enc b2.Merge.Tree.Keys), .psl 1 (List.map (encInt .i64) b2.Merge.Tree.Lose), .int .i64 b2.Merge.Tree.Win, .bool b2.Shadow.Some, .str b2.Shadow.Last, .bool b2.Shadow.Bottom, .psl 4 (List.map TApiEntry.enc b2.Out), .int .i64 b2.Steps]]⟩), (56, ⟨0, true, true, 5, [[.psl 1 (List.map (encSl 4 TApiEntry.enc) a1.Merge.Runs), .psl 1 (List.map (encInt .i64) a1.Merge.At), .psl 2 (List.map TApiLsKey.enc a1.Merge.Tree.Keys), .psl 1 (List.map (encInt .i64) a1.Merge.Tree.Lose), .int .i64 a1.Merge.Tree.Win]]⟩), (64, ⟨0, true, true, 5, [[.psl 1 (List.map (encSl 4 TApiEntry.enc) b2.Merge.Runs), .psl 1 (List.map (encInt .i64) b2.Merge.At), .psl 2 (List.map TApiLsKey.enc b2.Merge.Tree.Keys), .psl 1 (List.map (encInt .i64) b2.Merge.Tree.Lose), .int .i64 b2.Merge.Tree.Win]]⟩)]) [0, 8, 56, 64] 576 [4] (fun | 4 => some (.bool vr3, []) | 10 => (slices_Equal_int fu a1.Merge.At b2.Merge.At).bind fun vr4 => some (.bool vr4, []) | 19 => (slices_Equal_apiLsKey fu a1.Merge.Tree.Keys b2.Merge.Tree.Keys).bind fun vr6 => some (.bool vr6, []) | 28 => (slices_Equal_int fu a1.Merge.Tree.Lose b2.Merge.Tree.Lose).bind fun vr8 => some (.bool vr8, []) | 51 => (jobs_sameEntries fu a1.Out b2.Out).bind fun vr12 => some (.bool vr12, []) | _ => none) rfl (fun Kt hK => by
   cases vr3 with
   | false =>
    replace hb5 := iteF hb5 rfl
    have hqb5 := Option.some.inj hb5
    cases b5 with
    | false =>
     replace hb7 := iteF hb7 rfl
     have hqb7 := Option.some.inj hb7
     cases b7 with
     | false =>
      replace hb9 := iteF hb9 rfl
      have hqb9 := Option.some.inj hb9
      cases b9 with
      | false =>
       replace hb10 := iteF hb10 rfl
       have hqb10 := Option.some.inj hb10
       cases b10 with
       | false =>
        replace hb11 := iteF hb11 rfl
        have hqb11 := Option.some.inj hb11
        cases b11 with
        | false =>
         replace hb13 := iteF hb13 rfl
         have hqb13 := Option.some.inj hb13
         cases b13 with
         | false =>
          replace hb14 := iteF hb14 rfl
          have hqb14 := Option.some.inj hb14
          subst hqb14
          try have q0 := c_slices_EqualFunc_apiEntry hvr3
          try have q1 := c_slices_Equal_int hvr4
          try have q2 := c_slices_Equal_apiLsKey hvr6
          try have q3 := c_slices_Equal_int hvr8
          try have q4 := c_jobs_sameEntries hvr12
          exact rT
         | true =>
          cases hqb13
        | true =>
         cases hqb11
       | true =>
        cases hqb10
      | true =>
       cases hqb9
     | true =>
      cases hqb7
    | true =>
     cases hqb5
   | true =>
    replace hb5 := iteT hb5 rfl
    obtain ⟨vr4, hvr4, hb5⟩ := bindS hb5
    have hqb5 := Option.some.inj hb5
    cases b5 with
    | false =>
     subst hqb5
     replace hb7 := iteF hb7 rfl
     have hqb7 := Option.some.inj hb7
     cases b7 with
     | false =>
      replace hb9 := iteF hb9 rfl
      have hqb9 := Option.some.inj hb9
      cases b9 with
      | false =>
       replace hb10 := iteF hb10 rfl
       have hqb10 := Option.some.inj hb10
       cases b10 with
       | false =>
        replace hb11 := iteF hb11 rfl
        have hqb11 := Option.some.inj hb11
        cases b11 with
        | false =>
         replace hb13 := iteF hb13 rfl
         have hqb13 := Option.some.inj hb13
         cases b13 with
         | false =>
          replace hb14 := iteF hb14 rfl
          have hqb14 := Option.some.inj hb14
          subst hqb14
          try have q0 := c_slices_EqualFunc_apiEntry hvr3
          try have q1 := c_slices_Equal_int hvr4
          try have q2 := c_slices_Equal_apiLsKey hvr6
          try have q3 := c_slices_Equal_int hvr8
          try have q4 := c_jobs_sameEntries hvr12
          exact rS hvr4
         | true =>
          cases hqb13
        | true =>
         cases hqb11
       | true =>
        cases hqb10
      | true =>
       cases hqb9
     | true =>
      cases hqb7
    | true =>
     subst hqb5
     replace hb7 := iteT hb7 rfl
     obtain ⟨vr6, hvr6, hb7⟩ := bindS hb7
     have hqb7 := Option.some.inj hb7
     cases b7 with
     | false =>
      subst hqb7
      replace hb9 := iteF hb9 rfl
      have hqb9 := Option.some.inj hb9
      cases b9 with
      | false =>
       replace hb10 := iteF hb10 rfl
       have hqb10 := Option.some.inj hb10
       cases b10 with
       | false =>
        replace hb11 := iteF hb11 rfl
        have hqb11 := Option.some.inj hb11
        cases b11 with
        | false =>
         replace hb13 := iteF hb13 rfl
         have hqb13 := Option.some.inj hb13
         cases b13 with
         | false =>
          replace hb14 := iteF hb14 rfl
          have hqb14 := Option.some.inj hb14
          subst hqb14
          try have q0 := c_slices_EqualFunc_apiEntry hvr3
          try have q1 := c_slices_Equal_int hvr4
          try have q2 := c_slices_Equal_apiLsKey hvr6
          try have q3 := c_slices_Equal_int hvr8
          try have q4 := c_jobs_sameEntries hvr12
          exact rS (rA hvr4 hvr6)
         | true =>
          cases hqb13
        | true =>
         cases hqb11
       | true =>
        cases hqb10
      | true =>
       cases hqb9
     | true =>
      subst hqb7
      replace hb9 := iteT hb9 rfl
      obtain ⟨vr8, hvr8, hb9⟩ := bindS hb9
      have hqb9 := Option.some.inj hb9
      cases b9 with
      | false =>
       subst hqb9
       replace hb10 := iteF hb10 rfl
       have hqb10 := Option.some.inj hb10
       cases b10 with
       | false =>
        replace hb11 := iteF hb11 rfl
        have hqb11 := Option.some.inj hb11
        cases b11 with
        | false =>
         replace hb13 := iteF hb13 rfl
         have hqb13 := Option.some.inj hb13
         cases b13 with
         | false =>
          replace hb14 := iteF hb14 rfl
          have hqb14 := Option.some.inj hb14
          subst hqb14
          try have q0 := c_slices_EqualFunc_apiEntry hvr3
          try have q1 := c_slices_Equal_int hvr4
          try have q2 := c_slices_Equal_apiLsKey hvr6
          try have q3 := c_slices_Equal_int hvr8
          try have q4 := c_jobs_sameEntries hvr12
          exact rS (rA hvr4 (rA hvr6 hvr8))
         | true =>
          cases hqb13
        | true =>
         cases hqb11
       | true =>
        cases hqb10
      | true =>
       subst hqb9
       replace hb10 := iteT hb10 rfl
       have hqb10 := Option.some.inj hb10
       cases b10 with
       | false =>
        replace hb11 := iteF hb11 rfl
        have hqb11 := Option.some.inj hb11
        cases b11 with
        | false =>
         replace hb13 := iteF hb13 rfl
         have hqb13 := Option.some.inj hb13
         cases b13 with
         | false =>
          replace hb14 := iteF hb14 rfl
          have hqb14 := Option.some.inj hb14
          subst hqb14
          simp (maxSteps := 1000000) only [↓reduceIte, reduceCtorEq, Nat.reduceEqDiff, Nat.reduceLT, Nat.reduceLeDiff, Nat.reduceAdd, Nat.reduceMul, Int.reduceToNat, push_cast, hvr4, hvr6, hvr8, ↓hqb10]
          try simp only [↓hqb10] at hK
          try have q0 := c_slices_EqualFunc_apiEntry hvr3
          try have q1 := c_slices_Equal_int hvr4
          try have q2 := c_slices_Equal_apiLsKey hvr6
          try have q3 := c_slices_Equal_int hvr8
          try have q4 := c_jobs_sameEntries hvr12
          all_goals exact rU
         | true =>
          cases hqb13
        | true =>
         cases hqb11
       | true =>
        replace hb11 := iteT hb11 rfl
        have hqb11 := Option.some.inj hb11
        cases b11 with
        | false =>
         replace hb13 := iteF hb13 rfl
         have hqb13 := Option.some.inj hb13
         cases b13 with
         | false =>
          replace hb14 := iteF hb14 rfl
          have hqb14 := Option.some.inj hb14
          subst hqb14
          simp (maxSteps := 1000000) only [↓reduceIte, reduceCtorEq, Nat.reduceEqDiff, Nat.reduceLT, Nat.reduceLeDiff, Nat.reduceAdd, Nat.reduceMul, Int.reduceToNat, push_cast, hvr4, hvr6, hvr8, ↓hqb10, ↓hqb11]
          try simp only [↓hqb10, ↓hqb11] at hK
          try have q0 := c_slices_EqualFunc_apiEntry hvr3
          try have q1 := c_slices_Equal_int hvr4
          try have q2 := c_slices_Equal_apiLsKey hvr6
          try have q3 := c_slices_Equal_int hvr8
          try have q4 := c_jobs_sameEntries hvr12
          all_goals exact rU
         | true =>
          cases hqb13
        | true =>
         replace hb13 := iteT hb13 rfl
         obtain ⟨vr12, hvr12, hb13⟩ := bindS hb13
         have hqb13 := Option.some.inj hb13
         cases b13 with
         | false =>
          subst hqb13
          replace hb14 := iteF hb14 rfl
          have hqb14 := Option.some.inj hb14
          subst hqb14
          simp (maxSteps := 1000000) only [↓reduceIte, reduceCtorEq, Nat.reduceEqDiff, Nat.reduceLT, Nat.reduceLeDiff, Nat.reduceAdd, Nat.reduceMul, Int.reduceToNat, push_cast, hvr4, hvr6, hvr8, ↓hqb10, ↓hqb11, hvr12]
          try simp only [↓hqb10, ↓hqb11] at hK
          try have q0 := c_slices_EqualFunc_apiEntry hvr3
          try have q1 := c_slices_Equal_int hvr4
          try have q2 := c_slices_Equal_apiLsKey hvr6
          try have q3 := c_slices_Equal_int hvr8
          try have q4 := c_jobs_sameEntries hvr12
          all_goals exact rU
         | true =>
          subst hqb13
          replace hb14 := iteT hb14 rfl
          have hqb14 := Option.some.inj hb14
          subst hqb14
          simp (maxSteps := 1000000) only [↓reduceIte, reduceCtorEq, Nat.reduceEqDiff, Nat.reduceLT, Nat.reduceLeDiff, Nat.reduceAdd, Nat.reduceMul, Int.reduceToNat, push_cast, hvr4, hvr6, hvr8, ↓hqb10, ↓hqb11, hvr12]
          try simp only [↓hqb10, ↓hqb11] at hK
          try have q0 := c_slices_EqualFunc_apiEntry hvr3
          try have q1 := c_slices_Equal_int hvr4
          try have q2 := c_slices_Equal_apiLsKey hvr6
          try have q3 := c_slices_Equal_int hvr8
          try have q4 := c_jobs_sameEntries hvr12
          all_goals exact rU) ?_
 refine awp_ret ?_
 obtain rfl := Option.some.inj h0
 refine leave_retG [] ?_
 exact rG
end Go.T
end
section
namespace Go.T
open Go Go.AM Go.Proofs
set_option maxRecDepth 100000
set_option maxHeartbeats 4000000
set_option linter.unusedVariables false
theorem c_jobs_Check {fu : Nat} {vs1 : TApiJbState} {r : Int × Int} (h0 : jobs_Check fu vs1 = some r) : PCall Try.prog 30 [.agg (TApiJbState.enc vs1)] (.tup [.int .i64 r.1, .int .i64 r.2]) [] := by
 refine awp_pcall Try.func30 rfl (by decide) (Nat.le_of_ble_eq_true rfl) ?_
 dsimp only [Try.f30]
 rw [jobs_Check] at h0
 refine (show AWP _ _ _ _ ⟨enumFr 0 _, [], 0, []⟩ from ?_)
 refine awp_sr2 24 [1] (fun _ => none) rfl (fun _ _ => rT) ?_
 obtain ⟨vr2, hvr2, h0⟩ := bindS h0
 refine awp_sr2 88 [1, 3] (fun | 2 => some (.tup [.int .i64 vr2.1, .int .i64 vr2.2.1, .int .i64 vr2.2.2], []) | _ => none) rfl (fun _ _ => rC (c_levels_Check hvr2)) ?_
 refine awp_seq ?_
 refine awp_block ?_
 refine awp_sr2 112 [1, 3, 21] (fun _ => none) rfl (fun _ _ => rT) ?_
 refine awp_if rfl (fun hb3 => ?_) (fun hb3 => ?_)
 ·
  replace h0 := iteT h0 hb3
  refine awp_sr2 136 [2, 3] (fun _ => none) rfl (fun _ _ => rT) ?_
  refine awp_ret ?_
  refine kr_block ?_
  refine kr_then ?_
  obtain rfl := Option.some.inj h0
  refine leave_retG [] ?_
  exact rG
 ·
  replace h0 := iteF h0 hb3
  obtain ⟨b4, hb4, h0⟩ := bindS h0
  refine awp_sr3 (fr' := [(1, .ref 0 0 0 0), (25, .bool b4)]) (hp' := [(0, ⟨0, true, true, 4, [[.int .i64 vs1.Levels.B, .psl 1 (List.map TApiLvLevel.enc vs1.Levels.Levels), .psl 11 (List.map TApiJbJob.enc vs1.Jobs), .int .i64 vs1.NextId]]⟩)]) [0] 184 [1, 25] (fun _ => none) rfl (fun Kt hK => by
    cases hg5 : (decide (vs1.NextId < 1)) with
    | false =>
     replace hb4 := iteF hb4 hg5
     have hqb4 := Option.some.inj hb4
     subst hqb4
     simp (maxSteps := 1000000) only [↓reduceIte, reduceCtorEq, Nat.reduceEqDiff, Nat.reduceLT, Nat.reduceLeDiff, Nat.reduceAdd, Nat.reduceMul, Int.reduceToNat, push_cast, ↓hg5]
     try simp only [↓hg5] at hK
     all_goals exact rU
    | true =>
     replace hb4 := iteT hb4 hg5
     have hqb4 := Option.some.inj hb4
     subst hqb4
     simp (maxSteps := 1000000) only [↓reduceIte, reduceCtorEq, Nat.reduceEqDiff, Nat.reduceLT, Nat.reduceLeDiff, Nat.reduceAdd, Nat.reduceMul, Int.reduceToNat, push_cast, ↓hg5]
     try simp only [↓hg5] at hK
     all_goals exact rU) ?_
  refine awp_if rfl (fun hb6 => ?_) (fun hb6 => ?_)
  ·
   replace h0 := iteT h0 hb6
   refine awp_sr2 200 [2, 3] (fun _ => none) rfl (fun _ _ => rT) ?_
   refine awp_ret ?_
   refine kr_block ?_
   refine kr_then ?_
   obtain rfl := Option.some.inj h0
   refine leave_retG [] ?_
   exact rG
  ·
   replace h0 := iteF h0 hb6
   obtain ⟨vr7, hvr7, h0⟩ := bindS h0
   refine awp_sd2 240 [1, 34] (fun | 4 => some (.int .i64 vr7, []) | _ => none) rfl rfl rfl (fun _ _ => rCd (c_jobs_greatest hvr7)) ?_
   refine awp_if rfl (fun hb8 => ?_) (fun hb8 => ?_)
   ·
    replace h0 := iteT h0 hb8
    refine awp_sr2 256 [2, 3] (fun _ => none) rfl (fun _ _ => rT) ?_
    refine awp_ret ?_
    refine kr_block ?_
    refine kr_then ?_
    obtain rfl := Option.some.inj h0
    refine leave_retG [] ?_
    exact rG
   ·
    replace h0 := iteF h0 hb8
    refine awp_skip ?_
    refine kn_block ?_
    refine kn_then ?_
    obtain ⟨vr9, hvr9, h0⟩ := bindS h0
    obtain ⟨vr10, hvr10, h0⟩ := bindS h0
    refine awp_sr2 280 [1, 4] (fun | 2 => some (.fn 41 [] [.pp [.int .i64 vr9.1, .psl 1 (vr9.2.map TApiLvLevel.enc)]], []) | 3 => some (.psl 1 (vr10.map (encInt .i64)), []) | _ => none) rfl (fun Kt hK => by
      try have q0 := c_jobs_due hvr9
      try have q1 := c_slices_Collect_int hvr10
      exact rT) ?_
    refine awp_seq ?_
    refine awp_sr2 312 [1, 4, 46, 47, 48] (fun _ => none) rfl (fun _ _ => rT) ?_
    obtain ⟨x48, hxx48, h0⟩ := bindS h0
    refine awp_bloop (fun s' => ∃ o68 : Unit, x48 = .inl o68 ∧ s'.nx ≤ 320 ∧ LeN [] s' ⟨[(1, .ref 0 0 0 0), (4, .psl 1 (List.map (encInt .i64) vr10))], [(0, ⟨0, true, true, 4, [[.int .i64 vs1.Levels.B, .psl 1 (List.map TApiLvLevel.enc vs1.Levels.Levels), .psl 11 (List.map TApiJbJob.enc vs1.Jobs), .int .i64 vs1.NextId]]⟩)], 320, []⟩) ?_ ?_
    ·
     intro s' hs
     obtain ⟨o68, rfl, hn, hs⟩ := hs
     refine kn_then ?_
     refine awp_re [] hn hs ?_
     refine awp_seq ?_
     refine awp_sr2 368 [126] (fun _ => none) rfl (fun _ _ => rT) ?_
     refine awp_if rfl (fun hb69 => ?_) (fun hb69 => ?_)
     ·
      replace h0 := iteT h0 hb69
      refine awp_sr2 384 [2, 3] (fun _ => none) rfl (fun _ _ => rT) ?_
      refine awp_ret ?_
      refine kr_then ?_
      obtain rfl := Option.some.inj h0
      refine leave_retG [] ?_
      exact rG
     ·
      replace h0 := iteF h0 hb69
      refine awp_skip ?_
      refine kn_then ?_
      refine awp_sr2 384 [2, 3] (fun _ => none) rfl (fun _ _ => rT) ?_
      refine awp_ret ?_
      obtain rfl := Option.some.inj h0
      refine leave_retG [] ?_
      exact rG
    ·
     refine awp_loopF (ι := { p : Nat × Int // jobs_Check_l1 vs1 vr10 p.1 p.2 = some x48 }) (fun p => ⟨[(1, .ref 0 0 0 0), (4, .psl 1 (List.map (encInt .i64) vr10)), (46, .psl 11 (List.map TApiJbJob.enc vs1.Jobs)), (47, .int .i64 (vs1.Jobs.length : Int)), (48, .int .i64 p.1.2)], [(0, ⟨0, true, true, 4, [[.int .i64 vs1.Levels.B, .psl 1 (List.map TApiLvLevel.enc vs1.Levels.Levels), .psl 11 (List.map TApiJbJob.enc vs1.Jobs), .int .i64 vs1.NextId]]⟩)], 312, []⟩) (fun p => p.1.1) ⟨(fu, 0), hxx48⟩ ⟨rF, rE, rfl, rfl, trivial, trivial⟩ (fun _ => Nat.le_refl _) ?_
     rintro ⟨⟨fu, v49⟩, h1⟩
     cases fu with
     | zero =>
   replace h1 : jobs_Check_l1 vs1 vr10 0 v49 = some x48 := h1
   rw [jobs_Check_l1] at h1; cases h1
     | succ fu =>
      replace h1 : jobs_Check_l1 vs1 vr10 (fu + 1) v49 = some x48 := h1
      rw [jobs_Check_l1] at h1
      refine (show AWP _ _ _ _ ⟨[(1, .ref 0 0 0 0), (4, .psl 1 (List.map (encInt .i64) vr10)), (46, .psl 11 (List.map TApiJbJob.enc vs1.Jobs)), (47, .int .i64 (vs1.Jobs.length : Int)), (48, .int .i64 v49)], [(0, ⟨0, true, true, 4, [[.int .i64 vs1.Levels.B, .psl 1 (List.map TApiLvLevel.enc vs1.Levels.Levels), .psl 11 (List.map TApiJbJob.enc vs1.Jobs), .int .i64 vs1.NextId]]⟩)], 312, []⟩ from ?_)
      refine awp_sr2 320 [1, 4, 46, 47, 48, 49] (fun _ => none) rfl (fun _ _ => rT) ?_
      refine awp_seq ?_
      refine awp_if rfl (fun hb50 => ?_) (fun hb50 => ?_)
      ·
       replace h1 := iteT h1 hb50
       refine awp_skip ?_
       refine kn_then ?_
       refine awp_seq ?_
       refine awp_block ?_
       obtain ⟨e51, he51, h1⟩ := bindS h1
       obtain ⟨he51a, he51b, he51c⟩ := idxS he51
       refine awp_sr2 368 [1, 4, 5, 6, 46, 47, 48] (fun _ => none) rfl (fun _ _ => rS (rA he51a (rA he51b he51c))) ?_
       refine awp_seq ?_
       obtain ⟨b53, hb53, h1⟩ := bindS h1
       refine awp_sd3 (fr' := [(1, .ref 0 0 0 0), (4, .psl 1 (List.map (encInt .i64) vr10)), (5, .int .i64 v49), (6, .ref 344 0 0 0), (46, .psl 11 (List.map TApiJbJob.enc vs1.Jobs)), (47, .int .i64 (vs1.Jobs.length : Int)), (48, .int .i64 v49), (65, .bool b53)]) (hp' := [(0, ⟨0, true, true, 4, [[.int .i64 vs1.Levels.B, .psl 1 (List.map TApiLvLevel.enc vs1.Levels.Levels), .psl 11 (List.map TApiJbJob.enc vs1.Jobs), .int .i64 vs1.NextId]]⟩), (344, ⟨0, true, true, 11, [[.int .i64 e51.Level, .psl 1 (List.map (encSl 4 TApiEntry.enc) e51.Work.Merge.Runs), .psl 1 (List.map (encInt .i64) e51.Work.Merge.At), .psl 2 (List.map TApiLsKey.enc e51.Work.Merge.Tree.Keys), .psl 1 (List.map (encInt .i64) e51.Work.Merge.Tree.Lose), .int .i64 e51.Work.Merge.Tree.Win, .bool e51.Work.Shadow.Some, .str e51.Work.Shadow.Last, .bool e51.Work.Shadow.Bottom, .psl 4 (List.map TApiEntry.enc e51.Work.Out), .int .i64 e51.Work.Steps]]⟩)]) [0, 344] 472 [1, 4, 5, 6, 46, 47, 48, 65] (fun _ => none) rfl rfl rfl (fun Kt hK => by
         cases hg54 : (decide ((vr10.length : Int) ≤ v49)) with
         | false =>
          replace hb53 := iteF hb53 hg54
          obtain ⟨e52, he52, hb53⟩ := bindS hb53
          obtain ⟨he52a, he52b, he52c⟩ := idxS he52
          have hqb53 := Option.some.inj hb53
          subst hqb53
          simp (maxSteps := 1000000) only [↓reduceIte, reduceCtorEq, Nat.reduceEqDiff, Nat.reduceLT, Nat.reduceLeDiff, Nat.reduceAdd, Nat.reduceMul, Int.reduceToNat, push_cast, he51a, he51b, he51c, ↓hg54, he52a, he52b, he52c, he52]
          try simp only [↓hg54] at hK
          all_goals exact rUd
         | true =>
          replace hb53 := iteT hb53 hg54
          have hqb53 := Option.some.inj hb53
          subst hqb53
          simp (maxSteps := 1000000) only [↓reduceIte, reduceCtorEq, Nat.reduceEqDiff, Nat.reduceLT, Nat.reduceLeDiff, Nat.reduceAdd, Nat.reduceMul, Int.reduceToNat, push_cast, he51a, he51b, he51c, ↓hg54]
          try simp only [↓hg54] at hK
          all_goals exact rUd) ?_
       refine awp_if rfl (fun hb55 => ?_) (fun hb55 => ?_)
       ·
        replace h1 := iteT h1 hb55
        refine awp_sr2 496 [2, 3] (fun _ => none) rfl (fun _ _ => rS (rA he51a (rA he51b he51c))) ?_
        refine awp_ret ?_
        obtain rfl := Option.some.inj h1
        refine kr_then ?_
        refine kr_block ?_
        refine kr_then ?_
        refine kr_then ?_
        refine kr_loop ?_
        refine kr_then ?_
        obtain rfl := Option.some.inj h0
        refine leave_retG [] ?_
        simp (maxSteps := 1000000) only [↓reduceIte, reduceCtorEq, Nat.reduceEqDiff, Nat.reduceLT, Nat.reduceLeDiff, Nat.reduceAdd, Nat.reduceMul, Int.reduceToNat, push_cast, Gives, he51a, he51b, he51c]
        all_goals exact rH
       ·
        replace h1 := iteF h1 hb55
        refine awp_skip ?_
        refine kn_then ?_
        refine awp_sr2 512 [1, 4, 5, 6, 7, 46, 47, 48] (fun _ => none) rfl (fun _ _ => rS (rA he51a (rA he51b he51c))) ?_
        refine awp_seq ?_
        obtain ⟨b57, hb57, h1⟩ := bindS h1
        refine awp_sr3 (fr' := [(1, .ref 0 0 0 0), (4, .psl 1 (List.map (encInt .i64) vr10)), (5, .int .i64 v49), (6, .ref 344 0 0 0), (7, .bool e51.Work.Shadow.Bottom), (46, .psl 11 (List.map TApiJbJob.enc vs1.Jobs)), (47, .int .i64 (vs1.Jobs.length : Int)), (48, .int .i64 v49), (79, .bool b57)]) (hp' := [(0, ⟨0, true, true, 4, [[.int .i64 vs1.Levels.B, .psl 1 (List.map TApiLvLevel.enc vs1.Levels.Levels), .psl 11 (List.map TApiJbJob.enc vs1.Jobs), .int .i64 vs1.NextId]]⟩), (344, ⟨0, true, true, 11, [[.int .i64 e51.Level, .psl 1 (List.map (encSl 4 TApiEntry.enc) e51.Work.Merge.Runs), .psl 1 (List.map (encInt .i64) e51.Work.Merge.At), .psl 2 (List.map TApiLsKey.enc e51.Work.Merge.Tree.Keys), .psl 1 (List.map (encInt .i64) e51.Work.Merge.Tree.Lose), .int .i64 e51.Work.Merge.Tree.Win, .bool e51.Work.Shadow.Some, .str e51.Work.Shadow.Last, .bool e51.Work.Shadow.Bottom, .psl 4 (List.map TApiEntry.enc e51.Work.Out), .int .i64 e51.Work.Steps]]⟩)]) [0, 344] 584 [1, 4, 5, 6, 7, 46, 47, 48, 79] (fun | 6 => (jobs_lowest fu vs1.Levels e51.Level).bind fun vr56 => some (.bool vr56, []) | _ => none) rfl (fun Kt hK => by
          cases hg58 : e51.Work.Shadow.Bottom with
          | false =>
           replace hb57 := iteF hb57 hg58
           have hqb57 := Option.some.inj hb57
           subst hqb57
           simp (maxSteps := 1000000) only [↓reduceIte, reduceCtorEq, Nat.reduceEqDiff, Nat.reduceLT, Nat.reduceLeDiff, Nat.reduceAdd, Nat.reduceMul, Int.reduceToNat, push_cast, he51a, he51b, he51c, ↓hg58]
           try simp only [↓hg58] at hK
           try have q0 := c_jobs_lowest hvr56
           all_goals exact rU
          | true =>
           replace hb57 := iteT hb57 hg58
           obtain ⟨vr56, hvr56, hb57⟩ := bindS hb57
           have hqb57 := Option.some.inj hb57
           subst hqb57
           simp (maxSteps := 1000000) only [↓reduceIte, reduceCtorEq, Nat.reduceEqDiff, Nat.reduceLT, Nat.reduceLeDiff, Nat.reduceAdd, Nat.reduceMul, Int.reduceToNat, push_cast, he51a, he51b, he51c, ↓hg58, hvr56]
           try simp only [↓hg58] at hK
           try have q0 := c_jobs_lowest hvr56
           all_goals exact rU) ?_
        refine awp_if rfl (fun hb59 => ?_) (fun hb59 => ?_)
        ·
         replace h1 := iteT h1 hb59
         refine awp_sr2 608 [2, 3] (fun _ => none) rfl (fun _ _ => rS (rA he51a (rA he51b he51c))) ?_
         refine awp_ret ?_
         obtain rfl := Option.some.inj h1
         refine kr_then ?_
         refine kr_block ?_
         refine kr_then ?_
         refine kr_then ?_
         refine kr_loop ?_
         refine kr_then ?_
         obtain rfl := Option.some.inj h0
         refine leave_retG [] ?_
         simp (maxSteps := 1000000) only [↓reduceIte, reduceCtorEq, Nat.reduceEqDiff, Nat.reduceLT, Nat.reduceLeDiff, Nat.reduceAdd, Nat.reduceMul, Int.reduceToNat, push_cast, Gives, he51a, he51b, he51c]
         all_goals exact rH
        ·
         replace h1 := iteF h1 hb59
         refine awp_skip ?_
         refine kn_then ?_
         obtain ⟨vr60, hvr60, h1⟩ := bindS h1
         refine awp_sr2 656 [1, 4, 5, 6, 8, 46, 47, 48] (fun | 5 => some (.agg (TApiJbJob.enc vr60), []) | _ => none) rfl (fun _ _ => rB (rA he51a (rA he51b he51c)) (c_jobs_begun hvr60)) ?_
         obtain ⟨vr61, hvr61, h1⟩ := bindS h1
         refine awp_sr2 712 [1, 4, 5, 6, 8, 9, 46, 47, 48] (fun | 1 => some (.tup [.int .i64 vr61.1, .int .i64 vr61.2], []) | _ => none) rfl (fun _ _ => rB (rA he51a (rA he51b he51c)) (c_slices_Left hvr61)) ?_
         refine awp_seq ?_
         obtain ⟨b62, hb62, h1⟩ := bindS h1
         refine awp_sr3 (fr' := [(1, .ref 0 0 0 0), (4, .psl 1 (List.map (encInt .i64) vr10)), (5, .int .i64 v49), (6, .ref 344 0 0 0), (8, .ref 640 0 0 0), (46, .psl 11 (List.map TApiJbJob.enc vs1.Jobs)), (47, .int .i64 (vs1.Jobs.length : Int)), (48, .int .i64 v49), (103, .bool b62)]) (hp' := [(0, ⟨0, true, true, 4, [[.int .i64 vs1.Levels.B, .psl 1 (List.map TApiLvLevel.enc vs1.Levels.Levels), .psl 11 (List.map TApiJbJob.enc vs1.Jobs), .int .i64 vs1.NextId]]⟩), (344, ⟨0, true, true, 11, [[.int .i64 e51.Level, .psl 1 (List.map (encSl 4 TApiEntry.enc) e51.Work.Merge.Runs), .psl 1 (List.map (encInt .i64) e51.Work.Merge.At), .psl 2 (List.map TApiLsKey.enc e51.Work.Merge.Tree.Keys), .psl 1 (List.map (encInt .i64) e51.Work.Merge.Tree.Lose), .int .i64 e51.Work.Merge.Tree.Win, .bool e51.Work.Shadow.Some, .str e51.Work.Shadow.Last, .bool e51.Work.Shadow.Bottom, .psl 4 (List.map TApiEntry.enc e51.Work.Out), .int .i64 e51.Work.Steps]]⟩), (640, ⟨0, true, true, 10, [[.psl 1 (List.map (encSl 4 TApiEntry.enc) vr60.Work.Merge.Runs), .psl 1 (List.map (encInt .i64) vr60.Work.Merge.At), .psl 2 (List.map TApiLsKey.enc vr60.Work.Merge.Tree.Keys), .psl 1 (List.map (encInt .i64) vr60.Work.Merge.Tree.Lose), .int .i64 vr60.Work.Merge.Tree.Win, .bool vr60.Work.Shadow.Some, .str vr60.Work.Shadow.Last, .bool vr60.Work.Shadow.Bottom, .psl 4 (List.map TApiEntry.enc vr60.Work.Out), .int .i64 vr60.Work.Steps]]⟩)]) [0, 344, 640] 800 [1, 4, 5, 6, 8, 46, 47, 48, 103] (fun _ => none) rfl (fun Kt hK => by
           cases hg63 : (decide (e51.Work.Steps < 0)) with
           | false =>
            replace hb62 := iteF hb62 hg63
            have hqb62 := Option.some.inj hb62
            subst hqb62
            simp (maxSteps := 1000000) only [↓reduceIte, reduceCtorEq, Nat.reduceEqDiff, Nat.reduceLT, Nat.reduceLeDiff, Nat.reduceAdd, Nat.reduceMul, Int.reduceToNat, push_cast, he51a, he51b, he51c, ↓hg63]
            try simp only [↓hg63] at hK
            all_goals exact rU
           | true =>
            replace hb62 := iteT hb62 hg63
            have hqb62 := Option.some.inj hb62
            subst hqb62
            simp (maxSteps := 1000000) only [↓reduceIte, reduceCtorEq, Nat.reduceEqDiff, Nat.reduceLT, Nat.reduceLeDiff, Nat.reduceAdd, Nat.reduceMul, Int.reduceToNat, push_cast, he51a, he51b, he51c, ↓hg63]
            try simp only [↓hg63] at hK
            all_goals exact rU) ?_
         refine awp_if rfl (fun hb64 => ?_) (fun hb64 => ?_)
         ·
          replace h1 := iteT h1 hb64
          refine awp_sr2 824 [2, 3] (fun _ => none) rfl (fun _ _ => rS (rA he51a (rA he51b he51c))) ?_
          refine awp_ret ?_
          obtain rfl := Option.some.inj h1
          refine kr_then ?_
          refine kr_block ?_
          refine kr_then ?_
          refine kr_then ?_
          refine kr_loop ?_
          refine kr_then ?_
          obtain rfl := Option.some.inj h0
          refine leave_retG [] ?_
          simp (maxSteps := 1000000) only [↓reduceIte, reduceCtorEq, Nat.reduceEqDiff, Nat.reduceLT, Nat.reduceLeDiff, Nat.reduceAdd, Nat.reduceMul, Int.reduceToNat, push_cast, Gives, he51a, he51b, he51c]
          all_goals exact rH
         ·
          replace h1 := iteF h1 hb64
          refine awp_skip ?_
          refine kn_then ?_
          obtain ⟨vr65, hvr65, h1⟩ := bindS h1
          refine awp_sr2 904 [1, 4, 5, 6, 11, 46, 47, 48] (fun | 4 => some (.tup [.agg (TApiSlState.enc vr65.1), .int .i64 vr65.2.1, .int .i64 vr65.2.2], []) | _ => none) rfl (fun _ _ => rB (rA he51a (rA he51b he51c)) (c_slices_Step hvr65)) ?_
          obtain ⟨vr66, hvr66, h1⟩ := bindS h1
          refine awp_sr2 944 [1, 4, 5, 46, 47, 48, 118] (fun | 3 => some (.bool vr66, []) | _ => none) rfl (fun _ _ => rB (rA he51a (rA he51b he51c)) (c_jobs_same hvr66)) ?_
          refine awp_if rfl (fun hb67 => ?_) (fun hb67 => ?_)
          ·
           replace h1 := iteT h1 hb67
           refine awp_sr2 968 [2, 3] (fun _ => none) rfl (fun _ _ => rS (rA he51a (rA he51b he51c))) ?_
           refine awp_ret ?_
           obtain rfl := Option.some.inj h1
           refine kr_block ?_
           refine kr_then ?_
           refine kr_then ?_
           refine kr_loop ?_
           refine kr_then ?_
           obtain rfl := Option.some.inj h0
           refine leave_retG [] ?_
           simp (maxSteps := 1000000) only [↓reduceIte, reduceCtorEq, Nat.reduceEqDiff, Nat.reduceLT, Nat.reduceLeDiff, Nat.reduceAdd, Nat.reduceMul, Int.reduceToNat, push_cast, Gives, he51a, he51b, he51c]
           all_goals exact rH
          ·
           replace h1 := iteF h1 hb67
           refine awp_skip ?_
           refine kn_block ?_
           refine kn_then ?_
           refine awp_r2 960 [1, 4, 46, 47, 48] (fun _ => none) rfl (fun _ _ => rS (rA he51a (rA he51b he51c))) ?_
           refine kn_then ?_
           exact ⟨⟨(fu, (IntKind.i64.wrap (v49 + 1))), h1⟩, ⟨rF, rE, rfl, rfl, trivial, trivial⟩, Nat.lt_succ_self _⟩
      ·
       replace h1 := iteF h1 hb50
       refine awp_exit ?_
       refine kx_then ?_
       refine kx_then ?_
       refine kx_done ?_
       obtain rfl := Option.some.inj h1
       exact ⟨_, rfl, Nat.le_of_ble_eq_true rfl, ⟨rF, rE, rfl, rfl, trivial, trivial⟩⟩
end Go.T
end
section
namespace Go.T
open Go Go.AM Go.Proofs
set_option maxRecDepth 100000
set_option maxHeartbeats 4000000
set_option linter.unusedVariables false
theorem c_jobs_Find_1 {fu : Nat} {j1 : TApiJbJob} {p2 : Int} {r : Bool} (h0 : jobs_Find_1 fu j1 p2 = some r) : PCall Try.prog 34 [.agg (TApiJbJob.enc j1), .pp [.int .i64 p2]] (.bool r) [] := by
 refine awp_pcall Try.func34 rfl (by decide) (Nat.le_of_ble_eq_true rfl) ?_
 dsimp only [Try.f34]
 rw [jobs_Find_1] at h0
 refine (show AWP _ _ _ _ ⟨enumFr 0 _, [], 0, []⟩ from ?_)
 refine awp_sr2 16 [1, 2] (fun _ => none) rfl (fun _ _ => rT) ?_
 refine awp_sr2 56 [3] (fun _ => none) rfl (fun _ _ => rT) ?_
 refine awp_ret ?_
 obtain rfl := Option.some.inj h0
 refine leave_retG [] ?_
 exact rG
end Go.T
end
section
namespace Go.T
open Go Go.AM Go.Proofs
set_option maxRecDepth 100000
set_option maxHeartbeats 4000000
set_option linter.unusedVariables false
theorem c_slices_IndexFunc_apiJbJob {fu : Nat} {vs1 : List TApiJbJob} {f2 : Int} {r : Int} (h0 : slices_IndexFunc_apiJbJob fu vs1 f2 = some r) : PCall Try.prog 52 [.psl 11 (vs1.map TApiJbJob.enc), .fn 34 [] [.pp [.int .i64 f2]]] (.int .i64 r) [] := by
 refine awp_pcall Try.func52 rfl (by decide) (Nat.le_of_ble_eq_true rfl) ?_
 dsimp only [Try.f52]
 rw [slices_IndexFunc_apiJbJob] at h0
 refine (show AWP _ _ _ _ ⟨enumFr 0 _, [], 0, []⟩ from ?_)
 refine awp_sr2 8 [0, 1] (fun _ => none) rfl (fun _ _ => rT) ?_
 refine awp_seq ?_
 refine awp_sr2 32 [0, 1, 7, 8] (fun _ => none) rfl (fun _ _ => rT) ?_
 obtain ⟨x12, hxx12, h0⟩ := bindS h0
 refine awp_bloop (fun s' => ∃ o18 : Unit, x12 = .inl o18 ∧ s'.nx ≤ 40 ∧ LeN [] s' ⟨[], [], 40, []⟩) ?_ ?_
 ·
  intro s' hs
  obtain ⟨o18, rfl, hn, hs⟩ := hs
  refine kn_then ?_
  refine awp_re [] hn hs ?_
  refine awp_sr2 48 [4] (fun _ => none) rfl (fun _ _ => rT) ?_
  refine awp_ret ?_
  obtain rfl := Option.some.inj h0
  refine leave_retG [] ?_
  exact rG
 ·
  refine awp_loopF (ι := { p : Nat × Int // slices_IndexFunc_apiJbJob_l1 vs1 f2 p.1 p.2 = some x12 }) (fun p => ⟨[(0, .psl 11 (List.map TApiJbJob.enc vs1)), (1, .fn 34 [] [.pp [.int .i64 f2]]), (7, .int .i64 (vs1.length : Int)), (8, .int .i64 p.1.2)], [], 32, []⟩) (fun p => p.1.1) ⟨(fu, 0), hxx12⟩ ⟨rF, rE, rfl, rfl, trivial, trivial⟩ (fun _ => Nat.le_refl _) ?_
  rintro ⟨⟨fu, v13⟩, h1⟩
  cases fu with
  | zero =>
   replace h1 : slices_IndexFunc_apiJbJob_l1 vs1 f2 0 v13 = some x12 := h1
   rw [slices_IndexFunc_apiJbJob_l1] at h1; cases h1
  | succ fu =>
   replace h1 : slices_IndexFunc_apiJbJob_l1 vs1 f2 (fu + 1) v13 = some x12 := h1
   rw [slices_IndexFunc_apiJbJob_l1] at h1
   refine (show AWP _ _ _ _ ⟨[(0, .psl 11 (List.map TApiJbJob.enc vs1)), (1, .fn 34 [] [.pp [.int .i64 f2]]), (7, .int .i64 (vs1.length : Int)), (8, .int .i64 v13)], [], 32, []⟩ from ?_)
   refine awp_sr2 40 [0, 1, 7, 8, 9] (fun _ => none) rfl (fun _ _ => rT) ?_
   refine awp_seq ?_
   refine awp_if rfl (fun hb14 => ?_) (fun hb14 => ?_)
   ·
    replace h1 := iteT h1 hb14
    refine awp_skip ?_
    refine kn_then ?_
    refine awp_seq ?_
    refine awp_block ?_
    refine awp_sr2 56 [0, 1, 5, 7, 8] (fun _ => none) rfl (fun _ _ => rT) ?_
    obtain ⟨e15, he15, h1⟩ := bindS h1
    obtain ⟨he15a, he15b, he15c⟩ := idxS he15
    obtain ⟨vr16, hvr16, h1⟩ := bindS h1
    refine awp_sr2 104 [0, 1, 5, 7, 8, 16] (fun | 5 => some (.bool vr16, []) | _ => none) rfl (fun _ _ => rB (rA he15a (rA he15b he15c)) (c_jobs_Find_1 hvr16)) ?_
    refine awp_if rfl (fun hb17 => ?_) (fun hb17 => ?_)
    ·
     replace h1 := iteT h1 hb17
     refine awp_sr2 120 [4] (fun _ => none) rfl (fun _ _ => rS (rA he15a (rA he15b he15c))) ?_
     refine awp_ret ?_
     obtain rfl := Option.some.inj h1
     refine kr_block ?_
     refine kr_then ?_
     refine kr_then ?_
     refine kr_loop ?_
     refine kr_then ?_
     obtain rfl := Option.some.inj h0
     refine leave_retG [] ?_
     simp (maxSteps := 1000000) only [↓reduceIte, reduceCtorEq, Nat.reduceEqDiff, Nat.reduceLT, Nat.reduceLeDiff, Nat.reduceAdd, Nat.reduceMul, Int.reduceToNat, push_cast, Gives, he15a, he15b, he15c]
     all_goals exact rH
    ·
     replace h1 := iteF h1 hb17
     refine awp_skip ?_
     refine kn_block ?_
     refine kn_then ?_
     refine awp_r2 120 [0, 1, 7, 8] (fun _ => none) rfl (fun _ _ => rS (rA he15a (rA he15b he15c))) ?_
     refine kn_then ?_
     exact ⟨⟨(fu, (IntKind.i64.wrap (v13 + 1))), h1⟩, ⟨rF, rE, rfl, rfl, trivial, trivial⟩, Nat.lt_succ_self _⟩
   ·
    replace h1 := iteF h1 hb14
    refine awp_exit ?_
    refine kx_then ?_
    refine kx_then ?_
    refine kx_done ?_
    obtain rfl := Option.some.inj h1
    exact ⟨_, rfl, Nat.le_of_ble_eq_true rfl, ⟨rF, rE, rfl, rfl, trivial, trivial⟩⟩
end Go.T
end
section
namespace Go.T
open Go Go.AM Go.Proofs
set_option maxRecDepth 100000
set_option maxHeartbeats 4000000
set_option linter.unusedVariables false
theorem c_jobs_first_apiJbJob {fu : Nat} {l1 : List TApiJbJob} {is2 : Int} {r : Int × Int} (h0 : jobs_first_apiJbJob fu l1 is2 = some r) : PCall Try.prog 33 [.psl 11 (l1.map TApiJbJob.enc), .fn 34 [] [.pp [.int .i64 is2]]] (.tup [.int .i64 r.1, .int .i64 r.2]) [] := by
 refine awp_pcall Try.func33 rfl (by decide) (Nat.le_of_ble_eq_true rfl) ?_
 dsimp only [Try.f33]
 rw [jobs_first_apiJbJob] at h0
 refine (show AWP _ _ _ _ ⟨enumFr 0 _, [], 0, []⟩ from ?_)
 refine awp_sr2 16 [0, 1] (fun _ => none) rfl (fun _ _ => rT) ?_
 obtain ⟨vr3, hvr3, h0⟩ := bindS h0
 refine awp_sr2 48 [6] (fun | 2 => some (.int .i64 vr3, []) | _ => none) rfl (fun _ _ => rC (c_slices_IndexFunc_apiJbJob hvr3)) ?_
 refine awp_seq ?_
 refine awp_sr2 64 [6, 11] (fun _ => none) rfl (fun _ _ => rT) ?_
 refine awp_if rfl (fun hb4 => ?_) (fun hb4 => ?_)
 ·
  replace h0 := iteT h0 hb4
  refine awp_sr2 80 [4, 5] (fun _ => none) rfl (fun _ _ => rT) ?_
  refine awp_ret ?_
  refine kr_then ?_
  obtain rfl := Option.some.inj h0
  refine leave_retG [] ?_
  exact rG
 ·
  replace h0 := iteF h0 hb4
  refine awp_skip ?_
  refine kn_then ?_
  refine awp_sr2 88 [4, 5] (fun _ => none) rfl (fun _ _ => rT) ?_
  refine awp_ret ?_
  obtain rfl := Option.some.inj h0
  refine leave_retG [] ?_
  exact rG
end Go.T
end
section
namespace Go.T
open Go Go.AM Go.Proofs
set_option maxRecDepth 100000
set_option maxHeartbeats 4000000
set_option linter.unusedVariables false
theorem c_jobs_Find {fu : Nat} {vs1 : TApiJbState} {level2 : Int} {r : Int × Int} (h0 : jobs_Find fu vs1 level2 = some r) : PCall Try.prog 13 [.agg (TApiJbState.enc vs1), .int .i64 level2] (.tup [.int .i64 r.1, .int .i64 r.2]) [] := by
 refine awp_pcall Try.func13 rfl (by decide) (Nat.le_of_ble_eq_true rfl) ?_
 dsimp only [Try.f13]
 rw [jobs_Find] at h0
 refine (show AWP _ _ _ _ ⟨enumFr 0 _, [], 0, []⟩ from ?_)
 refine awp_sr2 32 [2, 3] (fun _ => none) rfl (fun _ _ => rT) ?_
 refine awp_seq ?_
 obtain ⟨vr3, hvr3, h0⟩ := bindS h0
 refine awp_sr2 88 [2, 3, 7] (fun | 1 => some (.tup [.int .i64 vr3.1, .int .i64 vr3.2], []) | _ => none) rfl (fun _ _ => rC (c_jobs_Check hvr3)) ?_
 refine awp_sr2 104 [2, 3, 7, 14] (fun _ => none) rfl (fun _ _ => rT) ?_
 refine awp_if rfl (fun hb4 => ?_) (fun hb4 => ?_)
 ·
  replace h0 := iteT h0 hb4
  refine awp_sr2 128 [4, 5] (fun _ => none) rfl (fun _ _ => rT) ?_
  refine awp_ret ?_
  refine kr_then ?_
  obtain rfl := Option.some.inj h0
  refine leave_retG [] ?_
  exact rG
 ·
  replace h0 := iteF h0 hb4
  refine awp_skip ?_
  refine kn_then ?_
  obtain ⟨vr5, hvr5, h0⟩ := bindS h0
  refine awp_sr2 168 [4, 5] (fun | 3 => some (.tup [.int .i64 vr5.1, .int .i64 vr5.2], []) | _ => none) rfl (fun _ _ => rC (c_jobs_first_apiJbJob hvr5)) ?_
  refine awp_ret ?_
  obtain rfl := Option.some.inj h0
  refine leave_retG [] ?_
  exact rG
end Go.T
end
section
namespace Go.T
open Go Go.AM Go.Proofs
set_option maxRecDepth 100000
set_option maxHeartbeats 4000000
set_option linter.unusedVariables false
theorem c_jobs_Left {fu : Nat} {vs1 : TApiJbState} {level2 : Int} {r : Int × Int} (h0 : jobs_Left fu vs1 level2 = some r) : PCall Try.prog 9 [.agg (TApiJbState.enc vs1), .int .i64 level2] (.tup [.int .i64 r.1, .int .i64 r.2]) [] := by
 refine awp_pcall Try.func9 rfl (by decide) (Nat.le_of_ble_eq_true rfl) ?_
 dsimp only [Try.f9]
 rw [jobs_Left] at h0
 refine (show AWP _ _ _ _ ⟨enumFr 0 _, [], 0, []⟩ from ?_)
 refine awp_sr2 24 [1, 2] (fun _ => none) rfl (fun _ _ => rT) ?_
 obtain ⟨vr3, hvr3, h0⟩ := bindS h0
 refine awp_sr2 88 [2, 5, 6] (fun | 2 => some (.tup [.int .i64 vr3.1, .int .i64 vr3.2], []) | _ => none) rfl (fun _ _ => rC (c_jobs_Find hvr3)) ?_
 refine awp_seq ?_
 refine awp_sr2 104 [2, 5, 6, 14] (fun _ => none) rfl (fun _ _ => rT) ?_
 refine awp_if rfl (fun hb4 => ?_) (fun hb4 => ?_)
 ·
  replace h0 := iteT h0 hb4
  refine awp_sr2 128 [4, 5] (fun _ => none) rfl (fun _ _ => rT) ?_
  refine awp_ret ?_
  refine kr_then ?_
  obtain rfl := Option.some.inj h0
  refine leave_retG [] ?_
  exact rG
 ·
  replace h0 := iteF h0 hb4
  refine awp_skip ?_
  refine kn_then ?_
  obtain ⟨e5, he5, h0⟩ := bindS h0
  obtain ⟨he5a, he5b, he5c⟩ := idxS he5
  obtain ⟨vr6, hvr6, h0⟩ := bindS h0
  refine awp_sr2 192 [4, 5] (fun | 6 => some (.tup [.int .i64 vr6.1, .int .i64 vr6.2], []) | _ => none) rfl (fun _ _ => rB (rA he5a (rA he5b he5c)) (c_slices_Left hvr6)) ?_
  refine awp_ret ?_
  obtain rfl := Option.some.inj h0
  refine leave_retG [] ?_
  simp (maxSteps := 1000000) only [↓reduceIte, reduceCtorEq, Nat.reduceEqDiff, Nat.reduceLT, Nat.reduceLeDiff, Nat.reduceAdd, Nat.reduceMul, Int.reduceToNat, push_cast, Gives, he5a, he5b, he5c]
  all_goals exact rH
end Go.T
end
section
namespace Go.T
open Go Go.AM Go.Proofs
set_option maxRecDepth 100000
set_option maxHeartbeats 4000000
set_option linter.unusedVariables false
theorem c_slices_Clone_apiJbJob_2 {fu : Nat} {vs1 : List TApiJbJob} {r : List TApiJbJob} (h0 : slices_Clone_apiJbJob_2 fu vs1 = some r) : PCall Try.prog 32 [.psl 11 (vs1.map TApiJbJob.enc)] (.sl 0 0 11 0 r.length) [⟨0, true, true, 11, r.map TApiJbJob.enc⟩] := by
 refine awp_pcall Try.func32 rfl (by decide) (Nat.le_of_ble_eq_true rfl) ?_
 dsimp only [Try.f32]
 rw [slices_Clone_apiJbJob_2] at h0
 refine (show AWP _ _ _ _ ⟨enumFr 0 _, [], 0, []⟩ from ?_)
 refine awp_sr2 8 [0] (fun _ => none) rfl (fun _ _ => rT) ?_
 refine awp_seq ?_
 cases hb2 : vs1.isEmpty with
 | true =>
  replace h0 := iteT h0 hb2
  obtain rfl : vs1 = [] := List.isEmpty_iff.1 hb2
  refine awp_sr2 24 [0, 4] (fun _ => none) rfl (fun _ _ => rT) ?_
  refine awp_cond_any rfl ?_ ?_
  ·
   skip
   refine awp_sr2 32 [2] (fun _ => none) rfl (fun _ _ => rT) ?_
   refine awp_re (s2 := ⟨[(2, .sl 32 0 11 0 0)], [(32, ⟨0, true, true, 11, List.map TApiJbJob.enc []⟩)], 33, []⟩) [(32, 11)] (Nat.le_of_ble_eq_true rfl) ⟨rF, rE, rfl, rfl, trivial, rN⟩ ?_
   refine awp_ret ?_
   refine kr_then ?_
   obtain rfl := Option.some.inj h0
   refine leave_retG [32] ?_
   exact rG
  ·
   skip
   refine awp_skip ?_
   refine kn_then ?_
   refine awp_sr2 56 [2] (fun _ => none) rfl (fun _ _ => rT) ?_
   refine awp_re (s2 := ⟨[(2, .sl 24 1 11 0 0)], [(24, ⟨1, true, true, 11, List.map TApiJbJob.enc []⟩)], 56, []⟩) [] (Nat.le_of_ble_eq_true rfl) ⟨rF, rE, rfl, rfl, trivial, trivial⟩ ?_
   refine awp_ret ?_
   obtain rfl := Option.some.inj h0
   refine leave_retG [24] ?_
   exact rG
 | false =>
  replace h0 := iteF h0 hb2
  refine awp_sr2 24 [0, 4] (fun _ => none) rfl (fun _ _ => rS hb2) ?_
  refine awp_condF rfl ?_
  refine awp_skip ?_
  refine kn_then ?_
  obtain ⟨hc3, h0⟩ := guS h0
  refine awp_sr2 56 [2] (fun _ => none) rfl (fun _ _ => rS hb2) ?_
  refine awp_re (s2 := ⟨[(2, .sl 24 1 11 0 vs1.length)], [(24, ⟨1, true, true, 11, List.map TApiJbJob.enc vs1⟩)], 56, []⟩) [] (Nat.le_of_ble_eq_true rfl) ⟨rF, rE, rfl, rfl, trivial, trivial⟩ ?_
  refine awp_ret ?_
  obtain rfl := Option.some.inj h0
  refine leave_retG [24] ?_
  simp (maxSteps := 1000000) only [↓reduceIte, reduceCtorEq, Nat.reduceEqDiff, Nat.reduceLT, Nat.reduceLeDiff, Nat.reduceAdd, Nat.reduceMul, Int.reduceToNat, push_cast, Gives, hb2]
  all_goals exact rH
end Go.T
end
section
namespace Go.T
open Go Go.AM Go.Proofs
set_option maxRecDepth 100000
set_option maxHeartbeats 4000000
set_option linter.unusedVariables false
theorem c_jobs_Read {fu : Nat} {vs1 : TApiJbState} {level2 : Int} {most3 : Int} {r : TApiJbState × Int × Int} (h0 : jobs_Read fu vs1 level2 most3 = some r) : PCall Try.prog 12 [.agg (TApiJbState.enc vs1), .int .i64 level2, .int .i64 most3] (.tup [.agg (TApiJbState.enc r.1), .int .i64 r.2.1, .int .i64 r.2.2]) [] := by
 refine awp_pcall Try.func12 rfl (by decide) (Nat.le_of_ble_eq_true rfl) ?_
 dsimp only [Try.f12]
 rw [jobs_Read] at h0
 refine (show AWP _ _ _ _ ⟨enumFr 0 _, [], 0, []⟩ from ?_)
 refine awp_sr2 32 [1, 2, 3, 6] (fun _ => none) rfl (fun _ _ => rT) ?_
 refine awp_seq ?_
 obtain ⟨vr4, hvr4, h0⟩ := bindS h0
 refine awp_sr2 88 [1, 2, 3, 6, 10] (fun | 1 => some (.tup [.int .i64 vr4.1, .int .i64 vr4.2], []) | _ => none) rfl (fun _ _ => rC (c_jobs_Check hvr4)) ?_
 refine awp_sr2 104 [1, 2, 3, 6, 10, 21] (fun _ => none) rfl (fun _ _ => rT) ?_
 refine awp_if rfl (fun hb5 => ?_) (fun hb5 => ?_)
 ·
  replace h0 := iteT h0 hb5
  refine awp_sr2 144 [6, 7, 8] (fun _ => none) rfl (fun _ _ => rT) ?_
  refine awp_ret ?_
  refine kr_then ?_
  obtain rfl := Option.some.inj h0
  refine leave_retG [] ?_
  exact rG
 ·
  replace h0 := iteF h0 hb5
  refine awp_skip ?_
  refine kn_then ?_
  refine awp_seq ?_
  refine awp_sr2 120 [1, 2, 3, 6, 25] (fun _ => none) rfl (fun _ _ => rT) ?_
  refine awp_if rfl (fun hb6 => ?_) (fun hb6 => ?_)
  ·
   replace h0 := iteT h0 hb6
   refine awp_sr2 152 [6, 7, 8] (fun _ => none) rfl (fun _ _ => rT) ?_
   refine awp_ret ?_
   refine kr_then ?_
   obtain rfl := Option.some.inj h0
   refine leave_retG [] ?_
   exact rG
  ·
   replace h0 := iteF h0 hb6
   refine awp_skip ?_
   refine kn_then ?_
   obtain ⟨vr7, hvr7, h0⟩ := bindS h0
   refine awp_sr2 184 [2, 3, 6, 8, 11] (fun | 2 => some (.tup [.int .i64 vr7.1, .int .i64 vr7.2], []) | _ => none) rfl (fun _ _ => rC (c_jobs_Find hvr7)) ?_
   refine awp_seq ?_
   refine awp_sr2 200 [2, 3, 6, 8, 11, 34] (fun _ => none) rfl (fun _ _ => rT) ?_
   refine awp_if rfl (fun hb8 => ?_) (fun hb8 => ?_)
   ·
    replace h0 := iteT h0 hb8
    refine awp_sr2 240 [6, 7, 8] (fun _ => none) rfl (fun _ _ => rT) ?_
    refine awp_ret ?_
    refine kr_then ?_
    obtain rfl := Option.some.inj h0
    refine leave_retG [] ?_
    exact rG
   ·
    replace h0 := iteF h0 hb8
    refine awp_skip ?_
    refine kn_then ?_
    refine awp_seq ?_
    obtain ⟨e9, he9, h0⟩ := bindS h0
    obtain ⟨he9a, he9b, he9c⟩ := idxS he9
    obtain ⟨vr10, hvr10, h0⟩ := bindS h0
    refine awp_sr2 296 [2, 3, 6, 11, 12] (fun | 6 => some (.tup [.int .i64 vr10.1, .int .i64 vr10.2], []) | _ => none) rfl (fun _ _ => rB (rA he9a (rA he9b he9c)) (c_slices_Left hvr10)) ?_
    refine awp_sr2 312 [2, 3, 6, 11, 48] (fun _ => none) rfl (fun _ _ => rS (rA he9a (rA he9b he9c))) ?_
    refine awp_if rfl (fun hb11 => ?_) (fun hb11 => ?_)
    ·
     replace h0 := iteT h0 hb11
     refine awp_sr2 344 [6, 7, 8] (fun _ => none) rfl (fun _ _ => rS (rA he9a (rA he9b he9c))) ?_
     refine awp_ret ?_
     refine kr_then ?_
     obtain rfl := Option.some.inj h0
     refine leave_retG [] ?_
     simp (maxSteps := 1000000) only [↓reduceIte, reduceCtorEq, Nat.reduceEqDiff, Nat.reduceLT, Nat.reduceLeDiff, Nat.reduceAdd, Nat.reduceMul, Int.reduceToNat, push_cast, Gives, he9a, he9b, he9c]
     all_goals exact rH
    ·
     replace h0 := iteF h0 hb11
     refine awp_skip ?_
     refine kn_then ?_
     obtain ⟨vr12, hvr12, h0⟩ := bindS h0
     refine awp_sr2 440 [3, 6, 7, 8, 11, 14] (fun | 7 => some (.tup [.agg (TApiSlState.enc vr12.1), .int .i64 vr12.2.1, .int .i64 vr12.2.2], []) | _ => none) rfl (fun _ _ => rB (rA he9a (rA he9b he9c)) (c_slices_Step hvr12)) ?_
     refine awp_seq ?_
     refine awp_sr2 456 [3, 6, 7, 8, 11, 14, 63] (fun _ => none) rfl (fun _ _ => rS (rA he9a (rA he9b he9c))) ?_
     refine awp_if rfl (fun hb13 => ?_) (fun hb13 => ?_)
     ·
      replace h0 := iteT h0 hb13
      refine awp_sr2 496 [6, 7, 8] (fun _ => none) rfl (fun _ _ => rS (rA he9a (rA he9b he9c))) ?_
      refine awp_ret ?_
      refine kr_then ?_
      obtain rfl := Option.some.inj h0
      refine leave_retG [] ?_
      simp (maxSteps := 1000000) only [↓reduceIte, reduceCtorEq, Nat.reduceEqDiff, Nat.reduceLT, Nat.reduceLeDiff, Nat.reduceAdd, Nat.reduceMul, Int.reduceToNat, push_cast, Gives, he9a, he9b, he9c]
      all_goals exact rH
     ·
      replace h0 := iteF h0 hb13
      refine awp_skip ?_
      refine kn_then ?_
      refine awp_sr2 472 [3, 6, 7, 11, 14] (fun _ => none) rfl (fun _ _ => rS (rA he9a (rA he9b he9c))) ?_
      obtain ⟨vr14, hvr14, h0⟩ := bindS h0
      refine awp_sr2 512 [6, 7, 11, 14] (fun | 2 => some (.sl 0 0 11 0 vr14.length, [⟨0, true, true, 11, vr14.map TApiJbJob.enc⟩]) | _ => none) rfl (fun _ _ => rB (rA he9a (rA he9b he9c)) (c_slices_Clone_apiJbJob_2 hvr14)) ?_
      obtain ⟨e15, he15, h0⟩ := bindS h0
      obtain ⟨he15a, he15b, he15c⟩ := idxS he15
      refine awp_sr2 568 [6, 7] (fun _ => none) rfl (fun _ _ => rS (rA he9a (rA he9b (rA he9c (rA he15a (rA he15b he15c)))))) ?_
      refine awp_re (s2 := ⟨[(6, .ref 8 0 0 0), (7, .int .i64 vr12.2.1)], [(0, ⟨0, true, true, 4, [[.int .i64 vs1.Levels.B, .psl 1 (List.map TApiLvLevel.enc vs1.Levels.Levels), .psl 11 (List.map TApiJbJob.enc vs1.Jobs), .int .i64 vs1.NextId]]⟩), (8, ⟨0, true, false, 4, [[.int .i64 vs1.Levels.B, .psl 1 (List.map TApiLvLevel.enc vs1.Levels.Levels), .sl 488 0 11 0 ((vr14.set vr7.1.toNat (TApiJbJob.mk e15.Level vr12.1)).length), .int .i64 vs1.NextId]]⟩), (408, ⟨0, true, true, 10, [[.psl 1 (List.map (encSl 4 TApiEntry.enc) vr12.1.Merge.Runs), .psl 1 (List.map (encInt .i64) vr12.1.Merge.At), .psl 2 (List.map TApiLsKey.enc vr12.1.Merge.Tree.Keys), .psl 1 (List.map (encInt .i64) vr12.1.Merge.Tree.Lose), .int .i64 vr12.1.Merge.Tree.Win, .bool vr12.1.Shadow.Some, .str vr12.1.Shadow.Last, .bool vr12.1.Shadow.Bottom, .psl 4 (List.map TApiEntry.enc vr12.1.Out), .int .i64 vr12.1.Steps]]⟩), (488, ⟨0, true, true, 11, List.map TApiJbJob.enc (vr14.set vr7.1.toNat (TApiJbJob.mk e15.Level vr12.1))⟩)], 568, []⟩) [] (Nat.le_of_ble_eq_true rfl) ⟨rF, rE, rfl, rfl, trivial, trivial⟩ ?_
      refine awp_sr2 608 [6, 7, 8] (fun _ => none) rfl (fun _ _ => rS (rA he9a (rA he9b (rA he9c (rA he15a (rA he15b he15c)))))) ?_
      refine awp_ret ?_
      obtain rfl := Option.some.inj h0
      refine leave_retG [] ?_
      simp (maxSteps := 1000000) only [↓reduceIte, reduceCtorEq, Nat.reduceEqDiff, Nat.reduceLT, Nat.reduceLeDiff, Nat.reduceAdd, Nat.reduceMul, Int.reduceToNat, push_cast, Gives, he9a, he9b, he9c, he15a, he15b, he15c]
      all_goals exact rH
end Go.T
end
section
namespace Go.T
open Go Go.AM Go.Proofs
set_option maxRecDepth 100000
set_option maxHeartbeats 4000000
set_option linter.unusedVariables false
theorem c_bookendlaw16_shown {fu : Nat} {r : Bool} (h0 : bookendlaw16_shown fu = some r) : PCall Try.prog 7 [] (.bool r) [] := by
 refine awp_pcall Try.func7 rfl (by decide) (Nat.le_of_ble_eq_true rfl) ?_
 dsimp only [Try.f7, List.append]
 rw [bookendlaw16_shown] at h0
 refine (show AWP _ _ _ _ ⟨enumFr 0 _, [], 0, []⟩ from ?_)
 refine awp_sr2 8 [] (fun _ => none) rfl (fun _ _ => rT) ?_
 obtain ⟨vr1, hvr1, h0⟩ := bindS h0
 obtain ⟨vr2, hvr2, h0⟩ := bindS h0
 refine awp_sr2 72 [1, 2] (fun | 0 => some (.agg (TApiLvLevels.enc vr1), []) | 1 => some (.tup [.agg (TApiJbState.enc vr2.1), .int .i64 vr2.2], []) | _ => none) rfl (fun Kt hK => by
   try have q0 := c_bookendlaw16_Example hvr1
   try have q1 := c_jobs_Of hvr2
   exact rT) ?_
 refine awp_seq ?_
 obtain ⟨b3, hb3, h0⟩ := bindS h0
 obtain ⟨b4, hb4, h0⟩ := bindS h0
 obtain ⟨b6, hb6, h0⟩ := bindS h0
 refine awp_sr3 (fr' := [(1, .ref 48 0 0 0), (37, .bool b6)]) (hp' := [(48, ⟨0, true, true, 4, [[.int .i64 vr2.1.Levels.B, .psl 1 (List.map TApiLvLevel.enc vr2.1.Levels.Levels), .psl 11 (List.map TApiJbJob.enc vr2.1.Jobs), .int .i64 vr2.1.NextId]]⟩)]) [48] 240 [1, 37] (fun _ => none) rfl (fun Kt hK => by
   cases hg7 : (!(decide (vr2.2 = 0))) with
   | false =>
    replace hb3 := iteF hb3 hg7
    have hqb3 := Option.some.inj hb3
    cases b3 with
    | false =>
     replace hb4 := iteF hb4 rfl
     have hqb4 := Option.some.inj hb4
     cases b4 with
     | false =>
      replace hb6 := iteF hb6 rfl
      obtain ⟨e5, he5, hb6⟩ := bindS hb6
      have he5b := (idxS he5).2.1
      have he5c := (idxL 0 he5 rfl).1
      have he5a := (idxL 0 he5 rfl).2
      have hqb6 := Option.some.inj hb6
      subst hqb6
      simp (maxSteps := 1000000) only [↓reduceIte, reduceCtorEq, Nat.reduceEqDiff, Nat.reduceLT, Nat.reduceLeDiff, Nat.reduceAdd, Nat.reduceMul, Int.reduceToNat, push_cast, ↓hg7, ↓hqb3, ↓hqb4, he5a, he5b, he5c, he5]
      try simp only [↓hg7, ↓hqb3, ↓hqb4] at hK
      all_goals exact rU
     | true =>
      replace hb6 := iteT hb6 rfl
      have hqb6 := Option.some.inj hb6
      subst hqb6
      simp (maxSteps := 1000000) only [↓reduceIte, reduceCtorEq, Nat.reduceEqDiff, Nat.reduceLT, Nat.reduceLeDiff, Nat.reduceAdd, Nat.reduceMul, Int.reduceToNat, push_cast, ↓hg7, ↓hqb3, ↓hqb4]
      try simp only [↓hg7, ↓hqb3, ↓hqb4] at hK
      all_goals exact rU
    | true =>
     replace hb4 := iteT hb4 rfl
     have hqb4 := Option.some.inj hb4
     cases b4 with
     | false =>
      cases hqb4
     | true =>
      replace hb6 := iteT hb6 rfl
      have hqb6 := Option.some.inj hb6
      subst hqb6
      simp (maxSteps := 1000000) only [↓reduceIte, reduceCtorEq, Nat.reduceEqDiff, Nat.reduceLT, Nat.reduceLeDiff, Nat.reduceAdd, Nat.reduceMul, Int.reduceToNat, push_cast, ↓hg7, ↓hqb3]
      try simp only [↓hg7, ↓hqb3] at hK
      all_goals exact rU
   | true =>
    replace hb3 := iteT hb3 hg7
    have hqb3 := Option.some.inj hb3
    cases b3 with
    | false =>
     cases hqb3
    | true =>
     replace hb4 := iteT hb4 rfl
     have hqb4 := Option.some.inj hb4
     cases b4 with
     | false =>
      cases hqb4
     | true =>
      replace hb6 := iteT hb6 rfl
      have hqb6 := Option.some.inj hb6
      subst hqb6
      simp (maxSteps := 1000000) only [↓reduceIte, reduceCtorEq, Nat.reduceEqDiff, Nat.reduceLT, Nat.reduceLeDiff, Nat.reduceAdd, Nat.reduceMul, Int.reduceToNat, push_cast, ↓hg7]
      try simp only [↓hg7] at hK
      all_goals exact rU) ?_
 refine awp_if rfl (fun hb13 => ?_) (fun hb13 => ?_)
 ·
  replace h0 := iteT h0 hb13
  refine awp_sr2 248 [0] (fun _ => none) rfl (fun _ _ => rT) ?_
  refine awp_ret ?_
  refine kr_then ?_
  obtain rfl := Option.some.inj h0
  refine leave_retG [] ?_
  exact rG
 ·
  replace h0 := iteF h0 hb13
  refine awp_skip ?_
  refine kn_then ?_
  obtain ⟨vr14, hvr14, h0⟩ := bindS h0
  refine awp_sr2 296 [1, 2, 3] (fun | 1 => some (.tup [.int .i64 vr14.1, .int .i64 vr14.2], []) | _ => none) rfl (fun _ _ => rC (c_jobs_Left hvr14)) ?_
  obtain ⟨vr15, hvr15, h0⟩ := bindS h0
  refine awp_sr2 376 [2, 3, 4, 5, 6] (fun | 1 => some (.tup [.agg (TApiJbState.enc vr15.1), .int .i64 vr15.2.1, .int .i64 vr15.2.2], []) | _ => none) rfl (fun _ _ => rC (c_jobs_Read hvr15)) ?_
  obtain ⟨vr16, hvr16, h0⟩ := bindS h0
  refine awp_sr2 432 [2, 3, 4, 5, 6, 7, 8] (fun | 1 => some (.tup [.int .i64 vr16.1, .int .i64 vr16.2], []) | _ => none) rfl (fun _ _ => rC (c_jobs_Left hvr16)) ?_
  obtain ⟨vr17, hvr17, h0⟩ := bindS h0
  refine awp_sr2 512 [2, 3, 4, 5, 6, 7, 8, 11] (fun | 1 => some (.tup [.agg (TApiJbState.enc vr17.1), .int .i64 vr17.2.1, .int .i64 vr17.2.2], []) | _ => none) rfl (fun _ _ => rC (c_jobs_Read hvr17)) ?_
  obtain ⟨b18, hb18, h0⟩ := bindS h0
  obtain ⟨b19, hb19, h0⟩ := bindS h0
  obtain ⟨b20, hb20, h0⟩ := bindS h0
  obtain ⟨b21, hb21, h0⟩ := bindS h0
  obtain ⟨b22, hb22, h0⟩ := bindS h0
  obtain ⟨b23, hb23, h0⟩ := bindS h0
  obtain ⟨b24, hb24, h0⟩ := bindS h0
  obtain ⟨b26, hb26, h0⟩ := bindS h0
  obtain ⟨b29, hb29, h0⟩ := bindS h0
  refine awp_sr3 (fr' := [(0, .bool b29)]) (hp' := [(48, ⟨0, true, true, 4, [[.int .i64 vr2.1.Levels.B, .psl 1 (List.map TApiLvLevel.enc vr2.1.Levels.Levels), .psl 11 (List.map TApiJbJob.enc vr2.1.Jobs), .int .i64 vr2.1.NextId]]⟩), (344, ⟨0, true, true, 4, [[.int .i64 vr15.1.Levels.B, .psl 1 (List.map TApiLvLevel.enc vr15.1.Levels.Levels), .psl 11 (List.map TApiJbJob.enc vr15.1.Jobs), .int .i64 vr15.1.NextId]]⟩), (480, ⟨0, true, true, 4, [[.int .i64 vr17.1.Levels.B, .psl 1 (List.map TApiLvLevel.enc vr17.1.Levels.Levels), .psl 11 (List.map TApiJbJob.enc vr17.1.Jobs), .int .i64 vr17.1.NextId]]⟩)]) [48, 344, 480] 952 [0] (fun _ => none) rfl (fun Kt hK => by
    cases hg30 : (decide (vr14.1 = 3)) with
    | false =>
     replace hb18 := iteF hb18 hg30
     have hqb18 := Option.some.inj hb18
     cases b18 with
     | false =>
      replace hb19 := iteF hb19 rfl
      have hqb19 := Option.some.inj hb19
      cases b19 with
      | false =>
       replace hb20 := iteF hb20 rfl
       have hqb20 := Option.some.inj hb20
       cases b20 with
       | false =>
        replace hb21 := iteF hb21 rfl
        have hqb21 := Option.some.inj hb21
        cases b21 with
        | false =>
         replace hb22 := iteF hb22 rfl
         have hqb22 := Option.some.inj hb22
         cases b22 with
         | false =>
          replace hb23 := iteF hb23 rfl
          have hqb23 := Option.some.inj hb23
          cases b23 with
          | false =>
           replace hb24 := iteF hb24 rfl
           have hqb24 := Option.some.inj hb24
           cases b24 with
           | false =>
            replace hb26 := iteF hb26 rfl
            have hqb26 := Option.some.inj hb26
            cases b26 with
            | false =>
             replace hb29 := iteF hb29 rfl
             have hqb29 := Option.some.inj hb29
             subst hqb29
             simp (maxSteps := 1000000) only [↓reduceIte, reduceCtorEq, Nat.reduceEqDiff, Nat.reduceLT, Nat.reduceLeDiff, Nat.reduceAdd, Nat.reduceMul, Int.reduceToNat, push_cast, ↓hg30]
             try simp only [↓hg30] at hK
             all_goals exact rU
            | true =>
             cases hqb26
           | true =>
            cases hqb24
          | true =>
           cases hqb23
         | true =>
          cases hqb22
        | true =>
         cases hqb21
       | true =>
        cases hqb20
      | true =>
       cases hqb19
     | true =>
      cases hqb18
    | true =>
     replace hb18 := iteT hb18 hg30
     have hqb18 := Option.some.inj hb18
     cases b18 with
     | false =>
      replace hb19 := iteF hb19 rfl
      have hqb19 := Option.some.inj hb19
      cases b19 with
      | false =>
       replace hb20 := iteF hb20 rfl
       have hqb20 := Option.some.inj hb20
       cases b20 with
       | false =>
        replace hb21 := iteF hb21 rfl
        have hqb21 := Option.some.inj hb21
        cases b21 with
        | false =>
         replace hb22 := iteF hb22 rfl
         have hqb22 := Option.some.inj hb22
         cases b22 with
         | false =>
          replace hb23 := iteF hb23 rfl
          have hqb23 := Option.some.inj hb23
          cases b23 with
          | false =>
           replace hb24 := iteF hb24 rfl
           have hqb24 := Option.some.inj hb24
           cases b24 with
           | false =>
            replace hb26 := iteF hb26 rfl
            have hqb26 := Option.some.inj hb26
            cases b26 with
            | false =>
             replace hb29 := iteF hb29 rfl
             have hqb29 := Option.some.inj hb29
             subst hqb29
             simp (maxSteps := 1000000) only [↓reduceIte, reduceCtorEq, Nat.reduceEqDiff, Nat.reduceLT, Nat.reduceLeDiff, Nat.reduceAdd, Nat.reduceMul, Int.reduceToNat, push_cast, ↓hg30, ↓hqb18]
             try simp only [↓hg30, ↓hqb18] at hK
             all_goals exact rU
            | true =>
             cases hqb26
           | true =>
            cases hqb24
          | true =>
           cases hqb23
         | true =>
          cases hqb22
        | true =>
         cases hqb21
       | true =>
        cases hqb20
      | true =>
       cases hqb19
     | true =>
      replace hb19 := iteT hb19 rfl
      have hqb19 := Option.some.inj hb19
      cases b19 with
      | false =>
       replace hb20 := iteF hb20 rfl
       have hqb20 := Option.some.inj hb20
       cases b20 with
       | false =>
        replace hb21 := iteF hb21 rfl
        have hqb21 := Option.some.inj hb21
        cases b21 with
        | false =>
         replace hb22 := iteF hb22 rfl
         have hqb22 := Option.some.inj hb22
         cases b22 with
         | false =>
          replace hb23 := iteF hb23 rfl
          have hqb23 := Option.some.inj hb23
          cases b23 with
          | false =>
           replace hb24 := iteF hb24 rfl
           have hqb24 := Option.some.inj hb24
           cases b24 with
           | false =>
            replace hb26 := iteF hb26 rfl
            have hqb26 := Option.some.inj hb26
            cases b26 with
            | false =>
             replace hb29 := iteF hb29 rfl
             have hqb29 := Option.some.inj hb29
             subst hqb29
             simp (maxSteps := 1000000) only [↓reduceIte, reduceCtorEq, Nat.reduceEqDiff, Nat.reduceLT, Nat.reduceLeDiff, Nat.reduceAdd, Nat.reduceMul, Int.reduceToNat, push_cast, ↓hg30, ↓hqb18, ↓hqb19]
             try simp only [↓hg30, ↓hqb18, ↓hqb19] at hK
             all_goals exact rU
            | true =>
             cases hqb26
           | true =>
            cases hqb24
          | true =>
           cases hqb23
         | true =>
          cases hqb22
        | true =>
         cases hqb21
       | true =>
        cases hqb20
      | true =>
       replace hb20 := iteT hb20 rfl
       have hqb20 := Option.some.inj hb20
       cases b20 with
       | false =>
        replace hb21 := iteF hb21 rfl
        have hqb21 := Option.some.inj hb21
        cases b21 with
        | false =>
         replace hb22 := iteF hb22 rfl
         have hqb22 := Option.some.inj hb22
         cases b22 with
         | false =>
          replace hb23 := iteF hb23 rfl
          have hqb23 := Option.some.inj hb23
          cases b23 with
          | false =>
           replace hb24 := iteF hb24 rfl
           have hqb24 := Option.some.inj hb24
           cases b24 with
           | false =>
            replace hb26 := iteF hb26 rfl
            have hqb26 := Option.some.inj hb26
            cases b26 with
            | false =>
             replace hb29 := iteF hb29 rfl
             have hqb29 := Option.some.inj hb29
             subst hqb29
             simp (maxSteps := 1000000) only [↓reduceIte, reduceCtorEq, Nat.reduceEqDiff, Nat.reduceLT, Nat.reduceLeDiff, Nat.reduceAdd, Nat.reduceMul, Int.reduceToNat, push_cast, ↓hg30, ↓hqb18, ↓hqb19, ↓hqb20]
             try simp only [↓hg30, ↓hqb18, ↓hqb19, ↓hqb20] at hK
             all_goals exact rU
            | true =>
             cases hqb26
           | true =>
            cases hqb24
          | true =>
           cases hqb23
         | true =>
          cases hqb22
        | true =>
         cases hqb21
       | true =>
        replace hb21 := iteT hb21 rfl
        have hqb21 := Option.some.inj hb21
        cases b21 with
        | false =>
         replace hb22 := iteF hb22 rfl
         have hqb22 := Option.some.inj hb22
         cases b22 with
         | false =>
          replace hb23 := iteF hb23 rfl
          have hqb23 := Option.some.inj hb23
          cases b23 with
          | false =>
           replace hb24 := iteF hb24 rfl
           have hqb24 := Option.some.inj hb24
           cases b24 with
           | false =>
            replace hb26 := iteF hb26 rfl
            have hqb26 := Option.some.inj hb26
            cases b26 with
            | false =>
             replace hb29 := iteF hb29 rfl
             have hqb29 := Option.some.inj hb29
             subst hqb29
             simp (maxSteps := 1000000) only [↓reduceIte, reduceCtorEq, Nat.reduceEqDiff, Nat.reduceLT, Nat.reduceLeDiff, Nat.reduceAdd, Nat.reduceMul, Int.reduceToNat, push_cast, ↓hg30, ↓hqb18, ↓hqb19, ↓hqb20, ↓hqb21]
             try simp only [↓hg30, ↓hqb18, ↓hqb19, ↓hqb20, ↓hqb21] at hK
             all_goals exact rU
            | true =>
             cases hqb26
           | true =>
            cases hqb24
          | true =>
           cases hqb23
         | true =>
          cases hqb22
        | true =>
         replace hb22 := iteT hb22 rfl
         have hqb22 := Option.some.inj hb22
         cases b22 with
         | false =>
          replace hb23 := iteF hb23 rfl
          have hqb23 := Option.some.inj hb23
          cases b23 with
          | false =>
           replace hb24 := iteF hb24 rfl
           have hqb24 := Option.some.inj hb24
           cases b24 with
           | false =>
            replace hb26 := iteF hb26 rfl
            have hqb26 := Option.some.inj hb26
            cases b26 with
            | false =>
             replace hb29 := iteF hb29 rfl
             have hqb29 := Option.some.inj hb29
             subst hqb29
             simp (maxSteps := 1000000) only [↓reduceIte, reduceCtorEq, Nat.reduceEqDiff, Nat.reduceLT, Nat.reduceLeDiff, Nat.reduceAdd, Nat.reduceMul, Int.reduceToNat, push_cast, ↓hg30, ↓hqb18, ↓hqb19, ↓hqb20, ↓hqb21, ↓hqb22]
             try simp only [↓hg30, ↓hqb18, ↓hqb19, ↓hqb20, ↓hqb21, ↓hqb22] at hK
             all_goals exact rU
            | true =>
             cases hqb26
           | true =>
            cases hqb24
          | true =>
           cases hqb23
         | true =>
          replace hb23 := iteT hb23 rfl
          have hqb23 := Option.some.inj hb23
          cases b23 with
          | false =>
           replace hb24 := iteF hb24 rfl
           have hqb24 := Option.some.inj hb24
           cases b24 with
           | false =>
            replace hb26 := iteF hb26 rfl
            have hqb26 := Option.some.inj hb26
            cases b26 with
            | false =>
             replace hb29 := iteF hb29 rfl
             have hqb29 := Option.some.inj hb29
             subst hqb29
             simp (maxSteps := 1000000) only [↓reduceIte, reduceCtorEq, Nat.reduceEqDiff, Nat.reduceLT, Nat.reduceLeDiff, Nat.reduceAdd, Nat.reduceMul, Int.reduceToNat, push_cast, ↓hg30, ↓hqb18, ↓hqb19, ↓hqb20, ↓hqb21, ↓hqb22, ↓hqb23]
             try simp only [↓hg30, ↓hqb18, ↓hqb19, ↓hqb20, ↓hqb21, ↓hqb22, ↓hqb23] at hK
             all_goals exact rU
            | true =>
             cases hqb26
           | true =>
            cases hqb24
          | true =>
           replace hb24 := iteT hb24 rfl
           have hqb24 := Option.some.inj hb24
           cases b24 with
           | false =>
            replace hb26 := iteF hb26 rfl
            have hqb26 := Option.some.inj hb26
            cases b26 with
            | false =>
             replace hb29 := iteF hb29 rfl
             have hqb29 := Option.some.inj hb29
             subst hqb29
             simp (maxSteps := 1000000) only [↓reduceIte, reduceCtorEq, Nat.reduceEqDiff, Nat.reduceLT, Nat.reduceLeDiff, Nat.reduceAdd, Nat.reduceMul, Int.reduceToNat, push_cast, ↓hg30, ↓hqb18, ↓hqb19, ↓hqb20, ↓hqb21, ↓hqb22, ↓hqb23, ↓hqb24]
             try simp only [↓hg30, ↓hqb18, ↓hqb19, ↓hqb20, ↓hqb21, ↓hqb22, ↓hqb23, ↓hqb24] at hK
             all_goals exact rU
            | true =>
             cases hqb26
           | true =>
            replace hb26 := iteT hb26 rfl
            obtain ⟨e25, he25, hb26⟩ := bindS hb26
            have he25b := (idxS he25).2.1
            have he25c := (idxL 0 he25 rfl).1
            have he25a := (idxL 0 he25 rfl).2
            have hqb26 := Option.some.inj hb26
            cases b26 with
            | false =>
             replace hb29 := iteF hb29 rfl
             have hqb29 := Option.some.inj hb29
             subst hqb29
             simp (maxSteps := 1000000) only [↓reduceIte, reduceCtorEq, Nat.reduceEqDiff, Nat.reduceLT, Nat.reduceLeDiff, Nat.reduceAdd, Nat.reduceMul, Int.reduceToNat, push_cast, ↓hg30, ↓hqb18, ↓hqb19, ↓hqb20, ↓hqb21, ↓hqb22, ↓hqb23, ↓hqb24, he25a, he25b, he25c, he25, ↓hqb26]
             try simp only [↓hg30, ↓hqb18, ↓hqb19, ↓hqb20, ↓hqb21, ↓hqb22, ↓hqb23, ↓hqb24, ↓hqb26] at hK
             all_goals exact rU
            | true =>
             replace hb29 := iteT hb29 rfl
             obtain ⟨e27, he27, hb29⟩ := bindS hb29
             have he27b := (idxS he27).2.1
             have he27c := (idxL 0 he27 rfl).1
             have he27a := (idxL 0 he27 rfl).2
             obtain rfl := Option.some.inj (he25.symm.trans he27)
             obtain ⟨e28, he28, hb29⟩ := bindS hb29
             have he28b := (idxS he28).2.1
             have he28c := (idxL 0 he28 rfl).1
             have he28a := (idxL 0 he28 rfl).2
             have hqb29 := Option.some.inj hb29
             subst hqb29
             simp (maxSteps := 1000000) only [↓reduceIte, reduceCtorEq, Nat.reduceEqDiff, Nat.reduceLT, Nat.reduceLeDiff, Nat.reduceAdd, Nat.reduceMul, Int.reduceToNat, push_cast, ↓hg30, ↓hqb18, ↓hqb19, ↓hqb20, ↓hqb21, ↓hqb22, ↓hqb23, ↓hqb24, he25a, he25b, he25c, he25, ↓hqb26, he27a, he27b, he27c, he27, he28a, he28b, he28c, he28]
             try simp only [↓hg30, ↓hqb18, ↓hqb19, ↓hqb20, ↓hqb21, ↓hqb22, ↓hqb23, ↓hqb24, ↓hqb26] at hK
             all_goals exact rU) ?_
  refine awp_ret ?_
  obtain rfl := Option.some.inj h0
  refine leave_retG [] ?_
  exact rG
end Go.T
end
section
namespace Go.T
open Go Go.AM Go.Proofs
set_option maxRecDepth 100000
set_option maxHeartbeats 4000000
set_option linter.unusedVariables false
theorem c_bookendlaw16_JobsKnown {fu : Nat} {r : Bool} (h0 : bookendlaw16_JobsKnown fu = some r) : PCall Try.prog 5 [] (.bool r) [] := by
 refine awp_pcall Try.func5 rfl (by decide) (Nat.le_of_ble_eq_true rfl) ?_
 dsimp only [Try.f5]
 rw [bookendlaw16_JobsKnown] at h0
 refine (show AWP _ _ _ _ ⟨enumFr 0 _, [], 0, []⟩ from ?_)
 refine awp_sr2 8 [] (fun _ => none) rfl (fun _ _ => rT) ?_
 obtain ⟨vr1, hvr1, h0⟩ := bindS h0
 refine awp_sr2 24 [0] (fun | 0 => some (.bool vr1, []) | _ => none) rfl (fun _ _ => rC (c_bookendlaw16_shown hvr1)) ?_
 refine awp_ret ?_
 obtain rfl := Option.some.inj h0
 refine leave_retG [] ?_
 exact rG
end Go.T
end
section
namespace Go.Proofs.Ytnlggkiekcpahaa
open Go.T
theorem jobsKnown : Rows.JobsKnownSaid :=
  jobsKnown_over <| by
    obtain ⟨fu, h⟩ := (jobsKnown_ev ).one
    exact ⟨_, c_bookendlaw16_JobsKnown h⟩
end Go.Proofs.Ytnlggkiekcpahaa
end
