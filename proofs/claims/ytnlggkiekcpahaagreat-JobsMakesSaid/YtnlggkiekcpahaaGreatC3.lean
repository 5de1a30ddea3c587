/- New, Of and Begin return what the document says, of levels that are not long; no other condition. -/
import Derived.Test.YtnlggkiekcpahaaGreatCGt
import Derived.Test.YtnlggkiekcpahaaGreatC2
set_option linter.unusedSimpArgs false
set_option linter.unusedVariables false
section
namespace Go.T
open Go Go.AM Go.Proofs
set_option maxRecDepth 100000
set_option maxHeartbeats 4000000
set_option linter.unusedVariables false
theorem za0 {fu : Nat} {vs1 : wB} {n2 : Int} {r : wB × Int × Int} (h0 : yO fu vs1 n2 = some r) : bB Tryz.prog 31 [.agg (wB.enc vs1), .int .i64 n2] (.tup [.agg (wB.enc r.1), .int .i64 r.2.1, .int .i64 r.2.2]) [] := by
 refine gB Tryz.func31 rfl (by decide) rL ?_
 dsimp only [Tryz.f31]
 rw [yO] at h0
 refine (show pA _ _ _ _ ⟨aB 0 _, [], 0, []⟩ from ?_)
 refine xS 32 [1, 2, 4] ?_
 obtain ⟨vr3, hvr3, h0⟩ := cA h0
 refine nA 88 [1, 2, 4, 6, 7] (fun | 1 => some (.tup [.int .i64 vr3.1, .int .i64 vr3.2], []) | _ => none) rfl (fun _ _ => rC (cW hvr3)) ?_
 refine kA (aC ?_)
 refine xS 112 [1, 2, 4, 6, 7, 15] ?_
 refine xI h0 rfl (fun h0 hb4 => ?_) (fun h0 hb4 => ?_)
 ·
  refine xS 152 [4, 5, 6] ?_
  refine jA (eC (mA ?_))
  obtain rfl := Option.some.inj h0
  refine lA [] ?_
  exact rG
 ·
  refine xS 136 [1, 2, 4, 7, 20] ?_
  refine xI h0 rfl (fun h0 hb5 => ?_) (fun h0 hb5 => ?_)
  ·
   refine xS 168 [4, 5, 6] ?_
   refine jA (eC (mA ?_))
   obtain rfl := Option.some.inj h0
   refine lA [] ?_
   exact rG
  ·
   refine qA (sB (dA ?_))
   refine xS 168 [2, 4, 5] ?_
   refine kA ?_
   refine xS 208 [2, 4, 5, 31] ?_
   refine xI h0 rfl (fun h0 hb6 => ?_) (fun h0 hb6 => ?_)
   ·
    refine xS 240 [4, 5, 6] ?_
    refine jA (mA ?_)
    obtain rfl := Option.some.inj h0
    refine lA [] ?_
    exact rG
   ·
    refine qA (dA ?_)
    refine xS 240 [2, 4, 5, 8] ?_
    obtain ⟨hc7, h0⟩ := mD h0
    refine xS 288 [2, 4, 5, 8] ?_
    refine xE ⟨[(2, .ref 0 0 0 0), (4, .ref 8 0 0 0), (5, .int .i64 (if vr3.1 < n2 then vr3.1 else n2)), (8, .ref 224 0 0 0)], [(0, ⟨0, true, true, 10, [[.psl 1 (List.map (vA 4 aA.enc) vs1.Merge.Runs), .psl 1 (List.map (gA .i64) vs1.Merge.At), .psl 2 (List.map eA.enc vs1.Merge.Tree.Keys), .psl 1 (List.map (gA .i64) vs1.Merge.Tree.Lose), .int .i64 vs1.Merge.Tree.Win, .bool vs1.Shadow.Some, .str vs1.Shadow.Last, .bool vs1.Shadow.Bottom, .psl 4 (List.map aA.enc vs1.Out), .int .i64 vs1.Steps]]⟩), (8, ⟨0, true, true, 10, [[.nils, .nils, .nils, .nils, .int .i64 0, .bool false, .str [], .bool false, .nils, .int .i64 0]]⟩), (224, ⟨0, true, false, 10, [[.psl 1 (List.map (vA 4 aA.enc) vs1.Merge.Runs), .psl 1 (List.map (gA .i64) vs1.Merge.At), .psl 2 (List.map eA.enc vs1.Merge.Tree.Keys), .psl 1 (List.map (gA .i64) vs1.Merge.Tree.Lose), .int .i64 vs1.Merge.Tree.Win, .bool vs1.Shadow.Some, .str vs1.Shadow.Last, .bool vs1.Shadow.Bottom, .sl 256 0 4 0 vs1.Out.length, .int .i64 vs1.Steps]]⟩), (256, ⟨0, true, true, 4, List.map aA.enc vs1.Out⟩)], 288, []⟩ ?_
    obtain ⟨hc8, h0⟩ := mD h0
    refine xS 352 [4, 5, 8] ?_
    refine xE ⟨[(4, .ref 8 0 0 0), (5, .int .i64 (if vr3.1 < n2 then vr3.1 else n2)), (8, .ref 224 0 0 0)], [(8, ⟨0, true, true, 10, [[.nils, .nils, .nils, .nils, .int .i64 0, .bool false, .str [], .bool false, .nils, .int .i64 0]]⟩), (224, ⟨0, true, false, 10, [[.psl 1 (List.map (vA 4 aA.enc) vs1.Merge.Runs), .sl 312 0 1 0 vs1.Merge.At.length, .psl 2 (List.map eA.enc vs1.Merge.Tree.Keys), .psl 1 (List.map (gA .i64) vs1.Merge.Tree.Lose), .int .i64 vs1.Merge.Tree.Win, .bool vs1.Shadow.Some, .str vs1.Shadow.Last, .bool vs1.Shadow.Bottom, .sl 256 0 4 0 vs1.Out.length, .int .i64 vs1.Steps]]⟩), (256, ⟨0, true, true, 4, List.map aA.enc vs1.Out⟩), (312, ⟨0, true, true, 1, List.map (gA .i64) vs1.Merge.At⟩)], 352, []⟩ ?_
    refine kA ?_
    refine uG 4 rfl ?_
    refine gC (l' := List.range' 0 2 ++ (2 :: (List.range' 3 1 ++ []))) rfl ?_
    refine kC 0 2 368 (2 :: (List.range' 3 1 ++ [])) (fun _ => none) rfl rfl rfl (fun _ _ => rT) ?_
    refine sI rfl rfl rfl rfl rfl Tryz.func58 rfl (by decide) rfl rL ?_
    dsimp only [Tryz.f58]
    refine xE ⟨[(0, .int .i64 (if vr3.1 < n2 then vr3.1 else n2)), (1, .fn 59 [.ref 224 0 0 0] [])], [(8, ⟨0, true, true, 10, [[.nils, .nils, .nils, .nils, .int .i64 0, .bool false, .str [], .bool false, .nils, .int .i64 0]]⟩), (224, ⟨0, true, false, 10, [[.psl 1 (List.map (vA 4 aA.enc) vs1.Merge.Runs), .sl 312 0 1 0 vs1.Merge.At.length, .psl 2 (List.map eA.enc vs1.Merge.Tree.Keys), .psl 1 (List.map (gA .i64) vs1.Merge.Tree.Lose), .int .i64 vs1.Merge.Tree.Win, .bool vs1.Shadow.Some, .str vs1.Shadow.Last, .bool vs1.Shadow.Bottom, .sl 256 0 4 0 vs1.Out.length, .int .i64 vs1.Steps]]⟩), (256, ⟨0, true, true, 4, List.map aA.enc vs1.Out⟩), (312, ⟨0, true, true, 1, List.map (gA .i64) vs1.Merge.At⟩)], 368, []⟩ ?_
    refine xS 376 [0, 1] ?_
    refine kA ?_
    refine xS 392 [1, 6, 7] ?_
    refine zdg [312] (fun Kt hK => by simp only [↓reduceIte, reduceCtorEq, Nat.reduceEqDiff, Nat.reduceLT, Nat.reduceLeDiff, Nat.reduceAdd, Nat.reduceMul, Int.reduceToNat, Nat.reduceBEq, push_cast]; exact hK) ?_
    refine xE ⟨[(1, .fn 59 [.ref 224 0 0 0] []), (6, .int .i64 (if vr3.1 < n2 then vr3.1 else n2)), (7, .int .i64 0)], [(8, ⟨0, true, true, 10, [[.nils, .nils, .nils, .nils, .int .i64 0, .bool false, .str [], .bool false, .nils, .int .i64 0]]⟩), (224, ⟨0, true, false, 10, [[.psl 1 (List.map (vA 4 aA.enc) vs1.Merge.Runs), .psl 1 (List.map (gA .i64) vs1.Merge.At), .psl 2 (List.map eA.enc vs1.Merge.Tree.Keys), .psl 1 (List.map (gA .i64) vs1.Merge.Tree.Lose), .int .i64 vs1.Merge.Tree.Win, .bool vs1.Shadow.Some, .str vs1.Shadow.Last, .bool vs1.Shadow.Bottom, .sl 256 0 4 0 vs1.Out.length, .int .i64 vs1.Steps]]⟩), (256, ⟨0, true, true, 4, List.map aA.enc vs1.Out⟩), (312, ⟨0, false, true, 1, List.map (gA .i64) vs1.Merge.At⟩)], 392, []⟩ ?_
    obtain ⟨x42, hxx42, h0⟩ := cA h0
    refine pC (fun s' => ∃ o62 : List (List aA) × List Int × List eA × List Int × Int × Bool × List UInt8 × Bool × Int × List aA, ∃ g63 : Nat, x42 = .inl o62 ∧ s'.nx ≤ 400 ∧ LeN [] s' ⟨[], [(8, ⟨0, true, true, 10, [[.nils, .nils, .nils, .nils, .int .i64 0, .bool false, .str [], .bool false, .nils, .int .i64 0]]⟩), (224, ⟨0, true, false, 10, [[.psl 1 (List.map (vA 4 aA.enc) o62.1), .psl 1 (List.map (gA .i64) o62.2.1), .psl 2 (List.map eA.enc o62.2.2.1), .psl 1 (List.map (gA .i64) o62.2.2.2.1), .int .i64 o62.2.2.2.2.1, .bool o62.2.2.2.2.2.1, .str o62.2.2.2.2.2.2.1, .bool o62.2.2.2.2.2.2.2.1, .sl 256 g63 4 0 o62.2.2.2.2.2.2.2.2.2.length, .int .i64 o62.2.2.2.2.2.2.2.2.1]]⟩), (256, ⟨g63, true, true, 4, List.map aA.enc o62.2.2.2.2.2.2.2.2.2⟩), (312, ⟨0, false, true, 1, List.map (gA .i64) vs1.Merge.At⟩)], 400, []⟩) ?_ ?_
    ·
     intro s' hs
     obtain ⟨o62, g63, rfl, hn, hs⟩ := hs
     refine dA ?_
     refine pB [] hn hs ?_
     refine xS 408 [4] ?_
     refine jA ?_
     refine cE (fun _ _ => rT) ?_
     refine xF ⟨[(4, .ref 8 0 0 0), (5, .int .i64 (if vr3.1 < n2 then vr3.1 else n2)), (8, .ref 224 0 0 0), (47, .int .i64 (if vr3.1 < n2 then vr3.1 else n2)), (48, .fn 59 [.ref 224 0 0 0] []), (49, .int .i64 0)], [(8, ⟨0, true, true, 10, [[.nils, .nils, .nils, .nils, .int .i64 0, .bool false, .str [], .bool false, .nils, .int .i64 0]]⟩), (224, ⟨0, true, false, 10, [[.psl 1 (List.map (vA 4 aA.enc) o62.1), .psl 1 (List.map (gA .i64) o62.2.1), .psl 2 (List.map eA.enc o62.2.2.1), .psl 1 (List.map (gA .i64) o62.2.2.2.1), .int .i64 o62.2.2.2.2.1, .bool o62.2.2.2.2.2.1, .str o62.2.2.2.2.2.2.1, .bool o62.2.2.2.2.2.2.2.1, .sl 256 g63 4 0 o62.2.2.2.2.2.2.2.2.2.length, .int .i64 o62.2.2.2.2.2.2.2.2.1]]⟩), (256, ⟨g63, true, true, 4, List.map aA.enc o62.2.2.2.2.2.2.2.2.2⟩)], 408, []⟩ ?_
     refine gC (l' := List.range' 3 1 ++ []) rfl ?_
     refine kC 3 1 416 [] (fun _ => none) rfl rfl rfl (fun _ _ => rT) ?_
     refine zC ?_
     refine dA ?_
     refine xE ⟨[(4, .ref 8 0 0 0), (5, .int .i64 (if vr3.1 < n2 then vr3.1 else n2)), (8, .ref 224 0 0 0), (9, .int .i64 0)], [(8, ⟨0, true, true, 10, [[.nils, .nils, .nils, .nils, .int .i64 0, .bool false, .str [], .bool false, .nils, .int .i64 0]]⟩), (224, ⟨0, true, false, 10, [[.psl 1 (List.map (vA 4 aA.enc) o62.1), .psl 1 (List.map (gA .i64) o62.2.1), .psl 2 (List.map eA.enc o62.2.2.1), .psl 1 (List.map (gA .i64) o62.2.2.2.1), .int .i64 o62.2.2.2.2.1, .bool o62.2.2.2.2.2.1, .str o62.2.2.2.2.2.2.1, .bool o62.2.2.2.2.2.2.2.1, .sl 256 g63 4 0 o62.2.2.2.2.2.2.2.2.2.length, .int .i64 o62.2.2.2.2.2.2.2.2.1]]⟩), (256, ⟨g63, true, true, 4, List.map aA.enc o62.2.2.2.2.2.2.2.2.2⟩)], 416, []⟩ ?_
     refine xS 432 [4, 5, 8, 9, 51] ?_
     refine eF rfl ?_
     refine qA (dA ?_)
     refine xS 480 [4, 5, 6] ?_
     refine jA ?_
     obtain rfl := Option.some.inj h0
     refine lA [] ?_
     exact rG
    ·
     refine mC (ι := { p : Nat × Int × List (List aA) × List Int × List eA × List Int × Int × Bool × List UInt8 × Bool × Int × List aA × Nat // uI vr3 n2 p.1 p.2.1 p.2.2.1 p.2.2.2.1 p.2.2.2.2.1 p.2.2.2.2.2.1 p.2.2.2.2.2.2.1 p.2.2.2.2.2.2.2.1 p.2.2.2.2.2.2.2.2.1 p.2.2.2.2.2.2.2.2.2.1 p.2.2.2.2.2.2.2.2.2.2.1 p.2.2.2.2.2.2.2.2.2.2.2.1 = some x42 }) (fun p => ⟨[(1, .fn 59 [.ref 224 0 0 0] []), (6, .int .i64 (if vr3.1 < n2 then vr3.1 else n2)), (7, .int .i64 p.1.2.1)], [(8, ⟨0, true, true, 10, [[.nils, .nils, .nils, .nils, .int .i64 0, .bool false, .str [], .bool false, .nils, .int .i64 0]]⟩), (224, ⟨0, true, false, 10, [[.psl 1 (List.map (vA 4 aA.enc) p.1.2.2.1), .psl 1 (List.map (gA .i64) p.1.2.2.2.1), .psl 2 (List.map eA.enc p.1.2.2.2.2.1), .psl 1 (List.map (gA .i64) p.1.2.2.2.2.2.1), .int .i64 p.1.2.2.2.2.2.2.1, .bool p.1.2.2.2.2.2.2.2.1, .str p.1.2.2.2.2.2.2.2.2.1, .bool p.1.2.2.2.2.2.2.2.2.2.1, .sl 256 p.1.2.2.2.2.2.2.2.2.2.2.2.2 4 0 p.1.2.2.2.2.2.2.2.2.2.2.2.1.length, .int .i64 p.1.2.2.2.2.2.2.2.2.2.2.1]]⟩), (256, ⟨p.1.2.2.2.2.2.2.2.2.2.2.2.2, true, true, 4, List.map aA.enc p.1.2.2.2.2.2.2.2.2.2.2.2.1⟩), (312, ⟨0, false, true, 1, List.map (gA .i64) vs1.Merge.At⟩)], 392, []⟩) (fun p => p.1.1) ⟨(fu, 0, vs1.Merge.Runs, vs1.Merge.At, vs1.Merge.Tree.Keys, vs1.Merge.Tree.Lose, vs1.Merge.Tree.Win, vs1.Shadow.Some, vs1.Shadow.Last, vs1.Shadow.Bottom, vs1.Steps, vs1.Out, 0), hxx42⟩ ⟨rF, rE, rfl, rfl, trivial, trivial⟩ (fun _ => Nat.le_refl _) ?_
     rintro ⟨⟨fu, left43, v44, v45, v46, v47, v48, v49, v50, v51, v52, v53, g54⟩, h1⟩
     cases fu with
     | zero =>
   replace h1 : uI vr3 n2 0 left43 v44 v45 v46 v47 v48 v49 v50 v51 v52 v53 = some x42 := h1
   rw [uI] at h1; cases h1
     | succ fu =>
      replace h1 : uI vr3 n2 (fu + 1) left43 v44 v45 v46 v47 v48 v49 v50 v51 v52 v53 = some x42 := h1
      rw [uI] at h1
      refine (show pA _ _ _ _ ⟨[(1, .fn 59 [.ref 224 0 0 0] []), (6, .int .i64 (if vr3.1 < n2 then vr3.1 else n2)), (7, .int .i64 left43)], [(8, ⟨0, true, true, 10, [[.nils, .nils, .nils, .nils, .int .i64 0, .bool false, .str [], .bool false, .nils, .int .i64 0]]⟩), (224, ⟨0, true, false, 10, [[.psl 1 (List.map (vA 4 aA.enc) v44), .psl 1 (List.map (gA .i64) v45), .psl 2 (List.map eA.enc v46), .psl 1 (List.map (gA .i64) v47), .int .i64 v48, .bool v49, .str v50, .bool v51, .sl 256 g54 4 0 v53.length, .int .i64 v52]]⟩), (256, ⟨g54, true, true, 4, List.map aA.enc v53⟩), (312, ⟨0, false, true, 1, List.map (gA .i64) vs1.Merge.At⟩)], 392, []⟩ from ?_)
      refine xS 400 [1, 6, 7, 8] ?_
      refine kA ?_
      refine xI h1 rfl (fun h1 hb55 => ?_) (fun h1 hb55 => ?_)
      ·
       refine qA (dA (kA (aC ?_)))
       refine uG 3 rfl ?_
       refine gC (l' := List.range' 0 1 ++ (1 :: (List.range' 2 1 ++ []))) rfl ?_
       refine kC 0 1 408 (1 :: (List.range' 2 1 ++ [])) (fun _ => none) rfl rfl rfl (fun _ _ => rT) ?_
       refine sI rfl rfl rfl rfl rfl Tryz.func59 rfl (by decide) rfl rL ?_
       dsimp only [Tryz.f59]
       refine xE ⟨[(0, .ref 224 0 0 0)], [(8, ⟨0, true, true, 10, [[.nils, .nils, .nils, .nils, .int .i64 0, .bool false, .str [], .bool false, .nils, .int .i64 0]]⟩), (224, ⟨0, true, false, 10, [[.psl 1 (List.map (vA 4 aA.enc) v44), .psl 1 (List.map (gA .i64) v45), .psl 2 (List.map eA.enc v46), .psl 1 (List.map (gA .i64) v47), .int .i64 v48, .bool v49, .str v50, .bool v51, .sl 256 g54 4 0 v53.length, .int .i64 v52]]⟩), (256, ⟨g54, true, true, 4, List.map aA.enc v53⟩), (312, ⟨0, false, true, 1, List.map (gA .i64) vs1.Merge.At⟩)], 408, []⟩ ?_
       refine xS 416 [0] ?_
       obtain ⟨vr56, hvr56, h1⟩ := cA h1
       refine nA 552 [0, 3, 5, 6] (fun | 5 => some (.tup [.agg (aA.enc vr56.1), .int .i64 vr56.2.1, .agg (kB.enc vr56.2.2.1), .int .i64 vr56.2.2.2], []) | _ => none) rfl (fun _ _ => rC (zgL hvr56)) ?_
       refine kA ?_
       refine xS 568 [0, 3, 5, 6, 21] ?_
       refine xI h1 rfl (fun h1 hb57 => ?_) (fun h1 hb57 => ?_)
       ·
        refine xS 584 [2] ?_
        refine jA (mA ?_)
        refine cE (fun _ _ => rT) ?_
        refine xF ⟨[(1, .fn 59 [.ref 224 0 0 0] []), (6, .int .i64 (if vr3.1 < n2 then vr3.1 else n2)), (7, .int .i64 left43), (8, .bool (decide (left43 < (if vr3.1 < n2 then vr3.1 else n2)))), (9, .fn 59 [.ref 224 0 0 0] []), (10, .int .i64 vr56.2.2.2)], [(8, ⟨0, true, true, 10, [[.nils, .nils, .nils, .nils, .int .i64 0, .bool false, .str [], .bool false, .nils, .int .i64 0]]⟩), (224, ⟨0, true, false, 10, [[.psl 1 (List.map (vA 4 aA.enc) v44), .psl 1 (List.map (gA .i64) v45), .psl 2 (List.map eA.enc v46), .psl 1 (List.map (gA .i64) v47), .int .i64 v48, .bool v49, .str v50, .bool v51, .sl 256 g54 4 0 v53.length, .int .i64 v52]]⟩), (256, ⟨g54, true, true, 4, List.map aA.enc v53⟩), (312, ⟨0, false, true, 1, List.map (gA .i64) vs1.Merge.At⟩)], 584, []⟩ ?_
        refine gC (l' := List.range' 2 1 ++ []) rfl ?_
        refine kC 2 1 592 [] (fun _ => none) rfl rfl rfl (fun _ _ => rT) ?_
        refine zC ?_
        refine dA ?_
        refine xE ⟨[(1, .fn 59 [.ref 224 0 0 0] []), (5, .int .i64 vr56.2.2.2), (6, .int .i64 (if vr3.1 < n2 then vr3.1 else n2)), (7, .int .i64 left43)], [(8, ⟨0, true, true, 10, [[.nils, .nils, .nils, .nils, .int .i64 0, .bool false, .str [], .bool false, .nils, .int .i64 0]]⟩), (224, ⟨0, true, false, 10, [[.psl 1 (List.map (vA 4 aA.enc) v44), .psl 1 (List.map (gA .i64) v45), .psl 2 (List.map eA.enc v46), .psl 1 (List.map (gA .i64) v47), .int .i64 v48, .bool v49, .str v50, .bool v51, .sl 256 g54 4 0 v53.length, .int .i64 v52]]⟩), (256, ⟨g54, true, true, 4, List.map aA.enc v53⟩), (312, ⟨0, false, true, 1, List.map (gA .i64) vs1.Merge.At⟩)], 592, []⟩ ?_
        refine xS 608 [1, 5, 6, 7, 12] ?_
        refine jM rfl hb57 ?_
        refine xS 624 [4] ?_
        refine jA ?_
        obtain rfl := Option.some.inj h1
        refine eC (mA (mA (aD (mA ?_))))
        refine cE (fun _ _ => rT) ?_
        refine xF ⟨[(4, .ref 8 0 0 0), (5, .int .i64 (if vr3.1 < n2 then vr3.1 else n2)), (8, .ref 224 0 0 0), (47, .int .i64 (if vr3.1 < n2 then vr3.1 else n2)), (48, .fn 59 [.ref 224 0 0 0] []), (49, .int .i64 vr56.2.2.2)], [(8, ⟨0, true, true, 10, [[.nils, .nils, .nils, .nils, .int .i64 0, .bool false, .str [], .bool false, .nils, .int .i64 0]]⟩), (224, ⟨0, true, false, 10, [[.psl 1 (List.map (vA 4 aA.enc) v44), .psl 1 (List.map (gA .i64) v45), .psl 2 (List.map eA.enc v46), .psl 1 (List.map (gA .i64) v47), .int .i64 v48, .bool v49, .str v50, .bool v51, .sl 256 g54 4 0 v53.length, .int .i64 v52]]⟩), (256, ⟨g54, true, true, 4, List.map aA.enc v53⟩)], 624, []⟩ ?_
        refine gC (l' := List.range' 3 1 ++ []) rfl ?_
        refine kC 3 1 632 [] (fun _ => none) rfl rfl rfl (fun _ _ => rT) ?_
        refine zC ?_
        refine dA ?_
        refine xE ⟨[(4, .ref 8 0 0 0), (5, .int .i64 (if vr3.1 < n2 then vr3.1 else n2)), (8, .ref 224 0 0 0), (9, .int .i64 vr56.2.2.2)], [(8, ⟨0, true, true, 10, [[.nils, .nils, .nils, .nils, .int .i64 0, .bool false, .str [], .bool false, .nils, .int .i64 0]]⟩), (224, ⟨0, true, false, 10, [[.psl 1 (List.map (vA 4 aA.enc) v44), .psl 1 (List.map (gA .i64) v45), .psl 2 (List.map eA.enc v46), .psl 1 (List.map (gA .i64) v47), .int .i64 v48, .bool v49, .str v50, .bool v51, .sl 256 g54 4 0 v53.length, .int .i64 v52]]⟩), (256, ⟨g54, true, true, 4, List.map aA.enc v53⟩)], 632, []⟩ ?_
        refine xS 648 [4, 5, 8, 9, 51] ?_
        refine jM rfl hb57 ?_
        refine xS 688 [4, 5, 6] ?_
        refine jA (mA ?_)
        obtain rfl := Option.some.inj h0
        refine lA [] ?_
        exact rG
       ·
        refine qA (dA ?_)
        obtain ⟨vr58, hvr58, h1⟩ := cA h1
        refine oC 688 [0, 3, 5, 6, 7, 8] (fun | 6 => some (.tup [.bool vr58.1, .agg (tB.enc vr58.2.1), .int .i64 vr58.2.2], []) | _ => none) rfl rfl rfl (fun _ _ => oM (zky hvr58)) ?_
        refine kA ?_
        refine xS 704 [0, 3, 5, 6, 7, 8, 35] ?_
        refine xI h1 rfl (fun h1 hb59 => ?_) (fun h1 hb59 => ?_)
        ·
         refine xS 720 [2] ?_
         refine jA (mA ?_)
         refine cE (fun _ _ => rT) ?_
         refine xF ⟨[(1, .fn 59 [.ref 224 0 0 0] []), (6, .int .i64 (if vr3.1 < n2 then vr3.1 else n2)), (7, .int .i64 left43), (8, .bool (decide (left43 < (if vr3.1 < n2 then vr3.1 else n2)))), (9, .fn 59 [.ref 224 0 0 0] []), (10, .int .i64 vr58.2.2)], [(8, ⟨0, true, true, 10, [[.nils, .nils, .nils, .nils, .int .i64 0, .bool false, .str [], .bool false, .nils, .int .i64 0]]⟩), (224, ⟨0, true, false, 10, [[.psl 1 (List.map (vA 4 aA.enc) v44), .psl 1 (List.map (gA .i64) v45), .psl 2 (List.map eA.enc v46), .psl 1 (List.map (gA .i64) v47), .int .i64 v48, .bool v49, .str v50, .bool v51, .sl 256 g54 4 0 v53.length, .int .i64 v52]]⟩), (256, ⟨g54, true, true, 4, List.map aA.enc v53⟩), (312, ⟨0, false, true, 1, List.map (gA .i64) vs1.Merge.At⟩)], 720, []⟩ ?_
         refine gC (l' := List.range' 2 1 ++ []) rfl ?_
         refine kC 2 1 728 [] (fun _ => none) rfl rfl rfl (fun _ _ => rT) ?_
         refine zC ?_
         refine dA ?_
         refine xE ⟨[(1, .fn 59 [.ref 224 0 0 0] []), (5, .int .i64 vr58.2.2), (6, .int .i64 (if vr3.1 < n2 then vr3.1 else n2)), (7, .int .i64 left43)], [(8, ⟨0, true, true, 10, [[.nils, .nils, .nils, .nils, .int .i64 0, .bool false, .str [], .bool false, .nils, .int .i64 0]]⟩), (224, ⟨0, true, false, 10, [[.psl 1 (List.map (vA 4 aA.enc) v44), .psl 1 (List.map (gA .i64) v45), .psl 2 (List.map eA.enc v46), .psl 1 (List.map (gA .i64) v47), .int .i64 v48, .bool v49, .str v50, .bool v51, .sl 256 g54 4 0 v53.length, .int .i64 v52]]⟩), (256, ⟨g54, true, true, 4, List.map aA.enc v53⟩), (312, ⟨0, false, true, 1, List.map (gA .i64) vs1.Merge.At⟩)], 728, []⟩ ?_
         refine xS 744 [1, 5, 6, 7, 12] ?_
         refine jM rfl hb59 ?_
         refine xS 760 [4] ?_
         refine jA ?_
         obtain rfl := Option.some.inj h1
         refine eC (mA (mA (aD (mA ?_))))
         refine cE (fun _ _ => rT) ?_
         refine xF ⟨[(4, .ref 8 0 0 0), (5, .int .i64 (if vr3.1 < n2 then vr3.1 else n2)), (8, .ref 224 0 0 0), (47, .int .i64 (if vr3.1 < n2 then vr3.1 else n2)), (48, .fn 59 [.ref 224 0 0 0] []), (49, .int .i64 vr58.2.2)], [(8, ⟨0, true, true, 10, [[.nils, .nils, .nils, .nils, .int .i64 0, .bool false, .str [], .bool false, .nils, .int .i64 0]]⟩), (224, ⟨0, true, false, 10, [[.psl 1 (List.map (vA 4 aA.enc) v44), .psl 1 (List.map (gA .i64) v45), .psl 2 (List.map eA.enc v46), .psl 1 (List.map (gA .i64) v47), .int .i64 v48, .bool v49, .str v50, .bool v51, .sl 256 g54 4 0 v53.length, .int .i64 v52]]⟩), (256, ⟨g54, true, true, 4, List.map aA.enc v53⟩)], 760, []⟩ ?_
         refine gC (l' := List.range' 3 1 ++ []) rfl ?_
         refine kC 3 1 768 [] (fun _ => none) rfl rfl rfl (fun _ _ => rT) ?_
         refine zC ?_
         refine dA ?_
         refine xE ⟨[(4, .ref 8 0 0 0), (5, .int .i64 (if vr3.1 < n2 then vr3.1 else n2)), (8, .ref 224 0 0 0), (9, .int .i64 vr58.2.2)], [(8, ⟨0, true, true, 10, [[.nils, .nils, .nils, .nils, .int .i64 0, .bool false, .str [], .bool false, .nils, .int .i64 0]]⟩), (224, ⟨0, true, false, 10, [[.psl 1 (List.map (vA 4 aA.enc) v44), .psl 1 (List.map (gA .i64) v45), .psl 2 (List.map eA.enc v46), .psl 1 (List.map (gA .i64) v47), .int .i64 v48, .bool v49, .str v50, .bool v51, .sl 256 g54 4 0 v53.length, .int .i64 v52]]⟩), (256, ⟨g54, true, true, 4, List.map aA.enc v53⟩)], 768, []⟩ ?_
         refine xS 784 [4, 5, 8, 9, 51] ?_
         refine jM rfl hb59 ?_
         refine xS 824 [4, 5, 6] ?_
         refine jA (mA ?_)
         obtain rfl := Option.some.inj h0
         refine lA [] ?_
         exact rG
        ·
         refine qA (dA ?_)
         refine oC 800 [0, 3, 7] (fun _ => none) rfl rfl rfl (fun _ _ => jF) ?_
         refine xS 880 [0, 3, 7] ?_
         refine kA ?_
         refine xS 888 [0, 3, 56] ?_
         refine xI h1 rfl (fun h1 hb60 => ?_) (fun h1 hb60 => ?_)
         ·
          obtain ⟨hc61, h1⟩ := mD h1
          refine fG 992 [] (fun _ => none) rfl rfl rfl (fun _ _ => jF) ?_
          refine dA ?_
          refine xE ⟨[], [(8, ⟨0, true, true, 10, [[.nils, .nils, .nils, .nils, .int .i64 0, .bool false, .str [], .bool false, .nils, .int .i64 0]]⟩), (224, ⟨0, true, false, 10, [[.psl 1 (List.map (vA 4 aA.enc) vr56.2.2.1.Runs), .psl 1 (List.map (gA .i64) vr56.2.2.1.At), .psl 2 (List.map eA.enc vr56.2.2.1.Tree.Keys), .psl 1 (List.map (gA .i64) vr56.2.2.1.Tree.Lose), .int .i64 vr56.2.2.1.Tree.Win, .bool vr58.2.1.Some, .str vr58.2.1.Last, .bool vr58.2.1.Bottom, .sl 256 (g54 + 1) 4 0 ((v53 ++ [vr56.1]).length), .int .i64 (IntKind.i64.wrap (v52 + 1))]]⟩), (256, ⟨(g54 + 1), true, true, 4, List.map aA.enc (v53 ++ [vr56.1])⟩), (312, ⟨0, false, true, 1, List.map (gA .i64) vs1.Merge.At⟩)], 992, []⟩ ?_
          refine xS 1000 [2] ?_
          refine jA ?_
          refine cE (fun _ _ => rT) ?_
          refine xF ⟨[(1, .fn 59 [.ref 224 0 0 0] []), (6, .int .i64 (if vr3.1 < n2 then vr3.1 else n2)), (7, .int .i64 left43), (8, .bool (decide (left43 < (if vr3.1 < n2 then vr3.1 else n2)))), (9, .fn 59 [.ref 224 0 0 0] []), (10, .int .i64 0)], [(8, ⟨0, true, true, 10, [[.nils, .nils, .nils, .nils, .int .i64 0, .bool false, .str [], .bool false, .nils, .int .i64 0]]⟩), (224, ⟨0, true, false, 10, [[.psl 1 (List.map (vA 4 aA.enc) vr56.2.2.1.Runs), .psl 1 (List.map (gA .i64) vr56.2.2.1.At), .psl 2 (List.map eA.enc vr56.2.2.1.Tree.Keys), .psl 1 (List.map (gA .i64) vr56.2.2.1.Tree.Lose), .int .i64 vr56.2.2.1.Tree.Win, .bool vr58.2.1.Some, .str vr58.2.1.Last, .bool vr58.2.1.Bottom, .sl 256 (g54 + 1) 4 0 ((v53 ++ [vr56.1]).length), .int .i64 (IntKind.i64.wrap (v52 + 1))]]⟩), (256, ⟨(g54 + 1), true, true, 4, List.map aA.enc (v53 ++ [vr56.1])⟩), (312, ⟨0, false, true, 1, List.map (gA .i64) vs1.Merge.At⟩)], 1000, []⟩ ?_
          refine gC (l' := List.range' 2 1 ++ []) rfl ?_
          refine kC 2 1 1008 [] (fun _ => none) rfl rfl rfl (fun _ _ => rT) ?_
          refine zC ?_
          refine dA ?_
          refine xE ⟨[(1, .fn 59 [.ref 224 0 0 0] []), (5, .int .i64 0), (6, .int .i64 (if vr3.1 < n2 then vr3.1 else n2)), (7, .int .i64 left43)], [(8, ⟨0, true, true, 10, [[.nils, .nils, .nils, .nils, .int .i64 0, .bool false, .str [], .bool false, .nils, .int .i64 0]]⟩), (224, ⟨0, true, false, 10, [[.psl 1 (List.map (vA 4 aA.enc) vr56.2.2.1.Runs), .psl 1 (List.map (gA .i64) vr56.2.2.1.At), .psl 2 (List.map eA.enc vr56.2.2.1.Tree.Keys), .psl 1 (List.map (gA .i64) vr56.2.2.1.Tree.Lose), .int .i64 vr56.2.2.1.Tree.Win, .bool vr58.2.1.Some, .str vr58.2.1.Last, .bool vr58.2.1.Bottom, .sl 256 (g54 + 1) 4 0 ((v53 ++ [vr56.1]).length), .int .i64 (IntKind.i64.wrap (v52 + 1))]]⟩), (256, ⟨(g54 + 1), true, true, 4, List.map aA.enc (v53 ++ [vr56.1])⟩), (312, ⟨0, false, true, 1, List.map (gA .i64) vs1.Merge.At⟩)], 1008, []⟩ ?_
          refine xS 1024 [1, 5, 6, 7, 12] ?_
          refine eF rfl ?_
          refine qA (sB (dA ?_))
          refine xR 1040 [1, 6, 7] ?_
          refine dA ?_
          exact ⟨⟨(fu, (IntKind.i64.wrap (left43 + 1)), vr56.2.2.1.Runs, vr56.2.2.1.At, vr56.2.2.1.Tree.Keys, vr56.2.2.1.Tree.Lose, vr56.2.2.1.Tree.Win, vr58.2.1.Some, vr58.2.1.Last, vr58.2.1.Bottom, (IntKind.i64.wrap (v52 + 1)), (v53 ++ [vr56.1]), (g54 + 1)), h1⟩, ⟨rF, rE, rfl, rfl, trivial, trivial⟩, Nat.lt_succ_self _⟩
         ·
          refine qA (dA ?_)
          refine xS 896 [2] ?_
          refine jA ?_
          refine cE (fun _ _ => rT) ?_
          refine xF ⟨[(1, .fn 59 [.ref 224 0 0 0] []), (6, .int .i64 (if vr3.1 < n2 then vr3.1 else n2)), (7, .int .i64 left43), (8, .bool (decide (left43 < (if vr3.1 < n2 then vr3.1 else n2)))), (9, .fn 59 [.ref 224 0 0 0] []), (10, .int .i64 0)], [(8, ⟨0, true, true, 10, [[.nils, .nils, .nils, .nils, .int .i64 0, .bool false, .str [], .bool false, .nils, .int .i64 0]]⟩), (224, ⟨0, true, false, 10, [[.psl 1 (List.map (vA 4 aA.enc) vr56.2.2.1.Runs), .psl 1 (List.map (gA .i64) vr56.2.2.1.At), .psl 2 (List.map eA.enc vr56.2.2.1.Tree.Keys), .psl 1 (List.map (gA .i64) vr56.2.2.1.Tree.Lose), .int .i64 vr56.2.2.1.Tree.Win, .bool vr58.2.1.Some, .str vr58.2.1.Last, .bool vr58.2.1.Bottom, .sl 256 g54 4 0 v53.length, .int .i64 (IntKind.i64.wrap (v52 + 1))]]⟩), (256, ⟨g54, true, true, 4, List.map aA.enc v53⟩), (312, ⟨0, false, true, 1, List.map (gA .i64) vs1.Merge.At⟩)], 896, []⟩ ?_
          refine gC (l' := List.range' 2 1 ++ []) rfl ?_
          refine kC 2 1 904 [] (fun _ => none) rfl rfl rfl (fun _ _ => rT) ?_
          refine zC ?_
          refine dA ?_
          refine xE ⟨[(1, .fn 59 [.ref 224 0 0 0] []), (5, .int .i64 0), (6, .int .i64 (if vr3.1 < n2 then vr3.1 else n2)), (7, .int .i64 left43)], [(8, ⟨0, true, true, 10, [[.nils, .nils, .nils, .nils, .int .i64 0, .bool false, .str [], .bool false, .nils, .int .i64 0]]⟩), (224, ⟨0, true, false, 10, [[.psl 1 (List.map (vA 4 aA.enc) vr56.2.2.1.Runs), .psl 1 (List.map (gA .i64) vr56.2.2.1.At), .psl 2 (List.map eA.enc vr56.2.2.1.Tree.Keys), .psl 1 (List.map (gA .i64) vr56.2.2.1.Tree.Lose), .int .i64 vr56.2.2.1.Tree.Win, .bool vr58.2.1.Some, .str vr58.2.1.Last, .bool vr58.2.1.Bottom, .sl 256 g54 4 0 v53.length, .int .i64 (IntKind.i64.wrap (v52 + 1))]]⟩), (256, ⟨g54, true, true, 4, List.map aA.enc v53⟩), (312, ⟨0, false, true, 1, List.map (gA .i64) vs1.Merge.At⟩)], 904, []⟩ ?_
          refine xS 920 [1, 5, 6, 7, 12] ?_
          refine eF rfl ?_
          refine qA (sB (dA ?_))
          refine xR 936 [1, 6, 7] ?_
          refine dA ?_
          exact ⟨⟨(fu, (IntKind.i64.wrap (left43 + 1)), vr56.2.2.1.Runs, vr56.2.2.1.At, vr56.2.2.1.Tree.Keys, vr56.2.2.1.Tree.Lose, vr56.2.2.1.Tree.Win, vr58.2.1.Some, vr58.2.1.Last, vr58.2.1.Bottom, (IntKind.i64.wrap (v52 + 1)), v53, g54), h1⟩, ⟨rF, rE, rfl, rfl, trivial, trivial⟩, Nat.lt_succ_self _⟩
      ·
       refine iC (dB (dB (jC ?_)))
       obtain rfl := Option.some.inj h1
       exact ⟨_, g54, rfl, rL, ⟨rF, rE, rfl, rfl, trivial, trivial⟩⟩
theorem zj7 {fu : Nat} {s11 : List aA} {s22 : List aA} {r : Bool} (h0 : sS fu s11 s22 = some r) : bB Tryz.prog 100 [.psl 4 (s11.map aA.enc), .psl 4 (s22.map aA.enc)] (.bool r) [] := by
 refine gB Tryz.func100 rfl (by decide) rL ?_
 dsimp only [Tryz.f100]
 rw [sS] at h0
 refine (show pA _ _ _ _ ⟨aB 0 _, [], 0, []⟩ from ?_)
 refine xS 8 [0, 1] ?_
 refine kA ?_
 refine xS 48 [0, 1, 10] ?_
 refine xI h0 rfl (fun h0 hb3 => ?_) (fun h0 hb3 => ?_)
 ·
  refine xS 56 [4] ?_
  refine jA (mA ?_)
  obtain rfl := Option.some.inj h0
  refine lA [] ?_
  exact rG
 ·
  refine qA (dA (kA ?_))
  refine xS 72 [0, 1, 12, 13] ?_
  obtain ⟨x13, hxx13, h0⟩ := cA h0
  refine pC (fun s' => ∃ o19 : Unit, x13 = .inl o19 ∧ s'.nx ≤ 80 ∧ LeN [] s' ⟨[], [], 80, []⟩) ?_ ?_
  ·
   intro s' hs
   obtain ⟨o19, rfl, hn, hs⟩ := hs
   refine dA ?_
   refine pB [] hn hs ?_
   refine xS 88 [4] ?_
   refine jA ?_
   obtain rfl := Option.some.inj h0
   refine lA [] ?_
   exact rG
  ·
   refine mC (ι := { p : Nat × Int // kJ s11 s22 p.1 p.2 = some x13 }) (fun p => ⟨[(0, .psl 4 (List.map aA.enc s11)), (1, .psl 4 (List.map aA.enc s22)), (12, .int .i64 (s11.length : Int)), (13, .int .i64 p.1.2)], [], 72, []⟩) (fun p => p.1.1) ⟨(fu, 0), hxx13⟩ ⟨rF, rE, rfl, rfl, trivial, trivial⟩ (fun _ => Nat.le_refl _) ?_
   rintro ⟨⟨fu, v14⟩, h1⟩
   cases fu with
   | zero =>
   replace h1 : kJ s11 s22 0 v14 = some x13 := h1
   rw [kJ] at h1; cases h1
   | succ fu =>
    replace h1 : kJ s11 s22 (fu + 1) v14 = some x13 := h1
    rw [kJ] at h1
    refine (show pA _ _ _ _ ⟨[(0, .psl 4 (List.map aA.enc s11)), (1, .psl 4 (List.map aA.enc s22)), (12, .int .i64 (s11.length : Int)), (13, .int .i64 v14)], [], 72, []⟩ from ?_)
    refine xS 80 [0, 1, 12, 13, 14] ?_
    refine kA ?_
    refine xI h1 rfl (fun h1 hb15 => ?_) (fun h1 hb15 => ?_)
    ·
     refine qA (dA (kA (aC ?_)))
     refine xS 96 [0, 1, 5, 12, 13] ?_
     obtain ⟨e16, he16, h1⟩ := cA h1
     obtain ⟨he16a, he16b, he16c⟩ := cB he16
     obtain ⟨e17, he17, h1⟩ := cA h1
     obtain ⟨he17a, he17b, he17c⟩ := cB he17
     refine oC 168 [0, 1, 12, 13, 24] (fun _ => none) rfl rfl rfl (fun _ _ => xD (rA he16a (rA he16b (rA he16c (rA he17a (rA he17b he17c)))))) ?_
     refine xI h1 rfl (fun h1 hb18 => ?_) (fun h1 hb18 => ?_)
     ·
      refine nA 176 [4] (fun _ => none) rfl (fun _ _ => rS (rA he16a (rA he16b (rA he16c (rA he17a (rA he17b he17c)))))) ?_
      refine jA ?_
      obtain rfl := Option.some.inj h1
      refine eC (mA (mA (aD (mA ?_))))
      obtain rfl := Option.some.inj h0
      refine lA [] ?_
      simp (maxSteps := 1000000) only [↓reduceIte, reduceCtorEq, Nat.reduceEqDiff, Nat.reduceLT, Nat.reduceLeDiff, Nat.reduceAdd, Nat.reduceMul, Int.reduceToNat, push_cast, bC, he16a, he16b, he16c, he17a, he17b, he17c]
      all_goals exact rH
     ·
      refine qA (sB (dA ?_))
      refine uB 184 [0, 1, 12, 13] (fun _ => none) rfl (fun _ _ => rS (rA he16a (rA he16b (rA he16c (rA he17a (rA he17b he17c)))))) ?_
      refine dA ?_
      exact ⟨⟨(fu, (IntKind.i64.wrap (v14 + 1))), h1⟩, ⟨rF, rE, rfl, rfl, trivial, trivial⟩, Nat.lt_succ_self _⟩
    ·
     refine iC (dB (dB (jC ?_)))
     obtain rfl := Option.some.inj h1
     exact ⟨_, rfl, rL, ⟨rF, rE, rfl, rfl, trivial, trivial⟩⟩
theorem rM {fu : Nat} {a1 : List aA} {b2 : List aA} {r : Bool} (h0 : eO fu a1 b2 = some r) : bB Tryz.prog 70 [.psl 4 (a1.map aA.enc), .psl 4 (b2.map aA.enc)] (.bool r) [] := by
 refine gB Tryz.func70 rfl (by decide) rL ?_
 dsimp only [Tryz.f70]
 rw [eO] at h0
 refine (show pA _ _ _ _ ⟨aB 0 _, [], 0, []⟩ from ?_)
 refine xS 8 [0, 1] ?_
 obtain ⟨vr3, hvr3, h0⟩ := cA h0
 refine nA 40 [4] (fun | 2 => some (.bool vr3, []) | _ => none) rfl (fun _ _ => rC (zj7 hvr3)) ?_
 refine jA ?_
 obtain rfl := Option.some.inj h0
 refine lA [] ?_
 exact rG
theorem xO {fu : Nat} {s11 : List (List aA)} {s22 : List (List aA)} {r : Bool} (h0 : pQ fu s11 s22 = some r) : bB Tryz.prog 69 [.psl 1 (s11.map (vA 4 aA.enc)), .psl 1 (s22.map (vA 4 aA.enc)), .fn 70 [] []] (.bool r) [] := by
 refine gB Tryz.func69 rfl (by decide) rL ?_
 dsimp only [Tryz.f69]
 rw [pQ] at h0
 refine (show pA _ _ _ _ ⟨aB 0 _, [], 0, []⟩ from ?_)
 refine xS 8 [0, 1, 2] ?_
 refine kA ?_
 refine xS 48 [0, 1, 2, 14] ?_
 refine xI h0 rfl (fun h0 hb3 => ?_) (fun h0 hb3 => ?_)
 ·
  refine xS 56 [6] ?_
  refine jA (mA ?_)
  obtain rfl := Option.some.inj h0
  refine lA [] ?_
  exact rG
 ·
  refine qA (dA (kA ?_))
  refine xS 72 [1, 2, 15, 16, 17] ?_
  obtain ⟨x15, hxx15, h0⟩ := cA h0
  refine pC (fun s' => ∃ o22 : Unit, x15 = .inl o22 ∧ s'.nx ≤ 80 ∧ LeN [] s' ⟨[], [], 80, []⟩) ?_ ?_
  ·
   intro s' hs
   obtain ⟨o22, rfl, hn, hs⟩ := hs
   refine dA ?_
   refine pB [] hn hs ?_
   refine xS 88 [6] ?_
   refine jA ?_
   obtain rfl := Option.some.inj h0
   refine lA [] ?_
   exact rG
  ·
   refine mC (ι := { p : Nat × Int // vJ s11 s22 p.1 p.2 = some x15 }) (fun p => ⟨[(1, .psl 1 (List.map (vA 4 aA.enc) s22)), (2, .fn 70 [] []), (15, .psl 1 (List.map (vA 4 aA.enc) s11)), (16, .int .i64 (s11.length : Int)), (17, .int .i64 p.1.2)], [], 72, []⟩) (fun p => p.1.1) ⟨(fu, 0), hxx15⟩ ⟨rF, rE, rfl, rfl, trivial, trivial⟩ (fun _ => Nat.le_refl _) ?_
   rintro ⟨⟨fu, v16⟩, h1⟩
   cases fu with
   | zero =>
   replace h1 : vJ s11 s22 0 v16 = some x15 := h1
   rw [vJ] at h1; cases h1
   | succ fu =>
    replace h1 : vJ s11 s22 (fu + 1) v16 = some x15 := h1
    rw [vJ] at h1
    refine (show pA _ _ _ _ ⟨[(1, .psl 1 (List.map (vA 4 aA.enc) s22)), (2, .fn 70 [] []), (15, .psl 1 (List.map (vA 4 aA.enc) s11)), (16, .int .i64 (s11.length : Int)), (17, .int .i64 v16)], [], 72, []⟩ from ?_)
    refine xS 80 [1, 2, 15, 16, 17, 18] ?_
    refine kA ?_
    refine xI h1 rfl (fun h1 hb17 => ?_) (fun h1 hb17 => ?_)
    ·
     refine qA (dA (kA (aC ?_)))
     obtain ⟨e18, he18, h1⟩ := cA h1
     obtain ⟨he18a, he18b, he18c⟩ := cB he18
     refine nA 120 [1, 2, 7, 8, 15, 16, 17] (fun _ => none) rfl (fun _ _ => rS (rA he18a (rA he18b he18c))) ?_
     obtain ⟨e19, he19, h1⟩ := cA h1
     obtain ⟨he19a, he19b, he19c⟩ := cB he19
     refine nA 160 [1, 2, 8, 9, 15, 16, 17] (fun _ => none) rfl (fun _ _ => rS (rA he18a (rA he18b (rA he18c (rA he19a (rA he19b he19c)))))) ?_
     obtain ⟨vr20, hvr20, h1⟩ := cA h1
     refine nA 200 [1, 2, 15, 16, 17, 30] (fun | 3 => some (.bool vr20, []) | _ => none) rfl (fun _ _ => rB (rA he18a (rA he18b (rA he18c (rA he19a (rA he19b he19c))))) (rM hvr20)) ?_
     refine xI h1 rfl (fun h1 hb21 => ?_) (fun h1 hb21 => ?_)
     ·
      refine nA 208 [6] (fun _ => none) rfl (fun _ _ => rS (rA he18a (rA he18b (rA he18c (rA he19a (rA he19b he19c)))))) ?_
      refine jA ?_
      obtain rfl := Option.some.inj h1
      refine eC (mA (mA (aD (mA ?_))))
      obtain rfl := Option.some.inj h0
      refine lA [] ?_
      simp (maxSteps := 1000000) only [↓reduceIte, reduceCtorEq, Nat.reduceEqDiff, Nat.reduceLT, Nat.reduceLeDiff, Nat.reduceAdd, Nat.reduceMul, Int.reduceToNat, push_cast, bC, he18a, he18b, he18c, he19a, he19b, he19c]
      all_goals exact rH
     ·
      refine qA (sB (dA ?_))
      refine uB 216 [1, 2, 15, 16, 17] (fun _ => none) rfl (fun _ _ => rS (rA he18a (rA he18b (rA he18c (rA he19a (rA he19b he19c)))))) ?_
      refine dA ?_
      exact ⟨⟨(fu, (IntKind.i64.wrap (v16 + 1))), h1⟩, ⟨rF, rE, rfl, rfl, trivial, trivial⟩, Nat.lt_succ_self _⟩
    ·
     refine iC (dB (dB (jC ?_)))
     obtain rfl := Option.some.inj h1
     exact ⟨_, rfl, rL, ⟨rF, rE, rfl, rfl, trivial, trivial⟩⟩
theorem zfj {fu : Nat} {a1 : wB} {b2 : wB} {r : Bool} (h0 : jS fu a1 b2 = some r) : bB Tryz.prog 41 [.agg (wB.enc a1), .agg (wB.enc b2)] (.bool r) [] := by
 refine gB Tryz.func41 rfl (by decide) rL ?_
 dsimp only [Tryz.f41, List.append]
 rw [jS] at h0
 refine (show pA _ _ _ _ ⟨aB 0 _, [], 0, []⟩ from ?_)
 refine xS 24 [2, 3] ?_
 refine oC 88 [2, 3, 5, 6] (fun _ => none) rfl rfl rfl (fun _ _ => jF) ?_
 obtain ⟨vr3, hvr3, h0⟩ := cA h0
 obtain ⟨b5, hb5, h0⟩ := cA h0
 obtain ⟨b7, hb7, h0⟩ := cA h0
 obtain ⟨b9, hb9, h0⟩ := cA h0
 obtain ⟨b10, hb10, h0⟩ := cA h0
 obtain ⟨b11, hb11, h0⟩ := cA h0
 obtain ⟨b13, hb13, h0⟩ := cA h0
 obtain ⟨b14, hb14, h0⟩ := cA h0
 refine nC (fr' := [(4, .bool b14)]) (hp' := [(0, ⟨0, true, true, 10, [[.psl 1 (List.map (vA 4 aA.enc) a1.Merge.Runs), .psl 1 (List.map (gA .i64) a1.Merge.At), .psl 2 (List.map eA.enc a1.Merge.Tree.Keys), .psl 1 (List.map (gA .i64) a1.Merge.Tree.Lose), .int .i64 a1.Merge.Tree.Win, .bool a1.Shadow.Some, .str a1.Shadow.Last, .bool a1.Shadow.Bottom, .psl 4 (List.map aA.enc a1.Out), .int .i64 a1.Steps]]⟩), (8, ⟨0, true, true, 10, [[.psl 1 (List.map (vA 4 aA.enc) b2.Merge.Runs), .psl 1 (List.map (gA .i64) b2.Merge.At), .psl 2 (List.map eA.enc b2.Merge.Tree.Keys), .psl 1 (List.map (gA .i64) b2.Merge.Tree.Lose), .int .i64 b2.Merge.Tree.Win, .bool b2.Shadow.Some, .str b2.Shadow.Last, .bool b2.Shadow.Bottom, .psl 4 (List.map aA.enc b2.Out), .int .i64 b2.Steps]]⟩), (56, ⟨0, true, true, 5, [[.psl 1 (List.map (vA 4 aA.enc) a1.Merge.Runs), .psl 1 (List.map (gA .i64) a1.Merge.At), .psl 2 (List.map eA.enc a1.Merge.Tree.Keys), .psl 1 (List.map (gA .i64) a1.Merge.Tree.Lose), .int .i64 a1.Merge.Tree.Win]]⟩), (64, ⟨0, true, true, 5, [[.psl 1 (List.map (vA 4 aA.enc) b2.Merge.Runs), .psl 1 (List.map (gA .i64) b2.Merge.At), .psl 2 (List.map eA.enc b2.Merge.Tree.Keys), .psl 1 (List.map (gA .i64) b2.Merge.Tree.Lose), .int .i64 b2.Merge.Tree.Win]]⟩)]) [0, 8, 56, 64] 576 [4] (fun | 4 => some (.bool vr3, []) | 10 => (yI fu a1.Merge.At b2.Merge.At).bind fun vr4 => some (.bool vr4, []) | 19 => (fK fu a1.Merge.Tree.Keys b2.Merge.Tree.Keys).bind fun vr6 => some (.bool vr6, []) | 28 => (yI fu a1.Merge.Tree.Lose b2.Merge.Tree.Lose).bind fun vr8 => some (.bool vr8, []) | 51 => (eO fu a1.Out b2.Out).bind fun vr12 => some (.bool vr12, []) | _ => none) rfl (fun Kt hK => by
   cases vr3 with
   | false =>
    replace hb5 := wA hb5 rfl
    have hqb5 := Option.some.inj hb5
    cases b5 with
    | false =>
     replace hb7 := wA hb7 rfl
     have hqb7 := Option.some.inj hb7
     cases b7 with
     | false =>
      replace hb9 := wA hb9 rfl
      have hqb9 := Option.some.inj hb9
      cases b9 with
      | false =>
       replace hb10 := wA hb10 rfl
       have hqb10 := Option.some.inj hb10
       cases b10 with
       | false =>
        replace hb11 := wA hb11 rfl
        have hqb11 := Option.some.inj hb11
        cases b11 with
        | false =>
         replace hb13 := wA hb13 rfl
         have hqb13 := Option.some.inj hb13
         cases b13 with
         | false =>
          replace hb14 := wA hb14 rfl
          have hqb14 := Option.some.inj hb14
          subst hqb14
          try have q0 := xO hvr3
          try have q1 := sF hvr4
          try have q2 := bK hvr6
          try have q3 := sF hvr8
          try have q4 := rM hvr12
          exact rT
         | true =>
          cases hqb13
        | true =>
         cases hqb11
       | true =>
        cases hqb10
      | true =>
       cases hqb9
     | true =>
      cases hqb7
    | true =>
     cases hqb5
   | true =>
    replace hb5 := jB hb5 rfl
    obtain ⟨vr4, hvr4, hb5⟩ := cA hb5
    have hqb5 := Option.some.inj hb5
    cases b5 with
    | false =>
     subst hqb5
     replace hb7 := wA hb7 rfl
     have hqb7 := Option.some.inj hb7
     cases b7 with
     | false =>
      replace hb9 := wA hb9 rfl
      have hqb9 := Option.some.inj hb9
      cases b9 with
      | false =>
       replace hb10 := wA hb10 rfl
       have hqb10 := Option.some.inj hb10
       cases b10 with
       | false =>
        replace hb11 := wA hb11 rfl
        have hqb11 := Option.some.inj hb11
        cases b11 with
        | false =>
         replace hb13 := wA hb13 rfl
         have hqb13 := Option.some.inj hb13
         cases b13 with
         | false =>
          replace hb14 := wA hb14 rfl
          have hqb14 := Option.some.inj hb14
          subst hqb14
          try have q0 := xO hvr3
          try have q1 := sF hvr4
          try have q2 := bK hvr6
          try have q3 := sF hvr8
          try have q4 := rM hvr12
          exact rS hvr4
         | true =>
          cases hqb13
        | true =>
         cases hqb11
       | true =>
        cases hqb10
      | true =>
       cases hqb9
     | true =>
      cases hqb7
    | true =>
     subst hqb5
     replace hb7 := jB hb7 rfl
     obtain ⟨vr6, hvr6, hb7⟩ := cA hb7
     have hqb7 := Option.some.inj hb7
     cases b7 with
     | false =>
      subst hqb7
      replace hb9 := wA hb9 rfl
      have hqb9 := Option.some.inj hb9
      cases b9 with
      | false =>
       replace hb10 := wA hb10 rfl
       have hqb10 := Option.some.inj hb10
       cases b10 with
       | false =>
        replace hb11 := wA hb11 rfl
        have hqb11 := Option.some.inj hb11
        cases b11 with
        | false =>
         replace hb13 := wA hb13 rfl
         have hqb13 := Option.some.inj hb13
         cases b13 with
         | false =>
          replace hb14 := wA hb14 rfl
          have hqb14 := Option.some.inj hb14
          subst hqb14
          try have q0 := xO hvr3
          try have q1 := sF hvr4
          try have q2 := bK hvr6
          try have q3 := sF hvr8
          try have q4 := rM hvr12
          exact rS (rA hvr4 hvr6)
         | true =>
          cases hqb13
        | true =>
         cases hqb11
       | true =>
        cases hqb10
      | true =>
       cases hqb9
     | true =>
      subst hqb7
      replace hb9 := jB hb9 rfl
      obtain ⟨vr8, hvr8, hb9⟩ := cA hb9
      have hqb9 := Option.some.inj hb9
      cases b9 with
      | false =>
       subst hqb9
       replace hb10 := wA hb10 rfl
       have hqb10 := Option.some.inj hb10
       cases b10 with
       | false =>
        replace hb11 := wA hb11 rfl
        have hqb11 := Option.some.inj hb11
        cases b11 with
        | false =>
         replace hb13 := wA hb13 rfl
         have hqb13 := Option.some.inj hb13
         cases b13 with
         | false =>
          replace hb14 := wA hb14 rfl
          have hqb14 := Option.some.inj hb14
          subst hqb14
          try have q0 := xO hvr3
          try have q1 := sF hvr4
          try have q2 := bK hvr6
          try have q3 := sF hvr8
          try have q4 := rM hvr12
          exact rS (rA hvr4 (rA hvr6 hvr8))
         | true =>
          cases hqb13
        | true =>
         cases hqb11
       | true =>
        cases hqb10
      | true =>
       subst hqb9
       replace hb10 := jB hb10 rfl
       have hqb10 := Option.some.inj hb10
       cases b10 with
       | false =>
        replace hb11 := wA hb11 rfl
        have hqb11 := Option.some.inj hb11
        cases b11 with
        | false =>
         replace hb13 := wA hb13 rfl
         have hqb13 := Option.some.inj hb13
         cases b13 with
         | false =>
          replace hb14 := wA hb14 rfl
          have hqb14 := Option.some.inj hb14
          subst hqb14
          simp (maxSteps := 1000000) only [↓reduceIte, reduceCtorEq, Nat.reduceEqDiff, Nat.reduceLT, Nat.reduceLeDiff, Nat.reduceAdd, Nat.reduceMul, Int.reduceToNat, push_cast, hvr4, hvr6, hvr8, ↓hqb10]
          try simp only [↓hqb10] at hK
          try have q0 := xO hvr3
          try have q1 := sF hvr4
          try have q2 := bK hvr6
          try have q3 := sF hvr8
          try have q4 := rM hvr12
          all_goals exact rU
         | true =>
          cases hqb13
        | true =>
         cases hqb11
       | true =>
        replace hb11 := jB hb11 rfl
        have hqb11 := Option.some.inj hb11
        cases b11 with
        | false =>
         replace hb13 := wA hb13 rfl
         have hqb13 := Option.some.inj hb13
         cases b13 with
         | false =>
          replace hb14 := wA hb14 rfl
          have hqb14 := Option.some.inj hb14
          subst hqb14
          simp (maxSteps := 1000000) only [↓reduceIte, reduceCtorEq, Nat.reduceEqDiff, Nat.reduceLT, Nat.reduceLeDiff, Nat.reduceAdd, Nat.reduceMul, Int.reduceToNat, push_cast, hvr4, hvr6, hvr8, ↓hqb10, ↓hqb11]
          try simp only [↓hqb10, ↓hqb11] at hK
          try have q0 := xO hvr3
          try have q1 := sF hvr4
          try have q2 := bK hvr6
          try have q3 := sF hvr8
          try have q4 := rM hvr12
          all_goals exact rU
         | true =>
          cases hqb13
        | true =>
         replace hb13 := jB hb13 rfl
         obtain ⟨vr12, hvr12, hb13⟩ := cA hb13
         have hqb13 := Option.some.inj hb13
         cases b13 with
         | false =>
          subst hqb13
          replace hb14 := wA hb14 rfl
          have hqb14 := Option.some.inj hb14
          subst hqb14
          simp (maxSteps := 1000000) only [↓reduceIte, reduceCtorEq, Nat.reduceEqDiff, Nat.reduceLT, Nat.reduceLeDiff, Nat.reduceAdd, Nat.reduceMul, Int.reduceToNat, push_cast, hvr4, hvr6, hvr8, ↓hqb10, ↓hqb11, hvr12]
          try simp only [↓hqb10, ↓hqb11] at hK
          try have q0 := xO hvr3
          try have q1 := sF hvr4
          try have q2 := bK hvr6
          try have q3 := sF hvr8
          try have q4 := rM hvr12
          all_goals exact rU
         | true =>
          subst hqb13
          replace hb14 := jB hb14 rfl
          have hqb14 := Option.some.inj hb14
          subst hqb14
          simp (maxSteps := 1000000) only [↓reduceIte, reduceCtorEq, Nat.reduceEqDiff, Nat.reduceLT, Nat.reduceLeDiff, Nat.reduceAdd, Nat.reduceMul, Int.reduceToNat, push_cast, hvr4, hvr6, hvr8, ↓hqb10, ↓hqb11, hvr12]
          try simp only [↓hqb10, ↓hqb11] at hK
          try have q0 := xO hvr3
          try have q1 := sF hvr4
          try have q2 := bK hvr6
          try have q3 := sF hvr8
          try have q4 := rM hvr12
          all_goals exact rU) ?_
 refine jA ?_
 obtain rfl := Option.some.inj h0
 refine lA [] ?_
 exact rG
theorem zdc {fu : Nat} {vs1 : oB} {r : Int × Int} (h0 : oP fu vs1 = some r) : bB Tryz.prog 11 [.agg (oB.enc vs1)] (.tup [.int .i64 r.1, .int .i64 r.2]) [] := by
 refine gB Tryz.func11 rfl (by decide) rL ?_
 dsimp only [Tryz.f11]
 rw [oP] at h0
 refine (show pA _ _ _ _ ⟨aB 0 _, [], 0, []⟩ from ?_)
 refine xS 24 [1] ?_
 obtain ⟨vr2, hvr2, h0⟩ := cA h0
 refine nA 88 [1, 3] (fun | 2 => some (.tup [.int .i64 vr2.1, .int .i64 vr2.2.1, .int .i64 vr2.2.2], []) | _ => none) rfl (fun _ _ => rC (jY hvr2)) ?_
 refine kA (aC ?_)
 refine xS 112 [1, 3, 21] ?_
 refine xI h0 rfl (fun h0 hb3 => ?_) (fun h0 hb3 => ?_)
 ·
  refine xS 136 [2, 3] ?_
  refine jA (eC (mA ?_))
  obtain rfl := Option.some.inj h0
  refine lA [] ?_
  exact rG
 ·
  obtain ⟨b4, hb4, h0⟩ := cA h0
  refine nC (fr' := [(1, .ref 0 0 0 0), (25, .bool b4)]) (hp' := [(0, ⟨0, true, true, 4, [[.int .i64 vs1.Levels.B, .psl 1 (List.map sA.enc vs1.Levels.Levels), .psl 11 (List.map yA.enc vs1.Jobs), .int .i64 vs1.NextId]]⟩)]) [0] 184 [1, 25] (fun _ => none) rfl (fun Kt hK => by
    cases hg5 : (decide (vs1.NextId < 1)) with
    | false =>
     replace hb4 := wA hb4 hg5
     have hqb4 := Option.some.inj hb4
     subst hqb4
     simp (maxSteps := 1000000) only [↓reduceIte, reduceCtorEq, Nat.reduceEqDiff, Nat.reduceLT, Nat.reduceLeDiff, Nat.reduceAdd, Nat.reduceMul, Int.reduceToNat, push_cast, ↓hg5]
     try simp only [↓hg5] at hK
     all_goals exact rU
    | true =>
     replace hb4 := jB hb4 hg5
     have hqb4 := Option.some.inj hb4
     subst hqb4
     simp (maxSteps := 1000000) only [↓reduceIte, reduceCtorEq, Nat.reduceEqDiff, Nat.reduceLT, Nat.reduceLeDiff, Nat.reduceAdd, Nat.reduceMul, Int.reduceToNat, push_cast, ↓hg5]
     try simp only [↓hg5] at hK
     all_goals exact rU) ?_
  refine xI h0 rfl (fun h0 hb6 => ?_) (fun h0 hb6 => ?_)
  ·
   refine xS 200 [2, 3] ?_
   refine jA (eC (mA ?_))
   obtain rfl := Option.some.inj h0
   refine lA [] ?_
   exact rG
  ·
   obtain ⟨vr7, hvr7, h0⟩ := cA h0
   refine oC 240 [1, 34] (fun | 4 => some (.int .i64 vr7, []) | _ => none) rfl rfl rfl (fun _ _ => oM (zbV hvr7)) ?_
   refine xI h0 rfl (fun h0 hb8 => ?_) (fun h0 hb8 => ?_)
   ·
    refine xS 256 [2, 3] ?_
    refine jA (eC (mA ?_))
    obtain rfl := Option.some.inj h0
    refine lA [] ?_
    exact rG
   ·
    refine qA (sB (dA ?_))
    obtain ⟨vr9, hvr9, h0⟩ := cA h0
    obtain ⟨vr10, hvr10, h0⟩ := cA h0
    refine nA 280 [1, 4] (fun | 2 => some (.fn 67 [] [.pp [.int .i64 vr9.1, .psl 1 (vr9.2.map sA.enc)]], []) | 3 => some (.psl 1 (vr10.map (gA .i64)), []) | _ => none) rfl (fun Kt hK => by
      try have q0 := zbx hvr9
      try have q1 := zd0 hvr10
      exact rT) ?_
    refine kA ?_
    refine xS 312 [1, 4, 46, 47, 48] ?_
    obtain ⟨x48, hxx48, h0⟩ := cA h0
    refine pC (fun s' => ∃ o68 : Unit, x48 = .inl o68 ∧ s'.nx ≤ 320 ∧ LeN [] s' ⟨[(1, .ref 0 0 0 0), (4, .psl 1 (List.map (gA .i64) vr10))], [(0, ⟨0, true, true, 4, [[.int .i64 vs1.Levels.B, .psl 1 (List.map sA.enc vs1.Levels.Levels), .psl 11 (List.map yA.enc vs1.Jobs), .int .i64 vs1.NextId]]⟩)], 320, []⟩) ?_ ?_
    ·
     intro s' hs
     obtain ⟨o68, rfl, hn, hs⟩ := hs
     refine dA ?_
     refine pB [] hn hs ?_
     refine kA ?_
     refine xS 368 [126] ?_
     refine xI h0 rfl (fun h0 hb69 => ?_) (fun h0 hb69 => ?_)
     ·
      refine xS 384 [2, 3] ?_
      refine jA (mA ?_)
      obtain rfl := Option.some.inj h0
      refine lA [] ?_
      exact rG
     ·
      refine qA (dA ?_)
      refine xS 384 [2, 3] ?_
      refine jA ?_
      obtain rfl := Option.some.inj h0
      refine lA [] ?_
      exact rG
    ·
     refine mC (ι := { p : Nat × Int // uJ vs1 vr10 p.1 p.2 = some x48 }) (fun p => ⟨[(1, .ref 0 0 0 0), (4, .psl 1 (List.map (gA .i64) vr10)), (46, .psl 11 (List.map yA.enc vs1.Jobs)), (47, .int .i64 (vs1.Jobs.length : Int)), (48, .int .i64 p.1.2)], [(0, ⟨0, true, true, 4, [[.int .i64 vs1.Levels.B, .psl 1 (List.map sA.enc vs1.Levels.Levels), .psl 11 (List.map yA.enc vs1.Jobs), .int .i64 vs1.NextId]]⟩)], 312, []⟩) (fun p => p.1.1) ⟨(fu, 0), hxx48⟩ ⟨rF, rE, rfl, rfl, trivial, trivial⟩ (fun _ => Nat.le_refl _) ?_
     rintro ⟨⟨fu, v49⟩, h1⟩
     cases fu with
     | zero =>
   replace h1 : uJ vs1 vr10 0 v49 = some x48 := h1
   rw [uJ] at h1; cases h1
     | succ fu =>
      replace h1 : uJ vs1 vr10 (fu + 1) v49 = some x48 := h1
      rw [uJ] at h1
      refine (show pA _ _ _ _ ⟨[(1, .ref 0 0 0 0), (4, .psl 1 (List.map (gA .i64) vr10)), (46, .psl 11 (List.map yA.enc vs1.Jobs)), (47, .int .i64 (vs1.Jobs.length : Int)), (48, .int .i64 v49)], [(0, ⟨0, true, true, 4, [[.int .i64 vs1.Levels.B, .psl 1 (List.map sA.enc vs1.Levels.Levels), .psl 11 (List.map yA.enc vs1.Jobs), .int .i64 vs1.NextId]]⟩)], 312, []⟩ from ?_)
      refine xS 320 [1, 4, 46, 47, 48, 49] ?_
      refine kA ?_
      refine xI h1 rfl (fun h1 hb50 => ?_) (fun h1 hb50 => ?_)
      ·
       refine qA (dA (kA (aC ?_)))
       obtain ⟨e51, he51, h1⟩ := cA h1
       obtain ⟨he51a, he51b, he51c⟩ := cB he51
       refine nA 368 [1, 4, 5, 6, 46, 47, 48] (fun _ => none) rfl (fun _ _ => rS (rA he51a (rA he51b he51c))) ?_
       refine kA ?_
       obtain ⟨b53, hb53, h1⟩ := cA h1
       refine yR (fr' := [(1, .ref 0 0 0 0), (4, .psl 1 (List.map (gA .i64) vr10)), (5, .int .i64 v49), (6, .ref 344 0 0 0), (46, .psl 11 (List.map yA.enc vs1.Jobs)), (47, .int .i64 (vs1.Jobs.length : Int)), (48, .int .i64 v49), (65, .bool b53)]) (hp' := [(0, ⟨0, true, true, 4, [[.int .i64 vs1.Levels.B, .psl 1 (List.map sA.enc vs1.Levels.Levels), .psl 11 (List.map yA.enc vs1.Jobs), .int .i64 vs1.NextId]]⟩), (344, ⟨0, true, true, 11, [[.int .i64 e51.Level, .psl 1 (List.map (vA 4 aA.enc) e51.Work.Merge.Runs), .psl 1 (List.map (gA .i64) e51.Work.Merge.At), .psl 2 (List.map eA.enc e51.Work.Merge.Tree.Keys), .psl 1 (List.map (gA .i64) e51.Work.Merge.Tree.Lose), .int .i64 e51.Work.Merge.Tree.Win, .bool e51.Work.Shadow.Some, .str e51.Work.Shadow.Last, .bool e51.Work.Shadow.Bottom, .psl 4 (List.map aA.enc e51.Work.Out), .int .i64 e51.Work.Steps]]⟩)]) [0, 344] 472 [1, 4, 5, 6, 46, 47, 48, 65] (fun _ => none) rfl rfl rfl (fun Kt hK => by
         cases hg54 : (decide ((vr10.length : Int) ≤ v49)) with
         | false =>
          replace hb53 := wA hb53 hg54
          obtain ⟨e52, he52, hb53⟩ := cA hb53
          obtain ⟨he52a, he52b, he52c⟩ := cB he52
          have hqb53 := Option.some.inj hb53
          subst hqb53
          simp (maxSteps := 1000000) only [↓reduceIte, reduceCtorEq, Nat.reduceEqDiff, Nat.reduceLT, Nat.reduceLeDiff, Nat.reduceAdd, Nat.reduceMul, Int.reduceToNat, push_cast, he51a, he51b, he51c, ↓hg54, he52a, he52b, he52c, he52]
          try simp only [↓hg54] at hK
          all_goals exact nH
         | true =>
          replace hb53 := jB hb53 hg54
          have hqb53 := Option.some.inj hb53
          subst hqb53
          simp (maxSteps := 1000000) only [↓reduceIte, reduceCtorEq, Nat.reduceEqDiff, Nat.reduceLT, Nat.reduceLeDiff, Nat.reduceAdd, Nat.reduceMul, Int.reduceToNat, push_cast, he51a, he51b, he51c, ↓hg54]
          try simp only [↓hg54] at hK
          all_goals exact nH) ?_
       refine xI h1 rfl (fun h1 hb55 => ?_) (fun h1 hb55 => ?_)
       ·
        refine nA 496 [2, 3] (fun _ => none) rfl (fun _ _ => rS (rA he51a (rA he51b he51c))) ?_
        refine jA ?_
        obtain rfl := Option.some.inj h1
        refine mA (eC (mA (mA (aD (mA ?_)))))
        obtain rfl := Option.some.inj h0
        refine lA [] ?_
        simp (maxSteps := 1000000) only [↓reduceIte, reduceCtorEq, Nat.reduceEqDiff, Nat.reduceLT, Nat.reduceLeDiff, Nat.reduceAdd, Nat.reduceMul, Int.reduceToNat, push_cast, bC, he51a, he51b, he51c]
        all_goals exact rH
       ·
        refine qA (dA ?_)
        refine nA 512 [1, 4, 5, 6, 7, 46, 47, 48] (fun _ => none) rfl (fun _ _ => rS (rA he51a (rA he51b he51c))) ?_
        refine kA ?_
        obtain ⟨b57, hb57, h1⟩ := cA h1
        refine nC (fr' := [(1, .ref 0 0 0 0), (4, .psl 1 (List.map (gA .i64) vr10)), (5, .int .i64 v49), (6, .ref 344 0 0 0), (7, .bool e51.Work.Shadow.Bottom), (46, .psl 11 (List.map yA.enc vs1.Jobs)), (47, .int .i64 (vs1.Jobs.length : Int)), (48, .int .i64 v49), (79, .bool b57)]) (hp' := [(0, ⟨0, true, true, 4, [[.int .i64 vs1.Levels.B, .psl 1 (List.map sA.enc vs1.Levels.Levels), .psl 11 (List.map yA.enc vs1.Jobs), .int .i64 vs1.NextId]]⟩), (344, ⟨0, true, true, 11, [[.int .i64 e51.Level, .psl 1 (List.map (vA 4 aA.enc) e51.Work.Merge.Runs), .psl 1 (List.map (gA .i64) e51.Work.Merge.At), .psl 2 (List.map eA.enc e51.Work.Merge.Tree.Keys), .psl 1 (List.map (gA .i64) e51.Work.Merge.Tree.Lose), .int .i64 e51.Work.Merge.Tree.Win, .bool e51.Work.Shadow.Some, .str e51.Work.Shadow.Last, .bool e51.Work.Shadow.Bottom, .psl 4 (List.map aA.enc e51.Work.Out), .int .i64 e51.Work.Steps]]⟩)]) [0, 344] 584 [1, 4, 5, 6, 7, 46, 47, 48, 79] (fun | 6 => (lK fu vs1.Levels e51.Level).bind fun vr56 => some (.bool vr56, []) | _ => none) rfl (fun Kt hK => by
          cases hg58 : e51.Work.Shadow.Bottom with
          | false =>
           replace hb57 := wA hb57 hg58
           have hqb57 := Option.some.inj hb57
           subst hqb57
           simp (maxSteps := 1000000) only [↓reduceIte, reduceCtorEq, Nat.reduceEqDiff, Nat.reduceLT, Nat.reduceLeDiff, Nat.reduceAdd, Nat.reduceMul, Int.reduceToNat, push_cast, he51a, he51b, he51c, ↓hg58]
           try simp only [↓hg58] at hK
           try have q0 := wV hvr56
           all_goals exact rU
          | true =>
           replace hb57 := jB hb57 hg58
           obtain ⟨vr56, hvr56, hb57⟩ := cA hb57
           have hqb57 := Option.some.inj hb57
           subst hqb57
           simp (maxSteps := 1000000) only [↓reduceIte, reduceCtorEq, Nat.reduceEqDiff, Nat.reduceLT, Nat.reduceLeDiff, Nat.reduceAdd, Nat.reduceMul, Int.reduceToNat, push_cast, he51a, he51b, he51c, ↓hg58, hvr56]
           try simp only [↓hg58] at hK
           try have q0 := wV hvr56
           all_goals exact rU) ?_
        refine xI h1 rfl (fun h1 hb59 => ?_) (fun h1 hb59 => ?_)
        ·
         refine nA 608 [2, 3] (fun _ => none) rfl (fun _ _ => rS (rA he51a (rA he51b he51c))) ?_
         refine jA ?_
         obtain rfl := Option.some.inj h1
         refine mA (eC (mA (mA (aD (mA ?_)))))
         obtain rfl := Option.some.inj h0
         refine lA [] ?_
         simp (maxSteps := 1000000) only [↓reduceIte, reduceCtorEq, Nat.reduceEqDiff, Nat.reduceLT, Nat.reduceLeDiff, Nat.reduceAdd, Nat.reduceMul, Int.reduceToNat, push_cast, bC, he51a, he51b, he51c]
         all_goals exact rH
        ·
         refine qA (dA ?_)
         obtain ⟨vr60, hvr60, h1⟩ := cA h1
         refine nA 656 [1, 4, 5, 6, 8, 46, 47, 48] (fun | 5 => some (.agg (yA.enc vr60), []) | _ => none) rfl (fun _ _ => rB (rA he51a (rA he51b he51c)) (dY hvr60)) ?_
         obtain ⟨vr61, hvr61, h1⟩ := cA h1
         refine nA 712 [1, 4, 5, 6, 8, 9, 46, 47, 48] (fun | 1 => some (.tup [.int .i64 vr61.1, .int .i64 vr61.2], []) | _ => none) rfl (fun _ _ => rB (rA he51a (rA he51b he51c)) (cW hvr61)) ?_
         refine kA ?_
         obtain ⟨b62, hb62, h1⟩ := cA h1
         refine nC (fr' := [(1, .ref 0 0 0 0), (4, .psl 1 (List.map (gA .i64) vr10)), (5, .int .i64 v49), (6, .ref 344 0 0 0), (8, .ref 640 0 0 0), (46, .psl 11 (List.map yA.enc vs1.Jobs)), (47, .int .i64 (vs1.Jobs.length : Int)), (48, .int .i64 v49), (103, .bool b62)]) (hp' := [(0, ⟨0, true, true, 4, [[.int .i64 vs1.Levels.B, .psl 1 (List.map sA.enc vs1.Levels.Levels), .psl 11 (List.map yA.enc vs1.Jobs), .int .i64 vs1.NextId]]⟩), (344, ⟨0, true, true, 11, [[.int .i64 e51.Level, .psl 1 (List.map (vA 4 aA.enc) e51.Work.Merge.Runs), .psl 1 (List.map (gA .i64) e51.Work.Merge.At), .psl 2 (List.map eA.enc e51.Work.Merge.Tree.Keys), .psl 1 (List.map (gA .i64) e51.Work.Merge.Tree.Lose), .int .i64 e51.Work.Merge.Tree.Win, .bool e51.Work.Shadow.Some, .str e51.Work.Shadow.Last, .bool e51.Work.Shadow.Bottom, .psl 4 (List.map aA.enc e51.Work.Out), .int .i64 e51.Work.Steps]]⟩), (640, ⟨0, true, true, 10, [[.psl 1 (List.map (vA 4 aA.enc) vr60.Work.Merge.Runs), .psl 1 (List.map (gA .i64) vr60.Work.Merge.At), .psl 2 (List.map eA.enc vr60.Work.Merge.Tree.Keys), .psl 1 (List.map (gA .i64) vr60.Work.Merge.Tree.Lose), .int .i64 vr60.Work.Merge.Tree.Win, .bool vr60.Work.Shadow.Some, .str vr60.Work.Shadow.Last, .bool vr60.Work.Shadow.Bottom, .psl 4 (List.map aA.enc vr60.Work.Out), .int .i64 vr60.Work.Steps]]⟩)]) [0, 344, 640] 800 [1, 4, 5, 6, 8, 46, 47, 48, 103] (fun _ => none) rfl (fun Kt hK => by
           cases hg63 : (decide (e51.Work.Steps < 0)) with
           | false =>
            replace hb62 := wA hb62 hg63
            have hqb62 := Option.some.inj hb62
            subst hqb62
            simp (maxSteps := 1000000) only [↓reduceIte, reduceCtorEq, Nat.reduceEqDiff, Nat.reduceLT, Nat.reduceLeDiff, Nat.reduceAdd, Nat.reduceMul, Int.reduceToNat, push_cast, he51a, he51b, he51c, ↓hg63]
            try simp only [↓hg63] at hK
            all_goals exact rU
           | true =>
            replace hb62 := jB hb62 hg63
            have hqb62 := Option.some.inj hb62
            subst hqb62
            simp (maxSteps := 1000000) only [↓reduceIte, reduceCtorEq, Nat.reduceEqDiff, Nat.reduceLT, Nat.reduceLeDiff, Nat.reduceAdd, Nat.reduceMul, Int.reduceToNat, push_cast, he51a, he51b, he51c, ↓hg63]
            try simp only [↓hg63] at hK
            all_goals exact rU) ?_
         refine xI h1 rfl (fun h1 hb64 => ?_) (fun h1 hb64 => ?_)
         ·
          refine nA 824 [2, 3] (fun _ => none) rfl (fun _ _ => rS (rA he51a (rA he51b he51c))) ?_
          refine jA ?_
          obtain rfl := Option.some.inj h1
          refine mA (eC (mA (mA (aD (mA ?_)))))
          obtain rfl := Option.some.inj h0
          refine lA [] ?_
          simp (maxSteps := 1000000) only [↓reduceIte, reduceCtorEq, Nat.reduceEqDiff, Nat.reduceLT, Nat.reduceLeDiff, Nat.reduceAdd, Nat.reduceMul, Int.reduceToNat, push_cast, bC, he51a, he51b, he51c]
          all_goals exact rH
         ·
          refine qA (dA ?_)
          obtain ⟨vr65, hvr65, h1⟩ := cA h1
          refine nA 904 [1, 4, 5, 6, 11, 46, 47, 48] (fun | 4 => some (.tup [.agg (wB.enc vr65.1), .int .i64 vr65.2.1, .int .i64 vr65.2.2], []) | _ => none) rfl (fun _ _ => rB (rA he51a (rA he51b he51c)) (za0 hvr65)) ?_
          obtain ⟨vr66, hvr66, h1⟩ := cA h1
          refine nA 944 [1, 4, 5, 46, 47, 48, 118] (fun | 3 => some (.bool vr66, []) | _ => none) rfl (fun _ _ => rB (rA he51a (rA he51b he51c)) (zfj hvr66)) ?_
          refine xI h1 rfl (fun h1 hb67 => ?_) (fun h1 hb67 => ?_)
          ·
           refine nA 968 [2, 3] (fun _ => none) rfl (fun _ _ => rS (rA he51a (rA he51b he51c))) ?_
           refine jA ?_
           obtain rfl := Option.some.inj h1
           refine eC (mA (mA (aD (mA ?_))))
           obtain rfl := Option.some.inj h0
           refine lA [] ?_
           simp (maxSteps := 1000000) only [↓reduceIte, reduceCtorEq, Nat.reduceEqDiff, Nat.reduceLT, Nat.reduceLeDiff, Nat.reduceAdd, Nat.reduceMul, Int.reduceToNat, push_cast, bC, he51a, he51b, he51c]
           all_goals exact rH
          ·
           refine qA (sB (dA ?_))
           refine uB 960 [1, 4, 46, 47, 48] (fun _ => none) rfl (fun _ _ => rS (rA he51a (rA he51b he51c))) ?_
           refine dA ?_
           exact ⟨⟨(fu, (IntKind.i64.wrap (v49 + 1))), h1⟩, ⟨rF, rE, rfl, rfl, trivial, trivial⟩, Nat.lt_succ_self _⟩
      ·
       refine iC (dB (dB (jC ?_)))
       obtain rfl := Option.some.inj h1
       exact ⟨_, rfl, rL, ⟨rF, rE, rfl, rfl, trivial, trivial⟩⟩
theorem zdV {fu : Nat} {j1 : yA} {p2 : Int} {r : Bool} (h0 : mS fu j1 p2 = some r) : bB Tryz.prog 50 [.agg (yA.enc j1), .pp [.int .i64 p2]] (.bool r) [] := by
 refine gB Tryz.func50 rfl (by decide) rL ?_
 dsimp only [Tryz.f50]
 rw [mS] at h0
 refine (show pA _ _ _ _ ⟨aB 0 _, [], 0, []⟩ from ?_)
 refine xS 16 [1, 2] ?_
 refine xS 56 [3] ?_
 refine jA ?_
 obtain rfl := Option.some.inj h0
 refine lA [] ?_
 exact rG
theorem zk2 {fu : Nat} {vs1 : List yA} {f2 : Int} {r : Int} (h0 : tS fu vs1 f2 = some r) : bB Tryz.prog 82 [.psl 11 (vs1.map yA.enc), .fn 50 [] [.pp [.int .i64 f2]]] (.int .i64 r) [] := by
 refine gB Tryz.func82 rfl (by decide) rL ?_
 dsimp only [Tryz.f82]
 rw [tS] at h0
 refine (show pA _ _ _ _ ⟨aB 0 _, [], 0, []⟩ from ?_)
 refine xS 8 [0, 1] ?_
 refine kA ?_
 refine xS 32 [0, 1, 7, 8] ?_
 obtain ⟨x12, hxx12, h0⟩ := cA h0
 refine pC (fun s' => ∃ o18 : Unit, x12 = .inl o18 ∧ s'.nx ≤ 40 ∧ LeN [] s' ⟨[], [], 40, []⟩) ?_ ?_
 ·
  intro s' hs
  obtain ⟨o18, rfl, hn, hs⟩ := hs
  refine dA ?_
  refine pB [] hn hs ?_
  refine xS 48 [4] ?_
  refine jA ?_
  obtain rfl := Option.some.inj h0
  refine lA [] ?_
  exact rG
 ·
  refine mC (ι := { p : Nat × Int // xJ vs1 f2 p.1 p.2 = some x12 }) (fun p => ⟨[(0, .psl 11 (List.map yA.enc vs1)), (1, .fn 50 [] [.pp [.int .i64 f2]]), (7, .int .i64 (vs1.length : Int)), (8, .int .i64 p.1.2)], [], 32, []⟩) (fun p => p.1.1) ⟨(fu, 0), hxx12⟩ ⟨rF, rE, rfl, rfl, trivial, trivial⟩ (fun _ => Nat.le_refl _) ?_
  rintro ⟨⟨fu, v13⟩, h1⟩
  cases fu with
  | zero =>
   replace h1 : xJ vs1 f2 0 v13 = some x12 := h1
   rw [xJ] at h1; cases h1
  | succ fu =>
   replace h1 : xJ vs1 f2 (fu + 1) v13 = some x12 := h1
   rw [xJ] at h1
   refine (show pA _ _ _ _ ⟨[(0, .psl 11 (List.map yA.enc vs1)), (1, .fn 50 [] [.pp [.int .i64 f2]]), (7, .int .i64 (vs1.length : Int)), (8, .int .i64 v13)], [], 32, []⟩ from ?_)
   refine xS 40 [0, 1, 7, 8, 9] ?_
   refine kA ?_
   refine xI h1 rfl (fun h1 hb14 => ?_) (fun h1 hb14 => ?_)
   ·
    refine qA (dA (kA (aC ?_)))
    refine xS 56 [0, 1, 5, 7, 8] ?_
    obtain ⟨e15, he15, h1⟩ := cA h1
    obtain ⟨he15a, he15b, he15c⟩ := cB he15
    obtain ⟨vr16, hvr16, h1⟩ := cA h1
    refine nA 104 [0, 1, 5, 7, 8, 16] (fun | 5 => some (.bool vr16, []) | _ => none) rfl (fun _ _ => rB (rA he15a (rA he15b he15c)) (zdV hvr16)) ?_
    refine xI h1 rfl (fun h1 hb17 => ?_) (fun h1 hb17 => ?_)
    ·
     refine nA 120 [4] (fun _ => none) rfl (fun _ _ => rS (rA he15a (rA he15b he15c))) ?_
     refine jA ?_
     obtain rfl := Option.some.inj h1
     refine eC (mA (mA (aD (mA ?_))))
     obtain rfl := Option.some.inj h0
     refine lA [] ?_
     simp (maxSteps := 1000000) only [↓reduceIte, reduceCtorEq, Nat.reduceEqDiff, Nat.reduceLT, Nat.reduceLeDiff, Nat.reduceAdd, Nat.reduceMul, Int.reduceToNat, push_cast, bC, he15a, he15b, he15c]
     all_goals exact rH
    ·
     refine qA (sB (dA ?_))
     refine uB 120 [0, 1, 7, 8] (fun _ => none) rfl (fun _ _ => rS (rA he15a (rA he15b he15c))) ?_
     refine dA ?_
     exact ⟨⟨(fu, (IntKind.i64.wrap (v13 + 1))), h1⟩, ⟨rF, rE, rfl, rfl, trivial, trivial⟩, Nat.lt_succ_self _⟩
   ·
    refine iC (dB (dB (jC ?_)))
    obtain rfl := Option.some.inj h1
    exact ⟨_, rfl, rL, ⟨rF, rE, rfl, rfl, trivial, trivial⟩⟩
theorem zd9 {fu : Nat} {l1 : List yA} {is2 : Int} {r : Int × Int} (h0 : iR fu l1 is2 = some r) : bB Tryz.prog 49 [.psl 11 (l1.map yA.enc), .fn 50 [] [.pp [.int .i64 is2]]] (.tup [.int .i64 r.1, .int .i64 r.2]) [] := by
 refine gB Tryz.func49 rfl (by decide) rL ?_
 dsimp only [Tryz.f49]
 rw [iR] at h0
 refine (show pA _ _ _ _ ⟨aB 0 _, [], 0, []⟩ from ?_)
 refine xS 16 [0, 1] ?_
 obtain ⟨vr3, hvr3, h0⟩ := cA h0
 refine nA 48 [6] (fun | 2 => some (.int .i64 vr3, []) | _ => none) rfl (fun _ _ => rC (zk2 hvr3)) ?_
 refine kA ?_
 refine xS 64 [6, 11] ?_
 refine xI h0 rfl (fun h0 hb4 => ?_) (fun h0 hb4 => ?_)
 ·
  refine xS 80 [4, 5] ?_
  refine jA (mA ?_)
  obtain rfl := Option.some.inj h0
  refine lA [] ?_
  exact rG
 ·
  refine qA (dA ?_)
  refine xS 88 [4, 5] ?_
  refine jA ?_
  obtain rfl := Option.some.inj h0
  refine lA [] ?_
  exact rG
theorem zb4 {fu : Nat} {vs1 : oB} {level2 : Int} {r : Int × Int} (h0 : lP fu vs1 level2 = some r) : bB Tryz.prog 16 [.agg (oB.enc vs1), .int .i64 level2] (.tup [.int .i64 r.1, .int .i64 r.2]) [] := by
 refine gB Tryz.func16 rfl (by decide) rL ?_
 dsimp only [Tryz.f16]
 rw [lP] at h0
 refine (show pA _ _ _ _ ⟨aB 0 _, [], 0, []⟩ from ?_)
 refine xS 32 [2, 3] ?_
 refine kA ?_
 obtain ⟨vr3, hvr3, h0⟩ := cA h0
 refine nA 88 [2, 3, 7] (fun | 1 => some (.tup [.int .i64 vr3.1, .int .i64 vr3.2], []) | _ => none) rfl (fun _ _ => rC (zdc hvr3)) ?_
 refine xS 104 [2, 3, 7, 14] ?_
 refine xI h0 rfl (fun h0 hb4 => ?_) (fun h0 hb4 => ?_)
 ·
  refine xS 128 [4, 5] ?_
  refine jA (mA ?_)
  obtain rfl := Option.some.inj h0
  refine lA [] ?_
  exact rG
 ·
  refine qA (dA ?_)
  obtain ⟨vr5, hvr5, h0⟩ := cA h0
  refine nA 168 [4, 5] (fun | 3 => some (.tup [.int .i64 vr5.1, .int .i64 vr5.2], []) | _ => none) rfl (fun _ _ => rC (zd9 hvr5)) ?_
  refine jA ?_
  obtain rfl := Option.some.inj h0
  refine lA [] ?_
  exact rG
theorem zcp {fu : Nat} {vs1 : oB} {level2 : Int} {r : Int × Int} (h0 : gP fu vs1 level2 = some r) : bB Tryz.prog 18 [.agg (oB.enc vs1), .int .i64 level2] (.tup [.int .i64 r.1, .int .i64 r.2]) [] := by
 refine gB Tryz.func18 rfl (by decide) rL ?_
 dsimp only [Tryz.f18]
 rw [gP] at h0
 refine (show pA _ _ _ _ ⟨aB 0 _, [], 0, []⟩ from ?_)
 refine xS 24 [1, 2] ?_
 obtain ⟨vr3, hvr3, h0⟩ := cA h0
 refine nA 88 [2, 5, 6] (fun | 2 => some (.tup [.int .i64 vr3.1, .int .i64 vr3.2], []) | _ => none) rfl (fun _ _ => rC (zb4 hvr3)) ?_
 refine kA ?_
 refine xS 104 [2, 5, 6, 14] ?_
 refine xI h0 rfl (fun h0 hb4 => ?_) (fun h0 hb4 => ?_)
 ·
  refine xS 128 [4, 5] ?_
  refine jA (mA ?_)
  obtain rfl := Option.some.inj h0
  refine lA [] ?_
  exact rG
 ·
  refine qA (dA ?_)
  obtain ⟨e5, he5, h0⟩ := cA h0
  obtain ⟨he5a, he5b, he5c⟩ := cB he5
  obtain ⟨vr6, hvr6, h0⟩ := cA h0
  refine nA 192 [4, 5] (fun | 6 => some (.tup [.int .i64 vr6.1, .int .i64 vr6.2], []) | _ => none) rfl (fun _ _ => rB (rA he5a (rA he5b he5c)) (cW hvr6)) ?_
  refine jA ?_
  obtain rfl := Option.some.inj h0
  refine lA [] ?_
  simp (maxSteps := 1000000) only [↓reduceIte, reduceCtorEq, Nat.reduceEqDiff, Nat.reduceLT, Nat.reduceLeDiff, Nat.reduceAdd, Nat.reduceMul, Int.reduceToNat, push_cast, bC, he5a, he5b, he5c]
  all_goals exact rH
theorem ziO {fu : Nat} {vs1 : List yA} {r : List yA} (h0 : bR fu vs1 = some r) : bB Tryz.prog 32 [.psl 11 (vs1.map yA.enc)] (.sl 0 0 11 0 r.length) [⟨0, true, true, 11, r.map yA.enc⟩] := by
 refine gB Tryz.func32 rfl (by decide) rL ?_
 dsimp only [Tryz.f32]
 rw [bR] at h0
 refine (show pA _ _ _ _ ⟨aB 0 _, [], 0, []⟩ from ?_)
 refine xS 8 [0] ?_
 refine kA ?_
 cases hb2 : vs1.isEmpty with
 | true =>
  replace h0 := jB h0 hb2
  obtain rfl : vs1 = [] := List.isEmpty_iff.1 hb2
  refine xS 24 [0, 4] ?_
  refine xU rfl ?_ ?_
  ·
   skip
   refine xS 32 [2] ?_
   refine pB (s2 := ⟨[(2, .sl 32 0 11 0 0)], [(32, ⟨0, true, true, 11, List.map yA.enc []⟩)], 33, []⟩) [(32, 11)] rL ⟨rF, rE, rfl, rfl, trivial, rN⟩ ?_
   refine jA (mA ?_)
   obtain rfl := Option.some.inj h0
   refine lA [32] ?_
   exact rG
  ·
   skip
   refine qA (dA ?_)
   refine xS 56 [2] ?_
   refine xE ⟨[(2, .sl 24 1 11 0 0)], [(24, ⟨1, true, true, 11, List.map yA.enc []⟩)], 56, []⟩ ?_
   refine jA ?_
   obtain rfl := Option.some.inj h0
   refine lA [24] ?_
   exact rG
 | false =>
  replace h0 := wA h0 hb2
  refine nA 24 [0, 4] (fun _ => none) rfl (fun _ _ => rS hb2) ?_
  refine eF rfl ?_
  refine qA (dA ?_)
  obtain ⟨hc3, h0⟩ := mD h0
  refine nA 56 [2] (fun _ => none) rfl (fun _ _ => rS hb2) ?_
  refine xE ⟨[(2, .sl 24 1 11 0 vs1.length)], [(24, ⟨1, true, true, 11, List.map yA.enc vs1⟩)], 56, []⟩ ?_
  refine jA ?_
  obtain rfl := Option.some.inj h0
  refine lA [24] ?_
  simp (maxSteps := 1000000) only [↓reduceIte, reduceCtorEq, Nat.reduceEqDiff, Nat.reduceLT, Nat.reduceLeDiff, Nat.reduceAdd, Nat.reduceMul, Int.reduceToNat, push_cast, bC, hb2]
  all_goals exact rH
theorem zbh {fu : Nat} {vs1 : oB} {level2 : Int} {most3 : Int} {r : oB × Int × Int} (h0 : eQ fu vs1 level2 most3 = some r) : bB Tryz.prog 8 [.agg (oB.enc vs1), .int .i64 level2, .int .i64 most3] (.tup [.agg (oB.enc r.1), .int .i64 r.2.1, .int .i64 r.2.2]) [] := by
 refine gB Tryz.func8 rfl (by decide) rL ?_
 dsimp only [Tryz.f8]
 rw [eQ] at h0
 refine (show pA _ _ _ _ ⟨aB 0 _, [], 0, []⟩ from ?_)
 refine xS 32 [1, 2, 3, 6] ?_
 refine kA ?_
 obtain ⟨vr4, hvr4, h0⟩ := cA h0
 refine nA 88 [1, 2, 3, 6, 10] (fun | 1 => some (.tup [.int .i64 vr4.1, .int .i64 vr4.2], []) | _ => none) rfl (fun _ _ => rC (zdc hvr4)) ?_
 refine xS 104 [1, 2, 3, 6, 10, 21] ?_
 refine xI h0 rfl (fun h0 hb5 => ?_) (fun h0 hb5 => ?_)
 ·
  refine xS 144 [6, 7, 8] ?_
  refine jA (mA ?_)
  obtain rfl := Option.some.inj h0
  refine lA [] ?_
  exact rG
 ·
  refine qA (dA (kA ?_))
  refine xS 120 [1, 2, 3, 6, 25] ?_
  refine xI h0 rfl (fun h0 hb6 => ?_) (fun h0 hb6 => ?_)
  ·
   refine xS 152 [6, 7, 8] ?_
   refine jA (mA ?_)
   obtain rfl := Option.some.inj h0
   refine lA [] ?_
   exact rG
  ·
   refine qA (dA ?_)
   obtain ⟨vr7, hvr7, h0⟩ := cA h0
   refine nA 184 [2, 3, 6, 8, 11] (fun | 2 => some (.tup [.int .i64 vr7.1, .int .i64 vr7.2], []) | _ => none) rfl (fun _ _ => rC (zb4 hvr7)) ?_
   refine kA ?_
   refine xS 200 [2, 3, 6, 8, 11, 34] ?_
   refine xI h0 rfl (fun h0 hb8 => ?_) (fun h0 hb8 => ?_)
   ·
    refine xS 240 [6, 7, 8] ?_
    refine jA (mA ?_)
    obtain rfl := Option.some.inj h0
    refine lA [] ?_
    exact rG
   ·
    refine qA (dA (kA ?_))
    obtain ⟨e9, he9, h0⟩ := cA h0
    obtain ⟨he9a, he9b, he9c⟩ := cB he9
    obtain ⟨vr10, hvr10, h0⟩ := cA h0
    refine nA 296 [2, 3, 6, 11, 12] (fun | 6 => some (.tup [.int .i64 vr10.1, .int .i64 vr10.2], []) | _ => none) rfl (fun _ _ => rB (rA he9a (rA he9b he9c)) (cW hvr10)) ?_
    refine nA 312 [2, 3, 6, 11, 48] (fun _ => none) rfl (fun _ _ => rS (rA he9a (rA he9b he9c))) ?_
    refine xI h0 rfl (fun h0 hb11 => ?_) (fun h0 hb11 => ?_)
    ·
     refine nA 344 [6, 7, 8] (fun _ => none) rfl (fun _ _ => rS (rA he9a (rA he9b he9c))) ?_
     refine jA (mA ?_)
     obtain rfl := Option.some.inj h0
     refine lA [] ?_
     simp (maxSteps := 1000000) only [↓reduceIte, reduceCtorEq, Nat.reduceEqDiff, Nat.reduceLT, Nat.reduceLeDiff, Nat.reduceAdd, Nat.reduceMul, Int.reduceToNat, push_cast, bC, he9a, he9b, he9c]
     all_goals exact rH
    ·
     refine qA (dA ?_)
     obtain ⟨vr12, hvr12, h0⟩ := cA h0
     refine nA 440 [3, 6, 7, 8, 11, 14] (fun | 7 => some (.tup [.agg (wB.enc vr12.1), .int .i64 vr12.2.1, .int .i64 vr12.2.2], []) | _ => none) rfl (fun _ _ => rB (rA he9a (rA he9b he9c)) (za0 hvr12)) ?_
     refine kA ?_
     refine nA 456 [3, 6, 7, 8, 11, 14, 63] (fun _ => none) rfl (fun _ _ => rS (rA he9a (rA he9b he9c))) ?_
     refine xI h0 rfl (fun h0 hb13 => ?_) (fun h0 hb13 => ?_)
     ·
      refine nA 496 [6, 7, 8] (fun _ => none) rfl (fun _ _ => rS (rA he9a (rA he9b he9c))) ?_
      refine jA (mA ?_)
      obtain rfl := Option.some.inj h0
      refine lA [] ?_
      simp (maxSteps := 1000000) only [↓reduceIte, reduceCtorEq, Nat.reduceEqDiff, Nat.reduceLT, Nat.reduceLeDiff, Nat.reduceAdd, Nat.reduceMul, Int.reduceToNat, push_cast, bC, he9a, he9b, he9c]
      all_goals exact rH
     ·
      refine qA (dA ?_)
      refine nA 472 [3, 6, 7, 11, 14] (fun _ => none) rfl (fun _ _ => rS (rA he9a (rA he9b he9c))) ?_
      obtain ⟨vr14, hvr14, h0⟩ := cA h0
      refine nA 512 [6, 7, 11, 14] (fun | 2 => some (.sl 0 0 11 0 vr14.length, [⟨0, true, true, 11, vr14.map yA.enc⟩]) | _ => none) rfl (fun _ _ => rB (rA he9a (rA he9b he9c)) (ziO hvr14)) ?_
      obtain ⟨e15, he15, h0⟩ := cA h0
      obtain ⟨he15a, he15b, he15c⟩ := cB he15
      refine nA 568 [6, 7] (fun _ => none) rfl (fun _ _ => rS (rA he9a (rA he9b (rA he9c (rA he15a (rA he15b he15c)))))) ?_
      refine xE ⟨[(6, .ref 8 0 0 0), (7, .int .i64 vr12.2.1)], [(8, ⟨0, true, false, 4, [[.int .i64 vs1.Levels.B, .psl 1 (List.map sA.enc vs1.Levels.Levels), .sl 488 0 11 0 ((vr14.set vr7.1.toNat (yA.mk e15.Level vr12.1)).length), .int .i64 vs1.NextId]]⟩), (488, ⟨0, true, true, 11, List.map yA.enc (vr14.set vr7.1.toNat (yA.mk e15.Level vr12.1))⟩)], 568, []⟩ ?_
      refine nA 608 [6, 7, 8] (fun _ => none) rfl (fun _ _ => rS (rA he9a (rA he9b (rA he9c (rA he15a (rA he15b he15c)))))) ?_
      refine jA ?_
      obtain rfl := Option.some.inj h0
      refine lA [] ?_
      simp (maxSteps := 1000000) only [↓reduceIte, reduceCtorEq, Nat.reduceEqDiff, Nat.reduceLT, Nat.reduceLeDiff, Nat.reduceAdd, Nat.reduceMul, Int.reduceToNat, push_cast, bC, he9a, he9b, he9c, he15a, he15b, he15c]
      all_goals exact rH
theorem wX {fu : Nat} {r : Bool} (h0 : lL fu = some r) : bB Tryz.prog 7 [] (.bool r) [] := by
 refine gB Tryz.func7 rfl (by decide) rL ?_
 dsimp only [Tryz.f7, List.append]
 rw [lL] at h0
 refine (show pA _ _ _ _ ⟨aB 0 _, [], 0, []⟩ from ?_)
 refine xS 8 [] ?_
 obtain ⟨vr1, hvr1, h0⟩ := cA h0
 obtain ⟨vr2, hvr2, h0⟩ := cA h0
 refine nA 72 [1, 2] (fun | 0 => some (.agg (uA.enc vr1), []) | 1 => some (.tup [.agg (oB.enc vr2.1), .int .i64 vr2.2], []) | _ => none) rfl (fun Kt hK => by
   try have q0 := zgO hvr1
   try have q1 := zbZ hvr2
   exact rT) ?_
 refine kA ?_
 obtain ⟨b3, hb3, h0⟩ := cA h0
 obtain ⟨b4, hb4, h0⟩ := cA h0
 obtain ⟨b6, hb6, h0⟩ := cA h0
 refine nC (fr' := [(1, .ref 48 0 0 0), (37, .bool b6)]) (hp' := [(48, ⟨0, true, true, 4, [[.int .i64 vr2.1.Levels.B, .psl 1 (List.map sA.enc vr2.1.Levels.Levels), .psl 11 (List.map yA.enc vr2.1.Jobs), .int .i64 vr2.1.NextId]]⟩)]) [48] 240 [1, 37] (fun _ => none) rfl (fun Kt hK => by
   cases hg7 : (!(decide (vr2.2 = 0))) with
   | false =>
    replace hb3 := wA hb3 hg7
    have hqb3 := Option.some.inj hb3
    cases b3 with
    | false =>
     replace hb4 := wA hb4 rfl
     have hqb4 := Option.some.inj hb4
     cases b4 with
     | false =>
      replace hb6 := wA hb6 rfl
      obtain ⟨e5, he5, hb6⟩ := cA hb6
      have he5b := (cB he5).2.1
      have he5c := (oF 0 he5 rfl).1
      have he5a := (oF 0 he5 rfl).2
      have hqb6 := Option.some.inj hb6
      subst hqb6
      simp (maxSteps := 1000000) only [↓reduceIte, reduceCtorEq, Nat.reduceEqDiff, Nat.reduceLT, Nat.reduceLeDiff, Nat.reduceAdd, Nat.reduceMul, Int.reduceToNat, push_cast, ↓hg7, ↓hqb3, ↓hqb4, he5a, he5b, he5c, he5]
      try simp only [↓hg7, ↓hqb3, ↓hqb4] at hK
      all_goals exact rU
     | true =>
      replace hb6 := jB hb6 rfl
      have hqb6 := Option.some.inj hb6
      subst hqb6
      simp (maxSteps := 1000000) only [↓reduceIte, reduceCtorEq, Nat.reduceEqDiff, Nat.reduceLT, Nat.reduceLeDiff, Nat.reduceAdd, Nat.reduceMul, Int.reduceToNat, push_cast, ↓hg7, ↓hqb3, ↓hqb4]
      try simp only [↓hg7, ↓hqb3, ↓hqb4] at hK
      all_goals exact rU
    | true =>
     replace hb4 := jB hb4 rfl
     have hqb4 := Option.some.inj hb4
     cases b4 with
     | false =>
      cases hqb4
     | true =>
      replace hb6 := jB hb6 rfl
      have hqb6 := Option.some.inj hb6
      subst hqb6
      simp (maxSteps := 1000000) only [↓reduceIte, reduceCtorEq, Nat.reduceEqDiff, Nat.reduceLT, Nat.reduceLeDiff, Nat.reduceAdd, Nat.reduceMul, Int.reduceToNat, push_cast, ↓hg7, ↓hqb3]
      try simp only [↓hg7, ↓hqb3] at hK
      all_goals exact rU
   | true =>
    replace hb3 := jB hb3 hg7
    have hqb3 := Option.some.inj hb3
    cases b3 with
    | false =>
     cases hqb3
    | true =>
     replace hb4 := jB hb4 rfl
     have hqb4 := Option.some.inj hb4
     cases b4 with
     | false =>
      cases hqb4
     | true =>
      replace hb6 := jB hb6 rfl
      have hqb6 := Option.some.inj hb6
      subst hqb6
      simp (maxSteps := 1000000) only [↓reduceIte, reduceCtorEq, Nat.reduceEqDiff, Nat.reduceLT, Nat.reduceLeDiff, Nat.reduceAdd, Nat.reduceMul, Int.reduceToNat, push_cast, ↓hg7]
      try simp only [↓hg7] at hK
      all_goals exact rU) ?_
 refine xI h0 rfl (fun h0 hb13 => ?_) (fun h0 hb13 => ?_)
 ·
  refine xS 248 [0] ?_
  refine jA (mA ?_)
  obtain rfl := Option.some.inj h0
  refine lA [] ?_
  exact rG
 ·
  refine qA (dA ?_)
  obtain ⟨vr14, hvr14, h0⟩ := cA h0
  refine nA 296 [1, 2, 3] (fun | 1 => some (.tup [.int .i64 vr14.1, .int .i64 vr14.2], []) | _ => none) rfl (fun _ _ => rC (zcp hvr14)) ?_
  obtain ⟨vr15, hvr15, h0⟩ := cA h0
  refine nA 376 [2, 3, 4, 5, 6] (fun | 1 => some (.tup [.agg (oB.enc vr15.1), .int .i64 vr15.2.1, .int .i64 vr15.2.2], []) | _ => none) rfl (fun _ _ => rC (zbh hvr15)) ?_
  obtain ⟨vr16, hvr16, h0⟩ := cA h0
  refine nA 432 [2, 3, 4, 5, 6, 7, 8] (fun | 1 => some (.tup [.int .i64 vr16.1, .int .i64 vr16.2], []) | _ => none) rfl (fun _ _ => rC (zcp hvr16)) ?_
  obtain ⟨vr17, hvr17, h0⟩ := cA h0
  refine nA 512 [2, 3, 4, 5, 6, 7, 8, 11] (fun | 1 => some (.tup [.agg (oB.enc vr17.1), .int .i64 vr17.2.1, .int .i64 vr17.2.2], []) | _ => none) rfl (fun _ _ => rC (zbh hvr17)) ?_
  obtain ⟨b18, hb18, h0⟩ := cA h0
  obtain ⟨b19, hb19, h0⟩ := cA h0
  obtain ⟨b20, hb20, h0⟩ := cA h0
  obtain ⟨b21, hb21, h0⟩ := cA h0
  obtain ⟨b22, hb22, h0⟩ := cA h0
  obtain ⟨b23, hb23, h0⟩ := cA h0
  obtain ⟨b24, hb24, h0⟩ := cA h0
  obtain ⟨b26, hb26, h0⟩ := cA h0
  obtain ⟨b29, hb29, h0⟩ := cA h0
  refine nC (fr' := [(0, .bool b29)]) (hp' := [(48, ⟨0, true, true, 4, [[.int .i64 vr2.1.Levels.B, .psl 1 (List.map sA.enc vr2.1.Levels.Levels), .psl 11 (List.map yA.enc vr2.1.Jobs), .int .i64 vr2.1.NextId]]⟩), (344, ⟨0, true, true, 4, [[.int .i64 vr15.1.Levels.B, .psl 1 (List.map sA.enc vr15.1.Levels.Levels), .psl 11 (List.map yA.enc vr15.1.Jobs), .int .i64 vr15.1.NextId]]⟩), (480, ⟨0, true, true, 4, [[.int .i64 vr17.1.Levels.B, .psl 1 (List.map sA.enc vr17.1.Levels.Levels), .psl 11 (List.map yA.enc vr17.1.Jobs), .int .i64 vr17.1.NextId]]⟩)]) [48, 344, 480] 952 [0] (fun _ => none) rfl (fun Kt hK => by
    cases hg30 : (decide (vr14.1 = 3)) with
    | false =>
     replace hb18 := wA hb18 hg30
     have hqb18 := Option.some.inj hb18
     cases b18 with
     | false =>
      replace hb19 := wA hb19 rfl
      have hqb19 := Option.some.inj hb19
      cases b19 with
      | false =>
       replace hb20 := wA hb20 rfl
       have hqb20 := Option.some.inj hb20
       cases b20 with
       | false =>
        replace hb21 := wA hb21 rfl
        have hqb21 := Option.some.inj hb21
        cases b21 with
        | false =>
         replace hb22 := wA hb22 rfl
         have hqb22 := Option.some.inj hb22
         cases b22 with
         | false =>
          replace hb23 := wA hb23 rfl
          have hqb23 := Option.some.inj hb23
          cases b23 with
          | false =>
           replace hb24 := wA hb24 rfl
           have hqb24 := Option.some.inj hb24
           cases b24 with
           | false =>
            replace hb26 := wA hb26 rfl
            have hqb26 := Option.some.inj hb26
            cases b26 with
            | false =>
             replace hb29 := wA hb29 rfl
             have hqb29 := Option.some.inj hb29
             subst hqb29
             simp (maxSteps := 1000000) only [↓reduceIte, reduceCtorEq, Nat.reduceEqDiff, Nat.reduceLT, Nat.reduceLeDiff, Nat.reduceAdd, Nat.reduceMul, Int.reduceToNat, push_cast, ↓hg30]
             try simp only [↓hg30] at hK
             all_goals exact rU
            | true =>
             cases hqb26
           | true =>
            cases hqb24
          | true =>
           cases hqb23
         | true =>
          cases hqb22
        | true =>
         cases hqb21
       | true =>
        cases hqb20
      | true =>
       cases hqb19
     | true =>
      cases hqb18
    | true =>
     replace hb18 := jB hb18 hg30
     have hqb18 := Option.some.inj hb18
     cases b18 with
     | false =>
      replace hb19 := wA hb19 rfl
      have hqb19 := Option.some.inj hb19
      cases b19 with
      | false =>
       replace hb20 := wA hb20 rfl
       have hqb20 := Option.some.inj hb20
       cases b20 with
       | false =>
        replace hb21 := wA hb21 rfl
        have hqb21 := Option.some.inj hb21
        cases b21 with
        | false =>
         replace hb22 := wA hb22 rfl
         have hqb22 := Option.some.inj hb22
         cases b22 with
         | false =>
          replace hb23 := wA hb23 rfl
          have hqb23 := Option.some.inj hb23
          cases b23 with
          | false =>
           replace hb24 := wA hb24 rfl
           have hqb24 := Option.some.inj hb24
           cases b24 with
           | false =>
            replace hb26 := wA hb26 rfl
            have hqb26 := Option.some.inj hb26
            cases b26 with
            | false =>
             replace hb29 := wA hb29 rfl
             have hqb29 := Option.some.inj hb29
             subst hqb29
             simp (maxSteps := 1000000) only [↓reduceIte, reduceCtorEq, Nat.reduceEqDiff, Nat.reduceLT, Nat.reduceLeDiff, Nat.reduceAdd, Nat.reduceMul, Int.reduceToNat, push_cast, ↓hg30, ↓hqb18]
             try simp only [↓hg30, ↓hqb18] at hK
             all_goals exact rU
            | true =>
             cases hqb26
           | true =>
            cases hqb24
          | true =>
           cases hqb23
         | true =>
          cases hqb22
        | true =>
         cases hqb21
       | true =>
        cases hqb20
      | true =>
       cases hqb19
     | true =>
      replace hb19 := jB hb19 rfl
      have hqb19 := Option.some.inj hb19
      cases b19 with
      | false =>
       replace hb20 := wA hb20 rfl
       have hqb20 := Option.some.inj hb20
       cases b20 with
       | false =>
        replace hb21 := wA hb21 rfl
        have hqb21 := Option.some.inj hb21
        cases b21 with
        | false =>
         replace hb22 := wA hb22 rfl
         have hqb22 := Option.some.inj hb22
         cases b22 with
         | false =>
          replace hb23 := wA hb23 rfl
          have hqb23 := Option.some.inj hb23
          cases b23 with
          | false =>
           replace hb24 := wA hb24 rfl
           have hqb24 := Option.some.inj hb24
           cases b24 with
           | false =>
            replace hb26 := wA hb26 rfl
            have hqb26 := Option.some.inj hb26
            cases b26 with
            | false =>
             replace hb29 := wA hb29 rfl
             have hqb29 := Option.some.inj hb29
             subst hqb29
             simp (maxSteps := 1000000) only [↓reduceIte, reduceCtorEq, Nat.reduceEqDiff, Nat.reduceLT, Nat.reduceLeDiff, Nat.reduceAdd, Nat.reduceMul, Int.reduceToNat, push_cast, ↓hg30, ↓hqb18, ↓hqb19]
             try simp only [↓hg30, ↓hqb18, ↓hqb19] at hK
             all_goals exact rU
            | true =>
             cases hqb26
           | true =>
            cases hqb24
          | true =>
           cases hqb23
         | true =>
          cases hqb22
        | true =>
         cases hqb21
       | true =>
        cases hqb20
      | true =>
       replace hb20 := jB hb20 rfl
       have hqb20 := Option.some.inj hb20
       cases b20 with
       | false =>
        replace hb21 := wA hb21 rfl
        have hqb21 := Option.some.inj hb21
        cases b21 with
        | false =>
         replace hb22 := wA hb22 rfl
         have hqb22 := Option.some.inj hb22
         cases b22 with
         | false =>
          replace hb23 := wA hb23 rfl
          have hqb23 := Option.some.inj hb23
          cases b23 with
          | false =>
           replace hb24 := wA hb24 rfl
           have hqb24 := Option.some.inj hb24
           cases b24 with
           | false =>
            replace hb26 := wA hb26 rfl
            have hqb26 := Option.some.inj hb26
            cases b26 with
            | false =>
             replace hb29 := wA hb29 rfl
             have hqb29 := Option.some.inj hb29
             subst hqb29
             simp (maxSteps := 1000000) only [↓reduceIte, reduceCtorEq, Nat.reduceEqDiff, Nat.reduceLT, Nat.reduceLeDiff, Nat.reduceAdd, Nat.reduceMul, Int.reduceToNat, push_cast, ↓hg30, ↓hqb18, ↓hqb19, ↓hqb20]
             try simp only [↓hg30, ↓hqb18, ↓hqb19, ↓hqb20] at hK
             all_goals exact rU
            | true =>
             cases hqb26
           | true =>
            cases hqb24
          | true =>
           cases hqb23
         | true =>
          cases hqb22
        | true =>
         cases hqb21
       | true =>
        replace hb21 := jB hb21 rfl
        have hqb21 := Option.some.inj hb21
        cases b21 with
        | false =>
         replace hb22 := wA hb22 rfl
         have hqb22 := Option.some.inj hb22
         cases b22 with
         | false =>
          replace hb23 := wA hb23 rfl
          have hqb23 := Option.some.inj hb23
          cases b23 with
          | false =>
           replace hb24 := wA hb24 rfl
           have hqb24 := Option.some.inj hb24
           cases b24 with
           | false =>
            replace hb26 := wA hb26 rfl
            have hqb26 := Option.some.inj hb26
            cases b26 with
            | false =>
             replace hb29 := wA hb29 rfl
             have hqb29 := Option.some.inj hb29
             subst hqb29
             simp (maxSteps := 1000000) only [↓reduceIte, reduceCtorEq, Nat.reduceEqDiff, Nat.reduceLT, Nat.reduceLeDiff, Nat.reduceAdd, Nat.reduceMul, Int.reduceToNat, push_cast, ↓hg30, ↓hqb18, ↓hqb19, ↓hqb20, ↓hqb21]
             try simp only [↓hg30, ↓hqb18, ↓hqb19, ↓hqb20, ↓hqb21] at hK
             all_goals exact rU
            | true =>
             cases hqb26
           | true =>
            cases hqb24
          | true =>
           cases hqb23
         | true =>
          cases hqb22
        | true =>
         replace hb22 := jB hb22 rfl
         have hqb22 := Option.some.inj hb22
         cases b22 with
         | false =>
          replace hb23 := wA hb23 rfl
          have hqb23 := Option.some.inj hb23
          cases b23 with
          | false =>
           replace hb24 := wA hb24 rfl
           have hqb24 := Option.some.inj hb24
           cases b24 with
           | false =>
            replace hb26 := wA hb26 rfl
            have hqb26 := Option.some.inj hb26
            cases b26 with
            | false =>
             replace hb29 := wA hb29 rfl
             have hqb29 := Option.some.inj hb29
             subst hqb29
             simp (maxSteps := 1000000) only [↓reduceIte, reduceCtorEq, Nat.reduceEqDiff, Nat.reduceLT, Nat.reduceLeDiff, Nat.reduceAdd, Nat.reduceMul, Int.reduceToNat, push_cast, ↓hg30, ↓hqb18, ↓hqb19, ↓hqb20, ↓hqb21, ↓hqb22]
             try simp only [↓hg30, ↓hqb18, ↓hqb19, ↓hqb20, ↓hqb21, ↓hqb22] at hK
             all_goals exact rU
            | true =>
             cases hqb26
           | true =>
            cases hqb24
          | true =>
           cases hqb23
         | true =>
          replace hb23 := jB hb23 rfl
          have hqb23 := Option.some.inj hb23
          cases b23 with
          | false =>
           replace hb24 := wA hb24 rfl
           have hqb24 := Option.some.inj hb24
           cases b24 with
           | false =>
            replace hb26 := wA hb26 rfl
            have hqb26 := Option.some.inj hb26
            cases b26 with
            | false =>
             replace hb29 := wA hb29 rfl
             have hqb29 := Option.some.inj hb29
             subst hqb29
             simp (maxSteps := 1000000) only [↓reduceIte, reduceCtorEq, Nat.reduceEqDiff, Nat.reduceLT, Nat.reduceLeDiff, Nat.reduceAdd, Nat.reduceMul, Int.reduceToNat, push_cast, ↓hg30, ↓hqb18, ↓hqb19, ↓hqb20, ↓hqb21, ↓hqb22, ↓hqb23]
             try simp only [↓hg30, ↓hqb18, ↓hqb19, ↓hqb20, ↓hqb21, ↓hqb22, ↓hqb23] at hK
             all_goals exact rU
            | true =>
             cases hqb26
           | true =>
            cases hqb24
          | true =>
           replace hb24 := jB hb24 rfl
           have hqb24 := Option.some.inj hb24
           cases b24 with
           | false =>
            replace hb26 := wA hb26 rfl
            have hqb26 := Option.some.inj hb26
            cases b26 with
            | false =>
             replace hb29 := wA hb29 rfl
             have hqb29 := Option.some.inj hb29
             subst hqb29
             simp (maxSteps := 1000000) only [↓reduceIte, reduceCtorEq, Nat.reduceEqDiff, Nat.reduceLT, Nat.reduceLeDiff, Nat.reduceAdd, Nat.reduceMul, Int.reduceToNat, push_cast, ↓hg30, ↓hqb18, ↓hqb19, ↓hqb20, ↓hqb21, ↓hqb22, ↓hqb23, ↓hqb24]
             try simp only [↓hg30, ↓hqb18, ↓hqb19, ↓hqb20, ↓hqb21, ↓hqb22, ↓hqb23, ↓hqb24] at hK
             all_goals exact rU
            | true =>
             cases hqb26
           | true =>
            replace hb26 := jB hb26 rfl
            obtain ⟨e25, he25, hb26⟩ := cA hb26
            have he25b := (cB he25).2.1
            have he25c := (oF 0 he25 rfl).1
            have he25a := (oF 0 he25 rfl).2
            have hqb26 := Option.some.inj hb26
            cases b26 with
            | false =>
             replace hb29 := wA hb29 rfl
             have hqb29 := Option.some.inj hb29
             subst hqb29
             simp (maxSteps := 1000000) only [↓reduceIte, reduceCtorEq, Nat.reduceEqDiff, Nat.reduceLT, Nat.reduceLeDiff, Nat.reduceAdd, Nat.reduceMul, Int.reduceToNat, push_cast, ↓hg30, ↓hqb18, ↓hqb19, ↓hqb20, ↓hqb21, ↓hqb22, ↓hqb23, ↓hqb24, he25a, he25b, he25c, he25, ↓hqb26]
             try simp only [↓hg30, ↓hqb18, ↓hqb19, ↓hqb20, ↓hqb21, ↓hqb22, ↓hqb23, ↓hqb24, ↓hqb26] at hK
             all_goals exact rU
            | true =>
             replace hb29 := jB hb29 rfl
             obtain ⟨e27, he27, hb29⟩ := cA hb29
             have he27b := (cB he27).2.1
             have he27c := (oF 0 he27 rfl).1
             have he27a := (oF 0 he27 rfl).2
             obtain rfl := Option.some.inj (he25.symm.trans he27)
             obtain ⟨e28, he28, hb29⟩ := cA hb29
             have he28b := (cB he28).2.1
             have he28c := (oF 0 he28 rfl).1
             have he28a := (oF 0 he28 rfl).2
             have hqb29 := Option.some.inj hb29
             subst hqb29
             simp (maxSteps := 1000000) only [↓reduceIte, reduceCtorEq, Nat.reduceEqDiff, Nat.reduceLT, Nat.reduceLeDiff, Nat.reduceAdd, Nat.reduceMul, Int.reduceToNat, push_cast, ↓hg30, ↓hqb18, ↓hqb19, ↓hqb20, ↓hqb21, ↓hqb22, ↓hqb23, ↓hqb24, he25a, he25b, he25c, he25, ↓hqb26, he27a, he27b, he27c, he27, he28a, he28b, he28c, he28]
             try simp only [↓hg30, ↓hqb18, ↓hqb19, ↓hqb20, ↓hqb21, ↓hqb22, ↓hqb23, ↓hqb24, ↓hqb26] at hK
             all_goals exact rU) ?_
  refine jA ?_
  obtain rfl := Option.some.inj h0
  refine lA [] ?_
  exact rG
theorem vU {fu : Nat} {a1 : List aA} {b2 : List aA} {r : Bool} (h0 : oO fu a1 b2 = some r) : bB Tryz.prog 81 [.psl 4 (a1.map aA.enc), .psl 4 (b2.map aA.enc)] (.bool r) [] := by
 refine gB Tryz.func81 rfl (by decide) rL ?_
 dsimp only [Tryz.f81]
 rw [oO] at h0
 refine (show pA _ _ _ _ ⟨aB 0 _, [], 0, []⟩ from ?_)
 refine xS 8 [0, 1] ?_
 refine kA ?_
 refine xS 48 [0, 1, 10] ?_
 refine xI h0 rfl (fun h0 hb3 => ?_) (fun h0 hb3 => ?_)
 ·
  refine xS 56 [4] ?_
  refine jA (mA ?_)
  obtain rfl := Option.some.inj h0
  refine lA [] ?_
  exact rG
 ·
  refine qA (dA (kA ?_))
  refine xS 56 [0, 1, 5] ?_
  obtain ⟨x13, hxx13, h0⟩ := cA h0
  refine pC (fun s' => ∃ o19 : Unit, x13 = .inl o19 ∧ s'.nx ≤ 88 ∧ LeN [] s' ⟨[], [], 88, []⟩) ?_ ?_
  ·
   intro s' hs
   obtain ⟨o19, rfl, hn, hs⟩ := hs
   refine dA ?_
   refine pB [] hn hs ?_
   refine xS 96 [4] ?_
   refine jA ?_
   obtain rfl := Option.some.inj h0
   refine lA [] ?_
   exact rG
  ·
   refine mC (ι := { p : Nat × Int // sL a1 b2 p.1 p.2 = some x13 }) (fun p => ⟨[(0, .psl 4 (List.map aA.enc a1)), (1, .psl 4 (List.map aA.enc b2)), (5, .int .i64 p.1.2)], [], 56, []⟩) (fun p => p.1.1) ⟨(fu, 0), hxx13⟩ ⟨rF, rE, rfl, rfl, trivial, trivial⟩ (fun _ => Nat.le_refl _) ?_
   rintro ⟨⟨fu, i14⟩, h1⟩
   cases fu with
   | zero =>
   replace h1 : sL a1 b2 0 i14 = some x13 := h1
   rw [sL] at h1; cases h1
   | succ fu =>
    replace h1 : sL a1 b2 (fu + 1) i14 = some x13 := h1
    rw [sL] at h1
    refine (show pA _ _ _ _ ⟨[(0, .psl 4 (List.map aA.enc a1)), (1, .psl 4 (List.map aA.enc b2)), (5, .int .i64 i14)], [], 56, []⟩ from ?_)
    refine kA ?_
    refine xS 88 [0, 1, 5, 14] ?_
    refine xI h1 rfl (fun h1 hb15 => ?_) (fun h1 hb15 => ?_)
    ·
     refine qA (dA (kA (aC ?_)))
     obtain ⟨e16, he16, h1⟩ := cA h1
     obtain ⟨he16a, he16b, he16c⟩ := cB he16
     obtain ⟨e17, he17, h1⟩ := cA h1
     obtain ⟨he17a, he17b, he17c⟩ := cB he17
     refine oC 160 [0, 1, 5, 25] (fun _ => none) rfl rfl rfl (fun _ _ => xD (rA he16a (rA he16b (rA he16c (rA he17a (rA he17b he17c)))))) ?_
     refine xI h1 rfl (fun h1 hb18 => ?_) (fun h1 hb18 => ?_)
     ·
      refine nA 168 [4] (fun _ => none) rfl (fun _ _ => rS (rA he16a (rA he16b (rA he16c (rA he17a (rA he17b he17c)))))) ?_
      refine jA ?_
      obtain rfl := Option.some.inj h1
      refine eC (mA (mA (aD (mA ?_))))
      obtain rfl := Option.some.inj h0
      refine lA [] ?_
      simp (maxSteps := 1000000) only [↓reduceIte, reduceCtorEq, Nat.reduceEqDiff, Nat.reduceLT, Nat.reduceLeDiff, Nat.reduceAdd, Nat.reduceMul, Int.reduceToNat, push_cast, bC, he16a, he16b, he16c, he17a, he17b, he17c]
      all_goals exact rH
     ·
      refine qA (sB (dA ?_))
      refine uB 184 [0, 1, 5] (fun _ => none) rfl (fun _ _ => rS (rA he16a (rA he16b (rA he16c (rA he17a (rA he17b he17c)))))) ?_
      refine dA ?_
      exact ⟨⟨(fu, (IntKind.i64.wrap (i14 + 1))), h1⟩, ⟨rF, rE, rfl, rfl, trivial, trivial⟩, Nat.lt_succ_self _⟩
    ·
     refine iC (dB (dB (jC ?_)))
     obtain rfl := Option.some.inj h1
     exact ⟨_, rfl, rL, ⟨rF, rE, rfl, rfl, trivial, trivial⟩⟩
theorem qR {fu : Nat} {a1 : List Int} {b2 : List Int} {r : Bool} (h0 : mO fu a1 b2 = some r) : bB Tryz.prog 104 [.psl 1 (a1.map (gA .i64)), .psl 1 (b2.map (gA .i64))] (.bool r) [] := by
 refine gB Tryz.func104 rfl (by decide) rL ?_
 dsimp only [Tryz.f104]
 rw [mO] at h0
 refine (show pA _ _ _ _ ⟨aB 0 _, [], 0, []⟩ from ?_)
 refine xS 8 [0, 1] ?_
 refine kA ?_
 refine xS 48 [0, 1, 10] ?_
 refine xI h0 rfl (fun h0 hb3 => ?_) (fun h0 hb3 => ?_)
 ·
  refine xS 56 [4] ?_
  refine jA (mA ?_)
  obtain rfl := Option.some.inj h0
  refine lA [] ?_
  exact rG
 ·
  refine qA (dA (kA ?_))
  refine xS 56 [0, 1, 5] ?_
  obtain ⟨x13, hxx13, h0⟩ := cA h0
  refine pC (fun s' => ∃ o19 : Unit, x13 = .inl o19 ∧ s'.nx ≤ 88 ∧ LeN [] s' ⟨[], [], 88, []⟩) ?_ ?_
  ·
   intro s' hs
   obtain ⟨o19, rfl, hn, hs⟩ := hs
   refine dA ?_
   refine pB [] hn hs ?_
   refine xS 96 [4] ?_
   refine jA ?_
   obtain rfl := Option.some.inj h0
   refine lA [] ?_
   exact rG
  ·
   refine mC (ι := { p : Nat × Int // eM a1 b2 p.1 p.2 = some x13 }) (fun p => ⟨[(0, .psl 1 (List.map (gA .i64) a1)), (1, .psl 1 (List.map (gA .i64) b2)), (5, .int .i64 p.1.2)], [], 56, []⟩) (fun p => p.1.1) ⟨(fu, 0), hxx13⟩ ⟨rF, rE, rfl, rfl, trivial, trivial⟩ (fun _ => Nat.le_refl _) ?_
   rintro ⟨⟨fu, i14⟩, h1⟩
   cases fu with
   | zero =>
   replace h1 : eM a1 b2 0 i14 = some x13 := h1
   rw [eM] at h1; cases h1
   | succ fu =>
    replace h1 : eM a1 b2 (fu + 1) i14 = some x13 := h1
    rw [eM] at h1
    refine (show pA _ _ _ _ ⟨[(0, .psl 1 (List.map (gA .i64) a1)), (1, .psl 1 (List.map (gA .i64) b2)), (5, .int .i64 i14)], [], 56, []⟩ from ?_)
    refine kA ?_
    refine xS 88 [0, 1, 5, 14] ?_
    refine xI h1 rfl (fun h1 hb15 => ?_) (fun h1 hb15 => ?_)
    ·
     refine qA (dA (kA (aC ?_)))
     obtain ⟨e16, he16, h1⟩ := cA h1
     obtain ⟨he16a, he16b, he16c⟩ := cB he16
     obtain ⟨e17, he17, h1⟩ := cA h1
     obtain ⟨he17a, he17b, he17c⟩ := cB he17
     refine oC 160 [0, 1, 5, 25] (fun _ => none) rfl rfl rfl (fun _ _ => xD (rA he16a (rA he16b (rA he16c (rA he17a (rA he17b he17c)))))) ?_
     refine xI h1 rfl (fun h1 hb18 => ?_) (fun h1 hb18 => ?_)
     ·
      refine nA 168 [4] (fun _ => none) rfl (fun _ _ => rS (rA he16a (rA he16b (rA he16c (rA he17a (rA he17b he17c)))))) ?_
      refine jA ?_
      obtain rfl := Option.some.inj h1
      refine eC (mA (mA (aD (mA ?_))))
      obtain rfl := Option.some.inj h0
      refine lA [] ?_
      simp (maxSteps := 1000000) only [↓reduceIte, reduceCtorEq, Nat.reduceEqDiff, Nat.reduceLT, Nat.reduceLeDiff, Nat.reduceAdd, Nat.reduceMul, Int.reduceToNat, push_cast, bC, he16a, he16b, he16c, he17a, he17b, he17c]
      all_goals exact rH
     ·
      refine qA (sB (dA ?_))
      refine uB 184 [0, 1, 5] (fun _ => none) rfl (fun _ _ => rS (rA he16a (rA he16b (rA he16c (rA he17a (rA he17b he17c)))))) ?_
      refine dA ?_
      exact ⟨⟨(fu, (IntKind.i64.wrap (i14 + 1))), h1⟩, ⟨rF, rE, rfl, rfl, trivial, trivial⟩, Nat.lt_succ_self _⟩
    ·
     refine iC (dB (dB (jC ?_)))
     obtain rfl := Option.some.inj h1
     exact ⟨_, rfl, rL, ⟨rF, rE, rfl, rfl, trivial, trivial⟩⟩
theorem uZ {fu : Nat} {a1 : eB} {b2 : eB} {r : Bool} (h0 : aP fu a1 b2 = some r) : bB Tryz.prog 105 [.agg (eB.enc a1), .agg (eB.enc b2)] (.bool r) [] := by
 refine gB Tryz.func105 rfl (by decide) rL ?_
 dsimp only [Tryz.f105]
 rw [aP] at h0
 refine (show pA _ _ _ _ ⟨aB 0 _, [], 0, []⟩ from ?_)
 refine xS 24 [2, 3] ?_
 refine kA ?_
 obtain ⟨b3, hb3, h0⟩ := cA h0
 obtain ⟨b5, hb5, h0⟩ := cA h0
 refine nC (fr' := [(2, .ref 0 0 0 0), (3, .ref 8 0 0 0), (27, .bool b5)]) (hp' := [(0, ⟨0, true, true, 3, [[.psl 2 (List.map eA.enc a1.Keys), .psl 1 (List.map (gA .i64) a1.Lose), .int .i64 a1.Win]]⟩), (8, ⟨0, true, true, 3, [[.psl 2 (List.map eA.enc b2.Keys), .psl 1 (List.map (gA .i64) b2.Lose), .int .i64 b2.Win]]⟩)]) [0, 8] 200 [2, 3, 27] (fun | 19 => (mO fu a1.Lose b2.Lose).bind fun vr4 => some (.bool vr4, []) | _ => none) rfl (fun Kt hK => by
   cases hg6 : (!(decide ((a1.Keys.length : Int) = (b2.Keys.length : Int)))) with
   | false =>
    replace hb3 := wA hb3 hg6
    have hqb3 := Option.some.inj hb3
    cases b3 with
    | false =>
     replace hb5 := wA hb5 rfl
     obtain ⟨vr4, hvr4, hb5⟩ := cA hb5
     have hqb5 := Option.some.inj hb5
     subst hqb5
     simp (maxSteps := 1000000) only [↓reduceIte, reduceCtorEq, Nat.reduceEqDiff, Nat.reduceLT, Nat.reduceLeDiff, Nat.reduceAdd, Nat.reduceMul, Int.reduceToNat, push_cast, ↓hg6, ↓hqb3, hvr4]
     try simp only [↓hg6, ↓hqb3] at hK
     try have q0 := qR hvr4
     all_goals exact rU
    | true =>
     replace hb5 := jB hb5 rfl
     have hqb5 := Option.some.inj hb5
     subst hqb5
     simp (maxSteps := 1000000) only [↓reduceIte, reduceCtorEq, Nat.reduceEqDiff, Nat.reduceLT, Nat.reduceLeDiff, Nat.reduceAdd, Nat.reduceMul, Int.reduceToNat, push_cast, ↓hg6, ↓hqb3]
     try simp only [↓hg6, ↓hqb3] at hK
     try have q0 := qR hvr4
     all_goals exact rU
   | true =>
    replace hb3 := jB hb3 hg6
    have hqb3 := Option.some.inj hb3
    cases b3 with
    | false =>
     cases hqb3
    | true =>
     replace hb5 := jB hb5 rfl
     have hqb5 := Option.some.inj hb5
     subst hqb5
     simp (maxSteps := 1000000) only [↓reduceIte, reduceCtorEq, Nat.reduceEqDiff, Nat.reduceLT, Nat.reduceLeDiff, Nat.reduceAdd, Nat.reduceMul, Int.reduceToNat, push_cast, ↓hg6]
     try simp only [↓hg6] at hK
     try have q0 := qR hvr4
     all_goals exact rU) ?_
 refine xI h0 rfl (fun h0 hb9 => ?_) (fun h0 hb9 => ?_)
 ·
  refine xS 208 [4] ?_
  refine jA (mA ?_)
  obtain rfl := Option.some.inj h0
  refine lA [] ?_
  exact rG
 ·
  refine qA (dA (kA ?_))
  refine xS 208 [2, 3, 5] ?_
  obtain ⟨x19, hxx19, h0⟩ := cA h0
  refine pC (fun s' => ∃ o25 : Unit, x19 = .inl o25 ∧ s'.nx ≤ 248 ∧ LeN [] s' ⟨[], [(0, ⟨0, true, true, 3, [[.psl 2 (List.map eA.enc a1.Keys), .psl 1 (List.map (gA .i64) a1.Lose), .int .i64 a1.Win]]⟩), (8, ⟨0, true, true, 3, [[.psl 2 (List.map eA.enc b2.Keys), .psl 1 (List.map (gA .i64) b2.Lose), .int .i64 b2.Win]]⟩)], 248, []⟩) ?_ ?_
  ·
   intro s' hs
   obtain ⟨o25, rfl, hn, hs⟩ := hs
   refine dA ?_
   refine pB [] hn hs ?_
   refine xS 256 [4] ?_
   refine jA ?_
   obtain rfl := Option.some.inj h0
   refine lA [] ?_
   exact rG
  ·
   refine mC (ι := { p : Nat × Int // cK a1 b2 p.1 p.2 = some x19 }) (fun p => ⟨[(2, .ref 0 0 0 0), (3, .ref 8 0 0 0), (5, .int .i64 p.1.2)], [(0, ⟨0, true, true, 3, [[.psl 2 (List.map eA.enc a1.Keys), .psl 1 (List.map (gA .i64) a1.Lose), .int .i64 a1.Win]]⟩), (8, ⟨0, true, true, 3, [[.psl 2 (List.map eA.enc b2.Keys), .psl 1 (List.map (gA .i64) b2.Lose), .int .i64 b2.Win]]⟩)], 208, []⟩) (fun p => p.1.1) ⟨(fu, 0), hxx19⟩ ⟨rF, rE, rfl, rfl, trivial, trivial⟩ (fun _ => Nat.le_refl _) ?_
   rintro ⟨⟨fu, i20⟩, h1⟩
   cases fu with
   | zero =>
   replace h1 : cK a1 b2 0 i20 = some x19 := h1
   rw [cK] at h1; cases h1
   | succ fu =>
    replace h1 : cK a1 b2 (fu + 1) i20 = some x19 := h1
    rw [cK] at h1
    refine (show pA _ _ _ _ ⟨[(2, .ref 0 0 0 0), (3, .ref 8 0 0 0), (5, .int .i64 i20)], [(0, ⟨0, true, true, 3, [[.psl 2 (List.map eA.enc a1.Keys), .psl 1 (List.map (gA .i64) a1.Lose), .int .i64 a1.Win]]⟩), (8, ⟨0, true, true, 3, [[.psl 2 (List.map eA.enc b2.Keys), .psl 1 (List.map (gA .i64) b2.Lose), .int .i64 b2.Win]]⟩)], 208, []⟩ from ?_)
    refine kA ?_
    refine xS 248 [2, 3, 5, 32] ?_
    refine xI h1 rfl (fun h1 hb21 => ?_) (fun h1 hb21 => ?_)
    ·
     refine qA (dA (kA (aC ?_)))
     obtain ⟨e22, he22, h1⟩ := cA h1
     obtain ⟨he22a, he22b, he22c⟩ := cB he22
     obtain ⟨e23, he23, h1⟩ := cA h1
     obtain ⟨he23a, he23b, he23c⟩ := cB he23
     refine oC 336 [2, 3, 5, 45] (fun _ => none) rfl rfl rfl (fun _ _ => xD (rA he22a (rA he22b (rA he22c (rA he23a (rA he23b he23c)))))) ?_
     refine xI h1 rfl (fun h1 hb24 => ?_) (fun h1 hb24 => ?_)
     ·
      refine nA 344 [4] (fun _ => none) rfl (fun _ _ => rS (rA he22a (rA he22b (rA he22c (rA he23a (rA he23b he23c)))))) ?_
      refine jA ?_
      obtain rfl := Option.some.inj h1
      refine eC (mA (mA (aD (mA ?_))))
      obtain rfl := Option.some.inj h0
      refine lA [] ?_
      simp (maxSteps := 1000000) only [↓reduceIte, reduceCtorEq, Nat.reduceEqDiff, Nat.reduceLT, Nat.reduceLeDiff, Nat.reduceAdd, Nat.reduceMul, Int.reduceToNat, push_cast, bC, he22a, he22b, he22c, he23a, he23b, he23c]
      all_goals exact rH
     ·
      refine qA (sB (dA ?_))
      refine uB 360 [2, 3, 5] (fun _ => none) rfl (fun _ _ => rS (rA he22a (rA he22b (rA he22c (rA he23a (rA he23b he23c)))))) ?_
      refine dA ?_
      exact ⟨⟨(fu, (IntKind.i64.wrap (i20 + 1))), h1⟩, ⟨rF, rE, rfl, rfl, trivial, trivial⟩, Nat.lt_succ_self _⟩
    ·
     refine iC (dB (dB (jC ?_)))
     obtain rfl := Option.some.inj h1
     exact ⟨_, rfl, rL, ⟨rF, rE, rfl, rfl, trivial, trivial⟩⟩
theorem zV {fu : Nat} {a1 : kB} {b2 : kB} {r : Bool} (h0 : iV fu a1 b2 = some r) : bB Tryz.prog 80 [.agg (kB.enc a1), .agg (kB.enc b2)] (.bool r) [] := by
 refine gB Tryz.func80 rfl (by decide) rL ?_
 dsimp only [Tryz.f80]
 rw [iV] at h0
 refine (show pA _ _ _ _ ⟨aB 0 _, [], 0, []⟩ from ?_)
 refine xS 24 [2, 3] ?_
 refine kA ?_
 obtain ⟨b4, hb4, h0⟩ := cA h0
 obtain ⟨b6, hb6, h0⟩ := cA h0
 refine nC (fr' := [(2, .ref 0 0 0 0), (3, .ref 8 0 0 0), (28, .bool b6)]) (hp' := [(0, ⟨0, true, true, 5, [[.psl 1 (List.map (vA 4 aA.enc) a1.Runs), .psl 1 (List.map (gA .i64) a1.At), .psl 2 (List.map eA.enc a1.Tree.Keys), .psl 1 (List.map (gA .i64) a1.Tree.Lose), .int .i64 a1.Tree.Win]]⟩), (8, ⟨0, true, true, 5, [[.psl 1 (List.map (vA 4 aA.enc) b2.Runs), .psl 1 (List.map (gA .i64) b2.At), .psl 2 (List.map eA.enc b2.Tree.Keys), .psl 1 (List.map (gA .i64) b2.Tree.Lose), .int .i64 b2.Tree.Win]]⟩)]) [0, 8] 208 [2, 3, 28] (fun | 12 => (mO fu a1.At b2.At).bind fun vr3 => some (.bool vr3, []) | 20 => (aP fu a1.Tree b2.Tree).bind fun vr5 => some (.bool vr5, []) | _ => none) rfl (fun Kt hK => by
   cases hg7 : (!(decide ((a1.Runs.length : Int) = (b2.Runs.length : Int)))) with
   | false =>
    replace hb4 := wA hb4 hg7
    obtain ⟨vr3, hvr3, hb4⟩ := cA hb4
    have hqb4 := Option.some.inj hb4
    cases b4 with
    | false =>
     replace hb6 := wA hb6 rfl
     obtain ⟨vr5, hvr5, hb6⟩ := cA hb6
     have hqb6 := Option.some.inj hb6
     subst hqb6
     simp (maxSteps := 1000000) only [↓reduceIte, reduceCtorEq, Nat.reduceEqDiff, Nat.reduceLT, Nat.reduceLeDiff, Nat.reduceAdd, Nat.reduceMul, Int.reduceToNat, push_cast, ↓hg7, hvr3, ↓hqb4, hvr5]
     try simp only [↓hg7, ↓hqb4] at hK
     try have q0 := qR hvr3
     try have q1 := uZ hvr5
     all_goals exact rU
    | true =>
     replace hb6 := jB hb6 rfl
     have hqb6 := Option.some.inj hb6
     subst hqb6
     simp (maxSteps := 1000000) only [↓reduceIte, reduceCtorEq, Nat.reduceEqDiff, Nat.reduceLT, Nat.reduceLeDiff, Nat.reduceAdd, Nat.reduceMul, Int.reduceToNat, push_cast, ↓hg7, hvr3, ↓hqb4]
     try simp only [↓hg7, ↓hqb4] at hK
     try have q0 := qR hvr3
     try have q1 := uZ hvr5
     all_goals exact rU
   | true =>
    replace hb4 := jB hb4 hg7
    have hqb4 := Option.some.inj hb4
    cases b4 with
    | false =>
     cases hqb4
    | true =>
     replace hb6 := jB hb6 rfl
     have hqb6 := Option.some.inj hb6
     subst hqb6
     simp (maxSteps := 1000000) only [↓reduceIte, reduceCtorEq, Nat.reduceEqDiff, Nat.reduceLT, Nat.reduceLeDiff, Nat.reduceAdd, Nat.reduceMul, Int.reduceToNat, push_cast, ↓hg7]
     try simp only [↓hg7] at hK
     try have q0 := qR hvr3
     try have q1 := uZ hvr5
     all_goals exact rU) ?_
 refine xI h0 rfl (fun h0 hb10 => ?_) (fun h0 hb10 => ?_)
 ·
  refine xS 216 [4] ?_
  refine jA (mA ?_)
  obtain rfl := Option.some.inj h0
  refine lA [] ?_
  exact rG
 ·
  refine qA (dA (kA ?_))
  refine xS 216 [2, 3, 5] ?_
  obtain ⟨x22, hxx22, h0⟩ := cA h0
  refine pC (fun s' => ∃ o29 : Unit, x22 = .inl o29 ∧ s'.nx ≤ 256 ∧ LeN [] s' ⟨[], [(0, ⟨0, true, true, 5, [[.psl 1 (List.map (vA 4 aA.enc) a1.Runs), .psl 1 (List.map (gA .i64) a1.At), .psl 2 (List.map eA.enc a1.Tree.Keys), .psl 1 (List.map (gA .i64) a1.Tree.Lose), .int .i64 a1.Tree.Win]]⟩), (8, ⟨0, true, true, 5, [[.psl 1 (List.map (vA 4 aA.enc) b2.Runs), .psl 1 (List.map (gA .i64) b2.At), .psl 2 (List.map eA.enc b2.Tree.Keys), .psl 1 (List.map (gA .i64) b2.Tree.Lose), .int .i64 b2.Tree.Win]]⟩)], 256, []⟩) ?_ ?_
  ·
   intro s' hs
   obtain ⟨o29, rfl, hn, hs⟩ := hs
   refine dA ?_
   refine pB [] hn hs ?_
   refine xS 264 [4] ?_
   refine jA ?_
   obtain rfl := Option.some.inj h0
   refine lA [] ?_
   exact rG
  ·
   refine mC (ι := { p : Nat × Int // oI a1 b2 p.1 p.2 = some x22 }) (fun p => ⟨[(2, .ref 0 0 0 0), (3, .ref 8 0 0 0), (5, .int .i64 p.1.2)], [(0, ⟨0, true, true, 5, [[.psl 1 (List.map (vA 4 aA.enc) a1.Runs), .psl 1 (List.map (gA .i64) a1.At), .psl 2 (List.map eA.enc a1.Tree.Keys), .psl 1 (List.map (gA .i64) a1.Tree.Lose), .int .i64 a1.Tree.Win]]⟩), (8, ⟨0, true, true, 5, [[.psl 1 (List.map (vA 4 aA.enc) b2.Runs), .psl 1 (List.map (gA .i64) b2.At), .psl 2 (List.map eA.enc b2.Tree.Keys), .psl 1 (List.map (gA .i64) b2.Tree.Lose), .int .i64 b2.Tree.Win]]⟩)], 216, []⟩) (fun p => p.1.1) ⟨(fu, 0), hxx22⟩ ⟨rF, rE, rfl, rfl, trivial, trivial⟩ (fun _ => Nat.le_refl _) ?_
   rintro ⟨⟨fu, i23⟩, h1⟩
   cases fu with
   | zero =>
   replace h1 : oI a1 b2 0 i23 = some x22 := h1
   rw [oI] at h1; cases h1
   | succ fu =>
    replace h1 : oI a1 b2 (fu + 1) i23 = some x22 := h1
    rw [oI] at h1
    refine (show pA _ _ _ _ ⟨[(2, .ref 0 0 0 0), (3, .ref 8 0 0 0), (5, .int .i64 i23)], [(0, ⟨0, true, true, 5, [[.psl 1 (List.map (vA 4 aA.enc) a1.Runs), .psl 1 (List.map (gA .i64) a1.At), .psl 2 (List.map eA.enc a1.Tree.Keys), .psl 1 (List.map (gA .i64) a1.Tree.Lose), .int .i64 a1.Tree.Win]]⟩), (8, ⟨0, true, true, 5, [[.psl 1 (List.map (vA 4 aA.enc) b2.Runs), .psl 1 (List.map (gA .i64) b2.At), .psl 2 (List.map eA.enc b2.Tree.Keys), .psl 1 (List.map (gA .i64) b2.Tree.Lose), .int .i64 b2.Tree.Win]]⟩)], 216, []⟩ from ?_)
    refine kA ?_
    refine xS 256 [2, 3, 5, 33] ?_
    refine xI h1 rfl (fun h1 hb24 => ?_) (fun h1 hb24 => ?_)
    ·
     refine qA (dA (kA (aC ?_)))
     obtain ⟨e25, he25, h1⟩ := cA h1
     obtain ⟨he25a, he25b, he25c⟩ := cB he25
     obtain ⟨e26, he26, h1⟩ := cA h1
     obtain ⟨he26a, he26b, he26c⟩ := cB he26
     obtain ⟨vr27, hvr27, h1⟩ := cA h1
     refine oC 352 [2, 3, 5, 47] (fun | 10 => some (.bool vr27, []) | _ => none) rfl rfl rfl (fun _ _ => oL (rA he25a (rA he25b (rA he25c (rA he26a (rA he26b he26c))))) (vU hvr27)) ?_
     refine xI h1 rfl (fun h1 hb28 => ?_) (fun h1 hb28 => ?_)
     ·
      refine nA 360 [4] (fun _ => none) rfl (fun _ _ => rS (rA he25a (rA he25b (rA he25c (rA he26a (rA he26b he26c)))))) ?_
      refine jA ?_
      obtain rfl := Option.some.inj h1
      refine eC (mA (mA (aD (mA ?_))))
      obtain rfl := Option.some.inj h0
      refine lA [] ?_
      simp (maxSteps := 1000000) only [↓reduceIte, reduceCtorEq, Nat.reduceEqDiff, Nat.reduceLT, Nat.reduceLeDiff, Nat.reduceAdd, Nat.reduceMul, Int.reduceToNat, push_cast, bC, he25a, he25b, he25c, he26a, he26b, he26c]
      all_goals exact rH
     ·
      refine qA (sB (dA ?_))
      refine uB 376 [2, 3, 5] (fun _ => none) rfl (fun _ _ => rS (rA he25a (rA he25b (rA he25c (rA he26a (rA he26b he26c)))))) ?_
      refine dA ?_
      exact ⟨⟨(fu, (IntKind.i64.wrap (i23 + 1))), h1⟩, ⟨rF, rE, rfl, rfl, trivial, trivial⟩, Nat.lt_succ_self _⟩
    ·
     refine iC (dB (dB (jC ?_)))
     obtain rfl := Option.some.inj h1
     exact ⟨_, rfl, rL, ⟨rF, rE, rfl, rfl, trivial, trivial⟩⟩
theorem zcD {fu : Nat} {a1 : wB} {b2 : wB} {r : Bool} (h0 : nP fu a1 b2 = some r) : bB Tryz.prog 48 [.agg (wB.enc a1), .agg (wB.enc b2)] (.bool r) [] := by
 refine gB Tryz.func48 rfl (by decide) rL ?_
 dsimp only [Tryz.f48]
 rw [nP] at h0
 refine (show pA _ _ _ _ ⟨aB 0 _, [], 0, []⟩ from ?_)
 refine xS 24 [2, 3] ?_
 obtain ⟨vr3, hvr3, h0⟩ := cA h0
 obtain ⟨b4, hb4, h0⟩ := cA h0
 obtain ⟨b6, hb6, h0⟩ := cA h0
 obtain ⟨b7, hb7, h0⟩ := cA h0
 refine nC (fr' := [(4, .bool b7)]) (hp' := [(0, ⟨0, true, true, 10, [[.psl 1 (List.map (vA 4 aA.enc) a1.Merge.Runs), .psl 1 (List.map (gA .i64) a1.Merge.At), .psl 2 (List.map eA.enc a1.Merge.Tree.Keys), .psl 1 (List.map (gA .i64) a1.Merge.Tree.Lose), .int .i64 a1.Merge.Tree.Win, .bool a1.Shadow.Some, .str a1.Shadow.Last, .bool a1.Shadow.Bottom, .psl 4 (List.map aA.enc a1.Out), .int .i64 a1.Steps]]⟩), (8, ⟨0, true, true, 10, [[.psl 1 (List.map (vA 4 aA.enc) b2.Merge.Runs), .psl 1 (List.map (gA .i64) b2.Merge.At), .psl 2 (List.map eA.enc b2.Merge.Tree.Keys), .psl 1 (List.map (gA .i64) b2.Merge.Tree.Lose), .int .i64 b2.Merge.Tree.Win, .bool b2.Shadow.Some, .str b2.Shadow.Last, .bool b2.Shadow.Bottom, .psl 4 (List.map aA.enc b2.Out), .int .i64 b2.Steps]]⟩)]) [0, 8] 240 [4] (fun | 4 => some (.bool vr3, []) | 17 => (oO fu a1.Out b2.Out).bind fun vr5 => some (.bool vr5, []) | _ => none) rfl (fun Kt hK => by
   cases vr3 with
   | false =>
    replace hb4 := wA hb4 rfl
    have hqb4 := Option.some.inj hb4
    cases b4 with
    | false =>
     replace hb6 := wA hb6 rfl
     have hqb6 := Option.some.inj hb6
     cases b6 with
     | false =>
      replace hb7 := wA hb7 rfl
      have hqb7 := Option.some.inj hb7
      subst hqb7
      try have q0 := zV hvr3
      try have q1 := vU hvr5
      exact rT
     | true =>
      cases hqb6
    | true =>
     cases hqb4
   | true =>
    replace hb4 := jB hb4 rfl
    have hqb4 := Option.some.inj hb4
    cases b4 with
    | false =>
     replace hb6 := wA hb6 rfl
     have hqb6 := Option.some.inj hb6
     cases b6 with
     | false =>
      replace hb7 := wA hb7 rfl
      have hqb7 := Option.some.inj hb7
      subst hqb7
      simp (maxSteps := 1000000) only [↓reduceIte, reduceCtorEq, Nat.reduceEqDiff, Nat.reduceLT, Nat.reduceLeDiff, Nat.reduceAdd, Nat.reduceMul, Int.reduceToNat, push_cast, ↓hqb4]
      try simp only [↓hqb4] at hK
      try have q0 := zV hvr3
      try have q1 := vU hvr5
      all_goals exact rU
     | true =>
      cases hqb6
    | true =>
     replace hb6 := jB hb6 rfl
     obtain ⟨vr5, hvr5, hb6⟩ := cA hb6
     have hqb6 := Option.some.inj hb6
     cases b6 with
     | false =>
      subst hqb6
      replace hb7 := wA hb7 rfl
      have hqb7 := Option.some.inj hb7
      subst hqb7
      simp (maxSteps := 1000000) only [↓reduceIte, reduceCtorEq, Nat.reduceEqDiff, Nat.reduceLT, Nat.reduceLeDiff, Nat.reduceAdd, Nat.reduceMul, Int.reduceToNat, push_cast, ↓hqb4, hvr5]
      try simp only [↓hqb4] at hK
      try have q0 := zV hvr3
      try have q1 := vU hvr5
      all_goals exact rU
     | true =>
      subst hqb6
      replace hb7 := jB hb7 rfl
      have hqb7 := Option.some.inj hb7
      subst hqb7
      simp (maxSteps := 1000000) only [↓reduceIte, reduceCtorEq, Nat.reduceEqDiff, Nat.reduceLT, Nat.reduceLeDiff, Nat.reduceAdd, Nat.reduceMul, Int.reduceToNat, push_cast, ↓hqb4, hvr5]
      try simp only [↓hqb4] at hK
      try have q0 := zV hvr3
      try have q1 := vU hvr5
      all_goals exact rU) ?_
 refine jA ?_
 obtain rfl := Option.some.inj h0
 refine lA [] ?_
 exact rG
theorem lV {fu : Nat} {a1 : yA} {b2 : yA} {r : Bool} (h0 : tR fu a1 b2 = some r) : bB Tryz.prog 27 [.agg (yA.enc a1), .agg (yA.enc b2)] (.bool r) [] := by
 refine gB Tryz.func27 rfl (by decide) rL ?_
 dsimp only [Tryz.f27]
 rw [tR] at h0
 refine (show pA _ _ _ _ ⟨aB 0 _, [], 0, []⟩ from ?_)
 refine xS 24 [2, 3] ?_
 obtain ⟨b4, hb4, h0⟩ := cA h0
 refine nC (fr' := [(4, .bool b4)]) (hp' := [(0, ⟨0, true, true, 11, [[.int .i64 a1.Level, .psl 1 (List.map (vA 4 aA.enc) a1.Work.Merge.Runs), .psl 1 (List.map (gA .i64) a1.Work.Merge.At), .psl 2 (List.map eA.enc a1.Work.Merge.Tree.Keys), .psl 1 (List.map (gA .i64) a1.Work.Merge.Tree.Lose), .int .i64 a1.Work.Merge.Tree.Win, .bool a1.Work.Shadow.Some, .str a1.Work.Shadow.Last, .bool a1.Work.Shadow.Bottom, .psl 4 (List.map aA.enc a1.Work.Out), .int .i64 a1.Work.Steps]]⟩), (8, ⟨0, true, true, 11, [[.int .i64 b2.Level, .psl 1 (List.map (vA 4 aA.enc) b2.Work.Merge.Runs), .psl 1 (List.map (gA .i64) b2.Work.Merge.At), .psl 2 (List.map eA.enc b2.Work.Merge.Tree.Keys), .psl 1 (List.map (gA .i64) b2.Work.Merge.Tree.Lose), .int .i64 b2.Work.Merge.Tree.Win, .bool b2.Work.Shadow.Some, .str b2.Work.Shadow.Last, .bool b2.Work.Shadow.Bottom, .psl 4 (List.map aA.enc b2.Work.Out), .int .i64 b2.Work.Steps]]⟩)]) [0, 8] 128 [4] (fun | 10 => (nP fu a1.Work b2.Work).bind fun vr3 => some (.bool vr3, []) | _ => none) rfl (fun Kt hK => by
   cases hg5 : (decide (a1.Level = b2.Level)) with
   | false =>
    replace hb4 := wA hb4 hg5
    have hqb4 := Option.some.inj hb4
    subst hqb4
    simp (maxSteps := 1000000) only [↓reduceIte, reduceCtorEq, Nat.reduceEqDiff, Nat.reduceLT, Nat.reduceLeDiff, Nat.reduceAdd, Nat.reduceMul, Int.reduceToNat, push_cast, ↓hg5]
    try simp only [↓hg5] at hK
    try have q0 := zcD hvr3
    all_goals exact rU
   | true =>
    replace hb4 := jB hb4 hg5
    obtain ⟨vr3, hvr3, hb4⟩ := cA hb4
    have hqb4 := Option.some.inj hb4
    subst hqb4
    simp (maxSteps := 1000000) only [↓reduceIte, reduceCtorEq, Nat.reduceEqDiff, Nat.reduceLT, Nat.reduceLeDiff, Nat.reduceAdd, Nat.reduceMul, Int.reduceToNat, push_cast, ↓hg5, hvr3]
    try simp only [↓hg5] at hK
    try have q0 := zcD hvr3
    all_goals exact rU) ?_
 refine jA ?_
 obtain rfl := Option.some.inj h0
 refine lA [] ?_
 exact rG
theorem zbL {fu : Nat} {a1 : List aA} {b2 : List aA} {r : Bool} (h0 : zQ fu a1 b2 = some r) : bB Tryz.prog 123 [.psl 4 (a1.map aA.enc), .psl 4 (b2.map aA.enc)] (.bool r) [] := by
 refine gB Tryz.func123 rfl (by decide) rL ?_
 dsimp only [Tryz.f123]
 rw [zQ] at h0
 refine (show pA _ _ _ _ ⟨aB 0 _, [], 0, []⟩ from ?_)
 refine xS 8 [0, 1] ?_
 refine kA ?_
 refine xS 16 [0, 1, 5] ?_
 obtain ⟨x16, hxx16, h0⟩ := cA h0
 refine pC (fun s' => ∃ o24 : Unit, x16 = .inl o24 ∧ s'.nx ≤ 96 ∧ LeN [] s' ⟨[(0, .psl 4 (List.map aA.enc a1)), (1, .psl 4 (List.map aA.enc b2))], [], 96, []⟩) ?_ ?_
 ·
  intro s' hs
  obtain ⟨o24, rfl, hn, hs⟩ := hs
  refine dA ?_
  refine pB [] hn hs ?_
  refine xS 144 [4] ?_
  refine jA ?_
  obtain rfl := Option.some.inj h0
  refine lA [] ?_
  exact rG
 ·
  refine mC (ι := { p : Nat × Int // wL a1 b2 p.1 p.2 = some x16 }) (fun p => ⟨[(0, .psl 4 (List.map aA.enc a1)), (1, .psl 4 (List.map aA.enc b2)), (5, .int .i64 p.1.2)], [], 16, []⟩) (fun p => p.1.1) ⟨(fu, 0), hxx16⟩ ⟨rF, rE, rfl, rfl, trivial, trivial⟩ (fun _ => Nat.le_refl _) ?_
  rintro ⟨⟨fu, i17⟩, h1⟩
  cases fu with
  | zero =>
   replace h1 : wL a1 b2 0 i17 = some x16 := h1
   rw [wL] at h1; cases h1
  | succ fu =>
   replace h1 : wL a1 b2 (fu + 1) i17 = some x16 := h1
   rw [wL] at h1
   refine (show pA _ _ _ _ ⟨[(0, .psl 4 (List.map aA.enc a1)), (1, .psl 4 (List.map aA.enc b2)), (5, .int .i64 i17)], [], 16, []⟩ from ?_)
   refine kA ?_
   obtain ⟨b18, hb18, h1⟩ := cA h1
   refine nC (fr' := [(0, .psl 4 (List.map aA.enc a1)), (1, .psl 4 (List.map aA.enc b2)), (5, .int .i64 i17), (15, .bool b18)]) (hp' := []) [] 96 [0, 1, 5, 15] (fun _ => none) rfl (fun Kt hK => by
     cases hg19 : (decide (i17 < (a1.length : Int))) with
     | false =>
      replace hb18 := wA hb18 hg19
      have hqb18 := Option.some.inj hb18
      subst hqb18
      simp (maxSteps := 1000000) only [↓reduceIte, reduceCtorEq, Nat.reduceEqDiff, Nat.reduceLT, Nat.reduceLeDiff, Nat.reduceAdd, Nat.reduceMul, Int.reduceToNat, push_cast, ↓hg19]
      try simp only [↓hg19] at hK
      all_goals exact rU
     | true =>
      replace hb18 := jB hb18 hg19
      have hqb18 := Option.some.inj hb18
      subst hqb18
      simp (maxSteps := 1000000) only [↓reduceIte, reduceCtorEq, Nat.reduceEqDiff, Nat.reduceLT, Nat.reduceLeDiff, Nat.reduceAdd, Nat.reduceMul, Int.reduceToNat, push_cast, ↓hg19]
      try simp only [↓hg19] at hK
      all_goals exact rU) ?_
   refine xI h1 rfl (fun h1 hb20 => ?_) (fun h1 hb20 => ?_)
   ·
    refine qA (dA (kA (aC ?_)))
    obtain ⟨e21, he21, h1⟩ := cA h1
    obtain ⟨he21a, he21b, he21c⟩ := cB he21
    obtain ⟨e22, he22, h1⟩ := cA h1
    obtain ⟨he22a, he22b, he22c⟩ := cB he22
    refine oC 168 [0, 1, 5, 26] (fun _ => none) rfl rfl rfl (fun _ _ => xD (rA he21a (rA he21b (rA he21c (rA he22a (rA he22b he22c)))))) ?_
    refine xI h1 rfl (fun h1 hb23 => ?_) (fun h1 hb23 => ?_)
    ·
     refine nA 176 [4] (fun _ => none) rfl (fun _ _ => rS (rA he21a (rA he21b (rA he21c (rA he22a (rA he22b he22c)))))) ?_
     refine jA ?_
     obtain rfl := Option.some.inj h1
     refine eC (mA (mA (aD (mA ?_))))
     obtain rfl := Option.some.inj h0
     refine lA [] ?_
     simp (maxSteps := 1000000) only [↓reduceIte, reduceCtorEq, Nat.reduceEqDiff, Nat.reduceLT, Nat.reduceLeDiff, Nat.reduceAdd, Nat.reduceMul, Int.reduceToNat, push_cast, bC, he21a, he21b, he21c, he22a, he22b, he22c]
     all_goals exact rH
    ·
     refine qA (sB (dA ?_))
     refine uB 192 [0, 1, 5] (fun _ => none) rfl (fun _ _ => rS (rA he21a (rA he21b (rA he21c (rA he22a (rA he22b he22c)))))) ?_
     refine dA ?_
     exact ⟨⟨(fu, (IntKind.i64.wrap (i17 + 1))), h1⟩, ⟨rF, rE, rfl, rfl, trivial, trivial⟩, Nat.lt_succ_self _⟩
   ·
    refine iC (dB (dB (jC ?_)))
    obtain rfl := Option.some.inj h1
    exact ⟨_, rfl, rL, ⟨rF, rE, rfl, rfl, trivial, trivial⟩⟩
theorem zeI {fu : Nat} {a1 : zA} {b2 : zA} {r : Bool} (h0 : pV fu a1 b2 = some r) : bB Tryz.prog 97 [.agg (zA.enc a1), .agg (zA.enc b2)] (.bool r) [] := by
 refine gB Tryz.func97 rfl (by decide) rL ?_
 dsimp only [Tryz.f97]
 rw [pV] at h0
 refine (show pA _ _ _ _ ⟨aB 0 _, [], 0, []⟩ from ?_)
 refine xS 24 [2, 3] ?_
 obtain ⟨b4, hb4, h0⟩ := cA h0
 refine nC (fr' := [(4, .bool b4)]) (hp' := [(0, ⟨0, true, true, 2, [[.int .i64 a1.Id, .psl 4 (List.map aA.enc a1.Entries)]]⟩), (8, ⟨0, true, true, 2, [[.int .i64 b2.Id, .psl 4 (List.map aA.enc b2.Entries)]]⟩)]) [0, 8] 128 [4] (fun | 10 => (zQ fu a1.Entries b2.Entries).bind fun vr3 => some (.bool vr3, []) | _ => none) rfl (fun Kt hK => by
   cases hg5 : (decide (a1.Id = b2.Id)) with
   | false =>
    replace hb4 := wA hb4 hg5
    have hqb4 := Option.some.inj hb4
    subst hqb4
    simp (maxSteps := 1000000) only [↓reduceIte, reduceCtorEq, Nat.reduceEqDiff, Nat.reduceLT, Nat.reduceLeDiff, Nat.reduceAdd, Nat.reduceMul, Int.reduceToNat, push_cast, ↓hg5]
    try simp only [↓hg5] at hK
    try have q0 := zbL hvr3
    all_goals exact rU
   | true =>
    replace hb4 := jB hb4 hg5
    obtain ⟨vr3, hvr3, hb4⟩ := cA hb4
    have hqb4 := Option.some.inj hb4
    subst hqb4
    simp (maxSteps := 1000000) only [↓reduceIte, reduceCtorEq, Nat.reduceEqDiff, Nat.reduceLT, Nat.reduceLeDiff, Nat.reduceAdd, Nat.reduceMul, Int.reduceToNat, push_cast, ↓hg5, hvr3]
    try simp only [↓hg5] at hK
    try have q0 := zbL hvr3
    all_goals exact rU) ?_
 refine jA ?_
 obtain rfl := Option.some.inj h0
 refine lA [] ?_
 exact rG
theorem zm0 {fu : Nat} {a1 : List zA} {b2 : List zA} {r : Bool} (h0 : uT fu a1 b2 = some r) : bB Tryz.prog 64 [.psl 2 (a1.map zA.enc), .psl 2 (b2.map zA.enc)] (.bool r) [] := by
 refine gB Tryz.func64 rfl (by decide) rL ?_
 dsimp only [Tryz.f64]
 rw [uT] at h0
 refine (show pA _ _ _ _ ⟨aB 0 _, [], 0, []⟩ from ?_)
 refine xS 8 [0, 1] ?_
 refine kA ?_
 refine xS 48 [0, 1, 10] ?_
 refine xI h0 rfl (fun h0 hb3 => ?_) (fun h0 hb3 => ?_)
 ·
  refine xS 56 [4] ?_
  refine jA (mA ?_)
  obtain rfl := Option.some.inj h0
  refine lA [] ?_
  exact rG
 ·
  refine qA (dA (kA ?_))
  refine xS 56 [0, 1, 5] ?_
  obtain ⟨x15, hxx15, h0⟩ := cA h0
  refine pC (fun s' => ∃ o22 : Unit, x15 = .inl o22 ∧ s'.nx ≤ 88 ∧ LeN [] s' ⟨[], [], 88, []⟩) ?_ ?_
  ·
   intro s' hs
   obtain ⟨o22, rfl, hn, hs⟩ := hs
   refine dA ?_
   refine pB [] hn hs ?_
   refine xS 96 [4] ?_
   refine jA ?_
   obtain rfl := Option.some.inj h0
   refine lA [] ?_
   exact rG
  ·
   refine mC (ι := { p : Nat × Int // aL a1 b2 p.1 p.2 = some x15 }) (fun p => ⟨[(0, .psl 2 (List.map zA.enc a1)), (1, .psl 2 (List.map zA.enc b2)), (5, .int .i64 p.1.2)], [], 56, []⟩) (fun p => p.1.1) ⟨(fu, 0), hxx15⟩ ⟨rF, rE, rfl, rfl, trivial, trivial⟩ (fun _ => Nat.le_refl _) ?_
   rintro ⟨⟨fu, i16⟩, h1⟩
   cases fu with
   | zero =>
   replace h1 : aL a1 b2 0 i16 = some x15 := h1
   rw [aL] at h1; cases h1
   | succ fu =>
    replace h1 : aL a1 b2 (fu + 1) i16 = some x15 := h1
    rw [aL] at h1
    refine (show pA _ _ _ _ ⟨[(0, .psl 2 (List.map zA.enc a1)), (1, .psl 2 (List.map zA.enc b2)), (5, .int .i64 i16)], [], 56, []⟩ from ?_)
    refine kA ?_
    refine xS 88 [0, 1, 5, 14] ?_
    refine xI h1 rfl (fun h1 hb17 => ?_) (fun h1 hb17 => ?_)
    ·
     refine qA (dA (kA (aC ?_)))
     obtain ⟨e18, he18, h1⟩ := cA h1
     obtain ⟨he18a, he18b, he18c⟩ := cB he18
     obtain ⟨e19, he19, h1⟩ := cA h1
     obtain ⟨he19a, he19b, he19c⟩ := cB he19
     obtain ⟨vr20, hvr20, h1⟩ := cA h1
     refine oC 168 [0, 1, 5, 26] (fun | 8 => some (.bool vr20, []) | _ => none) rfl rfl rfl (fun _ _ => oL (rA he18a (rA he18b (rA he18c (rA he19a (rA he19b he19c))))) (zeI hvr20)) ?_
     refine xI h1 rfl (fun h1 hb21 => ?_) (fun h1 hb21 => ?_)
     ·
      refine nA 176 [4] (fun _ => none) rfl (fun _ _ => rS (rA he18a (rA he18b (rA he18c (rA he19a (rA he19b he19c)))))) ?_
      refine jA ?_
      obtain rfl := Option.some.inj h1
      refine eC (mA (mA (aD (mA ?_))))
      obtain rfl := Option.some.inj h0
      refine lA [] ?_
      simp (maxSteps := 1000000) only [↓reduceIte, reduceCtorEq, Nat.reduceEqDiff, Nat.reduceLT, Nat.reduceLeDiff, Nat.reduceAdd, Nat.reduceMul, Int.reduceToNat, push_cast, bC, he18a, he18b, he18c, he19a, he19b, he19c]
      all_goals exact rH
     ·
      refine qA (sB (dA ?_))
      refine uB 192 [0, 1, 5] (fun _ => none) rfl (fun _ _ => rS (rA he18a (rA he18b (rA he18c (rA he19a (rA he19b he19c)))))) ?_
      refine dA ?_
      exact ⟨⟨(fu, (IntKind.i64.wrap (i16 + 1))), h1⟩, ⟨rF, rE, rfl, rfl, trivial, trivial⟩, Nat.lt_succ_self _⟩
    ·
     refine iC (dB (dB (jC ?_)))
     obtain rfl := Option.some.inj h1
     exact ⟨_, rfl, rL, ⟨rF, rE, rfl, rfl, trivial, trivial⟩⟩
theorem kZ {fu : Nat} {a1 : uA} {b2 : uA} {r : Bool} (h0 : bV fu a1 b2 = some r) : bB Tryz.prog 34 [.agg (uA.enc a1), .agg (uA.enc b2)] (.bool r) [] := by
 refine gB Tryz.func34 rfl (by decide) rL ?_
 dsimp only [Tryz.f34]
 rw [bV] at h0
 refine (show pA _ _ _ _ ⟨aB 0 _, [], 0, []⟩ from ?_)
 refine xS 24 [2, 3] ?_
 refine kA ?_
 obtain ⟨b3, hb3, h0⟩ := cA h0
 refine nC (fr' := [(2, .ref 0 0 0 0), (3, .ref 8 0 0 0), (19, .bool b3)]) (hp' := [(0, ⟨0, true, true, 2, [[.int .i64 a1.B, .psl 1 (List.map sA.enc a1.Levels)]]⟩), (8, ⟨0, true, true, 2, [[.int .i64 b2.B, .psl 1 (List.map sA.enc b2.Levels)]]⟩)]) [0, 8] 136 [2, 3, 19] (fun _ => none) rfl (fun Kt hK => by
   cases hg4 : (!(decide (a1.B = b2.B))) with
   | false =>
    replace hb3 := wA hb3 hg4
    have hqb3 := Option.some.inj hb3
    subst hqb3
    simp (maxSteps := 1000000) only [↓reduceIte, reduceCtorEq, Nat.reduceEqDiff, Nat.reduceLT, Nat.reduceLeDiff, Nat.reduceAdd, Nat.reduceMul, Int.reduceToNat, push_cast, ↓hg4]
    try simp only [↓hg4] at hK
    all_goals exact rU
   | true =>
    replace hb3 := jB hb3 hg4
    have hqb3 := Option.some.inj hb3
    subst hqb3
    simp (maxSteps := 1000000) only [↓reduceIte, reduceCtorEq, Nat.reduceEqDiff, Nat.reduceLT, Nat.reduceLeDiff, Nat.reduceAdd, Nat.reduceMul, Int.reduceToNat, push_cast, ↓hg4]
    try simp only [↓hg4] at hK
    all_goals exact rU) ?_
 refine xI h0 rfl (fun h0 hb5 => ?_) (fun h0 hb5 => ?_)
 ·
  refine xS 144 [4] ?_
  refine jA (mA ?_)
  obtain rfl := Option.some.inj h0
  refine lA [] ?_
  exact rG
 ·
  refine qA (dA (kA ?_))
  refine xS 144 [2, 3, 5] ?_
  obtain ⟨x17, hxx17, h0⟩ := cA h0
  refine pC (fun s' => ∃ o24 : Unit, x17 = .inl o24 ∧ s'.nx ≤ 184 ∧ LeN [] s' ⟨[], [(0, ⟨0, true, true, 2, [[.int .i64 a1.B, .psl 1 (List.map sA.enc a1.Levels)]]⟩), (8, ⟨0, true, true, 2, [[.int .i64 b2.B, .psl 1 (List.map sA.enc b2.Levels)]]⟩)], 184, []⟩) ?_ ?_
  ·
   intro s' hs
   obtain ⟨o24, rfl, hn, hs⟩ := hs
   refine dA ?_
   refine pB [] hn hs ?_
   refine xS 192 [4] ?_
   refine jA ?_
   obtain rfl := Option.some.inj h0
   refine lA [] ?_
   exact rG
  ·
   refine mC (ι := { p : Nat × Int // xL a1 b2 p.1 p.2 = some x17 }) (fun p => ⟨[(2, .ref 0 0 0 0), (3, .ref 8 0 0 0), (5, .int .i64 p.1.2)], [(0, ⟨0, true, true, 2, [[.int .i64 a1.B, .psl 1 (List.map sA.enc a1.Levels)]]⟩), (8, ⟨0, true, true, 2, [[.int .i64 b2.B, .psl 1 (List.map sA.enc b2.Levels)]]⟩)], 144, []⟩) (fun p => p.1.1) ⟨(fu, 0), hxx17⟩ ⟨rF, rE, rfl, rfl, trivial, trivial⟩ (fun _ => Nat.le_refl _) ?_
   rintro ⟨⟨fu, i18⟩, h1⟩
   cases fu with
   | zero =>
   replace h1 : xL a1 b2 0 i18 = some x17 := h1
   rw [xL] at h1; cases h1
   | succ fu =>
    replace h1 : xL a1 b2 (fu + 1) i18 = some x17 := h1
    rw [xL] at h1
    refine (show pA _ _ _ _ ⟨[(2, .ref 0 0 0 0), (3, .ref 8 0 0 0), (5, .int .i64 i18)], [(0, ⟨0, true, true, 2, [[.int .i64 a1.B, .psl 1 (List.map sA.enc a1.Levels)]]⟩), (8, ⟨0, true, true, 2, [[.int .i64 b2.B, .psl 1 (List.map sA.enc b2.Levels)]]⟩)], 144, []⟩ from ?_)
    refine kA ?_
    refine xS 184 [2, 3, 5, 24] ?_
    refine xI h1 rfl (fun h1 hb19 => ?_) (fun h1 hb19 => ?_)
    ·
     refine qA (dA (kA (aC ?_)))
     obtain ⟨e20, he20, h1⟩ := cA h1
     obtain ⟨he20a, he20b, he20c⟩ := cB he20
     obtain ⟨e21, he21, h1⟩ := cA h1
     obtain ⟨he21a, he21b, he21c⟩ := cB he21
     obtain ⟨vr22, hvr22, h1⟩ := cA h1
     refine oC 296 [2, 3, 5, 40] (fun | 12 => some (.bool vr22, []) | _ => none) rfl rfl rfl (fun _ _ => oL (rA he20a (rA he20b (rA he20c (rA he21a (rA he21b he21c))))) (zm0 hvr22)) ?_
     refine xI h1 rfl (fun h1 hb23 => ?_) (fun h1 hb23 => ?_)
     ·
      refine nA 304 [4] (fun _ => none) rfl (fun _ _ => rS (rA he20a (rA he20b (rA he20c (rA he21a (rA he21b he21c)))))) ?_
      refine jA ?_
      obtain rfl := Option.some.inj h1
      refine eC (mA (mA (aD (mA ?_))))
      obtain rfl := Option.some.inj h0
      refine lA [] ?_
      simp (maxSteps := 1000000) only [↓reduceIte, reduceCtorEq, Nat.reduceEqDiff, Nat.reduceLT, Nat.reduceLeDiff, Nat.reduceAdd, Nat.reduceMul, Int.reduceToNat, push_cast, bC, he20a, he20b, he20c, he21a, he21b, he21c]
      all_goals exact rH
     ·
      refine qA (sB (dA ?_))
      refine uB 320 [2, 3, 5] (fun _ => none) rfl (fun _ _ => rS (rA he20a (rA he20b (rA he20c (rA he21a (rA he21b he21c)))))) ?_
      refine dA ?_
      exact ⟨⟨(fu, (IntKind.i64.wrap (i18 + 1))), h1⟩, ⟨rF, rE, rfl, rfl, trivial, trivial⟩, Nat.lt_succ_self _⟩
    ·
     refine iC (dB (dB (jC ?_)))
     obtain rfl := Option.some.inj h1
     exact ⟨_, rfl, rL, ⟨rF, rE, rfl, rfl, trivial, trivial⟩⟩
theorem xW {fu : Nat} {a1 : oB} {b2 : oB} {r : Bool} (h0 : fL fu a1 b2 = some r) : bB Tryz.prog 10 [.agg (oB.enc a1), .agg (oB.enc b2)] (.bool r) [] := by
 refine gB Tryz.func10 rfl (by decide) rL ?_
 dsimp only [Tryz.f10]
 rw [fL] at h0
 refine (show pA _ _ _ _ ⟨aB 0 _, [], 0, []⟩ from ?_)
 refine xS 24 [2, 3] ?_
 refine kA ?_
 obtain ⟨vr3, hvr3, h0⟩ := cA h0
 obtain ⟨b4, hb4, h0⟩ := cA h0
 obtain ⟨b5, hb5, h0⟩ := cA h0
 refine nC (fr' := [(2, .ref 0 0 0 0), (3, .ref 8 0 0 0), (27, .bool b5)]) (hp' := [(0, ⟨0, true, true, 4, [[.int .i64 a1.Levels.B, .psl 1 (List.map sA.enc a1.Levels.Levels), .psl 11 (List.map yA.enc a1.Jobs), .int .i64 a1.NextId]]⟩), (8, ⟨0, true, true, 4, [[.int .i64 b2.Levels.B, .psl 1 (List.map sA.enc b2.Levels.Levels), .psl 11 (List.map yA.enc b2.Jobs), .int .i64 b2.NextId]]⟩)]) [0, 8] 200 [2, 3, 27] (fun | 4 => some (.bool vr3, []) | _ => none) rfl (fun Kt hK => by
   cases hg6 : (!vr3) with
   | false =>
    replace hb4 := wA hb4 hg6
    have hqb4 := Option.some.inj hb4
    cases b4 with
    | false =>
     replace hb5 := wA hb5 rfl
     have hqb5 := Option.some.inj hb5
     subst hqb5
     simp (maxSteps := 1000000) only [↓reduceIte, reduceCtorEq, Nat.reduceEqDiff, Nat.reduceLT, Nat.reduceLeDiff, Nat.reduceAdd, Nat.reduceMul, Int.reduceToNat, push_cast, ↓hg6, ↓hqb4]
     try simp only [↓hg6, ↓hqb4] at hK
     try have q0 := kZ hvr3
     all_goals exact rU
    | true =>
     replace hb5 := jB hb5 rfl
     have hqb5 := Option.some.inj hb5
     subst hqb5
     simp (maxSteps := 1000000) only [↓reduceIte, reduceCtorEq, Nat.reduceEqDiff, Nat.reduceLT, Nat.reduceLeDiff, Nat.reduceAdd, Nat.reduceMul, Int.reduceToNat, push_cast, ↓hg6, ↓hqb4]
     try simp only [↓hg6, ↓hqb4] at hK
     try have q0 := kZ hvr3
     all_goals exact rU
   | true =>
    replace hb4 := jB hb4 hg6
    have hqb4 := Option.some.inj hb4
    cases b4 with
    | false =>
     cases hqb4
    | true =>
     replace hb5 := jB hb5 rfl
     have hqb5 := Option.some.inj hb5
     subst hqb5
     simp (maxSteps := 1000000) only [↓reduceIte, reduceCtorEq, Nat.reduceEqDiff, Nat.reduceLT, Nat.reduceLeDiff, Nat.reduceAdd, Nat.reduceMul, Int.reduceToNat, push_cast, ↓hg6]
     try simp only [↓hg6] at hK
     try have q0 := kZ hvr3
     all_goals exact rU) ?_
 refine xI h0 rfl (fun h0 hb9 => ?_) (fun h0 hb9 => ?_)
 ·
  refine xS 208 [4] ?_
  refine jA (mA ?_)
  obtain rfl := Option.some.inj h0
  refine lA [] ?_
  exact rG
 ·
  refine qA (dA (kA ?_))
  refine xS 208 [2, 3, 5] ?_
  obtain ⟨x21, hxx21, h0⟩ := cA h0
  refine pC (fun s' => ∃ o28 : Unit, x21 = .inl o28 ∧ s'.nx ≤ 248 ∧ LeN [] s' ⟨[], [(0, ⟨0, true, true, 4, [[.int .i64 a1.Levels.B, .psl 1 (List.map sA.enc a1.Levels.Levels), .psl 11 (List.map yA.enc a1.Jobs), .int .i64 a1.NextId]]⟩), (8, ⟨0, true, true, 4, [[.int .i64 b2.Levels.B, .psl 1 (List.map sA.enc b2.Levels.Levels), .psl 11 (List.map yA.enc b2.Jobs), .int .i64 b2.NextId]]⟩)], 248, []⟩) ?_ ?_
  ·
   intro s' hs
   obtain ⟨o28, rfl, hn, hs⟩ := hs
   refine dA ?_
   refine pB [] hn hs ?_
   refine xS 256 [4] ?_
   refine jA ?_
   obtain rfl := Option.some.inj h0
   refine lA [] ?_
   exact rG
  ·
   refine mC (ι := { p : Nat × Int // vL a1 b2 p.1 p.2 = some x21 }) (fun p => ⟨[(2, .ref 0 0 0 0), (3, .ref 8 0 0 0), (5, .int .i64 p.1.2)], [(0, ⟨0, true, true, 4, [[.int .i64 a1.Levels.B, .psl 1 (List.map sA.enc a1.Levels.Levels), .psl 11 (List.map yA.enc a1.Jobs), .int .i64 a1.NextId]]⟩), (8, ⟨0, true, true, 4, [[.int .i64 b2.Levels.B, .psl 1 (List.map sA.enc b2.Levels.Levels), .psl 11 (List.map yA.enc b2.Jobs), .int .i64 b2.NextId]]⟩)], 208, []⟩) (fun p => p.1.1) ⟨(fu, 0), hxx21⟩ ⟨rF, rE, rfl, rfl, trivial, trivial⟩ (fun _ => Nat.le_refl _) ?_
   rintro ⟨⟨fu, i22⟩, h1⟩
   cases fu with
   | zero =>
   replace h1 : vL a1 b2 0 i22 = some x21 := h1
   rw [vL] at h1; cases h1
   | succ fu =>
    replace h1 : vL a1 b2 (fu + 1) i22 = some x21 := h1
    rw [vL] at h1
    refine (show pA _ _ _ _ ⟨[(2, .ref 0 0 0 0), (3, .ref 8 0 0 0), (5, .int .i64 i22)], [(0, ⟨0, true, true, 4, [[.int .i64 a1.Levels.B, .psl 1 (List.map sA.enc a1.Levels.Levels), .psl 11 (List.map yA.enc a1.Jobs), .int .i64 a1.NextId]]⟩), (8, ⟨0, true, true, 4, [[.int .i64 b2.Levels.B, .psl 1 (List.map sA.enc b2.Levels.Levels), .psl 11 (List.map yA.enc b2.Jobs), .int .i64 b2.NextId]]⟩)], 208, []⟩ from ?_)
    refine kA ?_
    refine xS 248 [2, 3, 5, 32] ?_
    refine xI h1 rfl (fun h1 hb23 => ?_) (fun h1 hb23 => ?_)
    ·
     refine qA (dA (kA (aC ?_)))
     obtain ⟨e24, he24, h1⟩ := cA h1
     obtain ⟨he24a, he24b, he24c⟩ := cB he24
     obtain ⟨e25, he25, h1⟩ := cA h1
     obtain ⟨he25a, he25b, he25c⟩ := cB he25
     obtain ⟨vr26, hvr26, h1⟩ := cA h1
     refine oC 344 [2, 3, 5, 46] (fun | 10 => some (.bool vr26, []) | _ => none) rfl rfl rfl (fun _ _ => oL (rA he24a (rA he24b (rA he24c (rA he25a (rA he25b he25c))))) (lV hvr26)) ?_
     refine xI h1 rfl (fun h1 hb27 => ?_) (fun h1 hb27 => ?_)
     ·
      refine nA 352 [4] (fun _ => none) rfl (fun _ _ => rS (rA he24a (rA he24b (rA he24c (rA he25a (rA he25b he25c)))))) ?_
      refine jA ?_
      obtain rfl := Option.some.inj h1
      refine eC (mA (mA (aD (mA ?_))))
      obtain rfl := Option.some.inj h0
      refine lA [] ?_
      simp (maxSteps := 1000000) only [↓reduceIte, reduceCtorEq, Nat.reduceEqDiff, Nat.reduceLT, Nat.reduceLeDiff, Nat.reduceAdd, Nat.reduceMul, Int.reduceToNat, push_cast, bC, he24a, he24b, he24c, he25a, he25b, he25c]
      all_goals exact rH
     ·
      refine qA (sB (dA ?_))
      refine uB 368 [2, 3, 5] (fun _ => none) rfl (fun _ _ => rS (rA he24a (rA he24b (rA he24c (rA he25a (rA he25b he25c)))))) ?_
      refine dA ?_
      exact ⟨⟨(fu, (IntKind.i64.wrap (i22 + 1))), h1⟩, ⟨rF, rE, rfl, rfl, trivial, trivial⟩, Nat.lt_succ_self _⟩
    ·
     refine iC (dB (dB (jC ?_)))
     obtain rfl := Option.some.inj h1
     exact ⟨_, rfl, rL, ⟨rF, rE, rfl, rfl, trivial, trivial⟩⟩
theorem zgu {fu : Nat} {b1 : Int} {r : uA × Int} (h0 : qV fu b1 = some r) : bB Tryz.prog 52 [.int .i64 b1] (.tup [.agg (uA.enc r.1), .int .i64 r.2]) [] := by
 refine gB Tryz.func52 rfl (by decide) rL ?_
 dsimp only [Tryz.f52]
 rw [qV] at h0
 refine (show pA _ _ _ _ ⟨aB 0 _, [], 0, []⟩ from ?_)
 refine xS 16 [0, 2] ?_
 refine kA ?_
 obtain ⟨b2, hb2, h0⟩ := cA h0
 refine nC (fr' := [(0, .int .i64 b1), (2, .ref 0 0 0 0), (9, .bool b2)]) (hp' := [(0, ⟨0, true, true, 2, [[.int .i64 0, .nils]]⟩)]) [0] 64 [0, 2, 9] (fun _ => none) rfl (fun Kt hK => by
   cases hg3 : (decide (b1 < 1)) with
   | false =>
    replace hb2 := wA hb2 hg3
    have hqb2 := Option.some.inj hb2
    subst hqb2
    simp (maxSteps := 1000000) only [↓reduceIte, reduceCtorEq, Nat.reduceEqDiff, Nat.reduceLT, Nat.reduceLeDiff, Nat.reduceAdd, Nat.reduceMul, Int.reduceToNat, push_cast, ↓hg3]
    try simp only [↓hg3] at hK
    all_goals exact rU
   | true =>
    replace hb2 := jB hb2 hg3
    have hqb2 := Option.some.inj hb2
    subst hqb2
    simp (maxSteps := 1000000) only [↓reduceIte, reduceCtorEq, Nat.reduceEqDiff, Nat.reduceLT, Nat.reduceLeDiff, Nat.reduceAdd, Nat.reduceMul, Int.reduceToNat, push_cast, ↓hg3]
    try simp only [↓hg3] at hK
    all_goals exact rU) ?_
 refine xI h0 rfl (fun h0 hb4 => ?_) (fun h0 hb4 => ?_)
 ·
  refine xS 88 [2, 3] ?_
  refine jA (mA ?_)
  obtain rfl := Option.some.inj h0
  refine lA [] ?_
  exact rG
 ·
  refine qA (dA ?_)
  refine xS 96 [2, 3] ?_
  refine jA ?_
  obtain rfl := Option.some.inj h0
  refine lA [] ?_
  exact rG
theorem zlD {fu : Nat} {b1 : Int} {r : oB × Int} (h0 : eT fu b1 = some r) : bB Tryz.prog 21 [.int .i64 b1] (.tup [.agg (oB.enc r.1), .int .i64 r.2]) [] := by
 refine gB Tryz.func21 rfl (by decide) rL ?_
 dsimp only [Tryz.f21]
 rw [eT] at h0
 refine (show pA _ _ _ _ ⟨aB 0 _, [], 0, []⟩ from ?_)
 refine xS 16 [0, 2] ?_
 obtain ⟨vr2, hvr2, h0⟩ := cA h0
 refine nA 80 [2, 4, 5] (fun | 1 => some (.tup [.agg (uA.enc vr2.1), .int .i64 vr2.2], []) | _ => none) rfl (fun _ _ => rC (zgu hvr2)) ?_
 refine kA ?_
 refine xS 96 [2, 4, 5, 12] ?_
 refine xI h0 rfl (fun h0 hb3 => ?_) (fun h0 hb3 => ?_)
 ·
  refine xS 128 [2, 3] ?_
  refine jA (mA ?_)
  obtain rfl := Option.some.inj h0
  refine lA [] ?_
  exact rG
 ·
  refine qA (dA ?_)
  refine xS 128 [2, 3] ?_
  refine jA ?_
  obtain rfl := Option.some.inj h0
  refine lA [] ?_
  exact rG
theorem zjC {fu : Nat} {b1 : Int} {r : uA × Int} (h0 : iW fu b1 = some r) : bB Tryz.prog 53 [.int .i64 b1] (.tup [.agg (uA.enc r.1), .int .i64 r.2]) [] := by
 refine gB Tryz.func53 rfl (by decide) rL ?_
 dsimp only [Tryz.f53]
 rw [iW] at h0
 refine (show pA _ _ _ _ ⟨aB 0 _, [], 0, []⟩ from ?_)
 refine xS 16 [0, 2] ?_
 refine kA ?_
 obtain ⟨b2, hb2, h0⟩ := cA h0
 refine nC (fr' := [(0, .int .i64 b1), (2, .ref 0 0 0 0), (9, .bool b2)]) (hp' := [(0, ⟨0, true, true, 2, [[.int .i64 0, .nils]]⟩)]) [0] 64 [0, 2, 9] (fun _ => none) rfl (fun Kt hK => by
   cases hg3 : (decide (b1 < 1)) with
   | false =>
    replace hb2 := wA hb2 hg3
    have hqb2 := Option.some.inj hb2
    subst hqb2
    simp (maxSteps := 1000000) only [↓reduceIte, reduceCtorEq, Nat.reduceEqDiff, Nat.reduceLT, Nat.reduceLeDiff, Nat.reduceAdd, Nat.reduceMul, Int.reduceToNat, push_cast, ↓hg3]
    try simp only [↓hg3] at hK
    all_goals exact rU
   | true =>
    replace hb2 := jB hb2 hg3
    have hqb2 := Option.some.inj hb2
    subst hqb2
    simp (maxSteps := 1000000) only [↓reduceIte, reduceCtorEq, Nat.reduceEqDiff, Nat.reduceLT, Nat.reduceLeDiff, Nat.reduceAdd, Nat.reduceMul, Int.reduceToNat, push_cast, ↓hg3]
    try simp only [↓hg3] at hK
    all_goals exact rU) ?_
 refine xI h0 rfl (fun h0 hb4 => ?_) (fun h0 hb4 => ?_)
 ·
  refine xS 88 [2, 3] ?_
  refine jA (mA ?_)
  obtain rfl := Option.some.inj h0
  refine lA [] ?_
  exact rG
 ·
  refine qA (dA ?_)
  refine xS 96 [2, 3] ?_
  refine jA ?_
  obtain rfl := Option.some.inj h0
  refine lA [] ?_
  exact rG
theorem zdI {fu : Nat} {b1 : Int} {r : oB × Int} (h0 : tU fu b1 = some r) : bB Tryz.prog 22 [.int .i64 b1] (.tup [.agg (oB.enc r.1), .int .i64 r.2]) [] := by
 refine gB Tryz.func22 rfl (by decide) rL ?_
 dsimp only [Tryz.f22]
 rw [tU] at h0
 refine (show pA _ _ _ _ ⟨aB 0 _, [], 0, []⟩ from ?_)
 refine xS 16 [0, 2] ?_
 obtain ⟨vr2, hvr2, h0⟩ := cA h0
 refine nA 80 [2, 4, 5] (fun | 1 => some (.tup [.agg (uA.enc vr2.1), .int .i64 vr2.2], []) | _ => none) rfl (fun _ _ => rC (zjC hvr2)) ?_
 refine kA ?_
 refine xS 96 [2, 4, 5, 12] ?_
 refine xI h0 rfl (fun h0 hb3 => ?_) (fun h0 hb3 => ?_)
 ·
  refine xS 128 [2, 3] ?_
  refine jA (mA ?_)
  obtain rfl := Option.some.inj h0
  refine lA [] ?_
  exact rG
 ·
  refine qA (dA ?_)
  refine xS 128 [2, 3] ?_
  refine jA ?_
  obtain rfl := Option.some.inj h0
  refine lA [] ?_
  exact rG
theorem zfq {fu : Nat} {b1 : Int} {level2 : Int} {r : Int} (h0 : vT fu b1 level2 = some r) : bB Tryz.prog 74 [.int .i64 b1, .int .i64 level2] (.int .i64 r) [] := by
 refine gB Tryz.func74 rfl (by decide) rL ?_
 dsimp only [Tryz.f74]
 rw [vT] at h0
 refine (show pA _ _ _ _ ⟨aB 0 _, [], 0, []⟩ from ?_)
 refine xS 8 [0, 1] ?_
 refine kA ?_
 refine xS 16 [0, 1, 5] ?_
 obtain ⟨x7, hxx7, h0⟩ := cA h0
 refine pC (fun s' => s'.nx ≤ 40 ∧ LeN [] s' ⟨[(0, .int .i64 x7)], [], 40, []⟩) ?_ ?_
 ·
  intro s' hs
  obtain ⟨hn, hs⟩ := hs
  refine dA ?_
  refine pB [] hn hs ?_
  refine xS 56 [4] ?_
  refine jA ?_
  obtain rfl := Option.some.inj h0
  refine lA [] ?_
  exact rG
 ·
  refine mC (ι := { p : Nat × Int × Int // bL level2 p.1 p.2.1 p.2.2 = some x7 }) (fun p => ⟨[(0, .int .i64 p.1.2.1), (1, .int .i64 level2), (5, .int .i64 p.1.2.2)], [], 16, []⟩) (fun p => p.1.1) ⟨(fu, b1, 0), hxx7⟩ ⟨rF, rE, rfl, rfl, trivial, trivial⟩ (fun _ => Nat.le_refl _) ?_
  rintro ⟨⟨fu, b8, i9⟩, h1⟩
  cases fu with
  | zero =>
   replace h1 : bL level2 0 b8 i9 = some x7 := h1
   rw [bL] at h1; cases h1
  | succ fu =>
   replace h1 : bL level2 (fu + 1) b8 i9 = some x7 := h1
   rw [bL] at h1
   refine (show pA _ _ _ _ ⟨[(0, .int .i64 b8), (1, .int .i64 level2), (5, .int .i64 i9)], [], 16, []⟩ from ?_)
   refine kA ?_
   refine xS 40 [0, 1, 5, 8] ?_
   refine xI h1 rfl (fun h1 hb10 => ?_) (fun h1 hb10 => ?_)
   ·
    refine qA (dA (kA (aC ?_)))
    refine xR 64 [0, 1, 5] ?_
    refine sB (dA ?_)
    refine xR 88 [0, 1, 5] ?_
    refine dA ?_
    exact ⟨⟨(fu, (IntKind.i64.wrap (2 * b8)), (IntKind.i64.wrap (i9 + 1))), h1⟩, ⟨rF, rE, rfl, rfl, trivial, trivial⟩, Nat.lt_succ_self _⟩
   ·
    refine iC (dB (dB (jC ?_)))
    obtain rfl := Option.some.inj h1
    exact ⟨rL, ⟨rF, rE, rfl, rfl, trivial, trivial⟩⟩
theorem zgd {fu : Nat} {vx1 : aA} {r : Int} (h0 : zU fu vx1 = some r) : bB Tryz.prog 138 [.agg (aA.enc vx1)] (.int .i64 r) [] := by
 refine gB Tryz.func138 rfl (by decide) rL ?_
 dsimp only [Tryz.f138]
 rw [zU] at h0
 refine (show pA _ _ _ _ ⟨aB 0 _, [], 0, []⟩ from ?_)
 refine xS 16 [1] ?_
 refine kA ?_
 obtain ⟨b2, hb2, h0⟩ := cA h0
 refine nC (fr' := [(1, .ref 0 0 0 0), (12, .bool b2)]) (hp' := [(0, ⟨0, true, true, 4, [[.str vx1.Key, .str vx1.Val, .bool vx1.Dead, .int .i64 vx1.Seq]]⟩)]) [0] 96 [1, 12] (fun _ => none) rfl (fun Kt hK => by
   cases hg3 : (decide (32 < (vx1.Key.length : Int))) with
   | false =>
    replace hb2 := wA hb2 hg3
    have hqb2 := Option.some.inj hb2
    subst hqb2
    simp (maxSteps := 1000000) only [↓reduceIte, reduceCtorEq, Nat.reduceEqDiff, Nat.reduceLT, Nat.reduceLeDiff, Nat.reduceAdd, Nat.reduceMul, Int.reduceToNat, push_cast, ↓hg3]
    try simp only [↓hg3] at hK
    all_goals exact rU
   | true =>
    replace hb2 := jB hb2 hg3
    have hqb2 := Option.some.inj hb2
    subst hqb2
    simp (maxSteps := 1000000) only [↓reduceIte, reduceCtorEq, Nat.reduceEqDiff, Nat.reduceLT, Nat.reduceLeDiff, Nat.reduceAdd, Nat.reduceMul, Int.reduceToNat, push_cast, ↓hg3]
    try simp only [↓hg3] at hK
    all_goals exact rU) ?_
 refine xI h0 rfl (fun h0 hb4 => ?_) (fun h0 hb4 => ?_)
 ·
  refine xS 104 [2] ?_
  refine jA (mA ?_)
  obtain rfl := Option.some.inj h0
  refine lA [] ?_
  exact rG
 ·
  refine qA (dA (kA ?_))
  obtain ⟨b5, hb5, h0⟩ := cA h0
  refine nC (fr' := [(1, .ref 0 0 0 0), (19, .bool b5)]) (hp' := [(0, ⟨0, true, true, 4, [[.str vx1.Key, .str vx1.Val, .bool vx1.Dead, .int .i64 vx1.Seq]]⟩)]) [0] 152 [1, 19] (fun _ => none) rfl (fun Kt hK => by
    cases hg6 : vx1.Dead with
    | false =>
     replace hb5 := wA hb5 hg6
     have hqb5 := Option.some.inj hb5
     subst hqb5
     simp (maxSteps := 1000000) only [↓reduceIte, reduceCtorEq, Nat.reduceEqDiff, Nat.reduceLT, Nat.reduceLeDiff, Nat.reduceAdd, Nat.reduceMul, Int.reduceToNat, push_cast, ↓hg6]
     try simp only [↓hg6] at hK
     all_goals exact rU
    | true =>
     replace hb5 := jB hb5 hg6
     have hqb5 := Option.some.inj hb5
     subst hqb5
     simp (maxSteps := 1000000) only [↓reduceIte, reduceCtorEq, Nat.reduceEqDiff, Nat.reduceLT, Nat.reduceLeDiff, Nat.reduceAdd, Nat.reduceMul, Int.reduceToNat, push_cast, ↓hg6]
     try simp only [↓hg6] at hK
     all_goals exact rU) ?_
  refine xI h0 rfl (fun h0 hb7 => ?_) (fun h0 hb7 => ?_)
  ·
   refine xS 160 [2] ?_
   refine jA (mA ?_)
   obtain rfl := Option.some.inj h0
   refine lA [] ?_
   exact rG
  ·
   refine qA (dA (kA ?_))
   obtain ⟨b8, hb8, h0⟩ := cA h0
   refine nC (fr' := [(27, .bool b8)]) (hp' := [(0, ⟨0, true, true, 4, [[.str vx1.Key, .str vx1.Val, .bool vx1.Dead, .int .i64 vx1.Seq]]⟩)]) [0] 216 [27] (fun _ => none) rfl (fun Kt hK => by
     cases hg9 : (decide (vx1.Seq < 1)) with
     | false =>
      replace hb8 := wA hb8 hg9
      have hqb8 := Option.some.inj hb8
      subst hqb8
      simp (maxSteps := 1000000) only [↓reduceIte, reduceCtorEq, Nat.reduceEqDiff, Nat.reduceLT, Nat.reduceLeDiff, Nat.reduceAdd, Nat.reduceMul, Int.reduceToNat, push_cast, ↓hg9]
      try simp only [↓hg9] at hK
      all_goals exact rU
     | true =>
      replace hb8 := jB hb8 hg9
      have hqb8 := Option.some.inj hb8
      subst hqb8
      simp (maxSteps := 1000000) only [↓reduceIte, reduceCtorEq, Nat.reduceEqDiff, Nat.reduceLT, Nat.reduceLeDiff, Nat.reduceAdd, Nat.reduceMul, Int.reduceToNat, push_cast, ↓hg9]
      try simp only [↓hg9] at hK
      all_goals exact rU) ?_
   refine xI h0 rfl (fun h0 hb10 => ?_) (fun h0 hb10 => ?_)
   ·
    refine xS 224 [2] ?_
    refine jA (mA ?_)
    obtain rfl := Option.some.inj h0
    refine lA [] ?_
    exact rG
   ·
    refine qA (dA ?_)
    refine xS 224 [2] ?_
    refine jA ?_
    obtain rfl := Option.some.inj h0
    refine lA [] ?_
    exact rG
theorem zlq {fu : Nat} {a1 : List UInt8} {b2 : List UInt8} {r : Int} (h0 : mU fu a1 b2 = some r) : bB Tryz.prog 148 [.str a1, .str b2] (.int .i64 r) [] := by
 refine gB Tryz.func148 rfl (by decide) rL ?_
 dsimp only [Tryz.f148]
 rw [mU] at h0
 refine (show pA _ _ _ _ ⟨aB 0 _, [], 0, []⟩ from ?_)
 refine xS 8 [0, 1] ?_
 refine xS 16 [0, 1, 5] ?_
 obtain ⟨x20, hxx20, h0⟩ := cA h0
 refine zcO (fun s' => s'.nx ≤ 168 ∧ LeN [] s' ⟨[(5, .int .i64 x20)], [], 168, []⟩) ?_ ?_
 ·
  intro s' hs
  obtain ⟨hn, hs⟩ := hs
  refine pB [] hn hs ?_
  refine xS 184 [4] ?_
  refine jA ?_
  obtain rfl := Option.some.inj h0
  refine lA [] ?_
  exact rG
 ·
  refine mC (ι := { p : Nat × Int // lI a1 b2 p.1 p.2 = some x20 }) (fun p => ⟨[(0, .str a1), (1, .str b2), (5, .int .i64 p.1.2)], [], 16, []⟩) (fun p => p.1.1) ⟨(fu, 0), hxx20⟩ ⟨rF, rE, rfl, rfl, trivial, trivial⟩ (fun _ => Nat.le_refl _) ?_
  rintro ⟨⟨fu, n21⟩, h1⟩
  cases fu with
  | zero =>
   replace h1 : lI a1 b2 0 n21 = some x20 := h1
   rw [lI] at h1; cases h1
  | succ fu =>
   replace h1 : lI a1 b2 (fu + 1) n21 = some x20 := h1
   rw [lI] at h1
   refine (show pA _ _ _ _ ⟨[(0, .str a1), (1, .str b2), (5, .int .i64 n21)], [], 16, []⟩ from ?_)
   refine kA ?_
   obtain ⟨b22, hb22, h1⟩ := cA h1
   obtain ⟨b25, hb25, h1⟩ := cA h1
   refine yR (fr' := [(0, .str a1), (1, .str b2), (5, .int .i64 n21), (24, .bool b25)]) (hp' := []) [] 168 [0, 1, 5, 24] (fun _ => none) rfl rfl rfl (fun Kt hK => by
     cases hg26 : (decide (n21 < (a1.length : Int))) with
     | false =>
      replace hb22 := wA hb22 hg26
      have hqb22 := Option.some.inj hb22
      cases b22 with
      | false =>
       replace hb25 := wA hb25 rfl
       have hqb25 := Option.some.inj hb25
       subst hqb25
       simp (maxSteps := 1000000) only [↓reduceIte, reduceCtorEq, Nat.reduceEqDiff, Nat.reduceLT, Nat.reduceLeDiff, Nat.reduceAdd, Nat.reduceMul, Int.reduceToNat, push_cast, ↓hg26]
       try simp only [↓hg26] at hK
       all_goals exact nH
      | true =>
       cases hqb22
     | true =>
      replace hb22 := jB hb22 hg26
      have hqb22 := Option.some.inj hb22
      cases b22 with
      | false =>
       replace hb25 := wA hb25 rfl
       have hqb25 := Option.some.inj hb25
       subst hqb25
       simp (maxSteps := 1000000) only [↓reduceIte, reduceCtorEq, Nat.reduceEqDiff, Nat.reduceLT, Nat.reduceLeDiff, Nat.reduceAdd, Nat.reduceMul, Int.reduceToNat, push_cast, ↓hg26, ↓hqb22]
       try simp only [↓hg26, ↓hqb22] at hK
       all_goals exact nH
      | true =>
       replace hb25 := jB hb25 rfl
       obtain ⟨e23, he23, hb25⟩ := cA hb25
       obtain ⟨he23a, he23b, he23c⟩ := cB he23
       obtain ⟨e24, he24, hb25⟩ := cA hb25
       obtain ⟨he24a, he24b, he24c⟩ := cB he24
       have hqb25 := Option.some.inj hb25
       subst hqb25
       simp (maxSteps := 1000000) only [↓reduceIte, reduceCtorEq, Nat.reduceEqDiff, Nat.reduceLT, Nat.reduceLeDiff, Nat.reduceAdd, Nat.reduceMul, Int.reduceToNat, push_cast, ↓hg26, ↓hqb22, he23a, he23b, he23c, he23, he24a, he24b, he24c, he24]
       try simp only [↓hg26, ↓hqb22] at hK
       all_goals exact nH) ?_
   refine xI h1 rfl (fun h1 hb29 => ?_) (fun h1 hb29 => ?_)
   ·
    refine qA (dA (aC ?_))
    refine xR 192 [0, 1, 5] ?_
    refine sB (dA ?_)
    exact ⟨⟨(fu, (IntKind.i64.wrap (n21 + 1))), h1⟩, ⟨rF, rE, rfl, rfl, trivial, trivial⟩, Nat.lt_succ_self _⟩
   ·
    refine iC (dB (dB (jC ?_)))
    obtain rfl := Option.some.inj h1
    exact ⟨rL, ⟨rF, rE, rfl, rfl, trivial, trivial⟩⟩
theorem zag {fu : Nat} {a1 : List UInt8} {b2 : List UInt8} {r : Int} (h0 : qL fu a1 b2 = some r) : bB Tryz.prog 139 [.str a1, .str b2] (.int .i64 r) [] := by
 refine gB Tryz.func139 rfl (by decide) rL ?_
 dsimp only [Tryz.f139]
 rw [qL] at h0
 refine (show pA _ _ _ _ ⟨aB 0 _, [], 0, []⟩ from ?_)
 refine xS 8 [0, 1] ?_
 obtain ⟨vr3, hvr3, h0⟩ := cA h0
 refine nA 40 [0, 1, 5] (fun | 2 => some (.int .i64 vr3, []) | _ => none) rfl (fun _ _ => rC (zlq hvr3)) ?_
 refine kA ?_
 obtain ⟨b4, hb4, h0⟩ := cA h0
 refine nC (fr' := [(0, .str a1), (1, .str b2), (5, .int .i64 vr3), (18, .bool b4)]) (hp' := []) [] 120 [0, 1, 5, 18] (fun _ => none) rfl (fun Kt hK => by
   cases hg5 : (decide (vr3 = (a1.length : Int))) with
   | false =>
    replace hb4 := wA hb4 hg5
    have hqb4 := Option.some.inj hb4
    subst hqb4
    simp (maxSteps := 1000000) only [↓reduceIte, reduceCtorEq, Nat.reduceEqDiff, Nat.reduceLT, Nat.reduceLeDiff, Nat.reduceAdd, Nat.reduceMul, Int.reduceToNat, push_cast, ↓hg5]
    try simp only [↓hg5] at hK
    all_goals exact rU
   | true =>
    replace hb4 := jB hb4 hg5
    have hqb4 := Option.some.inj hb4
    subst hqb4
    simp (maxSteps := 1000000) only [↓reduceIte, reduceCtorEq, Nat.reduceEqDiff, Nat.reduceLT, Nat.reduceLeDiff, Nat.reduceAdd, Nat.reduceMul, Int.reduceToNat, push_cast, ↓hg5]
    try simp only [↓hg5] at hK
    all_goals exact rU) ?_
 refine xI h0 rfl (fun h0 hb6 => ?_) (fun h0 hb6 => ?_)
 ·
  refine xS 128 [4] ?_
  refine jA (mA ?_)
  obtain rfl := Option.some.inj h0
  refine lA [] ?_
  exact rG
 ·
  refine qA (dA (kA ?_))
  obtain ⟨b10, hb10, h0⟩ := cA h0
  refine yR (fr' := [(37, .bool b10)]) (hp' := []) [] 272 [37] (fun _ => none) rfl rfl rfl (fun Kt hK => by
    cases hg11 : (decide (vr3 = (a1.length : Int))) with
    | false =>
     replace hb10 := wA hb10 hg11
     obtain ⟨b9, hb9, hb10⟩ := cA hb10
     have hqb10 := Option.some.inj hb10
     cases hg12 : (decide (vr3 < (b2.length : Int))) with
     | false =>
      replace hb9 := wA hb9 hg12
      have hqb9 := Option.some.inj hb9
      subst hqb10
      subst hqb9
      simp (maxSteps := 1000000) only [↓reduceIte, reduceCtorEq, Nat.reduceEqDiff, Nat.reduceLT, Nat.reduceLeDiff, Nat.reduceAdd, Nat.reduceMul, Int.reduceToNat, push_cast, ↓hg11, ↓hg12]
      try simp only [↓hg11, ↓hg12] at hK
      all_goals exact nH
     | true =>
      replace hb9 := jB hb9 hg12
      obtain ⟨e7, he7, hb9⟩ := cA hb9
      obtain ⟨he7a, he7b, he7c⟩ := cB he7
      obtain ⟨e8, he8, hb9⟩ := cA hb9
      obtain ⟨he8a, he8b, he8c⟩ := cB he8
      have hqb9 := Option.some.inj hb9
      subst hqb10
      subst hqb9
      simp (maxSteps := 1000000) only [↓reduceIte, reduceCtorEq, Nat.reduceEqDiff, Nat.reduceLT, Nat.reduceLeDiff, Nat.reduceAdd, Nat.reduceMul, Int.reduceToNat, push_cast, ↓hg11, ↓hg12, he7a, he7b, he7c, he7, he8a, he8b, he8c, he8]
      try simp only [↓hg11, ↓hg12] at hK
      all_goals exact nH
    | true =>
     replace hb10 := jB hb10 hg11
     have hqb10 := Option.some.inj hb10
     subst hqb10
     simp (maxSteps := 1000000) only [↓reduceIte, reduceCtorEq, Nat.reduceEqDiff, Nat.reduceLT, Nat.reduceLeDiff, Nat.reduceAdd, Nat.reduceMul, Int.reduceToNat, push_cast, ↓hg11]
     try simp only [↓hg11] at hK
     all_goals exact nH) ?_
  refine xI h0 rfl (fun h0 hb13 => ?_) (fun h0 hb13 => ?_)
  ·
   refine xS 280 [4] ?_
   refine jA (mA ?_)
   obtain rfl := Option.some.inj h0
   refine lA [] ?_
   exact rG
  ·
   refine qA (dA ?_)
   refine xS 280 [4] ?_
   refine jA ?_
   obtain rfl := Option.some.inj h0
   refine lA [] ?_
   exact rG
theorem zbK {fu : Nat} {l1 : List aA} {r : Int × Int} (h0 : cP fu l1 = some r) : bB Tryz.prog 121 [.psl 4 (l1.map aA.enc)] (.tup [.int .i64 r.1, .int .i64 r.2]) [] := by
 refine gB Tryz.func121 rfl (by decide) rL ?_
 dsimp only [Tryz.f121]
 rw [cP] at h0
 refine (show pA _ _ _ _ ⟨aB 0 _, [], 0, []⟩ from ?_)
 refine xS 16 [0] ?_
 refine kA ?_
 refine xS 40 [0, 8] ?_
 refine xI h0 rfl (fun h0 hb2 => ?_) (fun h0 hb2 => ?_)
 ·
  refine xS 56 [2, 3] ?_
  refine jA (mA ?_)
  obtain rfl := Option.some.inj h0
  refine lA [] ?_
  exact rG
 ·
  refine qA (dA (kA ?_))
  refine xS 48 [0, 4] ?_
  obtain ⟨x28, hxx28, h0⟩ := cA h0
  refine pC (fun s' => ∃ o42 : Unit, x28 = .inl o42 ∧ s'.nx ≤ 80 ∧ LeN [] s' ⟨[], [], 80, []⟩) ?_ ?_
  ·
   intro s' hs
   obtain ⟨o42, rfl, hn, hs⟩ := hs
   refine dA ?_
   refine pB [] hn hs ?_
   refine xS 96 [2, 3] ?_
   refine jA ?_
   obtain rfl := Option.some.inj h0
   refine lA [] ?_
   exact rG
  ·
   refine mC (ι := { p : Nat × Int // oH l1 p.1 p.2 = some x28 }) (fun p => ⟨[(0, .psl 4 (List.map aA.enc l1)), (4, .int .i64 p.1.2)], [], 48, []⟩) (fun p => p.1.1) ⟨(fu, 0), hxx28⟩ ⟨rF, rE, rfl, rfl, trivial, trivial⟩ (fun _ => Nat.le_refl _) ?_
   rintro ⟨⟨fu, i29⟩, h1⟩
   cases fu with
   | zero =>
   replace h1 : oH l1 0 i29 = some x28 := h1
   rw [oH] at h1; cases h1
   | succ fu =>
    replace h1 : oH l1 (fu + 1) i29 = some x28 := h1
    rw [oH] at h1
    refine (show pA _ _ _ _ ⟨[(0, .psl 4 (List.map aA.enc l1)), (4, .int .i64 i29)], [], 48, []⟩ from ?_)
    refine kA ?_
    refine xS 80 [0, 4, 12] ?_
    refine xI h1 rfl (fun h1 hb30 => ?_) (fun h1 hb30 => ?_)
    ·
     refine qA (dA (kA (aC ?_)))
     obtain ⟨e31, he31, h1⟩ := cA h1
     obtain ⟨he31a, he31b, he31c⟩ := cB he31
     obtain ⟨vr32, hvr32, h1⟩ := cA h1
     refine nA 128 [0, 4, 5] (fun | 4 => some (.int .i64 vr32, []) | _ => none) rfl (fun _ _ => rB (rA he31a (rA he31b he31c)) (zgd hvr32)) ?_
     refine kA ?_
     obtain ⟨b33, hb33, h1⟩ := cA h1
     obtain ⟨b36, hb36, h1⟩ := cA h1
     refine yR (fr' := [(0, .psl 4 (List.map aA.enc l1)), (4, .int .i64 i29), (5, .int .i64 vr32), (40, .bool b36)]) (hp' := []) [] 296 [0, 4, 5, 40] (fun | 18 => (ix l1 (IntKind.i64.wrap (i29 - 1))).bind fun e34 => (qL fu e34.Key e31.Key).bind fun vr35 => some (.int .i64 vr35, []) | _ => none) rfl rfl rfl (fun Kt hK => by
       cases hg37 : (decide (vr32 = 0)) with
       | false =>
        replace hb33 := wA hb33 hg37
        have hqb33 := Option.some.inj hb33
        cases b33 with
        | false =>
         replace hb36 := wA hb36 rfl
         have hqb36 := Option.some.inj hb36
         subst hqb36
         simp (maxSteps := 1000000) only [↓reduceIte, reduceCtorEq, Nat.reduceEqDiff, Nat.reduceLT, Nat.reduceLeDiff, Nat.reduceAdd, Nat.reduceMul, Int.reduceToNat, push_cast, he31a, he31b, he31c, ↓hg37]
         try simp only [↓hg37] at hK
         try have q0 := zag hvr35
         all_goals exact nH
        | true =>
         cases hqb33
       | true =>
        replace hb33 := jB hb33 hg37
        have hqb33 := Option.some.inj hb33
        cases b33 with
        | false =>
         replace hb36 := wA hb36 rfl
         have hqb36 := Option.some.inj hb36
         subst hqb36
         simp (maxSteps := 1000000) only [↓reduceIte, reduceCtorEq, Nat.reduceEqDiff, Nat.reduceLT, Nat.reduceLeDiff, Nat.reduceAdd, Nat.reduceMul, Int.reduceToNat, push_cast, he31a, he31b, he31c, ↓hg37, ↓hqb33]
         try simp only [↓hg37, ↓hqb33] at hK
         try have q0 := zag hvr35
         all_goals exact nH
        | true =>
         replace hb36 := jB hb36 rfl
         obtain ⟨e34, he34, hb36⟩ := cA hb36
         obtain ⟨he34a, he34b, he34c⟩ := cB he34
         obtain ⟨vr35, hvr35, hb36⟩ := cA hb36
         have hqb36 := Option.some.inj hb36
         subst hqb36
         simp (maxSteps := 1000000) only [↓reduceIte, reduceCtorEq, Nat.reduceEqDiff, Nat.reduceLT, Nat.reduceLeDiff, Nat.reduceAdd, Nat.reduceMul, Int.reduceToNat, push_cast, he31a, he31b, he31c, ↓hg37, ↓hqb33, he34a, he34b, he34c, he34, hvr35]
         try simp only [↓hg37, ↓hqb33] at hK
         try have q0 := zag hvr35
         all_goals exact nH) ?_
     refine xI h1 rfl (fun h1 hb40 => ?_) (fun h1 hb40 => ?_)
     ·
      refine uB 304 [0, 4, 5] (fun _ => none) rfl (fun _ _ => rS (rA he31a (rA he31b he31c))) ?_
      refine dA ?_
      refine nA 320 [0, 4, 5, 42] (fun _ => none) rfl (fun _ _ => rS (rA he31a (rA he31b he31c))) ?_
      refine zK rfl ?_
      refine nA 352 [2, 3] (fun _ => none) rfl (fun _ _ => rS (rA he31a (rA he31b he31c))) ?_
      refine jA ?_
      obtain rfl := Option.some.inj h1
      refine eC (mA (mA (aD (mA ?_))))
      obtain rfl := Option.some.inj h0
      refine lA [] ?_
      simp (maxSteps := 1000000) only [↓reduceIte, reduceCtorEq, Nat.reduceEqDiff, Nat.reduceLT, Nat.reduceLeDiff, Nat.reduceAdd, Nat.reduceMul, Int.reduceToNat, push_cast, bC, he31a, he31b, he31c]
      all_goals exact rH
     ·
      refine qA (dA ?_)
      refine nA 312 [0, 4, 5, 42] (fun _ => none) rfl (fun _ _ => rS (rA he31a (rA he31b he31c))) ?_
      refine xI h1 rfl (fun h1 hb41 => ?_) (fun h1 hb41 => ?_)
      ·
       refine nA 344 [2, 3] (fun _ => none) rfl (fun _ _ => rS (rA he31a (rA he31b he31c))) ?_
       refine jA ?_
       obtain rfl := Option.some.inj h1
       refine eC (mA (mA (aD (mA ?_))))
       obtain rfl := Option.some.inj h0
       refine lA [] ?_
       simp (maxSteps := 1000000) only [↓reduceIte, reduceCtorEq, Nat.reduceEqDiff, Nat.reduceLT, Nat.reduceLeDiff, Nat.reduceAdd, Nat.reduceMul, Int.reduceToNat, push_cast, bC, he31a, he31b, he31c]
       all_goals exact rH
      ·
       refine qA (sB (dA ?_))
       refine uB 336 [0, 4] (fun _ => none) rfl (fun _ _ => rS (rA he31a (rA he31b he31c))) ?_
       refine dA ?_
       exact ⟨⟨(fu, (IntKind.i64.wrap (i29 + 1))), h1⟩, ⟨rF, rE, rfl, rfl, trivial, trivial⟩, Nat.lt_succ_self _⟩
    ·
     refine iC (dB (dB (jC ?_)))
     obtain rfl := Option.some.inj h1
     exact ⟨_, rfl, rL, ⟨rF, rE, rfl, rfl, trivial, trivial⟩⟩
theorem zfm {fu : Nat} {vr1 : zA} {r : Int × Int} (h0 : iX fu vr1 = some r) : bB Tryz.prog 101 [.agg (zA.enc vr1)] (.tup [.int .i64 r.1, .int .i64 r.2]) [] := by
 refine gB Tryz.func101 rfl (by decide) rL ?_
 dsimp only [Tryz.f101]
 rw [iX] at h0
 refine (show pA _ _ _ _ ⟨aB 0 _, [], 0, []⟩ from ?_)
 refine xS 24 [1] ?_
 refine kA ?_
 obtain ⟨b2, hb2, h0⟩ := cA h0
 refine nC (fr' := [(1, .ref 0 0 0 0), (11, .bool b2)]) (hp' := [(0, ⟨0, true, true, 2, [[.int .i64 vr1.Id, .psl 4 (List.map aA.enc vr1.Entries)]]⟩)]) [0] 88 [1, 11] (fun _ => none) rfl (fun Kt hK => by
   cases hg3 : (decide (vr1.Id < 1)) with
   | false =>
    replace hb2 := wA hb2 hg3
    have hqb2 := Option.some.inj hb2
    subst hqb2
    simp (maxSteps := 1000000) only [↓reduceIte, reduceCtorEq, Nat.reduceEqDiff, Nat.reduceLT, Nat.reduceLeDiff, Nat.reduceAdd, Nat.reduceMul, Int.reduceToNat, push_cast, ↓hg3]
    try simp only [↓hg3] at hK
    all_goals exact rU
   | true =>
    replace hb2 := jB hb2 hg3
    have hqb2 := Option.some.inj hb2
    subst hqb2
    simp (maxSteps := 1000000) only [↓reduceIte, reduceCtorEq, Nat.reduceEqDiff, Nat.reduceLT, Nat.reduceLeDiff, Nat.reduceAdd, Nat.reduceMul, Int.reduceToNat, push_cast, ↓hg3]
    try simp only [↓hg3] at hK
    all_goals exact rU) ?_
 refine xI h0 rfl (fun h0 hb4 => ?_) (fun h0 hb4 => ?_)
 ·
  refine xS 104 [2, 3] ?_
  refine jA (mA ?_)
  obtain rfl := Option.some.inj h0
  refine lA [] ?_
  exact rG
 ·
  refine qA (dA ?_)
  obtain ⟨vr5, hvr5, h0⟩ := cA h0
  refine nA 144 [2, 3] (fun | 2 => some (.tup [.int .i64 vr5.1, .int .i64 vr5.2], []) | _ => none) rfl (fun _ _ => rC (zbK hvr5)) ?_
  refine jA ?_
  obtain rfl := Option.some.inj h0
  refine lA [] ?_
  exact rG
theorem zjK {fu : Nat} {vr1 : zA} {most2 : Int} {ids3 : List Int} {r : Int} (h0 : gV fu vr1 most2 ids3 = some r) : bB Tryz.prog 73 [.agg (zA.enc vr1), .int .i64 most2, .psl 1 (ids3.map (gA .i64))] (.int .i64 r) [] := by
 refine gB Tryz.func73 rfl (by decide) rL ?_
 dsimp only [Tryz.f73]
 rw [gV] at h0
 refine (show pA _ _ _ _ ⟨aB 0 _, [], 0, []⟩ from ?_)
 refine xS 16 [1, 2, 3] ?_
 obtain ⟨vr4, hvr4, h0⟩ := cA h0
 refine nA 72 [1, 2, 3, 8] (fun | 1 => some (.tup [.int .i64 vr4.1, .int .i64 vr4.2], []) | _ => none) rfl (fun _ _ => rC (zfm hvr4)) ?_
 refine kA ?_
 refine xS 88 [1, 2, 3, 8, 16] ?_
 refine xI h0 rfl (fun h0 hb5 => ?_) (fun h0 hb5 => ?_)
 ·
  refine xS 104 [6] ?_
  refine jA (mA ?_)
  obtain rfl := Option.some.inj h0
  refine lA [] ?_
  exact rG
 ·
  refine qA (dA (kA ?_))
  refine xS 120 [1, 2, 3, 21] ?_
  refine xI h0 rfl (fun h0 hb6 => ?_) (fun h0 hb6 => ?_)
  ·
   refine xS 128 [6] ?_
   refine jA (mA ?_)
   obtain rfl := Option.some.inj h0
   refine lA [] ?_
   exact rG
  ·
   refine qA (dA (kA ?_))
   refine xS 160 [2, 3, 26] ?_
   refine xI h0 rfl (fun h0 hb7 => ?_) (fun h0 hb7 => ?_)
   ·
    refine xS 168 [6] ?_
    refine jA (mA ?_)
    obtain rfl := Option.some.inj h0
    refine lA [] ?_
    exact rG
   ·
    refine qA (dA (kA ?_))
    refine xS 168 [2, 3, 9] ?_
    obtain ⟨x15, hxx15, h0⟩ := cA h0
    refine pC (fun s' => ∃ o20 : Unit, x15 = .inl o20 ∧ s'.nx ≤ 200 ∧ LeN [] s' ⟨[], [(0, ⟨0, true, true, 2, [[.int .i64 vr1.Id, .psl 4 (List.map aA.enc vr1.Entries)]]⟩)], 200, []⟩) ?_ ?_
    ·
     intro s' hs
     obtain ⟨o20, rfl, hn, hs⟩ := hs
     refine dA ?_
     refine pB [] hn hs ?_
     refine xS 208 [6] ?_
     refine jA ?_
     obtain rfl := Option.some.inj h0
     refine lA [] ?_
     exact rG
    ·
     refine mC (ι := { p : Nat × Int // iJ ids3 vr1 p.1 p.2 = some x15 }) (fun p => ⟨[(2, .psl 1 (List.map (gA .i64) ids3)), (3, .ref 0 0 0 0), (9, .int .i64 p.1.2)], [(0, ⟨0, true, true, 2, [[.int .i64 vr1.Id, .psl 4 (List.map aA.enc vr1.Entries)]]⟩)], 168, []⟩) (fun p => p.1.1) ⟨(fu, 0), hxx15⟩ ⟨rF, rE, rfl, rfl, trivial, trivial⟩ (fun _ => Nat.le_refl _) ?_
     rintro ⟨⟨fu, i16⟩, h1⟩
     cases fu with
     | zero =>
   replace h1 : iJ ids3 vr1 0 i16 = some x15 := h1
   rw [iJ] at h1; cases h1
     | succ fu =>
      replace h1 : iJ ids3 vr1 (fu + 1) i16 = some x15 := h1
      rw [iJ] at h1
      refine (show pA _ _ _ _ ⟨[(2, .psl 1 (List.map (gA .i64) ids3)), (3, .ref 0 0 0 0), (9, .int .i64 i16)], [(0, ⟨0, true, true, 2, [[.int .i64 vr1.Id, .psl 4 (List.map aA.enc vr1.Entries)]]⟩)], 168, []⟩ from ?_)
      refine kA ?_
      refine xS 200 [2, 3, 9, 30] ?_
      refine xI h1 rfl (fun h1 hb17 => ?_) (fun h1 hb17 => ?_)
      ·
       refine qA (dA (kA (aC ?_)))
       obtain ⟨e18, he18, h1⟩ := cA h1
       obtain ⟨he18a, he18b, he18c⟩ := cB he18
       refine oC 256 [2, 3, 9, 39] (fun _ => none) rfl rfl rfl (fun _ _ => xD (rA he18a (rA he18b he18c))) ?_
       refine xI h1 rfl (fun h1 hb19 => ?_) (fun h1 hb19 => ?_)
       ·
        refine nA 264 [6] (fun _ => none) rfl (fun _ _ => rS (rA he18a (rA he18b he18c))) ?_
        refine jA ?_
        obtain rfl := Option.some.inj h1
        refine eC (mA (mA (aD (mA ?_))))
        obtain rfl := Option.some.inj h0
        refine lA [] ?_
        simp (maxSteps := 1000000) only [↓reduceIte, reduceCtorEq, Nat.reduceEqDiff, Nat.reduceLT, Nat.reduceLeDiff, Nat.reduceAdd, Nat.reduceMul, Int.reduceToNat, push_cast, bC, he18a, he18b, he18c]
        all_goals exact rH
       ·
        refine qA (sB (dA ?_))
        refine uB 280 [2, 3, 9] (fun _ => none) rfl (fun _ _ => rS (rA he18a (rA he18b he18c))) ?_
        refine dA ?_
        exact ⟨⟨(fu, (IntKind.i64.wrap (i16 + 1))), h1⟩, ⟨rF, rE, rfl, rfl, trivial, trivial⟩, Nat.lt_succ_self _⟩
      ·
       refine iC (dB (dB (jC ?_)))
       obtain rfl := Option.some.inj h1
       exact ⟨_, rfl, rL, ⟨rF, rE, rfl, rfl, trivial, trivial⟩⟩
theorem wW {fu : Nat} {l1 : uA} {r : Int × Int × Int} (h0 : vH fu l1 = some r) : bB Tryz.prog 42 [.agg (uA.enc l1)] (.tup [.int .i64 r.1, .int .i64 r.2.1, .int .i64 r.2.2]) [] := by
 refine gB Tryz.func42 rfl (by decide) rL ?_
 dsimp only [Tryz.f42]
 rw [vH] at h0
 refine (show pA _ _ _ _ ⟨aB 0 _, [], 0, []⟩ from ?_)
 refine xS 32 [1] ?_
 refine kA ?_
 obtain ⟨b2, hb2, h0⟩ := cA h0
 refine nC (fr' := [(1, .ref 0 0 0 0), (17, .bool b2)]) (hp' := [(0, ⟨0, true, true, 2, [[.int .i64 l1.B, .psl 1 (List.map sA.enc l1.Levels)]]⟩)]) [0] 96 [1, 17] (fun _ => none) rfl (fun Kt hK => by
   cases hg3 : (decide (l1.B < 1)) with
   | false =>
    replace hb2 := wA hb2 hg3
    have hqb2 := Option.some.inj hb2
    subst hqb2
    simp (maxSteps := 1000000) only [↓reduceIte, reduceCtorEq, Nat.reduceEqDiff, Nat.reduceLT, Nat.reduceLeDiff, Nat.reduceAdd, Nat.reduceMul, Int.reduceToNat, push_cast, ↓hg3]
    try simp only [↓hg3] at hK
    all_goals exact rU
   | true =>
    replace hb2 := jB hb2 hg3
    have hqb2 := Option.some.inj hb2
    subst hqb2
    simp (maxSteps := 1000000) only [↓reduceIte, reduceCtorEq, Nat.reduceEqDiff, Nat.reduceLT, Nat.reduceLeDiff, Nat.reduceAdd, Nat.reduceMul, Int.reduceToNat, push_cast, ↓hg3]
    try simp only [↓hg3] at hK
    all_goals exact rU) ?_
 refine xI h0 rfl (fun h0 hb4 => ?_) (fun h0 hb4 => ?_)
 ·
  refine xS 120 [2, 3, 4] ?_
  refine jA (mA ?_)
  obtain rfl := Option.some.inj h0
  refine lA [] ?_
  exact rG
 ·
  refine qA (dA (kA ?_))
  refine xS 128 [1, 21] ?_
  refine xI h0 rfl (fun h0 hb5 => ?_) (fun h0 hb5 => ?_)
  ·
   refine xS 152 [2, 3, 4] ?_
   refine jA (mA ?_)
   obtain rfl := Option.some.inj h0
   refine lA [] ?_
   exact rG
  ·
   refine qA (dA ?_)
   refine xS 136 [1, 5] ?_
   refine kA ?_
   refine xS 144 [1, 5, 6] ?_
   refine pB (s2 := ⟨[(1, .ref 0 0 0 0), (5, .sl 144 0 1 0 0), (6, .int .i64 0)], [(0, ⟨0, true, true, 2, [[.int .i64 l1.B, .psl 1 (List.map sA.enc l1.Levels)]]⟩), (144, ⟨0, true, true, 1, List.map (gA .i64) []⟩)], 145, []⟩) [(144, 1)] rL ⟨rF, rE, rfl, rfl, trivial, rN⟩ ?_
   obtain ⟨x102, hxx102, h0⟩ := cA h0
   refine pC (fun s' => ∃ o136 : List Int, ∃ g137 : Nat, x102 = .inl o136 ∧ s'.nx ≤ 185 ∧ LeN [] s' ⟨[(1, .ref 0 0 0 0)], [(0, ⟨0, true, true, 2, [[.int .i64 l1.B, .psl 1 (List.map sA.enc l1.Levels)]]⟩), (144, ⟨g137, true, true, 1, List.map (gA .i64) o136⟩)], 185, []⟩) ?_ ?_
   ·
    intro s' hs
    obtain ⟨o136, g137, rfl, hn, hs⟩ := hs
    refine dA ?_
    refine pB [] hn hs ?_
    refine kA ?_
    obtain ⟨b139, hb139, h0⟩ := cA h0
    refine nC (fr' := [(1, .ref 0 0 0 0), (84, .bool b139)]) (hp' := [(0, ⟨0, true, true, 2, [[.int .i64 l1.B, .psl 1 (List.map sA.enc l1.Levels)]]⟩), (144, ⟨g137, true, true, 1, List.map (gA .i64) o136⟩)]) [0, 144] 321 [1, 84] (fun _ => none) rfl (fun Kt hK => by
      cases hg140 : (decide (0 < (l1.Levels.length : Int))) with
      | false =>
       replace hb139 := wA hb139 hg140
       have hqb139 := Option.some.inj hb139
       subst hqb139
       simp (maxSteps := 1000000) only [↓reduceIte, reduceCtorEq, Nat.reduceEqDiff, Nat.reduceLT, Nat.reduceLeDiff, Nat.reduceAdd, Nat.reduceMul, Int.reduceToNat, push_cast, ↓hg140]
       try simp only [↓hg140] at hK
       all_goals exact rU
      | true =>
       replace hb139 := jB hb139 hg140
       obtain ⟨e138, he138, hb139⟩ := cA hb139
       obtain ⟨he138a, he138b, he138c⟩ := cB he138
       have hqb139 := Option.some.inj hb139
       subst hqb139
       simp (maxSteps := 1000000) only [↓reduceIte, reduceCtorEq, Nat.reduceEqDiff, Nat.reduceLT, Nat.reduceLeDiff, Nat.reduceAdd, Nat.reduceMul, Int.reduceToNat, push_cast, ↓hg140, he138a, he138b, he138c, he138]
       try simp only [↓hg140] at hK
       all_goals exact rU) ?_
    refine xI h0 rfl (fun h0 hb141 => ?_) (fun h0 hb141 => ?_)
    ·
     refine xS 377 [2, 3, 4] ?_
     refine jA (mA ?_)
     obtain rfl := Option.some.inj h0
     refine lA [] ?_
     exact rG
    ·
     refine qA (dA ?_)
     refine xS 345 [2, 3, 4] ?_
     refine jA ?_
     obtain rfl := Option.some.inj h0
     refine lA [] ?_
     exact rG
   ·
    refine mC (ι := { p : Nat × Int × List Int × Nat // fH l1 p.1 p.2.1 p.2.2.1 = some x102 }) (fun p => ⟨[(1, .ref 0 0 0 0), (5, .sl 144 p.1.2.2.2 1 0 p.1.2.2.1.length), (6, .int .i64 p.1.2.1)], [(0, ⟨0, true, true, 2, [[.int .i64 l1.B, .psl 1 (List.map sA.enc l1.Levels)]]⟩), (144, ⟨p.1.2.2.2, true, true, 1, List.map (gA .i64) p.1.2.2.1⟩)], 145, []⟩) (fun p => p.1.1) ⟨(fu, 0, [], 0), hxx102⟩ ⟨rF, rE, rfl, rfl, trivial, trivial⟩ (fun _ => Nat.le_refl _) ?_
    rintro ⟨⟨fu, i103, ids104, g105⟩, h1⟩
    cases fu with
    | zero =>
   replace h1 : fH l1 0 i103 ids104 = some x102 := h1
   rw [fH] at h1; cases h1
    | succ fu =>
     replace h1 : fH l1 (fu + 1) i103 ids104 = some x102 := h1
     rw [fH] at h1
     refine (show pA _ _ _ _ ⟨[(1, .ref 0 0 0 0), (5, .sl 144 g105 1 0 ids104.length), (6, .int .i64 i103)], [(0, ⟨0, true, true, 2, [[.int .i64 l1.B, .psl 1 (List.map sA.enc l1.Levels)]]⟩), (144, ⟨g105, true, true, 1, List.map (gA .i64) ids104⟩)], 145, []⟩ from ?_)
     refine kA ?_
     refine xS 185 [1, 5, 6, 26] ?_
     refine xI h1 rfl (fun h1 hb106 => ?_) (fun h1 hb106 => ?_)
     ·
      refine qA (dA (kA (aC ?_)))
      obtain ⟨e107, he107, h1⟩ := cA h1
      obtain ⟨he107a, he107b, he107c⟩ := cB he107
      refine nA 241 [1, 5, 6, 7] (fun _ => none) rfl (fun _ _ => rS (rA he107a (rA he107b he107c))) ?_
      refine kA ?_
      refine nA 265 [1, 5, 6, 7, 37] (fun _ => none) rfl (fun _ _ => rS (rA he107a (rA he107b he107c))) ?_
      refine xI h1 rfl (fun h1 hb108 => ?_) (fun h1 hb108 => ?_)
      ·
       refine nA 297 [2, 3, 4] (fun _ => none) rfl (fun _ _ => rS (rA he107a (rA he107b he107c))) ?_
       refine jA ?_
       obtain rfl := Option.some.inj h1
       refine mA (eC (mA (mA (aD (mA ?_)))))
       obtain rfl := Option.some.inj h0
       refine lA [] ?_
       simp (maxSteps := 1000000) only [↓reduceIte, reduceCtorEq, Nat.reduceEqDiff, Nat.reduceLT, Nat.reduceLeDiff, Nat.reduceAdd, Nat.reduceMul, Int.reduceToNat, push_cast, bC, he107a, he107b, he107c]
       all_goals exact rH
      ·
       refine qA (dA ?_)
       refine nA 273 [1, 5, 6, 7, 8] (fun _ => none) rfl (fun _ _ => rS (rA he107a (rA he107b he107c))) ?_
       obtain ⟨x124, hxx124, h1⟩ := cA h1
       refine pC (fun s' => ∃ o134 : List Int, ∃ g135 : Nat, x124 = .inl o134 ∧ s'.nx ≤ 305 ∧ LeN [] s' ⟨[(1, .ref 0 0 0 0), (5, .sl 144 g135 1 0 o134.length), (6, .int .i64 i103)], [(0, ⟨0, true, true, 2, [[.int .i64 l1.B, .psl 1 (List.map sA.enc l1.Levels)]]⟩), (144, ⟨g135, true, true, 1, List.map (gA .i64) o134⟩)], 305, []⟩) ?_ ?_
       ·
        intro s' hs
        obtain ⟨o134, g135, rfl, hn, hs⟩ := hs
        refine sB (dA ?_)
        refine pB [] hn hs ?_
        refine uB 329 [1, 5, 6] (fun _ => none) rfl (fun _ _ => rS (rA he107a (rA he107b he107c))) ?_
        refine dA ?_
        exact ⟨⟨(fu, (IntKind.i64.wrap (i103 + 1)), o134, g135), h1⟩, ⟨rF, rE, rfl, rfl, trivial, trivial⟩, Nat.lt_succ_self _⟩
       ·
        refine mC (ι := { p : Nat × Int × List Int × Nat // sH e107 l1 i103 p.1 p.2.1 p.2.2.1 = some x124 }) (fun p => ⟨[(1, .ref 0 0 0 0), (5, .sl 144 p.1.2.2.2 1 0 p.1.2.2.1.length), (6, .int .i64 i103), (7, .psl 2 (List.map zA.enc e107.Runs)), (8, .int .i64 p.1.2.1)], [(0, ⟨0, true, true, 2, [[.int .i64 l1.B, .psl 1 (List.map sA.enc l1.Levels)]]⟩), (144, ⟨p.1.2.2.2, true, true, 1, List.map (gA .i64) p.1.2.2.1⟩)], 273, []⟩) (fun p => p.1.1) ⟨(fu, 0, ids104, g105), hxx124⟩ ⟨rF, rE, rfl, rfl, trivial, trivial⟩ (fun _ => Nat.le_refl _) ?_
        rintro ⟨⟨fu, k125, ids126, g127⟩, h2⟩
        cases fu with
        | zero =>
   replace h2 : sH e107 l1 i103 0 k125 ids126 = some x124 := h2
   rw [sH] at h2; cases h2
        | succ fu =>
         replace h2 : sH e107 l1 i103 (fu + 1) k125 ids126 = some x124 := h2
         rw [sH] at h2
         refine (show pA _ _ _ _ ⟨[(1, .ref 0 0 0 0), (5, .sl 144 g127 1 0 ids126.length), (6, .int .i64 i103), (7, .psl 2 (List.map zA.enc e107.Runs)), (8, .int .i64 k125)], [(0, ⟨0, true, true, 2, [[.int .i64 l1.B, .psl 1 (List.map sA.enc l1.Levels)]]⟩), (144, ⟨g127, true, true, 1, List.map (gA .i64) ids126⟩)], 273, []⟩ from ?_)
         refine kA ?_
         refine nA 305 [1, 5, 6, 7, 8, 42] (fun _ => none) rfl (fun _ _ => rS (rA he107a (rA he107b he107c))) ?_
         refine xI h2 rfl (fun h2 hb128 => ?_) (fun h2 hb128 => ?_)
         ·
          refine qA (dA (kA (aC ?_)))
          obtain ⟨e129, he129, h2⟩ := cA h2
          obtain ⟨he129a, he129b, he129c⟩ := cB he129
          obtain ⟨vr130, hvr130, h2⟩ := cA h2
          obtain ⟨vr131, hvr131, h2⟩ := cA h2
          refine oC 393 [1, 5, 6, 7, 8, 9] (fun | 7 => some (.int .i64 vr130, []) | 9 => some (.int .i64 vr131, []) | _ => none) rfl rfl rfl (fun Kt hK => by
            try have q0 := zfq hvr130
            try have q1 := zjK hvr131
            exact xD (rA he107a (rA he107b (rA he107c (rA he129a (rA he129b he129c)))))) ?_
          refine kA ?_
          refine nA 409 [1, 5, 6, 7, 8, 9, 56] (fun _ => none) rfl (fun _ _ => rS (rA he107a (rA he107b (rA he107c (rA he129a (rA he129b he129c)))))) ?_
          refine xI h2 rfl (fun h2 hb132 => ?_) (fun h2 hb132 => ?_)
          ·
           refine nA 457 [2, 3, 4] (fun _ => none) rfl (fun _ _ => rS (rA he107a (rA he107b (rA he107c (rA he129a (rA he129b he129c)))))) ?_
           refine jA ?_
           obtain rfl := Option.some.inj h2
           obtain rfl := Option.some.inj h1
           refine mA (eC (mA (mA (aD (eC (mA (mA (aD (mA ?_)))))))))
           obtain rfl := Option.some.inj h0
           refine lA [] ?_
           simp (maxSteps := 1000000) only [↓reduceIte, reduceCtorEq, Nat.reduceEqDiff, Nat.reduceLT, Nat.reduceLeDiff, Nat.reduceAdd, Nat.reduceMul, Int.reduceToNat, push_cast, bC, he107a, he107b, he107c, he129a, he129b, he129c]
           all_goals exact rH
          ·
           refine qA (dA ?_)
           obtain ⟨hc133, h2⟩ := mD h2
           refine uB 481 [1, 5, 6, 7, 8] (fun _ => none) rfl (fun _ _ => rS (rA he107a (rA he107b (rA he107c (rA he129a (rA he129b he129c)))))) ?_
           refine sB (dA ?_)
           refine xE ⟨[(1, .ref 0 0 0 0), (5, .sl 144 (g127 + 1) 1 0 ((ids126 ++ [e129.Id]).length)), (6, .int .i64 i103), (7, .psl 2 (List.map zA.enc e107.Runs)), (8, .int .i64 k125)], [(0, ⟨0, true, true, 2, [[.int .i64 l1.B, .psl 1 (List.map sA.enc l1.Levels)]]⟩), (144, ⟨(g127 + 1), true, true, 1, List.map (gA .i64) (ids126 ++ [e129.Id])⟩)], 481, []⟩ ?_
           refine uB 505 [1, 5, 6, 7, 8] (fun _ => none) rfl (fun _ _ => rS (rA he107a (rA he107b (rA he107c (rA he129a (rA he129b he129c)))))) ?_
           refine dA ?_
           exact ⟨⟨(fu, (IntKind.i64.wrap (k125 + 1)), (ids126 ++ [e129.Id]), (g127 + 1)), h2⟩, ⟨rF, rE, rfl, rfl, trivial, trivial⟩, Nat.lt_succ_self _⟩
         ·
          refine iC (dB (dB (jC ?_)))
          obtain rfl := Option.some.inj h2
          exact ⟨_, g127, rfl, rL, ⟨rF, rE, rfl, rfl, trivial, trivial⟩⟩
     ·
      refine iC (dB (dB (jC ?_)))
      obtain rfl := Option.some.inj h1
      exact ⟨_, g105, rfl, rL, ⟨rF, rE, rfl, rfl, trivial, trivial⟩⟩
theorem ze0 {fu : Nat} {l1 : uA} {r : List zA × Int} (h0 : lU fu l1 = some r) : bB Tryz.prog 75 [.agg (uA.enc l1)] (.tup [.psl 2 (r.1.map zA.enc), .int .i64 r.2]) [] := by
 refine gB Tryz.func75 rfl (by decide) rL ?_
 dsimp only [Tryz.f75]
 rw [lU] at h0
 refine (show pA _ _ _ _ ⟨aB 0 _, [], 0, []⟩ from ?_)
 refine xS 24 [1] ?_
 obtain ⟨vr2, hvr2, h0⟩ := cA h0
 refine nA 96 [1, 6] (fun | 1 => some (.tup [.int .i64 vr2.1, .int .i64 vr2.2.1, .int .i64 vr2.2.2], []) | _ => none) rfl (fun _ _ => rC (wW hvr2)) ?_
 refine kA ?_
 refine xS 112 [1, 6, 17] ?_
 refine xI h0 rfl (fun h0 hb3 => ?_) (fun h0 hb3 => ?_)
 ·
  refine xS 136 [2, 3] ?_
  refine jA (mA ?_)
  obtain rfl := Option.some.inj h0
  refine lA [] ?_
  exact rG
 ·
  refine qA (dA ?_)
  refine xS 120 [1, 7] ?_
  refine kA ?_
  refine xS 128 [1, 7, 8] ?_
  refine pB (s2 := ⟨[(1, .ref 0 0 0 0), (7, .sl 128 0 2 0 0), (8, .int .i64 0)], [(0, ⟨0, true, true, 2, [[.int .i64 l1.B, .psl 1 (List.map sA.enc l1.Levels)]]⟩), (128, ⟨0, true, true, 2, List.map zA.enc []⟩)], 129, []⟩) [(128, 2)] rL ⟨rF, rE, rfl, rfl, trivial, rN⟩ ?_
  obtain ⟨x64, hxx64, h0⟩ := cA h0
  refine pC (fun s' => ∃ g87 : Nat, s'.nx ≤ 169 ∧ LeN [] s' ⟨[(7, .sl 128 g87 2 0 x64.length)], [(0, ⟨0, true, true, 2, [[.int .i64 l1.B, .psl 1 (List.map sA.enc l1.Levels)]]⟩), (128, ⟨g87, true, true, 2, List.map zA.enc x64⟩)], 169, []⟩) ?_ ?_
  ·
   intro s' hs
   obtain ⟨g87, hn, hs⟩ := hs
   refine dA ?_
   refine pB [] hn hs ?_
   refine xS 193 [2, 3] ?_
   refine jA ?_
   obtain rfl := Option.some.inj h0
   refine lA [] ?_
   exact rG
  ·
   refine mC (ι := { p : Nat × Int × List zA × Nat // eL l1 p.1 p.2.1 p.2.2.1 = some x64 }) (fun p => ⟨[(1, .ref 0 0 0 0), (7, .sl 128 p.1.2.2.2 2 0 p.1.2.2.1.length), (8, .int .i64 p.1.2.1)], [(0, ⟨0, true, true, 2, [[.int .i64 l1.B, .psl 1 (List.map sA.enc l1.Levels)]]⟩), (128, ⟨p.1.2.2.2, true, true, 2, List.map zA.enc p.1.2.2.1⟩)], 129, []⟩) (fun p => p.1.1) ⟨(fu, 0, [], 0), hxx64⟩ ⟨rF, rE, rfl, rfl, trivial, trivial⟩ (fun _ => Nat.le_refl _) ?_
   rintro ⟨⟨fu, i65, out66, g67⟩, h1⟩
   cases fu with
   | zero =>
   replace h1 : eL l1 0 i65 out66 = some x64 := h1
   rw [eL] at h1; cases h1
   | succ fu =>
    replace h1 : eL l1 (fu + 1) i65 out66 = some x64 := h1
    rw [eL] at h1
    refine (show pA _ _ _ _ ⟨[(1, .ref 0 0 0 0), (7, .sl 128 g67 2 0 out66.length), (8, .int .i64 i65)], [(0, ⟨0, true, true, 2, [[.int .i64 l1.B, .psl 1 (List.map sA.enc l1.Levels)]]⟩), (128, ⟨g67, true, true, 2, List.map zA.enc out66⟩)], 129, []⟩ from ?_)
    refine kA ?_
    refine xS 169 [1, 7, 8, 23] ?_
    refine xI h1 rfl (fun h1 hb68 => ?_) (fun h1 hb68 => ?_)
    ·
     refine qA (dA (kA (aC ?_)))
     obtain ⟨e69, he69, h1⟩ := cA h1
     obtain ⟨he69a, he69b, he69c⟩ := cB he69
     refine nA 241 [1, 7, 8, 9] (fun _ => none) rfl (fun _ _ => rS (rA he69a (rA he69b he69c))) ?_
     obtain ⟨x79, hxx79, h1⟩ := cA h1
     refine pC (fun s' => ∃ g86 : Nat, s'.nx ≤ 257 ∧ LeN [] s' ⟨[(1, .ref 0 0 0 0), (7, .sl 128 g86 2 0 x79.length), (8, .int .i64 i65)], [(0, ⟨0, true, true, 2, [[.int .i64 l1.B, .psl 1 (List.map sA.enc l1.Levels)]]⟩), (128, ⟨g86, true, true, 2, List.map zA.enc x79⟩)], 257, []⟩) ?_ ?_
     ·
      intro s' hs
      obtain ⟨g86, hn, hs⟩ := hs
      refine sB (dA ?_)
      refine pB [] hn hs ?_
      refine uB 281 [1, 7, 8] (fun _ => none) rfl (fun _ _ => rS (rA he69a (rA he69b he69c))) ?_
      refine dA ?_
      exact ⟨⟨(fu, (IntKind.i64.wrap (i65 + 1)), x79, g86), h1⟩, ⟨rF, rE, rfl, rfl, trivial, trivial⟩, Nat.lt_succ_self _⟩
     ·
      refine mC (ι := { p : Nat × Int × List zA × Nat // gI e69 p.1 p.2.1 p.2.2.1 = some x79 }) (fun p => ⟨[(1, .ref 0 0 0 0), (7, .sl 128 p.1.2.2.2 2 0 p.1.2.2.1.length), (8, .int .i64 i65), (9, .int .i64 p.1.2.1)], [(0, ⟨0, true, true, 2, [[.int .i64 l1.B, .psl 1 (List.map sA.enc l1.Levels)]]⟩), (128, ⟨p.1.2.2.2, true, true, 2, List.map zA.enc p.1.2.2.1⟩)], 241, []⟩) (fun p => p.1.1) ⟨(fu, (IntKind.i64.wrap ((e69.Runs.length : Int) - 1)), out66, g67), hxx79⟩ ⟨rF, rE, rfl, rfl, trivial, trivial⟩ (fun _ => Nat.le_refl _) ?_
      rintro ⟨⟨fu, k80, out81, g82⟩, h2⟩
      cases fu with
      | zero =>
   replace h2 : gI e69 0 k80 out81 = some x79 := h2
   rw [gI] at h2; cases h2
      | succ fu =>
       replace h2 : gI e69 (fu + 1) k80 out81 = some x79 := h2
       rw [gI] at h2
       refine (show pA _ _ _ _ ⟨[(1, .ref 0 0 0 0), (7, .sl 128 g82 2 0 out81.length), (8, .int .i64 i65), (9, .int .i64 k80)], [(0, ⟨0, true, true, 2, [[.int .i64 l1.B, .psl 1 (List.map sA.enc l1.Levels)]]⟩), (128, ⟨g82, true, true, 2, List.map zA.enc out81⟩)], 241, []⟩ from ?_)
       refine kA ?_
       refine nA 257 [1, 7, 8, 9, 35] (fun _ => none) rfl (fun _ _ => rS (rA he69a (rA he69b he69c))) ?_
       refine xI h2 rfl (fun h2 hb83 => ?_) (fun h2 hb83 => ?_)
       ·
        refine qA (dA (kA (aC ?_)))
        obtain ⟨e84, he84, h2⟩ := cA h2
        obtain ⟨he84a, he84b, he84c⟩ := cB he84
        obtain ⟨hc85, h2⟩ := mD h2
        refine uB 361 [1, 7, 8, 9] (fun _ => none) rfl (fun _ _ => rS (rA he69a (rA he69b (rA he69c (rA he84a (rA he84b he84c)))))) ?_
        refine sB (dA ?_)
        refine xE ⟨[(1, .ref 0 0 0 0), (7, .sl 128 (g82 + 1) 2 0 ((out81 ++ [e84]).length)), (8, .int .i64 i65), (9, .int .i64 k80)], [(0, ⟨0, true, true, 2, [[.int .i64 l1.B, .psl 1 (List.map sA.enc l1.Levels)]]⟩), (128, ⟨(g82 + 1), true, true, 2, List.map zA.enc (out81 ++ [e84])⟩)], 361, []⟩ ?_
        refine uB 385 [1, 7, 8, 9] (fun _ => none) rfl (fun _ _ => rS (rA he69a (rA he69b (rA he69c (rA he84a (rA he84b he84c)))))) ?_
        refine dA ?_
        exact ⟨⟨(fu, (IntKind.i64.wrap (k80 - 1)), (out81 ++ [e84]), (g82 + 1)), h2⟩, ⟨rF, rE, rfl, rfl, trivial, trivial⟩, Nat.lt_succ_self _⟩
       ·
        refine iC (dB (dB (jC ?_)))
        obtain rfl := Option.some.inj h2
        exact ⟨g82, rL, ⟨rF, rE, rfl, rfl, trivial, trivial⟩⟩
    ·
     refine iC (dB (dB (jC ?_)))
     obtain rfl := Option.some.inj h1
     exact ⟨g67, rL, ⟨rF, rE, rfl, rfl, trivial, trivial⟩⟩
theorem zhJ {fu : Nat} {l1 : uA} {r : Int} (h0 : fU fu l1 = some r) : bB Tryz.prog 43 [.agg (uA.enc l1)] (.int .i64 r) [] := by
 refine gB Tryz.func43 rfl (by decide) rL ?_
 dsimp only [Tryz.f43]
 rw [fU] at h0
 refine (show pA _ _ _ _ ⟨aB 0 _, [], 0, []⟩ from ?_)
 refine xS 16 [1] ?_
 obtain ⟨vr2, hvr2, h0⟩ := cA h0
 refine nA 72 [3] (fun | 1 => some (.tup [.psl 2 (vr2.1.map zA.enc), .int .i64 vr2.2], []) | _ => none) rfl (fun _ _ => rC (ze0 hvr2)) ?_
 refine xS 80 [3, 5] ?_
 refine kA ?_
 refine xS 88 [3, 5, 6] ?_
 obtain ⟨x9, hxx9, h0⟩ := cA h0
 refine pC (fun s' => s'.nx ≤ 120 ∧ LeN [] s' ⟨[(5, .int .i64 x9)], [], 120, []⟩) ?_ ?_
 ·
  intro s' hs
  obtain ⟨hn, hs⟩ := hs
  refine dA ?_
  refine pB [] hn hs ?_
  refine xS 136 [2] ?_
  refine jA ?_
  obtain rfl := Option.some.inj h0
  refine lA [] ?_
  exact rG
 ·
  refine mC (ι := { p : Nat × Int × Int // vK vr2 p.1 p.2.1 p.2.2 = some x9 }) (fun p => ⟨[(3, .psl 2 (List.map zA.enc vr2.1)), (5, .int .i64 p.1.2.1), (6, .int .i64 p.1.2.2)], [], 88, []⟩) (fun p => p.1.1) ⟨(fu, 0, 0), hxx9⟩ ⟨rF, rE, rfl, rfl, trivial, trivial⟩ (fun _ => Nat.le_refl _) ?_
  rintro ⟨⟨fu, best10, i11⟩, h1⟩
  cases fu with
  | zero =>
   replace h1 : vK vr2 0 best10 i11 = some x9 := h1
   rw [vK] at h1; cases h1
  | succ fu =>
   replace h1 : vK vr2 (fu + 1) best10 i11 = some x9 := h1
   rw [vK] at h1
   refine (show pA _ _ _ _ ⟨[(3, .psl 2 (List.map zA.enc vr2.1)), (5, .int .i64 best10), (6, .int .i64 i11)], [], 88, []⟩ from ?_)
   refine kA ?_
   refine xS 120 [3, 5, 6, 15] ?_
   refine xI h1 rfl (fun h1 hb12 => ?_) (fun h1 hb12 => ?_)
   ·
    refine qA (dA (kA (aC ?_)))
    obtain ⟨e13, he13, h1⟩ := cA h1
    obtain ⟨he13a, he13b, he13c⟩ := cB he13
    refine uB 184 [3, 5, 6] (fun _ => none) rfl (fun _ _ => rS (rA he13a (rA he13b he13c))) ?_
    refine sB (dA ?_)
    refine uB 208 [3, 5, 6] (fun _ => none) rfl (fun _ _ => rS (rA he13a (rA he13b he13c))) ?_
    refine dA ?_
    exact ⟨⟨(fu, (if best10 < e13.Id then e13.Id else best10), (IntKind.i64.wrap (i11 + 1))), h1⟩, ⟨rF, rE, rfl, rfl, trivial, trivial⟩, Nat.lt_succ_self _⟩
   ·
    refine iC (dB (dB (jC ?_)))
    obtain rfl := Option.some.inj h1
    exact ⟨rL, ⟨rF, rE, rfl, rfl, trivial, trivial⟩⟩
theorem zjh {fu : Nat} {l1 : uA} {r : List Int} (h0 : nU fu l1 = some r) : bB Tryz.prog 44 [.agg (uA.enc l1)] (.psl 1 (r.map (gA .i64))) [] := by
 refine gB Tryz.func44 rfl (by decide) rL ?_
 dsimp only [Tryz.f44]
 rw [nU] at h0
 refine (show pA _ _ _ _ ⟨aB 0 _, [], 0, []⟩ from ?_)
 refine xS 16 [1] ?_
 refine xS 24 [1, 3] ?_
 refine kA ?_
 refine xS 32 [1, 3, 4] ?_
 refine pB (s2 := ⟨[(1, .ref 0 0 0 0), (3, .sl 32 0 1 0 0), (4, .int .i64 0)], [(0, ⟨0, true, true, 2, [[.int .i64 l1.B, .psl 1 (List.map sA.enc l1.Levels)]]⟩), (32, ⟨0, true, true, 1, List.map (gA .i64) []⟩)], 33, []⟩) [(32, 1)] rL ⟨rF, rE, rfl, rfl, trivial, rN⟩ ?_
 obtain ⟨x15, hxx15, h0⟩ := cA h0
 refine pC (fun s' => ∃ g23 : Nat, s'.nx ≤ 73 ∧ LeN [] s' ⟨[(3, .sl 32 g23 1 0 x15.length)], [(0, ⟨0, true, true, 2, [[.int .i64 l1.B, .psl 1 (List.map sA.enc l1.Levels)]]⟩), (32, ⟨g23, true, true, 1, List.map (gA .i64) x15⟩)], 73, []⟩) ?_ ?_
 ·
  intro s' hs
  obtain ⟨g23, hn, hs⟩ := hs
  refine dA ?_
  refine pB [] hn hs ?_
  refine xS 89 [2] ?_
  refine jA ?_
  obtain rfl := Option.some.inj h0
  refine lA [] ?_
  exact rG
 ·
  refine mC (ι := { p : Nat × Int × List Int × Nat // bJ l1 p.1 p.2.1 p.2.2.1 = some x15 }) (fun p => ⟨[(1, .ref 0 0 0 0), (3, .sl 32 p.1.2.2.2 1 0 p.1.2.2.1.length), (4, .int .i64 p.1.2.1)], [(0, ⟨0, true, true, 2, [[.int .i64 l1.B, .psl 1 (List.map sA.enc l1.Levels)]]⟩), (32, ⟨p.1.2.2.2, true, true, 1, List.map (gA .i64) p.1.2.2.1⟩)], 33, []⟩) (fun p => p.1.1) ⟨(fu, 0, [], 0), hxx15⟩ ⟨rF, rE, rfl, rfl, trivial, trivial⟩ (fun _ => Nat.le_refl _) ?_
  rintro ⟨⟨fu, i16, out17, g18⟩, h1⟩
  cases fu with
  | zero =>
   replace h1 : bJ l1 0 i16 out17 = some x15 := h1
   rw [bJ] at h1; cases h1
  | succ fu =>
   replace h1 : bJ l1 (fu + 1) i16 out17 = some x15 := h1
   rw [bJ] at h1
   refine (show pA _ _ _ _ ⟨[(1, .ref 0 0 0 0), (3, .sl 32 g18 1 0 out17.length), (4, .int .i64 i16)], [(0, ⟨0, true, true, 2, [[.int .i64 l1.B, .psl 1 (List.map sA.enc l1.Levels)]]⟩), (32, ⟨g18, true, true, 1, List.map (gA .i64) out17⟩)], 33, []⟩ from ?_)
   refine kA ?_
   refine xS 73 [1, 3, 4, 9] ?_
   refine xI h1 rfl (fun h1 hb19 => ?_) (fun h1 hb19 => ?_)
   ·
    refine qA (dA (kA (aC ?_)))
    obtain ⟨e20, he20, h1⟩ := cA h1
    obtain ⟨he20a, he20b, he20c⟩ := cB he20
    refine nA 137 [1, 3, 4, 19] (fun _ => none) rfl (fun _ _ => rS (rA he20a (rA he20b he20c))) ?_
    refine xI h1 rfl (fun h1 hb21 => ?_) (fun h1 hb21 => ?_)
    ·
     obtain ⟨hc22, h1⟩ := mD h1
     refine uB 177 [1, 3, 4] (fun _ => none) rfl (fun _ _ => rS (rA he20a (rA he20b he20c))) ?_
     refine sB (dA ?_)
     refine xE ⟨[(1, .ref 0 0 0 0), (3, .sl 32 (g18 + 1) 1 0 ((out17 ++ [i16]).length)), (4, .int .i64 i16)], [(0, ⟨0, true, true, 2, [[.int .i64 l1.B, .psl 1 (List.map sA.enc l1.Levels)]]⟩), (32, ⟨(g18 + 1), true, true, 1, List.map (gA .i64) (out17 ++ [i16])⟩)], 177, []⟩ ?_
     refine uB 201 [1, 3, 4] (fun _ => none) rfl (fun _ _ => rS (rA he20a (rA he20b he20c))) ?_
     refine dA ?_
     exact ⟨⟨(fu, (IntKind.i64.wrap (i16 + 1)), (out17 ++ [i16]), (g18 + 1)), h1⟩, ⟨rF, rE, rfl, rfl, trivial, trivial⟩, Nat.lt_succ_self _⟩
    ·
     refine qA (sB (dA ?_))
     refine uB 161 [1, 3, 4] (fun _ => none) rfl (fun _ _ => rS (rA he20a (rA he20b he20c))) ?_
     refine dA ?_
     exact ⟨⟨(fu, (IntKind.i64.wrap (i16 + 1)), out17, g18), h1⟩, ⟨rF, rE, rfl, rfl, trivial, trivial⟩, Nat.lt_succ_self _⟩
   ·
    refine iC (dB (dB (jC ?_)))
    obtain rfl := Option.some.inj h1
    exact ⟨g18, rL, ⟨rF, rE, rfl, rfl, trivial, trivial⟩⟩
theorem zem {fu : Nat} {l1 : uA} {level2 : Int} {r : Int} (h0 : nV fu l1 level2 = some r) : bB Tryz.prog 102 [.agg (uA.enc l1), .int .i64 level2] (.int .i64 r) [] := by
 refine gB Tryz.func102 rfl (by decide) rL ?_
 dsimp only [Tryz.f102]
 rw [nV] at h0
 refine (show pA _ _ _ _ ⟨aB 0 _, [], 0, []⟩ from ?_)
 refine xS 16 [1, 2] ?_
 obtain ⟨vr3, hvr3, h0⟩ := cA h0
 refine nA 88 [1, 7] (fun | 1 => some (.tup [.int .i64 vr3.1, .int .i64 vr3.2.1, .int .i64 vr3.2.2], []) | _ => none) rfl (fun _ _ => rC (wW hvr3)) ?_
 refine kA ?_
 obtain ⟨b5, hb5, h0⟩ := cA h0
 refine nC (fr' := [(7, .int .i64 vr3.2.2), (23, .bool b5)]) (hp' := [(0, ⟨0, true, true, 2, [[.int .i64 l1.B, .psl 1 (List.map sA.enc l1.Levels)]]⟩)]) [0] 168 [7, 23] (fun _ => none) rfl (fun Kt hK => by
   cases hg6 : (decide (vr3.2.2 = 0)) with
   | false =>
    replace hb5 := wA hb5 hg6
    have hqb5 := Option.some.inj hb5
    subst hqb5
    simp (maxSteps := 1000000) only [↓reduceIte, reduceCtorEq, Nat.reduceEqDiff, Nat.reduceLT, Nat.reduceLeDiff, Nat.reduceAdd, Nat.reduceMul, Int.reduceToNat, push_cast, ↓hg6]
    try simp only [↓hg6] at hK
    all_goals exact rU
   | true =>
    replace hb5 := jB hb5 hg6
    obtain ⟨b4, hb4, hb5⟩ := cA hb5
    have hqb5 := Option.some.inj hb5
    cases hg7 : (decide (level2 < 0)) with
    | false =>
     replace hb4 := wA hb4 hg7
     have hqb4 := Option.some.inj hb4
     subst hqb5
     subst hqb4
     simp (maxSteps := 1000000) only [↓reduceIte, reduceCtorEq, Nat.reduceEqDiff, Nat.reduceLT, Nat.reduceLeDiff, Nat.reduceAdd, Nat.reduceMul, Int.reduceToNat, push_cast, ↓hg6, ↓hg7]
     try simp only [↓hg6, ↓hg7] at hK
     all_goals exact rU
    | true =>
     replace hb4 := jB hb4 hg7
     have hqb4 := Option.some.inj hb4
     subst hqb5
     subst hqb4
     simp (maxSteps := 1000000) only [↓reduceIte, reduceCtorEq, Nat.reduceEqDiff, Nat.reduceLT, Nat.reduceLeDiff, Nat.reduceAdd, Nat.reduceMul, Int.reduceToNat, push_cast, ↓hg6, ↓hg7]
     try simp only [↓hg6, ↓hg7] at hK
     all_goals exact rU) ?_
 refine xI h0 rfl (fun h0 hb8 => ?_) (fun h0 hb8 => ?_)
 ·
  refine xR 176 [7] ?_
  refine dA ?_
  refine xS 192 [4] ?_
  refine jA ?_
  obtain rfl := Option.some.inj h0
  refine lA [] ?_
  exact rG
 ·
  refine qA (dA ?_)
  refine xS 184 [4] ?_
  refine jA ?_
  obtain rfl := Option.some.inj h0
  refine lA [] ?_
  exact rG
theorem zgg {fu : Nat} {l1 : uA} {level2 : Int} {r : Bool × Int} (h0 : bX fu l1 level2 = some r) : bB Tryz.prog 76 [.agg (uA.enc l1), .int .i64 level2] (.tup [.bool r.1, .int .i64 r.2]) [] := by
 refine gB Tryz.func76 rfl (by decide) rL ?_
 dsimp only [Tryz.f76]
 rw [bX] at h0
 refine (show pA _ _ _ _ ⟨aB 0 _, [], 0, []⟩ from ?_)
 refine xS 24 [1, 2] ?_
 obtain ⟨vr3, hvr3, h0⟩ := cA h0
 refine nA 56 [1, 2, 6] (fun | 2 => some (.int .i64 vr3, []) | _ => none) rfl (fun _ _ => rC (zem hvr3)) ?_
 refine kA ?_
 refine xS 72 [1, 2, 6, 11] ?_
 refine xI h0 rfl (fun h0 hb4 => ?_) (fun h0 hb4 => ?_)
 ·
  refine xS 96 [4, 5] ?_
  refine jA (mA ?_)
  obtain rfl := Option.some.inj h0
  refine lA [] ?_
  exact rG
 ·
  refine qA (dA ?_)
  refine xS 136 [4, 5] ?_
  refine jA ?_
  obtain rfl := Option.some.inj h0
  refine lA [] ?_
  exact rG
theorem zc2 {fu : Nat} {l1 : uA} {level2 : Int} {r : Bool} (h0 : eR fu l1 level2 = some r) : bB Tryz.prog 45 [.agg (uA.enc l1), .int .i64 level2] (.bool r) [] := by
 refine gB Tryz.func45 rfl (by decide) rL ?_
 dsimp only [Tryz.f45]
 rw [eR] at h0
 refine (show pA _ _ _ _ ⟨aB 0 _, [], 0, []⟩ from ?_)
 refine xS 16 [1, 2] ?_
 obtain ⟨vr3, hvr3, h0⟩ := cA h0
 refine nA 80 [5] (fun | 2 => some (.tup [.bool vr3.1, .int .i64 vr3.2], []) | _ => none) rfl (fun _ _ => rC (zgg hvr3)) ?_
 refine xS 104 [4] ?_
 refine jA ?_
 obtain rfl := Option.some.inj h0
 refine lA [] ?_
 exact rG
theorem cZ {fu : Nat} {l1 : uA} {level2 : Int} {r : List zA} (h0 : wM fu l1 level2 = some r) : bB Tryz.prog 54 [.agg (uA.enc l1), .int .i64 level2] (.psl 2 (r.map zA.enc)) [] := by
 refine gB Tryz.func54 rfl (by decide) rL ?_
 dsimp only [Tryz.f54]
 rw [wM] at h0
 refine (show pA _ _ _ _ ⟨aB 0 _, [], 0, []⟩ from ?_)
 refine xS 16 [1, 2] ?_
 refine kA ?_
 refine xS 56 [1, 2, 9] ?_
 refine xI h0 rfl (fun h0 hb3 => ?_) (fun h0 hb3 => ?_)
 ·
  refine xS 64 [4] ?_
  refine jA (mA ?_)
  obtain rfl := Option.some.inj h0
  refine lA [] ?_
  exact rG
 ·
  refine qA (dA ?_)
  obtain ⟨e4, he4, h0⟩ := cA h0
  obtain ⟨he4a, he4b, he4c⟩ := cB he4
  refine nA 112 [4] (fun _ => none) rfl (fun _ _ => rS (rA he4a (rA he4b he4c))) ?_
  refine jA ?_
  obtain rfl := Option.some.inj h0
  refine lA [] ?_
  simp (maxSteps := 1000000) only [↓reduceIte, reduceCtorEq, Nat.reduceEqDiff, Nat.reduceLT, Nat.reduceLeDiff, Nat.reduceAdd, Nat.reduceMul, Int.reduceToNat, push_cast, bC, he4a, he4b, he4c]
  all_goals exact rH
theorem zmw {fu : Nat} {runs1 : List (List aA)} {r : Int × Int} (h0 : rP fu runs1 = some r) : bB Tryz.prog 94 [.psl 1 (runs1.map (vA 4 aA.enc))] (.tup [.int .i64 r.1, .int .i64 r.2]) [] := by
 refine gB Tryz.func94 rfl (by decide) rL ?_
 dsimp only [Tryz.f94]
 rw [rP] at h0
 refine (show pA _ _ _ _ ⟨aB 0 _, [], 0, []⟩ from ?_)
 refine xS 16 [0] ?_
 refine kA ?_
 refine xS 40 [0, 9] ?_
 refine xI h0 rfl (fun h0 hb2 => ?_) (fun h0 hb2 => ?_)
 ·
  refine xS 56 [2, 3] ?_
  refine jA (mA ?_)
  obtain rfl := Option.some.inj h0
  refine lA [] ?_
  exact rG
 ·
  refine qA (dA (kA ?_))
  refine xS 64 [0, 12] ?_
  refine xI h0 rfl (fun h0 hb3 => ?_) (fun h0 hb3 => ?_)
  ·
   refine xS 80 [2, 3] ?_
   refine jA (mA ?_)
   obtain rfl := Option.some.inj h0
   refine lA [] ?_
   exact rG
  ·
   refine qA (dA (kA ?_))
   refine xS 72 [0, 4] ?_
   obtain ⟨x13, hxx13, h0⟩ := cA h0
   refine pC (fun s' => ∃ o19 : Unit, x13 = .inl o19 ∧ s'.nx ≤ 104 ∧ LeN [] s' ⟨[], [], 104, []⟩) ?_ ?_
   ·
    intro s' hs
    obtain ⟨o19, rfl, hn, hs⟩ := hs
    refine dA ?_
    refine pB [] hn hs ?_
    refine xS 120 [2, 3] ?_
    refine jA ?_
    obtain rfl := Option.some.inj h0
    refine lA [] ?_
    exact rG
   ·
    refine mC (ι := { p : Nat × Int // gJ runs1 p.1 p.2 = some x13 }) (fun p => ⟨[(0, .psl 1 (List.map (vA 4 aA.enc) runs1)), (4, .int .i64 p.1.2)], [], 72, []⟩) (fun p => p.1.1) ⟨(fu, 0), hxx13⟩ ⟨rF, rE, rfl, rfl, trivial, trivial⟩ (fun _ => Nat.le_refl _) ?_
    rintro ⟨⟨fu, i14⟩, h1⟩
    cases fu with
    | zero =>
   replace h1 : gJ runs1 0 i14 = some x13 := h1
   rw [gJ] at h1; cases h1
    | succ fu =>
     replace h1 : gJ runs1 (fu + 1) i14 = some x13 := h1
     rw [gJ] at h1
     refine (show pA _ _ _ _ ⟨[(0, .psl 1 (List.map (vA 4 aA.enc) runs1)), (4, .int .i64 i14)], [], 72, []⟩ from ?_)
     refine kA ?_
     refine xS 104 [0, 4, 16] ?_
     refine xI h1 rfl (fun h1 hb15 => ?_) (fun h1 hb15 => ?_)
     ·
      refine qA (dA (kA (aC ?_)))
      obtain ⟨e16, he16, h1⟩ := cA h1
      obtain ⟨he16a, he16b, he16c⟩ := cB he16
      obtain ⟨vr17, hvr17, h1⟩ := cA h1
      refine nA 184 [0, 4, 6] (fun | 4 => some (.tup [.int .i64 vr17.1, .int .i64 vr17.2], []) | _ => none) rfl (fun _ _ => rB (rA he16a (rA he16b he16c)) (zbK hvr17)) ?_
      refine nA 200 [0, 4, 6, 28] (fun _ => none) rfl (fun _ _ => rS (rA he16a (rA he16b he16c))) ?_
      refine xI h1 rfl (fun h1 hb18 => ?_) (fun h1 hb18 => ?_)
      ·
       refine nA 232 [2, 3] (fun _ => none) rfl (fun _ _ => rS (rA he16a (rA he16b he16c))) ?_
       refine jA ?_
       obtain rfl := Option.some.inj h1
       refine eC (mA (mA (aD (mA ?_))))
       obtain rfl := Option.some.inj h0
       refine lA [] ?_
       simp (maxSteps := 1000000) only [↓reduceIte, reduceCtorEq, Nat.reduceEqDiff, Nat.reduceLT, Nat.reduceLeDiff, Nat.reduceAdd, Nat.reduceMul, Int.reduceToNat, push_cast, bC, he16a, he16b, he16c]
       all_goals exact rH
      ·
       refine qA (sB (dA ?_))
       refine uB 224 [0, 4] (fun _ => none) rfl (fun _ _ => rS (rA he16a (rA he16b he16c))) ?_
       refine dA ?_
       exact ⟨⟨(fu, (IntKind.i64.wrap (i14 + 1))), h1⟩, ⟨rF, rE, rfl, rfl, trivial, trivial⟩, Nat.lt_succ_self _⟩
     ·
      refine iC (dB (dB (jC ?_)))
      obtain rfl := Option.some.inj h1
      exact ⟨_, rfl, rL, ⟨rF, rE, rfl, rfl, trivial, trivial⟩⟩
theorem zf0 {fu : Nat} {keys1 : List eA} {r : Int} (h0 : fT fu keys1 = some r) : bB Tryz.prog 136 [.psl 2 (keys1.map eA.enc)] (.int .i64 r) [] := by
 refine gB Tryz.func136 rfl (by decide) rL ?_
 dsimp only [Tryz.f136]
 rw [fT] at h0
 refine (show pA _ _ _ _ ⟨aB 0 _, [], 0, []⟩ from ?_)
 refine xS 8 [0] ?_
 refine kA ?_
 refine xS 32 [0, 6] ?_
 refine xI h0 rfl (fun h0 hb2 => ?_) (fun h0 hb2 => ?_)
 ·
  refine xS 40 [2] ?_
  refine jA (mA ?_)
  obtain rfl := Option.some.inj h0
  refine lA [] ?_
  exact rG
 ·
  refine qA (dA (kA ?_))
  refine xS 56 [0, 9] ?_
  refine xI h0 rfl (fun h0 hb3 => ?_) (fun h0 hb3 => ?_)
  ·
   refine xS 64 [2] ?_
   refine jA (mA ?_)
   obtain rfl := Option.some.inj h0
   refine lA [] ?_
   exact rG
  ·
   refine qA (dA (kA ?_))
   refine xS 64 [0, 3] ?_
   obtain ⟨x15, hxx15, h0⟩ := cA h0
   refine pC (fun s' => ∃ o22 : Unit, x15 = .inl o22 ∧ s'.nx ≤ 96 ∧ LeN [] s' ⟨[], [], 96, []⟩) ?_ ?_
   ·
    intro s' hs
    obtain ⟨o22, rfl, hn, hs⟩ := hs
    refine dA ?_
    refine pB [] hn hs ?_
    refine xS 104 [2] ?_
    refine jA ?_
    obtain rfl := Option.some.inj h0
    refine lA [] ?_
    exact rG
   ·
    refine mC (ι := { p : Nat × Int // xK keys1 p.1 p.2 = some x15 }) (fun p => ⟨[(0, .psl 2 (List.map eA.enc keys1)), (3, .int .i64 p.1.2)], [], 64, []⟩) (fun p => p.1.1) ⟨(fu, 0), hxx15⟩ ⟨rF, rE, rfl, rfl, trivial, trivial⟩ (fun _ => Nat.le_refl _) ?_
    rintro ⟨⟨fu, i16⟩, h1⟩
    cases fu with
    | zero =>
   replace h1 : xK keys1 0 i16 = some x15 := h1
   rw [xK] at h1; cases h1
    | succ fu =>
     replace h1 : xK keys1 (fu + 1) i16 = some x15 := h1
     rw [xK] at h1
     refine (show pA _ _ _ _ ⟨[(0, .psl 2 (List.map eA.enc keys1)), (3, .int .i64 i16)], [], 64, []⟩ from ?_)
     refine kA ?_
     refine xS 96 [0, 3, 13] ?_
     refine xI h1 rfl (fun h1 hb17 => ?_) (fun h1 hb17 => ?_)
     ·
      refine qA (dA (kA (aC ?_)))
      obtain ⟨e18, he18, h1⟩ := cA h1
      obtain ⟨he18a, he18b, he18c⟩ := cB he18
      obtain ⟨b19, hb19, h1⟩ := cA h1
      refine nC (fr' := [(0, .psl 2 (List.map eA.enc keys1)), (3, .int .i64 i16), (28, .bool b19)]) (hp' := []) [] 200 [0, 3, 28] (fun _ => none) rfl (fun Kt hK => by
        cases hg20 : e18.Done with
        | false =>
         replace hb19 := wA hb19 hg20
         have hqb19 := Option.some.inj hb19
         subst hqb19
         simp (maxSteps := 1000000) only [↓reduceIte, reduceCtorEq, Nat.reduceEqDiff, Nat.reduceLT, Nat.reduceLeDiff, Nat.reduceAdd, Nat.reduceMul, Int.reduceToNat, push_cast, he18a, he18b, he18c, ↓hg20]
         try simp only [↓hg20] at hK
         all_goals exact rU
        | true =>
         replace hb19 := jB hb19 hg20
         have hqb19 := Option.some.inj hb19
         subst hqb19
         simp (maxSteps := 1000000) only [↓reduceIte, reduceCtorEq, Nat.reduceEqDiff, Nat.reduceLT, Nat.reduceLeDiff, Nat.reduceAdd, Nat.reduceMul, Int.reduceToNat, push_cast, he18a, he18b, he18c, ↓hg20]
         try simp only [↓hg20] at hK
         all_goals exact rU) ?_
      refine xI h1 rfl (fun h1 hb21 => ?_) (fun h1 hb21 => ?_)
      ·
       refine nA 208 [2] (fun _ => none) rfl (fun _ _ => rS (rA he18a (rA he18b he18c))) ?_
       refine jA ?_
       obtain rfl := Option.some.inj h1
       refine eC (mA (mA (aD (mA ?_))))
       obtain rfl := Option.some.inj h0
       refine lA [] ?_
       simp (maxSteps := 1000000) only [↓reduceIte, reduceCtorEq, Nat.reduceEqDiff, Nat.reduceLT, Nat.reduceLeDiff, Nat.reduceAdd, Nat.reduceMul, Int.reduceToNat, push_cast, bC, he18a, he18b, he18c]
       all_goals exact rH
      ·
       refine qA (sB (dA ?_))
       refine uB 224 [0, 3] (fun _ => none) rfl (fun _ _ => rS (rA he18a (rA he18b he18c))) ?_
       refine dA ?_
       exact ⟨⟨(fu, (IntKind.i64.wrap (i16 + 1))), h1⟩, ⟨rF, rE, rfl, rfl, trivial, trivial⟩, Nat.lt_succ_self _⟩
     ·
      refine iC (dB (dB (jC ?_)))
      obtain rfl := Option.some.inj h1
      exact ⟨_, rfl, rL, ⟨rF, rE, rfl, rfl, trivial, trivial⟩⟩
theorem zl6 {fu : Nat} {keys1 : List eA} {p2 : Int} {q3 : Int} {r : Bool} (h0 : kU fu keys1 p2 q3 = some r) : bB Tryz.prog 152 [.psl 2 (keys1.map eA.enc), .int .i64 p2, .int .i64 q3] (.bool r) [] := by
 refine gB Tryz.func152 rfl (by decide) rL ?_
 dsimp only [Tryz.f152]
 rw [kU] at h0
 refine (show pA _ _ _ _ ⟨aB 0 _, [], 0, []⟩ from ?_)
 refine xS 8 [0, 1, 2] ?_
 obtain ⟨e4, he4, h0⟩ := cA h0
 obtain ⟨he4a, he4b, he4c⟩ := cB he4
 obtain ⟨e5, he5, h0⟩ := cA h0
 obtain ⟨he5a, he5b, he5c⟩ := cB he5
 refine oC 104 [1, 2, 7, 8] (fun _ => none) rfl rfl rfl (fun _ _ => xD (rA he4a (rA he4b (rA he4c (rA he5a (rA he5b he5c)))))) ?_
 refine kA ?_
 refine nA 144 [1, 2, 7, 8, 21] (fun _ => none) rfl (fun _ _ => rS (rA he4a (rA he4b (rA he4c (rA he5a (rA he5b he5c)))))) ?_
 refine xI h0 rfl (fun h0 hb6 => ?_) (fun h0 hb6 => ?_)
 ·
  refine nA 168 [6] (fun _ => none) rfl (fun _ _ => rS (rA he4a (rA he4b (rA he4c (rA he5a (rA he5b he5c)))))) ?_
  refine jA (mA ?_)
  obtain rfl := Option.some.inj h0
  refine lA [] ?_
  simp (maxSteps := 1000000) only [↓reduceIte, reduceCtorEq, Nat.reduceEqDiff, Nat.reduceLT, Nat.reduceLeDiff, Nat.reduceAdd, Nat.reduceMul, Int.reduceToNat, push_cast, bC, he4a, he4b, he4c, he5a, he5b, he5c]
  all_goals exact rH
 ·
  refine qA (dA (kA ?_))
  obtain ⟨b7, hb7, h0⟩ := cA h0
  refine nC (fr' := [(1, .int .i64 p2), (2, .int .i64 q3), (7, .ref 72 0 0 0), (8, .ref 80 0 0 0), (33, .bool b7)]) (hp' := [(72, ⟨0, true, true, 2, [[.str e4.Key, .bool e4.Done]]⟩), (80, ⟨0, true, true, 2, [[.str e5.Key, .bool e5.Done]]⟩)]) [72, 80] 224 [1, 2, 7, 8, 33] (fun _ => none) rfl (fun Kt hK => by
    cases hg8 : (!e4.Done) with
    | false =>
     replace hb7 := wA hb7 hg8
     have hqb7 := Option.some.inj hb7
     subst hqb7
     simp (maxSteps := 1000000) only [↓reduceIte, reduceCtorEq, Nat.reduceEqDiff, Nat.reduceLT, Nat.reduceLeDiff, Nat.reduceAdd, Nat.reduceMul, Int.reduceToNat, push_cast, he4a, he4b, he4c, he5a, he5b, he5c, ↓hg8]
     try simp only [↓hg8] at hK
     all_goals exact rU
    | true =>
     replace hb7 := jB hb7 hg8
     have hqb7 := Option.some.inj hb7
     subst hqb7
     simp (maxSteps := 1000000) only [↓reduceIte, reduceCtorEq, Nat.reduceEqDiff, Nat.reduceLT, Nat.reduceLeDiff, Nat.reduceAdd, Nat.reduceMul, Int.reduceToNat, push_cast, he4a, he4b, he4c, he5a, he5b, he5c, ↓hg8]
     try simp only [↓hg8] at hK
     all_goals exact rU) ?_
  refine xI h0 rfl (fun h0 hb9 => ?_) (fun h0 hb9 => ?_)
  ·
   refine nA 272 [6] (fun _ => none) rfl (fun _ _ => rS (rA he4a (rA he4b (rA he4c (rA he5a (rA he5b he5c)))))) ?_
   refine jA (mA ?_)
   obtain rfl := Option.some.inj h0
   refine lA [] ?_
   simp (maxSteps := 1000000) only [↓reduceIte, reduceCtorEq, Nat.reduceEqDiff, Nat.reduceLT, Nat.reduceLeDiff, Nat.reduceAdd, Nat.reduceMul, Int.reduceToNat, push_cast, bC, he4a, he4b, he4c, he5a, he5b, he5c]
   all_goals exact rH
  ·
   refine qA (dA ?_)
   refine nA 256 [6] (fun _ => none) rfl (fun _ _ => rS (rA he4a (rA he4b (rA he4c (rA he5a (rA he5b he5c)))))) ?_
   refine jA ?_
   obtain rfl := Option.some.inj h0
   refine lA [] ?_
   simp (maxSteps := 1000000) only [↓reduceIte, reduceCtorEq, Nat.reduceEqDiff, Nat.reduceLT, Nat.reduceLeDiff, Nat.reduceAdd, Nat.reduceMul, Int.reduceToNat, push_cast, bC, he4a, he4b, he4c, he5a, he5b, he5c]
   all_goals exact rH
theorem zco {fu : Nat} : ∀ {keys1 : List eA} {node2 : Int} {r : Int × Int}, aK fu keys1 node2 = some r → bB Tryz.prog 147 [.psl 2 (keys1.map eA.enc), .int .i64 node2] (.tup [.int .i64 r.1, .int .i64 r.2]) [] := by
 induction fu with
 | zero => intro keys1 node2 r h0; rw [aK] at h0; cases h0
 | succ fu ih =>
 intro keys1 node2 r h0
 refine gB Tryz.func147 rfl (by decide) rL ?_
 dsimp only [Tryz.f147]
 rw [aK] at h0
 refine (show pA _ _ _ _ ⟨aB 0 _, [], 0, []⟩ from ?_)
 refine xS 16 [0, 1] ?_
 refine xS 40 [0, 1, 6] ?_
 refine kA ?_
 refine xS 64 [0, 1, 6, 15] ?_
 refine xI h0 rfl (fun h0 hb3 => ?_) (fun h0 hb3 => ?_)
 ·
  refine xS 104 [4, 5] ?_
  refine jA (mA ?_)
  obtain rfl := Option.some.inj h0
  refine lA [] ?_
  exact rG
 ·
  refine qA (dA ?_)
  obtain ⟨vr4, hvr4, h0⟩ := cA h0
  refine nA 136 [0, 1, 7] (fun | 3 => some (.tup [.int .i64 vr4.1, .int .i64 vr4.2], []) | _ => none) rfl (fun Kt hK => by
    simp (maxSteps := 1000000) only [↓reduceIte, reduceCtorEq, Nat.reduceEqDiff, Nat.reduceLT, Nat.reduceLeDiff, Nat.reduceAdd, Nat.reduceMul, Int.reduceToNat, push_cast]
    repeat' (first | exact hK | exact ih hvr4 | refine And.intro ?_ ?_ | exact Nat.le_refl _ | assumption | omega | (intro _) | (simp; done))) ?_
  obtain ⟨vr5, hvr5, h0⟩ := cA h0
  refine nA 216 [0, 7, 9] (fun | 4 => some (.tup [.int .i64 vr5.1, .int .i64 vr5.2], []) | _ => none) rfl (fun Kt hK => by
    simp (maxSteps := 1000000) only [↓reduceIte, reduceCtorEq, Nat.reduceEqDiff, Nat.reduceLT, Nat.reduceLeDiff, Nat.reduceAdd, Nat.reduceMul, Int.reduceToNat, push_cast]
    repeat' (first | exact hK | exact ih hvr5 | refine And.intro ?_ ?_ | exact Nat.le_refl _ | assumption | omega | (intro _) | (simp; done))) ?_
  refine kA ?_
  obtain ⟨vr6, hvr6, h0⟩ := cA h0
  refine nA 248 [7, 9, 37] (fun | 3 => some (.bool vr6, []) | _ => none) rfl (fun _ _ => rC (zl6 hvr6)) ?_
  refine xI h0 rfl (fun h0 hb7 => ?_) (fun h0 hb7 => ?_)
  ·
   refine xS 280 [4, 5] ?_
   refine jA (mA ?_)
   obtain rfl := Option.some.inj h0
   refine lA [] ?_
   exact rG
  ·
   refine qA (dA ?_)
   refine xS 280 [4, 5] ?_
   refine jA ?_
   obtain rfl := Option.some.inj h0
   refine lA [] ?_
   exact rG
theorem zgI {fu : Nat} {keys1 : List eA} {r : eB} (h0 : qT fu keys1 = some r) : bB Tryz.prog 137 [.psl 2 (keys1.map eA.enc)] (.agg (eB.enc r)) [] := by
 refine gB Tryz.func137 rfl (by decide) rL ?_
 dsimp only [Tryz.f137]
 rw [qT] at h0
 refine (show pA _ _ _ _ ⟨aB 0 _, [], 0, []⟩ from ?_)
 refine xS 8 [0, 2] ?_
 obtain ⟨hc2, h0⟩ := mD h0
 obtain ⟨hc3, h0⟩ := mD h0
 refine oC 80 [0, 2, 3] (fun _ => none) rfl rfl rfl (fun _ _ => jF) ?_
 refine xE ⟨[(0, .psl 2 (List.map eA.enc keys1)), (2, .ref 0 0 0 0), (3, .ref 64 0 0 0)], [(0, ⟨0, true, true, 3, [[.nils, .nils, .int .i64 0]]⟩), (8, ⟨1, true, true, 2, List.map eA.enc keys1⟩), (48, ⟨0, true, true, 1, List.map (gA .i64) (List.replicate keys1.length 0 : List Int)⟩), (64, ⟨0, true, false, 3, [[.sl 8 1 2 0 keys1.length, .sl 48 0 1 0 ((List.replicate keys1.length 0 : List Int).length), .int .i64 0]]⟩)], 80, []⟩ ?_
 refine kA ?_
 refine xS 88 [0, 2, 3, 4] ?_
 obtain ⟨x13, hxx13, h0⟩ := cA h0
 refine pC (fun s' => ∃ g20 : Nat, s'.nx ≤ 120 ∧ LeN [] s' ⟨[(0, .psl 2 (List.map eA.enc keys1)), (2, .ref 0 0 0 0), (3, .ref 64 0 0 0)], [(0, ⟨0, true, true, 3, [[.nils, .nils, .int .i64 0]]⟩), (8, ⟨1, true, true, 2, List.map eA.enc keys1⟩), (48, ⟨g20, true, true, 1, List.map (gA .i64) x13⟩), (64, ⟨0, true, false, 3, [[.sl 8 1 2 0 keys1.length, .sl 48 g20 1 0 x13.length, .int .i64 0]]⟩)], 120, []⟩) ?_ ?_
 ·
  intro s' hs
  obtain ⟨g20, hn, hs⟩ := hs
  refine dA ?_
  refine pB [] hn hs ?_
  obtain ⟨vr21, hvr21, h0⟩ := cA h0
  refine nA 176 [2, 3] (fun | 1 => some (.tup [.int .i64 vr21.1, .int .i64 vr21.2], []) | _ => none) rfl (fun _ _ => rC (zco hvr21)) ?_
  refine xS 192 [2] ?_
  refine jA ?_
  obtain rfl := Option.some.inj h0
  refine lA [] ?_
  exact rG
 ·
  refine mC (ι := { p : Nat × Int × List Int × Nat // tL keys1 p.1 p.2.1 p.2.2.1 = some x13 }) (fun p => ⟨[(0, .psl 2 (List.map eA.enc keys1)), (2, .ref 0 0 0 0), (3, .ref 64 0 0 0), (4, .int .i64 p.1.2.1)], [(0, ⟨0, true, true, 3, [[.nils, .nils, .int .i64 0]]⟩), (8, ⟨1, true, true, 2, List.map eA.enc keys1⟩), (48, ⟨p.1.2.2.2, true, true, 1, List.map (gA .i64) p.1.2.2.1⟩), (64, ⟨0, true, false, 3, [[.sl 8 1 2 0 keys1.length, .sl 48 p.1.2.2.2 1 0 p.1.2.2.1.length, .int .i64 0]]⟩)], 88, []⟩) (fun p => p.1.1) ⟨(fu, 1, (List.replicate keys1.length 0 : List Int), 0), hxx13⟩ ⟨rF, rE, rfl, rfl, trivial, trivial⟩ (fun _ => Nat.le_refl _) ?_
  rintro ⟨⟨fu, i14, v15, g16⟩, h1⟩
  cases fu with
  | zero =>
   replace h1 : tL keys1 0 i14 v15 = some x13 := h1
   rw [tL] at h1; cases h1
  | succ fu =>
   replace h1 : tL keys1 (fu + 1) i14 v15 = some x13 := h1
   rw [tL] at h1
   refine (show pA _ _ _ _ ⟨[(0, .psl 2 (List.map eA.enc keys1)), (2, .ref 0 0 0 0), (3, .ref 64 0 0 0), (4, .int .i64 i14)], [(0, ⟨0, true, true, 3, [[.nils, .nils, .int .i64 0]]⟩), (8, ⟨1, true, true, 2, List.map eA.enc keys1⟩), (48, ⟨g16, true, true, 1, List.map (gA .i64) v15⟩), (64, ⟨0, true, false, 3, [[.sl 8 1 2 0 keys1.length, .sl 48 g16 1 0 v15.length, .int .i64 0]]⟩)], 88, []⟩ from ?_)
   refine kA ?_
   refine xS 120 [0, 2, 3, 4, 15] ?_
   refine xI h1 rfl (fun h1 hb17 => ?_) (fun h1 hb17 => ?_)
   ·
    refine qA (dA (kA (aC ?_)))
    obtain ⟨vr18, hvr18, h1⟩ := cA h1
    obtain ⟨e19, he19, h1⟩ := cA h1
    obtain ⟨he19a, he19b, he19c⟩ := cB he19
    refine fG 208 [0, 2, 3, 4] (fun | 5 => some (.tup [.int .i64 vr18.1, .int .i64 vr18.2], []) | _ => none) rfl rfl rfl (fun _ _ => oL (rA he19a (rA he19b he19c)) (zco hvr18)) ?_
    refine sB (dA ?_)
    refine xE ⟨[(0, .psl 2 (List.map eA.enc keys1)), (2, .ref 0 0 0 0), (3, .ref 64 0 0 0), (4, .int .i64 i14)], [(0, ⟨0, true, true, 3, [[.nils, .nils, .int .i64 0]]⟩), (8, ⟨1, true, true, 2, List.map eA.enc keys1⟩), (48, ⟨g16, true, true, 1, List.map (gA .i64) (v15.set i14.toNat vr18.2)⟩), (64, ⟨0, true, false, 3, [[.sl 8 1 2 0 keys1.length, .sl 48 g16 1 0 ((v15.set i14.toNat vr18.2).length), .int .i64 0]]⟩)], 208, []⟩ ?_
    refine uB 232 [0, 2, 3, 4] (fun _ => none) rfl (fun _ _ => rS (rA he19a (rA he19b he19c))) ?_
    refine dA ?_
    exact ⟨⟨(fu, (IntKind.i64.wrap (i14 + 1)), (v15.set i14.toNat vr18.2), g16), h1⟩, ⟨rF, rE, rfl, rfl, trivial, trivial⟩, Nat.lt_succ_self _⟩
   ·
    refine iC (dB (dB (jC ?_)))
    obtain rfl := Option.some.inj h1
    exact ⟨g16, rL, ⟨rF, rE, rfl, rfl, trivial, trivial⟩⟩
theorem zdX {fu : Nat} {keys1 : List eA} {r : eB × Int} (h0 : yT fu keys1 = some r) : bB Tryz.prog 120 [.psl 2 (keys1.map eA.enc)] (.tup [.agg (eB.enc r.1), .int .i64 r.2]) [] := by
 refine gB Tryz.func120 rfl (by decide) rL ?_
 dsimp only [Tryz.f120]
 rw [yT] at h0
 refine (show pA _ _ _ _ ⟨aB 0 _, [], 0, []⟩ from ?_)
 refine xS 16 [0, 2] ?_
 obtain ⟨vr2, hvr2, h0⟩ := cA h0
 refine nA 40 [0, 2, 4] (fun | 1 => some (.int .i64 vr2, []) | _ => none) rfl (fun _ _ => rC (zf0 hvr2)) ?_
 refine kA ?_
 refine xS 56 [0, 2, 4, 8] ?_
 refine xI h0 rfl (fun h0 hb3 => ?_) (fun h0 hb3 => ?_)
 ·
  refine xS 88 [2, 3] ?_
  refine jA (mA ?_)
  obtain rfl := Option.some.inj h0
  refine lA [] ?_
  exact rG
 ·
  refine qA (dA ?_)
  obtain ⟨vr4, hvr4, h0⟩ := cA h0
  refine nA 88 [2, 3] (fun | 1 => some (.agg (eB.enc vr4), []) | _ => none) rfl (fun _ _ => rC (zgI hvr4)) ?_
  refine jA ?_
  obtain rfl := Option.some.inj h0
  refine lA [] ?_
  exact rG
theorem zhN {fu : Nat} {runs1 : List (List aA)} {vat2 : List Int} {r : kB} (h0 : cS fu runs1 vat2 = some r) : bB Tryz.prog 93 [.psl 1 (runs1.map (vA 4 aA.enc)), .psl 1 (vat2.map (gA .i64))] (.agg (kB.enc r)) [] := by
 refine gB Tryz.func93 rfl (by decide) rL ?_
 dsimp only [Tryz.f93]
 rw [cS] at h0
 refine (show pA _ _ _ _ ⟨aB 0 _, [], 0, []⟩ from ?_)
 refine xS 8 [0, 1, 4] ?_
 obtain ⟨hc3, h0⟩ := mD h0
 obtain ⟨hc4, h0⟩ := mD h0
 refine xS 80 [0, 1, 4, 5] ?_
 refine xE ⟨[(0, .psl 1 (List.map (vA 4 aA.enc) runs1)), (1, .psl 1 (List.map (gA .i64) vat2)), (4, .ref 0 0 0 0), (5, .ref 64 0 0 0)], [(0, ⟨0, true, true, 5, [[.nils, .nils, .nils, .nils, .int .i64 0]]⟩), (8, ⟨1, true, true, 1, List.map (vA 4 aA.enc) runs1⟩), (32, ⟨1, true, true, 1, List.map (gA .i64) vat2⟩), (64, ⟨0, true, false, 5, [[.sl 8 1 1 0 runs1.length, .sl 32 1 1 0 vat2.length, .nils, .nils, .int .i64 0]]⟩)], 80, []⟩ ?_
 refine xS 88 [0, 1, 4, 5, 6] ?_
 refine kA ?_
 refine xS 96 [0, 1, 4, 5, 6, 7] ?_
 refine pB (s2 := ⟨[(0, .psl 1 (List.map (vA 4 aA.enc) runs1)), (1, .psl 1 (List.map (gA .i64) vat2)), (4, .ref 0 0 0 0), (5, .ref 64 0 0 0), (6, .sl 96 0 2 0 0), (7, .int .i64 0)], [(0, ⟨0, true, true, 5, [[.nils, .nils, .nils, .nils, .int .i64 0]]⟩), (8, ⟨1, true, true, 1, List.map (vA 4 aA.enc) runs1⟩), (32, ⟨1, true, true, 1, List.map (gA .i64) vat2⟩), (64, ⟨0, true, false, 5, [[.sl 8 1 1 0 runs1.length, .sl 32 1 1 0 vat2.length, .nils, .nils, .int .i64 0]]⟩), (96, ⟨0, true, true, 2, List.map eA.enc []⟩)], 97, []⟩) [(96, 2)] rL ⟨rF, rE, rfl, rfl, trivial, rN⟩ ?_
 obtain ⟨x25, hxx25, h0⟩ := cA h0
 refine pC (fun s' => ∃ g36 : Nat, s'.nx ≤ 129 ∧ LeN [] s' ⟨[(4, .ref 0 0 0 0), (5, .ref 64 0 0 0), (6, .sl 96 g36 2 0 x25.length)], [(0, ⟨0, true, true, 5, [[.nils, .nils, .nils, .nils, .int .i64 0]]⟩), (8, ⟨1, true, true, 1, List.map (vA 4 aA.enc) runs1⟩), (32, ⟨1, true, true, 1, List.map (gA .i64) vat2⟩), (64, ⟨0, true, false, 5, [[.sl 8 1 1 0 runs1.length, .sl 32 1 1 0 vat2.length, .nils, .nils, .int .i64 0]]⟩), (96, ⟨g36, true, true, 2, List.map eA.enc x25⟩)], 129, []⟩) ?_ ?_
 ·
  intro s' hs
  obtain ⟨g36, hn, hs⟩ := hs
  refine dA ?_
  refine pB [] hn hs ?_
  obtain ⟨vr37, hvr37, h0⟩ := cA h0
  refine nA 185 [4, 5] (fun | 1 => some (.tup [.agg (eB.enc vr37.1), .int .i64 vr37.2], []) | _ => none) rfl (fun _ _ => rC (zdX hvr37)) ?_
  refine xS 201 [4] ?_
  refine jA ?_
  obtain rfl := Option.some.inj h0
  refine lA [] ?_
  exact rG
 ·
  refine mC (ι := { p : Nat × Int × List eA × Nat // nK runs1 vat2 p.1 p.2.1 p.2.2.1 = some x25 }) (fun p => ⟨[(0, .psl 1 (List.map (vA 4 aA.enc) runs1)), (1, .psl 1 (List.map (gA .i64) vat2)), (4, .ref 0 0 0 0), (5, .ref 64 0 0 0), (6, .sl 96 p.1.2.2.2 2 0 p.1.2.2.1.length), (7, .int .i64 p.1.2.1)], [(0, ⟨0, true, true, 5, [[.nils, .nils, .nils, .nils, .int .i64 0]]⟩), (8, ⟨1, true, true, 1, List.map (vA 4 aA.enc) runs1⟩), (32, ⟨1, true, true, 1, List.map (gA .i64) vat2⟩), (64, ⟨0, true, false, 5, [[.sl 8 1 1 0 runs1.length, .sl 32 1 1 0 vat2.length, .nils, .nils, .int .i64 0]]⟩), (96, ⟨p.1.2.2.2, true, true, 2, List.map eA.enc p.1.2.2.1⟩)], 97, []⟩) (fun p => p.1.1) ⟨(fu, 0, [], 0), hxx25⟩ ⟨rF, rE, rfl, rfl, trivial, trivial⟩ (fun _ => Nat.le_refl _) ?_
  rintro ⟨⟨fu, i26, keys27, g28⟩, h1⟩
  cases fu with
  | zero =>
   replace h1 : nK runs1 vat2 0 i26 keys27 = some x25 := h1
   rw [nK] at h1; cases h1
  | succ fu =>
   replace h1 : nK runs1 vat2 (fu + 1) i26 keys27 = some x25 := h1
   rw [nK] at h1
   refine (show pA _ _ _ _ ⟨[(0, .psl 1 (List.map (vA 4 aA.enc) runs1)), (1, .psl 1 (List.map (gA .i64) vat2)), (4, .ref 0 0 0 0), (5, .ref 64 0 0 0), (6, .sl 96 g28 2 0 keys27.length), (7, .int .i64 i26)], [(0, ⟨0, true, true, 5, [[.nils, .nils, .nils, .nils, .int .i64 0]]⟩), (8, ⟨1, true, true, 1, List.map (vA 4 aA.enc) runs1⟩), (32, ⟨1, true, true, 1, List.map (gA .i64) vat2⟩), (64, ⟨0, true, false, 5, [[.sl 8 1 1 0 runs1.length, .sl 32 1 1 0 vat2.length, .nils, .nils, .int .i64 0]]⟩), (96, ⟨g28, true, true, 2, List.map eA.enc keys27⟩)], 97, []⟩ from ?_)
   refine kA ?_
   refine xS 129 [0, 1, 4, 5, 6, 7, 19] ?_
   refine xI h1 rfl (fun h1 hb29 => ?_) (fun h1 hb29 => ?_)
   ·
    refine qA (dA (kA (aC ?_)))
    obtain ⟨e30, he30, h1⟩ := cA h1
    obtain ⟨he30a, he30b, he30c⟩ := cB he30
    obtain ⟨e31, he31, h1⟩ := cA h1
    obtain ⟨he31a, he31b, he31c⟩ := cB he31
    refine oC 233 [0, 1, 4, 5, 6, 7, 8] (fun _ => none) rfl rfl rfl (fun _ _ => xD (rA he30a (rA he30b (rA he30c (rA he31a (rA he31b he31c)))))) ?_
    refine kA ?_
    refine nA 257 [0, 1, 4, 5, 6, 7, 8, 35] (fun _ => none) rfl (fun _ _ => rS (rA he30a (rA he30b (rA he30c (rA he31a (rA he31b he31c)))))) ?_
    refine xI h1 rfl (fun h1 hb32 => ?_) (fun h1 hb32 => ?_)
    ·
     obtain ⟨e33, he33, h1⟩ := cA h1
     obtain ⟨he33a, he33b, he33c⟩ := cB he33
     refine fG 361 [0, 1, 4, 5, 6, 7, 8] (fun _ => none) rfl rfl rfl (fun _ _ => xD (rA he30a (rA he30b (rA he30c (rA he31a (rA he31b (rA he31c (rA he33a (rA he33b he33c))))))))) ?_
     refine dA ?_
     obtain ⟨hc34, h1⟩ := mD h1
     refine uB 401 [0, 1, 4, 5, 6, 7] (fun _ => none) rfl (fun _ _ => rS (rA he30a (rA he30b (rA he30c (rA he31a (rA he31b (rA he31c (rA he33a (rA he33b he33c))))))))) ?_
     refine sB (dA ?_)
     refine xE ⟨[(0, .psl 1 (List.map (vA 4 aA.enc) runs1)), (1, .psl 1 (List.map (gA .i64) vat2)), (4, .ref 0 0 0 0), (5, .ref 64 0 0 0), (6, .sl 96 (g28 + 1) 2 0 ((keys27 ++ [(eA.mk e33.Key (decide (e30 = (e31.length : Int))))]).length)), (7, .int .i64 i26)], [(0, ⟨0, true, true, 5, [[.nils, .nils, .nils, .nils, .int .i64 0]]⟩), (8, ⟨1, true, true, 1, List.map (vA 4 aA.enc) runs1⟩), (32, ⟨1, true, true, 1, List.map (gA .i64) vat2⟩), (64, ⟨0, true, false, 5, [[.sl 8 1 1 0 runs1.length, .sl 32 1 1 0 vat2.length, .nils, .nils, .int .i64 0]]⟩), (96, ⟨(g28 + 1), true, true, 2, List.map eA.enc (keys27 ++ [(eA.mk e33.Key (decide (e30 = (e31.length : Int))))])⟩)], 401, []⟩ ?_
     refine uB 425 [0, 1, 4, 5, 6, 7] (fun _ => none) rfl (fun _ _ => rS (rA he30a (rA he30b (rA he30c (rA he31a (rA he31b (rA he31c (rA he33a (rA he33b he33c))))))))) ?_
     refine dA ?_
     exact ⟨⟨(fu, (IntKind.i64.wrap (i26 + 1)), (keys27 ++ [(eA.mk e33.Key (decide (e30 = (e31.length : Int))))]), (g28 + 1)), h1⟩, ⟨rF, rE, rfl, rfl, trivial, trivial⟩, Nat.lt_succ_self _⟩
    ·
     refine qA (dA ?_)
     obtain ⟨hc35, h1⟩ := mD h1
     refine uB 297 [0, 1, 4, 5, 6, 7] (fun _ => none) rfl (fun _ _ => rS (rA he30a (rA he30b (rA he30c (rA he31a (rA he31b he31c)))))) ?_
     refine sB (dA ?_)
     refine xE ⟨[(0, .psl 1 (List.map (vA 4 aA.enc) runs1)), (1, .psl 1 (List.map (gA .i64) vat2)), (4, .ref 0 0 0 0), (5, .ref 64 0 0 0), (6, .sl 96 (g28 + 1) 2 0 ((keys27 ++ [(eA.mk [] (decide (e30 = (e31.length : Int))))]).length)), (7, .int .i64 i26)], [(0, ⟨0, true, true, 5, [[.nils, .nils, .nils, .nils, .int .i64 0]]⟩), (8, ⟨1, true, true, 1, List.map (vA 4 aA.enc) runs1⟩), (32, ⟨1, true, true, 1, List.map (gA .i64) vat2⟩), (64, ⟨0, true, false, 5, [[.sl 8 1 1 0 runs1.length, .sl 32 1 1 0 vat2.length, .nils, .nils, .int .i64 0]]⟩), (96, ⟨(g28 + 1), true, true, 2, List.map eA.enc (keys27 ++ [(eA.mk [] (decide (e30 = (e31.length : Int))))])⟩)], 297, []⟩ ?_
     refine uB 321 [0, 1, 4, 5, 6, 7] (fun _ => none) rfl (fun _ _ => rS (rA he30a (rA he30b (rA he30c (rA he31a (rA he31b he31c)))))) ?_
     refine dA ?_
     exact ⟨⟨(fu, (IntKind.i64.wrap (i26 + 1)), (keys27 ++ [(eA.mk [] (decide (e30 = (e31.length : Int))))]), (g28 + 1)), h1⟩, ⟨rF, rE, rfl, rfl, trivial, trivial⟩, Nat.lt_succ_self _⟩
   ·
    refine iC (dB (dB (jC ?_)))
    obtain rfl := Option.some.inj h1
    exact ⟨g28, rL, ⟨rF, rE, rfl, rfl, trivial, trivial⟩⟩
theorem zms {fu : Nat} {runs1 : List (List aA)} {r : kB × Int × Int} (h0 : aN fu runs1 = some r) : bB Tryz.prog 103 [.psl 1 (runs1.map (vA 4 aA.enc))] (.tup [.agg (kB.enc r.1), .int .i64 r.2.1, .int .i64 r.2.2]) [] := by
 refine gB Tryz.func103 rfl (by decide) rL ?_
 dsimp only [Tryz.f103]
 rw [aN] at h0
 refine (show pA _ _ _ _ ⟨aB 0 _, [], 0, []⟩ from ?_)
 refine xS 24 [0, 2] ?_
 obtain ⟨vr2, hvr2, h0⟩ := cA h0
 refine nA 80 [0, 2, 5, 6] (fun | 1 => some (.tup [.int .i64 vr2.1, .int .i64 vr2.2], []) | _ => none) rfl (fun _ _ => rC (zmw hvr2)) ?_
 refine kA ?_
 refine xS 96 [0, 2, 5, 6, 13] ?_
 refine xI h0 rfl (fun h0 hb3 => ?_) (fun h0 hb3 => ?_)
 ·
  refine xS 144 [2, 3, 4] ?_
  refine jA (mA ?_)
  obtain rfl := Option.some.inj h0
  refine lA [] ?_
  exact rG
 ·
  refine qA (dA ?_)
  obtain ⟨hc4, h0⟩ := mD h0
  obtain ⟨vr5, hvr5, h0⟩ := cA h0
  refine nA 160 [2, 3, 4] (fun | 4 => some (.agg (kB.enc vr5), []) | _ => none) rfl (fun _ _ => rC (zhN hvr5)) ?_
  refine xE ⟨[(2, .ref 0 0 0 0), (3, .int .i64 0), (4, .int .i64 0)], [(0, ⟨0, true, true, 5, [[.psl 1 (List.map (vA 4 aA.enc) vr5.Runs), .psl 1 (List.map (gA .i64) vr5.At), .psl 2 (List.map eA.enc vr5.Tree.Keys), .psl 1 (List.map (gA .i64) vr5.Tree.Lose), .int .i64 vr5.Tree.Win]]⟩)], 160, []⟩ ?_
  refine jA ?_
  obtain rfl := Option.some.inj h0
  refine lA [] ?_
  exact rG
theorem zdD {fu : Nat} {bottom1 : Bool} {r : tB} (h0 : kV fu bottom1 = some r) : bB Tryz.prog 96 [.bool bottom1] (.agg (tB.enc r)) [] := by
 refine gB Tryz.func96 rfl (by decide) rL ?_
 dsimp only [Tryz.f96]
 rw [kV] at h0
 refine (show pA _ _ _ _ ⟨aB 0 _, [], 0, []⟩ from ?_)
 refine xS 8 [0, 2] ?_
 refine xS 32 [2] ?_
 refine jA ?_
 obtain rfl := Option.some.inj h0
 refine lA [] ?_
 exact rG
theorem zhL {fu : Nat} {runs1 : List (List aA)} {bottom2 : Bool} {r : wB × Int × Int} (h0 : gU fu runs1 bottom2 = some r) : bB Tryz.prog 77 [.psl 1 (runs1.map (vA 4 aA.enc)), .bool bottom2] (.tup [.agg (wB.enc r.1), .int .i64 r.2.1, .int .i64 r.2.2]) [] := by
 refine gB Tryz.func77 rfl (by decide) rL ?_
 dsimp only [Tryz.f77]
 rw [gU] at h0
 refine (show pA _ _ _ _ ⟨aB 0 _, [], 0, []⟩ from ?_)
 refine xS 24 [0, 1, 4] ?_
 obtain ⟨vr3, hvr3, h0⟩ := cA h0
 refine nA 104 [1, 4, 7, 8, 9] (fun | 1 => some (.tup [.agg (kB.enc vr3.1), .int .i64 vr3.2.1, .int .i64 vr3.2.2], []) | _ => none) rfl (fun _ _ => rC (zms hvr3)) ?_
 refine kA ?_
 refine xS 120 [1, 4, 7, 8, 9, 17] ?_
 refine xI h0 rfl (fun h0 hb4 => ?_) (fun h0 hb4 => ?_)
 ·
  refine xS 168 [4, 5, 6] ?_
  refine jA (mA ?_)
  obtain rfl := Option.some.inj h0
  refine lA [] ?_
  exact rG
 ·
  refine qA (dA ?_)
  obtain ⟨vr5, hvr5, h0⟩ := cA h0
  refine oC 176 [4, 5, 6] (fun | 2 => some (.agg (tB.enc vr5), []) | _ => none) rfl rfl rfl (fun _ _ => oM (zdD hvr5)) ?_
  refine jA ?_
  obtain rfl := Option.some.inj h0
  refine lA [] ?_
  exact rG
theorem zcK {fu : Nat} {l1 : uA} {level2 : Int} {bottom3 : Bool} {r : yA} (h0 : lS fu l1 level2 bottom3 = some r) : bB Tryz.prog 46 [.agg (uA.enc l1), .int .i64 level2, .bool bottom3] (.agg (yA.enc r)) [] := by
 refine gB Tryz.func46 rfl (by decide) rL ?_
 dsimp only [Tryz.f46]
 rw [lS] at h0
 refine (show pA _ _ _ _ ⟨aB 0 _, [], 0, []⟩ from ?_)
 refine xS 16 [1, 2, 3, 6] ?_
 obtain ⟨vr4, hvr4, h0⟩ := cA h0
 refine nA 48 [1, 2, 6, 7] (fun | 2 => some (.psl 2 (vr4.map zA.enc), []) | _ => none) rfl (fun _ _ => rC (cZ hvr4)) ?_
 obtain ⟨e5, he5, h0⟩ := cA h0
 have he5b := (cB he5).2.1
 have he5c := (oF 1 he5 rfl).1
 have he5a := (oF 1 he5 rfl).2
 obtain ⟨e6, he6, h0⟩ := cA h0
 have he6b := (cB he6).2.1
 have he6c := (oF 0 he6 rfl).1
 have he6a := (oF 0 he6 rfl).2
 obtain ⟨vr7, hvr7, h0⟩ := cA h0
 refine oC 200 [1, 6, 8] (fun | 10 => some (.tup [.agg (wB.enc vr7.1), .int .i64 vr7.2.1, .int .i64 vr7.2.2], []) | _ => none) rfl rfl rfl (fun _ _ => oL (rA he5a (rA he5b (rA he5c (rA he6a (rA he6b he6c))))) (zhL hvr7)) ?_
 refine xE ⟨[(1, .int .i64 level2), (6, .ref 8 0 0 0), (8, .ref 168 0 0 0)], [(8, ⟨0, true, true, 11, [[.int .i64 0, .nils, .nils, .nils, .nils, .int .i64 0, .bool false, .str [], .bool false, .nils, .int .i64 0]]⟩), (168, ⟨0, true, true, 10, [[.psl 1 (List.map (vA 4 aA.enc) vr7.1.Merge.Runs), .psl 1 (List.map (gA .i64) vr7.1.Merge.At), .psl 2 (List.map eA.enc vr7.1.Merge.Tree.Keys), .psl 1 (List.map (gA .i64) vr7.1.Merge.Tree.Lose), .int .i64 vr7.1.Merge.Tree.Win, .bool vr7.1.Shadow.Some, .str vr7.1.Shadow.Last, .bool vr7.1.Shadow.Bottom, .psl 4 (List.map aA.enc vr7.1.Out), .int .i64 vr7.1.Steps]]⟩)], 200, []⟩ ?_
 refine nA 232 [6] (fun _ => none) rfl (fun _ _ => rS (rA he5a (rA he5b (rA he5c (rA he6a (rA he6b he6c)))))) ?_
 refine jA ?_
 obtain rfl := Option.some.inj h0
 refine lA [] ?_
 simp (maxSteps := 1000000) only [↓reduceIte, reduceCtorEq, Nat.reduceEqDiff, Nat.reduceLT, Nat.reduceLeDiff, Nat.reduceAdd, Nat.reduceMul, Int.reduceToNat, push_cast, bC, he5a, he5b, he5c, he6a, he6b, he6c]
 all_goals exact rH
theorem zeg {fu : Nat} {l1 : uA} {r : oB × Int} (h0 : gQ fu l1 = some r) : bB Tryz.prog 24 [.agg (uA.enc l1)] (.tup [.agg (oB.enc r.1), .int .i64 r.2]) [] := by
 refine gB Tryz.func24 rfl (by decide) rL ?_
 dsimp only [Tryz.f24]
 rw [gQ] at h0
 refine (show pA _ _ _ _ ⟨aB 0 _, [], 0, []⟩ from ?_)
 refine xS 24 [1, 2] ?_
 obtain ⟨vr2, hvr2, h0⟩ := cA h0
 refine nA 96 [1, 2, 6] (fun | 1 => some (.tup [.int .i64 vr2.1, .int .i64 vr2.2.1, .int .i64 vr2.2.2], []) | _ => none) rfl (fun _ _ => rC (wW hvr2)) ?_
 refine kA ?_
 refine xS 112 [1, 2, 6, 17] ?_
 refine xI h0 rfl (fun h0 hb3 => ?_) (fun h0 hb3 => ?_)
 ·
  refine xS 144 [2, 3] ?_
  refine jA (mA ?_)
  obtain rfl := Option.some.inj h0
  refine lA [] ?_
  exact rG
 ·
  refine qA (dA ?_)
  obtain ⟨vr4, hvr4, h0⟩ := cA h0
  refine oC 168 [1, 2, 7] (fun | 2 => some (.int .i64 vr4, []) | _ => none) rfl rfl rfl (fun _ _ => oM (zhJ hvr4)) ?_
  obtain ⟨vr5, hvr5, h0⟩ := cA h0
  refine nA 192 [1, 2, 7, 8] (fun | 1 => some (.psl 1 (vr5.map (gA .i64)), []) | _ => none) rfl (fun _ _ => rC (zjh hvr5)) ?_
  refine kA ?_
  refine xS 200 [1, 2, 7, 8, 9] ?_
  refine pB (s2 := ⟨[(1, .ref 0 0 0 0), (2, .ref 8 0 0 0), (7, .ref 152 0 0 0), (8, .psl 1 (List.map (gA .i64) vr5)), (9, .int .i64 0)], [(0, ⟨0, true, true, 2, [[.int .i64 l1.B, .psl 1 (List.map sA.enc l1.Levels)]]⟩), (8, ⟨0, true, true, 4, [[.int .i64 0, .nils, .nils, .int .i64 0]]⟩), (152, ⟨0, true, false, 4, [[.int .i64 l1.B, .psl 1 (List.map sA.enc l1.Levels), .sl 200 0 11 0 0, .int .i64 (IntKind.i64.wrap (vr4 + 1))]]⟩), (200, ⟨0, true, true, 11, List.map yA.enc []⟩)], 201, []⟩) [(200, 11)] rL ⟨rF, rE, rfl, rfl, trivial, rN⟩ ?_
  obtain ⟨x22, hxx22, h0⟩ := cA h0
  refine pC (fun s' => ∃ g31 : Nat, s'.nx ≤ 233 ∧ LeN [] s' ⟨[(2, .ref 8 0 0 0), (7, .ref 152 0 0 0)], [(0, ⟨0, true, true, 2, [[.int .i64 l1.B, .psl 1 (List.map sA.enc l1.Levels)]]⟩), (8, ⟨0, true, true, 4, [[.int .i64 0, .nils, .nils, .int .i64 0]]⟩), (152, ⟨0, true, false, 4, [[.int .i64 l1.B, .psl 1 (List.map sA.enc l1.Levels), .sl 200 g31 11 0 x22.length, .int .i64 (IntKind.i64.wrap (vr4 + 1))]]⟩), (200, ⟨g31, true, true, 11, List.map yA.enc x22⟩)], 233, []⟩) ?_ ?_
  ·
   intro s' hs
   obtain ⟨g31, hn, hs⟩ := hs
   refine dA ?_
   refine pB [] hn hs ?_
   refine xS 257 [2, 3] ?_
   refine jA ?_
   obtain rfl := Option.some.inj h0
   refine lA [] ?_
   exact rG
  ·
   refine mC (ι := { p : Nat × Int × List yA × Nat // yL vr5 l1 p.1 p.2.1 p.2.2.1 = some x22 }) (fun p => ⟨[(1, .ref 0 0 0 0), (2, .ref 8 0 0 0), (7, .ref 152 0 0 0), (8, .psl 1 (List.map (gA .i64) vr5)), (9, .int .i64 p.1.2.1)], [(0, ⟨0, true, true, 2, [[.int .i64 l1.B, .psl 1 (List.map sA.enc l1.Levels)]]⟩), (8, ⟨0, true, true, 4, [[.int .i64 0, .nils, .nils, .int .i64 0]]⟩), (152, ⟨0, true, false, 4, [[.int .i64 l1.B, .psl 1 (List.map sA.enc l1.Levels), .sl 200 p.1.2.2.2 11 0 p.1.2.2.1.length, .int .i64 (IntKind.i64.wrap (vr4 + 1))]]⟩), (200, ⟨p.1.2.2.2, true, true, 11, List.map yA.enc p.1.2.2.1⟩)], 201, []⟩) (fun p => p.1.1) ⟨(fu, 0, [], 0), hxx22⟩ ⟨rF, rE, rfl, rfl, trivial, trivial⟩ (fun _ => Nat.le_refl _) ?_
   rintro ⟨⟨fu, i23, v24, g25⟩, h1⟩
   cases fu with
   | zero =>
   replace h1 : yL vr5 l1 0 i23 v24 = some x22 := h1
   rw [yL] at h1; cases h1
   | succ fu =>
    replace h1 : yL vr5 l1 (fu + 1) i23 v24 = some x22 := h1
    rw [yL] at h1
    refine (show pA _ _ _ _ ⟨[(1, .ref 0 0 0 0), (2, .ref 8 0 0 0), (7, .ref 152 0 0 0), (8, .psl 1 (List.map (gA .i64) vr5)), (9, .int .i64 i23)], [(0, ⟨0, true, true, 2, [[.int .i64 l1.B, .psl 1 (List.map sA.enc l1.Levels)]]⟩), (8, ⟨0, true, true, 4, [[.int .i64 0, .nils, .nils, .int .i64 0]]⟩), (152, ⟨0, true, false, 4, [[.int .i64 l1.B, .psl 1 (List.map sA.enc l1.Levels), .sl 200 g25 11 0 v24.length, .int .i64 (IntKind.i64.wrap (vr4 + 1))]]⟩), (200, ⟨g25, true, true, 11, List.map yA.enc v24⟩)], 201, []⟩ from ?_)
    refine kA ?_
    refine xS 233 [1, 2, 7, 8, 9, 30] ?_
    refine xI h1 rfl (fun h1 hb26 => ?_) (fun h1 hb26 => ?_)
    ·
     refine qA (dA (kA (aC ?_)))
     obtain ⟨e27, he27, h1⟩ := cA h1
     obtain ⟨he27a, he27b, he27c⟩ := cB he27
     obtain ⟨vr28, hvr28, h1⟩ := cA h1
     obtain ⟨vr29, hvr29, h1⟩ := cA h1
     obtain ⟨hc30, h1⟩ := mD h1
     refine fG 377 [1, 2, 7, 8, 9] (fun | 12 => some (.bool vr28, []) | 13 => some (.agg (yA.enc vr29), []) | _ => none) rfl rfl rfl (fun Kt hK => by
       try have q0 := zc2 hvr28
       try have q1 := zcK hvr29
       exact xD (rA he27a (rA he27b he27c))) ?_
     refine sB (dA ?_)
     refine xE ⟨[(1, .ref 0 0 0 0), (2, .ref 8 0 0 0), (7, .ref 152 0 0 0), (8, .psl 1 (List.map (gA .i64) vr5)), (9, .int .i64 i23)], [(0, ⟨0, true, true, 2, [[.int .i64 l1.B, .psl 1 (List.map sA.enc l1.Levels)]]⟩), (8, ⟨0, true, true, 4, [[.int .i64 0, .nils, .nils, .int .i64 0]]⟩), (152, ⟨0, true, false, 4, [[.int .i64 l1.B, .psl 1 (List.map sA.enc l1.Levels), .sl 200 (g25 + 1) 11 0 ((v24 ++ [vr29]).length), .int .i64 (IntKind.i64.wrap (vr4 + 1))]]⟩), (200, ⟨(g25 + 1), true, true, 11, List.map yA.enc (v24 ++ [vr29])⟩)], 377, []⟩ ?_
     refine uB 401 [1, 2, 7, 8, 9] (fun _ => none) rfl (fun _ _ => rS (rA he27a (rA he27b he27c))) ?_
     refine dA ?_
     exact ⟨⟨(fu, (IntKind.i64.wrap (i23 + 1)), (v24 ++ [vr29]), (g25 + 1)), h1⟩, ⟨rF, rE, rfl, rfl, trivial, trivial⟩, Nat.lt_succ_self _⟩
    ·
     refine iC (dB (dB (jC ?_)))
     obtain rfl := Option.some.inj h1
     exact ⟨g25, rL, ⟨rF, rE, rfl, rfl, trivial, trivial⟩⟩
theorem zfg {fu : Nat} {l1 : uA} {level2 : Int} {r : yA × Int} (h0 : eU fu l1 level2 = some r) : bB Tryz.prog 25 [.agg (uA.enc l1), .int .i64 level2] (.tup [.agg (yA.enc r.1), .int .i64 r.2]) [] := by
 refine gB Tryz.func25 rfl (by decide) rL ?_
 dsimp only [Tryz.f25]
 rw [eU] at h0
 refine (show pA _ _ _ _ ⟨aB 0 _, [], 0, []⟩ from ?_)
 refine xS 24 [1, 2, 4] ?_
 refine kA ?_
 obtain ⟨vr3, hvr3, h0⟩ := cA h0
 refine nA 96 [1, 2, 4, 8] (fun | 1 => some (.tup [.int .i64 vr3.1, .int .i64 vr3.2.1, .int .i64 vr3.2.2], []) | _ => none) rfl (fun _ _ => rC (jY hvr3)) ?_
 refine xS 112 [1, 2, 4, 8, 16] ?_
 refine xI h0 rfl (fun h0 hb4 => ?_) (fun h0 hb4 => ?_)
 ·
  refine xS 144 [4, 5] ?_
  refine jA (mA ?_)
  obtain rfl := Option.some.inj h0
  refine lA [] ?_
  exact rG
 ·
  refine qA (dA (kA (aC ?_)))
  obtain ⟨b5, hb5, h0⟩ := cA h0
  refine nC (fr' := [(1, .int .i64 level2), (2, .ref 0 0 0 0), (4, .ref 8 0 0 0), (19, .bool b5)]) (hp' := [(0, ⟨0, true, true, 2, [[.int .i64 l1.B, .psl 1 (List.map sA.enc l1.Levels)]]⟩), (8, ⟨0, true, true, 11, [[.int .i64 0, .nils, .nils, .nils, .nils, .int .i64 0, .bool false, .str [], .bool false, .nils, .int .i64 0]]⟩)]) [0, 8] 168 [1, 2, 4, 19] (fun _ => none) rfl (fun Kt hK => by
    cases hg6 : (decide (level2 < 0)) with
    | false =>
     replace hb5 := wA hb5 hg6
     have hqb5 := Option.some.inj hb5
     subst hqb5
     simp (maxSteps := 1000000) only [↓reduceIte, reduceCtorEq, Nat.reduceEqDiff, Nat.reduceLT, Nat.reduceLeDiff, Nat.reduceAdd, Nat.reduceMul, Int.reduceToNat, push_cast, ↓hg6]
     try simp only [↓hg6] at hK
     all_goals exact rU
    | true =>
     replace hb5 := jB hb5 hg6
     have hqb5 := Option.some.inj hb5
     subst hqb5
     simp (maxSteps := 1000000) only [↓reduceIte, reduceCtorEq, Nat.reduceEqDiff, Nat.reduceLT, Nat.reduceLeDiff, Nat.reduceAdd, Nat.reduceMul, Int.reduceToNat, push_cast, ↓hg6]
     try simp only [↓hg6] at hK
     all_goals exact rU) ?_
  refine xI h0 rfl (fun h0 hb7 => ?_) (fun h0 hb7 => ?_)
  ·
   refine xS 192 [4, 5] ?_
   refine jA (eC (mA ?_))
   obtain rfl := Option.some.inj h0
   refine lA [] ?_
   exact rG
  ·
   obtain ⟨b9, hb9, h0⟩ := cA h0
   refine nC (fr' := [(1, .int .i64 level2), (2, .ref 0 0 0 0), (4, .ref 8 0 0 0), (27, .bool b9)]) (hp' := [(0, ⟨0, true, true, 2, [[.int .i64 l1.B, .psl 1 (List.map sA.enc l1.Levels)]]⟩), (8, ⟨0, true, true, 11, [[.int .i64 0, .nils, .nils, .nils, .nils, .int .i64 0, .bool false, .str [], .bool false, .nils, .int .i64 0]]⟩)]) [0, 8] 296 [1, 2, 4, 27] (fun _ => none) rfl (fun Kt hK => by
     cases hg10 : (decide ((l1.Levels.length : Int) ≤ level2)) with
     | false =>
      replace hb9 := wA hb9 hg10
      obtain ⟨e8, he8, hb9⟩ := cA hb9
      obtain ⟨he8a, he8b, he8c⟩ := cB he8
      have hqb9 := Option.some.inj hb9
      subst hqb9
      simp (maxSteps := 1000000) only [↓reduceIte, reduceCtorEq, Nat.reduceEqDiff, Nat.reduceLT, Nat.reduceLeDiff, Nat.reduceAdd, Nat.reduceMul, Int.reduceToNat, push_cast, ↓hg10, he8a, he8b, he8c, he8]
      try simp only [↓hg10] at hK
      all_goals exact rU
     | true =>
      replace hb9 := jB hb9 hg10
      have hqb9 := Option.some.inj hb9
      subst hqb9
      simp (maxSteps := 1000000) only [↓reduceIte, reduceCtorEq, Nat.reduceEqDiff, Nat.reduceLT, Nat.reduceLeDiff, Nat.reduceAdd, Nat.reduceMul, Int.reduceToNat, push_cast, ↓hg10]
      try simp only [↓hg10] at hK
      all_goals exact rU) ?_
   refine xI h0 rfl (fun h0 hb11 => ?_) (fun h0 hb11 => ?_)
   ·
    refine xS 320 [4, 5] ?_
    refine jA (eC (mA ?_))
    obtain rfl := Option.some.inj h0
    refine lA [] ?_
    exact rG
   ·
    refine qA (sB (dA ?_))
    obtain ⟨vr12, hvr12, h0⟩ := cA h0
    obtain ⟨vr13, hvr13, h0⟩ := cA h0
    refine oC 360 [4, 5] (fun | 4 => some (.bool vr12, []) | 5 => some (.agg (yA.enc vr13), []) | _ => none) rfl rfl rfl (fun Kt hK => by
      try have q0 := wV hvr12
      try have q1 := dY hvr13
      exact jF) ?_
    refine jA ?_
    obtain rfl := Option.some.inj h0
    refine lA [] ?_
    exact rG
end Go.T
end
