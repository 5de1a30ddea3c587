/- Read changes nothing but its job, what was left is what Read uses and what is left then, and reading twice is reading the sum, of states that are not long and numbers up to 255; no other condition. -/
import Derived.Test.YtnlggkiekcpahaaCGt
import Derived.Test.YtnlggkiekcpahaaC2
set_option linter.unusedSimpArgs false
set_option linter.unusedVariables false
section
namespace Go.T
open Go Go.AM Go.Proofs
set_option maxRecDepth 100000
set_option maxHeartbeats 4000000
set_option linter.unusedVariables false
theorem zgF {fu : Nat} {l1 : List aA} {bottom2 : Bool} {r : List aA × Int × Int} (h0 : kQ fu l1 bottom2 = some r) : lB Try.prog 61 [.psl 4 (l1.map aA.enc), .bool bottom2] (.tup [.psl 4 (r.1.map aA.enc), .int .i64 r.2.1, .int .i64 r.2.2]) [] := by
 refine sB Try.func61 rfl (by decide) rL ?_
 dsimp only [Try.f61]
 rw [kQ] at h0
 refine (show pA _ _ _ _ ⟨kB 0 _, [], 0, []⟩ from ?_)
 refine xS 24 [0, 1, 4] ?_
 refine mH 9 rfl ?_
 refine fC (l' := List.range' 0 3 ++ (3 :: (List.range' 4 5 ++ []))) rfl ?_
 refine pC 0 3 48 (3 :: (List.range' 4 5 ++ [])) (fun _ => none) rfl rfl rfl (fun _ _ => rT) ?_
 refine xJ rfl rfl rfl rfl rfl Try.func84 rfl (by decide) rfl rL ?_
 dsimp only [Try.f84]
 refine xE ⟨[(0, .psl 4 (List.map aA.enc l1)), (1, .bool bottom2), (2, .fn 85 [] [.ref 0 0 0 0])], [(0, ⟨0, true, true, 1, [[.nils]]⟩)], 48, []⟩ ?_
 refine xS 64 [0, 1, 2] ?_
 refine kA ?_
 refine xS 88 [0, 1, 2, 16] ?_
 refine xI h0 rfl (fun h0 hb3 => ?_) (fun h0 hb3 => ?_)
 ·
  refine xS 104 [6, 7] ?_
  refine jA (mA ?_)
  refine oE (fun _ _ => rT) ?_
  refine xF ⟨[(0, .psl 4 (List.map aA.enc l1)), (1, .bool bottom2), (4, .ref 0 0 0 0), (8, .psl 4 (List.map aA.enc l1)), (9, .bool bottom2), (10, .fn 85 [] [.ref 0 0 0 0]), (11, .tup [.int .i64 (-1), .int .i64 3])], [(0, ⟨0, true, true, 1, [[.nils]]⟩)], 104, []⟩ ?_
  refine fC (l' := List.range' 4 5 ++ []) rfl ?_
  refine pC 4 5 144 [] (fun _ => none) rfl rfl rfl (fun _ _ => rT) ?_
  refine mD ?_
  refine gA ?_
  refine xE ⟨[(4, .ref 0 0 0 0), (5, .int .i64 (-1)), (6, .int .i64 3)], [(0, ⟨0, true, true, 1, [[.nils]]⟩)], 144, []⟩ ?_
  refine kA ?_
  refine xS 160 [4, 5, 6, 15] ?_
  refine wQ rfl ?_
  refine xS 200 [4, 5, 6] ?_
  refine jA (mA ?_)
  obtain rfl := Option.some.inj h0
  refine nA [] ?_
  exact rG
 ·
  refine qA (gA ?_)
  obtain ⟨vr4, hvr4, h0⟩ := eA h0
  refine oA 120 [0, 2, 8] (fun | 1 => some (.agg (mB.enc vr4), []) | _ => none) rfl (fun _ _ => rC (zaY hvr4)) ?_
  refine kA ?_
  refine xS 144 [2, 8, 19, 20, 21] ?_
  refine zB (s2 := ⟨[(2, .fn 85 [] [.ref 0 0 0 0]), (8, .ref 104 0 0 0), (19, .psl 4 (List.map aA.enc l1)), (20, .int .i64 (l1.length : Int)), (21, .int .i64 0)], [(0, ⟨0, true, false, 1, [[.sl 144 0 4 0 0]]⟩), (104, ⟨0, true, true, 3, [[.bool vr4.Some, .str vr4.Last, .bool vr4.Bottom]]⟩), (144, ⟨0, true, true, 4, List.map aA.enc []⟩)], 145, []⟩) [(144, 4)] rL ⟨rF, rE, rfl, rfl, trivial, rN⟩ ?_
  obtain ⟨x59, hxx59, h0⟩ := eA h0
  refine lD (fun s' => ∃ o82 : Bool × List UInt8 × List aA, ∃ g83 : Nat, x59 = .inl o82 ∧ s'.nx ≤ 153 ∧ LeN [] s' ⟨[], [(0, ⟨0, true, false, 1, [[.sl 144 g83 4 0 o82.2.2.length]]⟩), (104, ⟨0, true, true, 3, [[.bool o82.1, .str o82.2.1, .bool vr4.Bottom]]⟩), (144, ⟨g83, true, true, 4, List.map aA.enc o82.2.2⟩)], 153, []⟩) ?_ ?_
  ·
   intro s' hs
   obtain ⟨o82, g83, rfl, hn, hs⟩ := hs
   refine gA ?_
   refine zB [] hn hs ?_
   refine xS 169 [6, 7] ?_
   refine jA ?_
   refine oE (fun _ _ => rT) ?_
   refine xF ⟨[(0, .psl 4 (List.map aA.enc l1)), (1, .bool bottom2), (4, .ref 0 0 0 0), (8, .psl 4 (List.map aA.enc l1)), (9, .bool bottom2), (10, .fn 85 [] [.ref 0 0 0 0]), (11, .tup [.int .i64 0, .int .i64 0])], [(0, ⟨0, true, false, 1, [[.sl 144 g83 4 0 o82.2.2.length]]⟩), (144, ⟨g83, true, true, 4, List.map aA.enc o82.2.2⟩)], 169, []⟩ ?_
   refine fC (l' := List.range' 4 5 ++ []) rfl ?_
   refine pC 4 5 209 [] (fun _ => none) rfl rfl rfl (fun _ _ => rT) ?_
   refine mD ?_
   refine gA ?_
   refine xE ⟨[(4, .ref 0 0 0 0), (5, .int .i64 0), (6, .int .i64 0)], [(0, ⟨0, true, false, 1, [[.sl 144 g83 4 0 o82.2.2.length]]⟩), (144, ⟨g83, true, true, 4, List.map aA.enc o82.2.2⟩)], 209, []⟩ ?_
   refine kA ?_
   refine xS 225 [4, 5, 6, 15] ?_
   refine wF rfl ?_
   refine qA (gA ?_)
   refine xS 257 [4, 5, 6] ?_
   refine jA ?_
   obtain rfl := Option.some.inj h0
   refine nA [] ?_
   exact rG
  ·
   refine kD (ι := { p : Nat × Int × Bool × List UInt8 × List aA × Nat // iH l1 vr4 p.1 p.2.1 p.2.2.1 p.2.2.2.1 p.2.2.2.2.1 = some x59 }) (fun p => ⟨[(2, .fn 85 [] [.ref 0 0 0 0]), (8, .ref 104 0 0 0), (19, .psl 4 (List.map aA.enc l1)), (20, .int .i64 (l1.length : Int)), (21, .int .i64 p.1.2.1)], [(0, ⟨0, true, false, 1, [[.sl 144 p.1.2.2.2.2.2 4 0 p.1.2.2.2.2.1.length]]⟩), (104, ⟨0, true, true, 3, [[.bool p.1.2.2.1, .str p.1.2.2.2.1, .bool vr4.Bottom]]⟩), (144, ⟨p.1.2.2.2.2.2, true, true, 4, List.map aA.enc p.1.2.2.2.2.1⟩)], 145, []⟩) (fun p => p.1.1) ⟨(fu, 0, vr4.Some, vr4.Last, [], 0), hxx59⟩ ⟨rF, rE, rfl, rfl, trivial, trivial⟩ (fun _ => Nat.le_refl _) ?_
   rintro ⟨⟨fu, v60, v61, v62, v63, g64⟩, h1⟩
   cases fu with
   | zero =>
   replace h1 : iH l1 vr4 0 v60 v61 v62 v63 = some x59 := h1
   rw [iH] at h1; cases h1
   | succ fu =>
    replace h1 : iH l1 vr4 (fu + 1) v60 v61 v62 v63 = some x59 := h1
    rw [iH] at h1
    refine (show pA _ _ _ _ ⟨[(2, .fn 85 [] [.ref 0 0 0 0]), (8, .ref 104 0 0 0), (19, .psl 4 (List.map aA.enc l1)), (20, .int .i64 (l1.length : Int)), (21, .int .i64 v60)], [(0, ⟨0, true, false, 1, [[.sl 144 g64 4 0 v63.length]]⟩), (104, ⟨0, true, true, 3, [[.bool v61, .str v62, .bool vr4.Bottom]]⟩), (144, ⟨g64, true, true, 4, List.map aA.enc v63⟩)], 145, []⟩ from ?_)
    refine xS 153 [2, 8, 19, 20, 21, 22] ?_
    refine kA ?_
    refine xI h1 rfl (fun h1 hb65 => ?_) (fun h1 hb65 => ?_)
    ·
     refine qA (gA (kA (jC ?_)))
     obtain ⟨e66, he66, h1⟩ := eA h1
     obtain ⟨he66a, he66b, he66c⟩ := fB he66
     refine oA 201 [2, 8, 9, 10, 19, 20, 21] (fun _ => none) rfl (fun _ _ => rS (rA he66a (rA he66b he66c))) ?_
     refine mH 11 rfl ?_
     refine fC (l' := List.range' 0 2 ++ (2 :: (List.range' 3 8 ++ []))) rfl ?_
     refine pC 0 2 217 (2 :: (List.range' 3 8 ++ [])) (fun _ => none) rfl rfl rfl (fun _ _ => rS (rA he66a (rA he66b he66c))) ?_
     refine xJ rfl rfl rfl rfl rfl Try.func91 rfl (by decide) rfl rL ?_
     dsimp only [Try.f91]
     refine xE ⟨[(0, .agg [.bool v61, .str v62, .bool vr4.Bottom]), (1, .agg [.str e66.Key, .str e66.Val, .bool e66.Dead, .int .i64 e66.Seq])], [(0, ⟨0, true, false, 1, [[.sl 144 g64 4 0 v63.length]]⟩), (104, ⟨0, true, true, 3, [[.bool v61, .str v62, .bool vr4.Bottom]]⟩), (144, ⟨g64, true, true, 4, List.map aA.enc v63⟩), (177, ⟨0, true, true, 4, [[.str e66.Key, .str e66.Val, .bool e66.Dead, .int .i64 e66.Seq]]⟩)], 217, []⟩ ?_
     refine oA 257 [2, 3, 5] (fun _ => none) rfl (fun _ _ => rS (rA he66a (rA he66b he66c))) ?_
     refine kA ?_
     obtain ⟨vr67, hvr67, h1⟩ := eA h1
     refine oA 281 [2, 3, 5, 7] (fun | 1 => some (.int .i64 vr67, []) | _ => none) rfl (fun _ _ => rB (rA he66a (rA he66b he66c)) (zdI hvr67)) ?_
     refine oA 297 [2, 3, 5, 7, 13] (fun _ => none) rfl (fun _ _ => rS (rA he66a (rA he66b he66c))) ?_
     refine xI h1 rfl (fun h1 hb68 => ?_) (fun h1 hb68 => ?_)
     ·
      refine oA 337 [4, 5, 6] (fun _ => none) rfl (fun _ _ => rS (rA he66a (rA he66b he66c))) ?_
      refine jA (mA ?_)
      refine oE (fun _ _ => rS (rA he66a (rA he66b he66c))) ?_
      refine xF ⟨[(2, .fn 85 [] [.ref 0 0 0 0]), (8, .ref 104 0 0 0), (9, .int .i64 v60), (10, .ref 177 0 0 0), (19, .psl 4 (List.map aA.enc l1)), (20, .int .i64 (l1.length : Int)), (21, .int .i64 v60), (27, .agg [.bool v61, .str v62, .bool vr4.Bottom]), (28, .agg [.str e66.Key, .str e66.Val, .bool e66.Dead, .int .i64 e66.Seq]), (29, .tup [.nili, .agg [.bool false, .str [], .bool false], .int .i64 vr67])], [(0, ⟨0, true, false, 1, [[.sl 144 g64 4 0 v63.length]]⟩), (104, ⟨0, true, true, 3, [[.bool v61, .str v62, .bool vr4.Bottom]]⟩), (144, ⟨g64, true, true, 4, List.map aA.enc v63⟩), (177, ⟨0, true, true, 4, [[.str e66.Key, .str e66.Val, .bool e66.Dead, .int .i64 e66.Seq]]⟩)], 337, []⟩ ?_
      refine fC (l' := List.range' 3 8 ++ []) rfl ?_
      refine pC 3 8 401 [] (fun _ => none) rfl rfl rfl (fun _ _ => rS (rA he66a (rA he66b he66c))) ?_
      refine mD ?_
      refine gA ?_
      refine xE ⟨[(2, .fn 85 [] [.ref 0 0 0 0]), (8, .ref 104 0 0 0), (9, .int .i64 v60), (11, .nili), (12, .ref 369 0 0 0), (13, .int .i64 vr67), (19, .psl 4 (List.map aA.enc l1)), (20, .int .i64 (l1.length : Int)), (21, .int .i64 v60)], [(0, ⟨0, true, false, 1, [[.sl 144 g64 4 0 v63.length]]⟩), (104, ⟨0, true, true, 3, [[.bool v61, .str v62, .bool vr4.Bottom]]⟩), (144, ⟨g64, true, true, 4, List.map aA.enc v63⟩), (369, ⟨0, true, true, 3, [[.bool false, .str [], .bool false]]⟩)], 401, []⟩ ?_
      refine kA ?_
      refine oA 417 [2, 8, 9, 11, 12, 13, 19, 20, 21, 34] (fun _ => none) rfl (fun _ _ => rS (rA he66a (rA he66b he66c))) ?_
      refine bO rfl hb68 ?_
      refine oA 449 [6, 7] (fun _ => none) rfl (fun _ _ => rS (rA he66a (rA he66b he66c))) ?_
      refine jA ?_
      obtain rfl := Option.some.inj h1
      refine mA (kC (mA (mA (uD (mA ?_)))))
      refine oE (fun _ _ => rS (rA he66a (rA he66b he66c))) ?_
      refine xF ⟨[(0, .psl 4 (List.map aA.enc l1)), (1, .bool bottom2), (4, .ref 0 0 0 0), (8, .psl 4 (List.map aA.enc l1)), (9, .bool bottom2), (10, .fn 85 [] [.ref 0 0 0 0]), (11, .tup [.int .i64 v60, .int .i64 vr67])], [(0, ⟨0, true, false, 1, [[.sl 144 g64 4 0 v63.length]]⟩), (144, ⟨g64, true, true, 4, List.map aA.enc v63⟩)], 449, []⟩ ?_
      refine fC (l' := List.range' 4 5 ++ []) rfl ?_
      refine pC 4 5 489 [] (fun _ => none) rfl rfl rfl (fun _ _ => rS (rA he66a (rA he66b he66c))) ?_
      refine mD ?_
      refine gA ?_
      refine xE ⟨[(4, .ref 0 0 0 0), (5, .int .i64 v60), (6, .int .i64 vr67)], [(0, ⟨0, true, false, 1, [[.sl 144 g64 4 0 v63.length]]⟩), (144, ⟨g64, true, true, 4, List.map aA.enc v63⟩)], 489, []⟩ ?_
      refine kA ?_
      refine oA 505 [4, 5, 6, 15] (fun _ => none) rfl (fun _ _ => rS (rA he66a (rA he66b he66c))) ?_
      refine bO rfl hb68 ?_
      refine oA 545 [4, 5, 6] (fun _ => none) rfl (fun _ _ => rS (rA he66a (rA he66b he66c))) ?_
      refine jA (mA ?_)
      obtain rfl := Option.some.inj h0
      refine nA [] ?_
      simp (maxSteps := 1000000) only [↓reduceIte, reduceCtorEq, Nat.reduceEqDiff, Nat.reduceLT, Nat.reduceLeDiff, Nat.reduceAdd, Nat.reduceMul, Int.reduceToNat, push_cast, lC, he66a, he66b, he66c]
      all_goals exact rH
     ·
      refine qA (gA (kA ?_))
      obtain ⟨vr69, hvr69, h1⟩ := eA h1
      refine oA 321 [2, 3, 5, 8] (fun | 1 => some (.int .i64 vr69, []) | _ => none) rfl (fun _ _ => rB (rA he66a (rA he66b he66c)) (zag hvr69)) ?_
      refine oA 337 [2, 3, 5, 8, 19] (fun _ => none) rfl (fun _ _ => rS (rA he66a (rA he66b he66c))) ?_
      refine xI h1 rfl (fun h1 hb70 => ?_) (fun h1 hb70 => ?_)
      ·
       refine oA 377 [4, 5, 6] (fun _ => none) rfl (fun _ _ => rS (rA he66a (rA he66b he66c))) ?_
       refine jA (mA ?_)
       refine oE (fun _ _ => rS (rA he66a (rA he66b he66c))) ?_
       refine xF ⟨[(2, .fn 85 [] [.ref 0 0 0 0]), (8, .ref 104 0 0 0), (9, .int .i64 v60), (10, .ref 177 0 0 0), (19, .psl 4 (List.map aA.enc l1)), (20, .int .i64 (l1.length : Int)), (21, .int .i64 v60), (27, .agg [.bool v61, .str v62, .bool vr4.Bottom]), (28, .agg [.str e66.Key, .str e66.Val, .bool e66.Dead, .int .i64 e66.Seq]), (29, .tup [.nili, .agg [.bool false, .str [], .bool false], .int .i64 vr69])], [(0, ⟨0, true, false, 1, [[.sl 144 g64 4 0 v63.length]]⟩), (104, ⟨0, true, true, 3, [[.bool v61, .str v62, .bool vr4.Bottom]]⟩), (144, ⟨g64, true, true, 4, List.map aA.enc v63⟩), (177, ⟨0, true, true, 4, [[.str e66.Key, .str e66.Val, .bool e66.Dead, .int .i64 e66.Seq]]⟩)], 377, []⟩ ?_
       refine fC (l' := List.range' 3 8 ++ []) rfl ?_
       refine pC 3 8 441 [] (fun _ => none) rfl rfl rfl (fun _ _ => rS (rA he66a (rA he66b he66c))) ?_
       refine mD ?_
       refine gA ?_
       refine xE ⟨[(2, .fn 85 [] [.ref 0 0 0 0]), (8, .ref 104 0 0 0), (9, .int .i64 v60), (11, .nili), (12, .ref 409 0 0 0), (13, .int .i64 vr69), (19, .psl 4 (List.map aA.enc l1)), (20, .int .i64 (l1.length : Int)), (21, .int .i64 v60)], [(0, ⟨0, true, false, 1, [[.sl 144 g64 4 0 v63.length]]⟩), (104, ⟨0, true, true, 3, [[.bool v61, .str v62, .bool vr4.Bottom]]⟩), (144, ⟨g64, true, true, 4, List.map aA.enc v63⟩), (409, ⟨0, true, true, 3, [[.bool false, .str [], .bool false]]⟩)], 441, []⟩ ?_
       refine kA ?_
       refine oA 457 [2, 8, 9, 11, 12, 13, 19, 20, 21, 34] (fun _ => none) rfl (fun _ _ => rS (rA he66a (rA he66b he66c))) ?_
       refine bO rfl hb70 ?_
       refine oA 489 [6, 7] (fun _ => none) rfl (fun _ _ => rS (rA he66a (rA he66b he66c))) ?_
       refine jA ?_
       obtain rfl := Option.some.inj h1
       refine mA (kC (mA (mA (uD (mA ?_)))))
       refine oE (fun _ _ => rS (rA he66a (rA he66b he66c))) ?_
       refine xF ⟨[(0, .psl 4 (List.map aA.enc l1)), (1, .bool bottom2), (4, .ref 0 0 0 0), (8, .psl 4 (List.map aA.enc l1)), (9, .bool bottom2), (10, .fn 85 [] [.ref 0 0 0 0]), (11, .tup [.int .i64 v60, .int .i64 vr69])], [(0, ⟨0, true, false, 1, [[.sl 144 g64 4 0 v63.length]]⟩), (144, ⟨g64, true, true, 4, List.map aA.enc v63⟩)], 489, []⟩ ?_
       refine fC (l' := List.range' 4 5 ++ []) rfl ?_
       refine pC 4 5 529 [] (fun _ => none) rfl rfl rfl (fun _ _ => rS (rA he66a (rA he66b he66c))) ?_
       refine mD ?_
       refine gA ?_
       refine xE ⟨[(4, .ref 0 0 0 0), (5, .int .i64 v60), (6, .int .i64 vr69)], [(0, ⟨0, true, false, 1, [[.sl 144 g64 4 0 v63.length]]⟩), (144, ⟨g64, true, true, 4, List.map aA.enc v63⟩)], 529, []⟩ ?_
       refine kA ?_
       refine oA 545 [4, 5, 6, 15] (fun _ => none) rfl (fun _ _ => rS (rA he66a (rA he66b he66c))) ?_
       refine bO rfl hb70 ?_
       refine oA 585 [4, 5, 6] (fun _ => none) rfl (fun _ _ => rS (rA he66a (rA he66b he66c))) ?_
       refine jA (mA ?_)
       obtain rfl := Option.some.inj h0
       refine nA [] ?_
       simp (maxSteps := 1000000) only [↓reduceIte, reduceCtorEq, Nat.reduceEqDiff, Nat.reduceLT, Nat.reduceLeDiff, Nat.reduceAdd, Nat.reduceMul, Int.reduceToNat, push_cast, lC, he66a, he66b, he66c]
       all_goals exact rH
      ·
       refine qA (gA (kA ?_))
       obtain ⟨b71, hb71, h1⟩ := eA h1
       refine dD (fr' := [(2, .ref 217 0 0 0), (3, .ref 225 0 0 0), (5, .ref 241 0 0 0), (30, .bool b71)]) (hp' := [(0, ⟨0, true, false, 1, [[.sl 144 g64 4 0 v63.length]]⟩), (104, ⟨0, true, true, 3, [[.bool v61, .str v62, .bool vr4.Bottom]]⟩), (144, ⟨g64, true, true, 4, List.map aA.enc v63⟩), (177, ⟨0, true, true, 4, [[.str e66.Key, .str e66.Val, .bool e66.Dead, .int .i64 e66.Seq]]⟩), (217, ⟨0, true, true, 3, [[.bool v61, .str v62, .bool vr4.Bottom]]⟩), (225, ⟨0, true, true, 4, [[.str e66.Key, .str e66.Val, .bool e66.Dead, .int .i64 e66.Seq]]⟩), (241, ⟨0, true, true, 3, [[.bool false, .str [], .bool false]]⟩)]) [0, 104, 144, 177, 217, 225, 241] 409 [2, 3, 5, 30] (fun _ => none) rfl (fun Kt hK => by
         cases v61 with
         | false =>
          replace hb71 := vA hb71 rfl
          have hqb71 := Option.some.inj hb71
          subst hqb71
          exact rS (rA he66a (rA he66b he66c))
         | true =>
          replace hb71 := iB hb71 rfl
          have hqb71 := Option.some.inj hb71
          subst hqb71
          exact rS (rA he66a (rA he66b he66c))) ?_
       refine xI h1 rfl (fun h1 hb73 => ?_) (fun h1 hb73 => ?_)
       ·
        refine oA 441 [4, 5, 6] (fun _ => none) rfl (fun _ _ => rS (rA he66a (rA he66b he66c))) ?_
        refine jA (mA ?_)
        refine oE (fun _ _ => rS (rA he66a (rA he66b he66c))) ?_
        refine xF ⟨[(2, .fn 85 [] [.ref 0 0 0 0]), (8, .ref 104 0 0 0), (9, .int .i64 v60), (10, .ref 177 0 0 0), (19, .psl 4 (List.map aA.enc l1)), (20, .int .i64 (l1.length : Int)), (21, .int .i64 v60), (27, .agg [.bool v61, .str v62, .bool vr4.Bottom]), (28, .agg [.str e66.Key, .str e66.Val, .bool e66.Dead, .int .i64 e66.Seq]), (29, .tup [.nili, .agg [.bool false, .str [], .bool false], .int .i64 6])], [(0, ⟨0, true, false, 1, [[.sl 144 g64 4 0 v63.length]]⟩), (104, ⟨0, true, true, 3, [[.bool v61, .str v62, .bool vr4.Bottom]]⟩), (144, ⟨g64, true, true, 4, List.map aA.enc v63⟩), (177, ⟨0, true, true, 4, [[.str e66.Key, .str e66.Val, .bool e66.Dead, .int .i64 e66.Seq]]⟩)], 441, []⟩ ?_
        refine fC (l' := List.range' 3 8 ++ []) rfl ?_
        refine pC 3 8 505 [] (fun _ => none) rfl rfl rfl (fun _ _ => rS (rA he66a (rA he66b he66c))) ?_
        refine mD ?_
        refine gA ?_
        refine xE ⟨[(2, .fn 85 [] [.ref 0 0 0 0]), (8, .ref 104 0 0 0), (9, .int .i64 v60), (11, .nili), (12, .ref 473 0 0 0), (13, .int .i64 6), (19, .psl 4 (List.map aA.enc l1)), (20, .int .i64 (l1.length : Int)), (21, .int .i64 v60)], [(0, ⟨0, true, false, 1, [[.sl 144 g64 4 0 v63.length]]⟩), (104, ⟨0, true, true, 3, [[.bool v61, .str v62, .bool vr4.Bottom]]⟩), (144, ⟨g64, true, true, 4, List.map aA.enc v63⟩), (473, ⟨0, true, true, 3, [[.bool false, .str [], .bool false]]⟩)], 505, []⟩ ?_
        refine kA ?_
        refine oA 521 [2, 8, 9, 11, 12, 13, 19, 20, 21, 34] (fun _ => none) rfl (fun _ _ => rS (rA he66a (rA he66b he66c))) ?_
        refine wQ rfl ?_
        refine oA 553 [6, 7] (fun _ => none) rfl (fun _ _ => rS (rA he66a (rA he66b he66c))) ?_
        refine jA ?_
        obtain rfl := Option.some.inj h1
        refine mA (kC (mA (mA (uD (mA ?_)))))
        refine oE (fun _ _ => rS (rA he66a (rA he66b he66c))) ?_
        refine xF ⟨[(0, .psl 4 (List.map aA.enc l1)), (1, .bool bottom2), (4, .ref 0 0 0 0), (8, .psl 4 (List.map aA.enc l1)), (9, .bool bottom2), (10, .fn 85 [] [.ref 0 0 0 0]), (11, .tup [.int .i64 v60, .int .i64 6])], [(0, ⟨0, true, false, 1, [[.sl 144 g64 4 0 v63.length]]⟩), (144, ⟨g64, true, true, 4, List.map aA.enc v63⟩)], 553, []⟩ ?_
        refine fC (l' := List.range' 4 5 ++ []) rfl ?_
        refine pC 4 5 593 [] (fun _ => none) rfl rfl rfl (fun _ _ => rS (rA he66a (rA he66b he66c))) ?_
        refine mD ?_
        refine gA ?_
        refine xE ⟨[(4, .ref 0 0 0 0), (5, .int .i64 v60), (6, .int .i64 6)], [(0, ⟨0, true, false, 1, [[.sl 144 g64 4 0 v63.length]]⟩), (144, ⟨g64, true, true, 4, List.map aA.enc v63⟩)], 593, []⟩ ?_
        refine kA ?_
        refine oA 609 [4, 5, 6, 15] (fun _ => none) rfl (fun _ _ => rS (rA he66a (rA he66b he66c))) ?_
        refine wQ rfl ?_
        refine oA 649 [4, 5, 6] (fun _ => none) rfl (fun _ _ => rS (rA he66a (rA he66b he66c))) ?_
        refine jA (mA ?_)
        obtain rfl := Option.some.inj h0
        refine nA [] ?_
        simp (maxSteps := 1000000) only [↓reduceIte, reduceCtorEq, Nat.reduceEqDiff, Nat.reduceLT, Nat.reduceLeDiff, Nat.reduceAdd, Nat.reduceMul, Int.reduceToNat, push_cast, lC, he66a, he66b, he66c]
        all_goals exact rH
       ·
        refine qA (gA ?_)
        refine oA 465 [2, 3, 5, 9] (fun _ => none) rfl (fun _ _ => rS (rA he66a (rA he66b he66c))) ?_
        refine kA (jC ?_)
        obtain ⟨b74, hb74, h1⟩ := eA h1
        refine dD (fr' := [(2, .ref 217 0 0 0), (3, .ref 225 0 0 0), (5, .ref 241 0 0 0), (9, .ref 449 0 0 0), (37, .bool b74)]) (hp' := [(0, ⟨0, true, false, 1, [[.sl 144 g64 4 0 v63.length]]⟩), (104, ⟨0, true, true, 3, [[.bool v61, .str v62, .bool vr4.Bottom]]⟩), (144, ⟨g64, true, true, 4, List.map aA.enc v63⟩), (177, ⟨0, true, true, 4, [[.str e66.Key, .str e66.Val, .bool e66.Dead, .int .i64 e66.Seq]]⟩), (217, ⟨0, true, true, 3, [[.bool v61, .str v62, .bool vr4.Bottom]]⟩), (225, ⟨0, true, true, 4, [[.str e66.Key, .str e66.Val, .bool e66.Dead, .int .i64 e66.Seq]]⟩), (241, ⟨0, true, true, 3, [[.bool false, .str [], .bool false]]⟩), (449, ⟨0, true, true, 3, [[.bool true, .str e66.Key, .bool vr4.Bottom]]⟩)]) [0, 104, 144, 177, 217, 225, 241, 449] 545 [2, 3, 5, 9, 37] (fun _ => none) rfl (fun Kt hK => by
          cases v61 with
          | false =>
           replace hb74 := vA hb74 rfl
           have hqb74 := Option.some.inj hb74
           subst hqb74
           exact rS (rA he66a (rA he66b he66c))
          | true =>
           replace hb74 := iB hb74 rfl
           have hqb74 := Option.some.inj hb74
           subst hqb74
           exact rS (rA he66a (rA he66b he66c))) ?_
        refine xI h1 rfl (fun h1 hb76 => ?_) (fun h1 hb76 => ?_)
        ·
         refine jD 593 [4, 5, 6] (fun _ => none) rfl rfl rfl (fun _ _ => uE (rA he66a (rA he66b he66c))) ?_
         refine jA (kC (mA ?_))
         refine oE (fun _ _ => rS (rA he66a (rA he66b he66c))) ?_
         refine xF ⟨[(2, .fn 85 [] [.ref 0 0 0 0]), (8, .ref 104 0 0 0), (9, .int .i64 v60), (10, .ref 177 0 0 0), (19, .psl 4 (List.map aA.enc l1)), (20, .int .i64 (l1.length : Int)), (21, .int .i64 v60), (27, .agg [.bool v61, .str v62, .bool vr4.Bottom]), (28, .agg [.str e66.Key, .str e66.Val, .bool e66.Dead, .int .i64 e66.Seq]), (29, .tup [.iface 163 (.agg [.str e66.Key, .str e66.Val, .bool e66.Dead, .int .i64 e66.Seq]), .agg [.bool true, .str e66.Key, .bool vr4.Bottom], .int .i64 0])], [(0, ⟨0, true, false, 1, [[.sl 144 g64 4 0 v63.length]]⟩), (104, ⟨0, true, true, 3, [[.bool v61, .str v62, .bool vr4.Bottom]]⟩), (144, ⟨g64, true, true, 4, List.map aA.enc v63⟩), (177, ⟨0, true, true, 4, [[.str e66.Key, .str e66.Val, .bool e66.Dead, .int .i64 e66.Seq]]⟩)], 593, []⟩ ?_
         refine fC (l' := List.range' 3 8 ++ []) rfl ?_
         refine pC 3 8 657 [] (fun _ => none) rfl rfl rfl (fun _ _ => rS (rA he66a (rA he66b he66c))) ?_
         refine mD ?_
         refine gA ?_
         refine xE ⟨[(2, .fn 85 [] [.ref 0 0 0 0]), (8, .ref 104 0 0 0), (9, .int .i64 v60), (11, .iface 163 (.agg [.str e66.Key, .str e66.Val, .bool e66.Dead, .int .i64 e66.Seq])), (12, .ref 625 0 0 0), (13, .int .i64 0), (19, .psl 4 (List.map aA.enc l1)), (20, .int .i64 (l1.length : Int)), (21, .int .i64 v60)], [(0, ⟨0, true, false, 1, [[.sl 144 g64 4 0 v63.length]]⟩), (104, ⟨0, true, true, 3, [[.bool v61, .str v62, .bool vr4.Bottom]]⟩), (144, ⟨g64, true, true, 4, List.map aA.enc v63⟩), (625, ⟨0, true, true, 3, [[.bool true, .str e66.Key, .bool vr4.Bottom]]⟩)], 657, []⟩ ?_
         refine kA ?_
         refine oA 673 [2, 8, 9, 11, 12, 13, 19, 20, 21, 34] (fun _ => none) rfl (fun _ _ => rS (rA he66a (rA he66b he66c))) ?_
         refine wF rfl ?_
         refine qA (gA ?_)
         refine mH 3 rfl ?_
         refine fC (l' := List.range' 0 2 ++ (2 :: (List.range' 3 0 ++ []))) rfl ?_
         refine pC 0 2 689 (2 :: (List.range' 3 0 ++ [])) (fun _ => none) rfl rfl rfl (fun _ _ => rS (rA he66a (rA he66b he66c))) ?_
         refine xJ rfl rfl rfl rfl rfl Try.func85 rfl (by decide) rfl rL ?_
         dsimp only [Try.f85]
         refine xE ⟨[(0, .iface 163 (.agg [.str e66.Key, .str e66.Val, .bool e66.Dead, .int .i64 e66.Seq])), (1, .ref 0 0 0 0)], [(0, ⟨0, true, false, 1, [[.sl 144 g64 4 0 v63.length]]⟩), (104, ⟨0, true, true, 3, [[.bool v61, .str v62, .bool vr4.Bottom]]⟩), (144, ⟨g64, true, true, 4, List.map aA.enc v63⟩), (625, ⟨0, true, true, 3, [[.bool true, .str e66.Key, .bool vr4.Bottom]]⟩)], 689, []⟩ ?_
         refine oA 753 [0, 1, 4] (fun _ => none) rfl (fun _ _ => rS (rA he66a (rA he66b he66c))) ?_
         refine oA 761 [0, 1, 10] (fun _ => none) rfl (fun _ _ => rS (rA he66a (rA he66b he66c))) ?_
         refine wF rfl ?_
         refine qA ?_
         refine iS (fun _ _ => rS (rA he66a (rA he66b he66c))) ?_
         refine xF ⟨[(2, .fn 85 [] [.ref 0 0 0 0]), (8, .ref 104 0 0 0), (9, .int .i64 v60), (11, .iface 163 (.agg [.str e66.Key, .str e66.Val, .bool e66.Dead, .int .i64 e66.Seq])), (12, .ref 625 0 0 0), (13, .int .i64 0), (19, .psl 4 (List.map aA.enc l1)), (20, .int .i64 (l1.length : Int)), (21, .int .i64 v60), (34, .bool false), (37, .fn 85 [] [.ref 0 0 0 0]), (38, .iface 163 (.agg [.str e66.Key, .str e66.Val, .bool e66.Dead, .int .i64 e66.Seq])), (39, .tup [])], [(0, ⟨0, true, false, 1, [[.sl 144 g64 4 0 v63.length]]⟩), (104, ⟨0, true, true, 3, [[.bool v61, .str v62, .bool vr4.Bottom]]⟩), (144, ⟨g64, true, true, 4, List.map aA.enc v63⟩), (625, ⟨0, true, true, 3, [[.bool true, .str e66.Key, .bool vr4.Bottom]]⟩)], 761, []⟩ ?_
         refine fC (l' := []) rfl ?_
         refine mD ?_
         refine gA ?_
         refine xE ⟨[(2, .fn 85 [] [.ref 0 0 0 0]), (8, .ref 104 0 0 0), (12, .ref 625 0 0 0), (19, .psl 4 (List.map aA.enc l1)), (20, .int .i64 (l1.length : Int)), (21, .int .i64 v60)], [(0, ⟨0, true, false, 1, [[.sl 144 g64 4 0 v63.length]]⟩), (104, ⟨0, true, true, 3, [[.bool v61, .str v62, .bool vr4.Bottom]]⟩), (144, ⟨g64, true, true, 4, List.map aA.enc v63⟩), (625, ⟨0, true, true, 3, [[.bool true, .str e66.Key, .bool vr4.Bottom]]⟩)], 761, []⟩ ?_
         refine iC 777 [2, 8, 19, 20, 21] (fun _ => none) rfl (fun _ _ => rS (rA he66a (rA he66b he66c))) ?_
         refine cC (gA ?_)
         refine iC 793 [2, 8, 19, 20, 21] (fun _ => none) rfl (fun _ _ => rS (rA he66a (rA he66b he66c))) ?_
         refine gA ?_
         exact ⟨⟨(fu, (IntKind.i64.wrap (v60 + 1)), true, e66.Key, v63, g64), h1⟩, ⟨rF, rE, rfl, rfl, trivial, trivial⟩, Nat.lt_succ_self _⟩
        ·
         obtain ⟨b77, hb77, h1⟩ := eA h1
         refine dD (fr' := [(3, .ref 225 0 0 0), (5, .ref 241 0 0 0), (9, .ref 449 0 0 0), (50, .bool b77)]) (hp' := [(0, ⟨0, true, false, 1, [[.sl 144 g64 4 0 v63.length]]⟩), (104, ⟨0, true, true, 3, [[.bool v61, .str v62, .bool vr4.Bottom]]⟩), (144, ⟨g64, true, true, 4, List.map aA.enc v63⟩), (177, ⟨0, true, true, 4, [[.str e66.Key, .str e66.Val, .bool e66.Dead, .int .i64 e66.Seq]]⟩), (217, ⟨0, true, true, 3, [[.bool v61, .str v62, .bool vr4.Bottom]]⟩), (225, ⟨0, true, true, 4, [[.str e66.Key, .str e66.Val, .bool e66.Dead, .int .i64 e66.Seq]]⟩), (241, ⟨0, true, true, 3, [[.bool false, .str [], .bool false]]⟩), (449, ⟨0, true, true, 3, [[.bool true, .str e66.Key, .bool vr4.Bottom]]⟩)]) [0, 104, 144, 177, 217, 225, 241, 449] 601 [3, 5, 9, 50] (fun _ => none) rfl (fun Kt hK => by
           cases hg78 : vr4.Bottom with
           | false =>
            replace hb77 := vA hb77 hg78
            have hqb77 := Option.some.inj hb77
            subst hqb77
            simp (maxSteps := 1000000) only [↓reduceIte, reduceCtorEq, Nat.reduceEqDiff, Nat.reduceLT, Nat.reduceLeDiff, Nat.reduceAdd, Nat.reduceMul, Int.reduceToNat, push_cast, he66a, he66b, he66c, ↓hg78]
            try simp only [↓hg78] at hK
            all_goals exact rU
           | true =>
            replace hb77 := iB hb77 hg78
            have hqb77 := Option.some.inj hb77
            subst hqb77
            simp (maxSteps := 1000000) only [↓reduceIte, reduceCtorEq, Nat.reduceEqDiff, Nat.reduceLT, Nat.reduceLeDiff, Nat.reduceAdd, Nat.reduceMul, Int.reduceToNat, push_cast, he66a, he66b, he66c, ↓hg78]
            try simp only [↓hg78] at hK
            all_goals exact rU) ?_
         refine xI h1 rfl (fun h1 hb79 => ?_) (fun h1 hb79 => ?_)
         ·
          refine jD 649 [4, 5, 6] (fun _ => none) rfl rfl rfl (fun _ _ => uE (rA he66a (rA he66b he66c))) ?_
          refine jA (kC (mA ?_))
          refine oE (fun _ _ => rS (rA he66a (rA he66b he66c))) ?_
          refine xF ⟨[(2, .fn 85 [] [.ref 0 0 0 0]), (8, .ref 104 0 0 0), (9, .int .i64 v60), (10, .ref 177 0 0 0), (19, .psl 4 (List.map aA.enc l1)), (20, .int .i64 (l1.length : Int)), (21, .int .i64 v60), (27, .agg [.bool v61, .str v62, .bool vr4.Bottom]), (28, .agg [.str e66.Key, .str e66.Val, .bool e66.Dead, .int .i64 e66.Seq]), (29, .tup [.iface 164 (.agg [.str e66.Key, .str e66.Val, .bool e66.Dead, .int .i64 e66.Seq]), .agg [.bool true, .str e66.Key, .bool vr4.Bottom], .int .i64 0])], [(0, ⟨0, true, false, 1, [[.sl 144 g64 4 0 v63.length]]⟩), (104, ⟨0, true, true, 3, [[.bool v61, .str v62, .bool vr4.Bottom]]⟩), (144, ⟨g64, true, true, 4, List.map aA.enc v63⟩), (177, ⟨0, true, true, 4, [[.str e66.Key, .str e66.Val, .bool e66.Dead, .int .i64 e66.Seq]]⟩)], 649, []⟩ ?_
          refine fC (l' := List.range' 3 8 ++ []) rfl ?_
          refine pC 3 8 713 [] (fun _ => none) rfl rfl rfl (fun _ _ => rS (rA he66a (rA he66b he66c))) ?_
          refine mD ?_
          refine gA ?_
          refine xE ⟨[(2, .fn 85 [] [.ref 0 0 0 0]), (8, .ref 104 0 0 0), (9, .int .i64 v60), (11, .iface 164 (.agg [.str e66.Key, .str e66.Val, .bool e66.Dead, .int .i64 e66.Seq])), (12, .ref 681 0 0 0), (13, .int .i64 0), (19, .psl 4 (List.map aA.enc l1)), (20, .int .i64 (l1.length : Int)), (21, .int .i64 v60)], [(0, ⟨0, true, false, 1, [[.sl 144 g64 4 0 v63.length]]⟩), (104, ⟨0, true, true, 3, [[.bool v61, .str v62, .bool vr4.Bottom]]⟩), (144, ⟨g64, true, true, 4, List.map aA.enc v63⟩), (681, ⟨0, true, true, 3, [[.bool true, .str e66.Key, .bool vr4.Bottom]]⟩)], 713, []⟩ ?_
          refine kA ?_
          refine oA 729 [2, 8, 9, 11, 12, 13, 19, 20, 21, 34] (fun _ => none) rfl (fun _ _ => rS (rA he66a (rA he66b he66c))) ?_
          refine wF rfl ?_
          refine qA (gA ?_)
          refine mH 3 rfl ?_
          refine fC (l' := List.range' 0 2 ++ (2 :: (List.range' 3 0 ++ []))) rfl ?_
          refine pC 0 2 745 (2 :: (List.range' 3 0 ++ [])) (fun _ => none) rfl rfl rfl (fun _ _ => rS (rA he66a (rA he66b he66c))) ?_
          refine xJ rfl rfl rfl rfl rfl Try.func85 rfl (by decide) rfl rL ?_
          dsimp only [Try.f85]
          refine xE ⟨[(0, .iface 164 (.agg [.str e66.Key, .str e66.Val, .bool e66.Dead, .int .i64 e66.Seq])), (1, .ref 0 0 0 0)], [(0, ⟨0, true, false, 1, [[.sl 144 g64 4 0 v63.length]]⟩), (104, ⟨0, true, true, 3, [[.bool v61, .str v62, .bool vr4.Bottom]]⟩), (144, ⟨g64, true, true, 4, List.map aA.enc v63⟩), (681, ⟨0, true, true, 3, [[.bool true, .str e66.Key, .bool vr4.Bottom]]⟩)], 745, []⟩ ?_
          refine oA 809 [0, 1, 4] (fun _ => none) rfl (fun _ _ => rS (rA he66a (rA he66b he66c))) ?_
          refine oA 817 [0, 1, 10] (fun _ => none) rfl (fun _ _ => rS (rA he66a (rA he66b he66c))) ?_
          refine wF rfl ?_
          refine qA ?_
          refine iS (fun _ _ => rS (rA he66a (rA he66b he66c))) ?_
          refine xF ⟨[(2, .fn 85 [] [.ref 0 0 0 0]), (8, .ref 104 0 0 0), (9, .int .i64 v60), (11, .iface 164 (.agg [.str e66.Key, .str e66.Val, .bool e66.Dead, .int .i64 e66.Seq])), (12, .ref 681 0 0 0), (13, .int .i64 0), (19, .psl 4 (List.map aA.enc l1)), (20, .int .i64 (l1.length : Int)), (21, .int .i64 v60), (34, .bool false), (37, .fn 85 [] [.ref 0 0 0 0]), (38, .iface 164 (.agg [.str e66.Key, .str e66.Val, .bool e66.Dead, .int .i64 e66.Seq])), (39, .tup [])], [(0, ⟨0, true, false, 1, [[.sl 144 g64 4 0 v63.length]]⟩), (104, ⟨0, true, true, 3, [[.bool v61, .str v62, .bool vr4.Bottom]]⟩), (144, ⟨g64, true, true, 4, List.map aA.enc v63⟩), (681, ⟨0, true, true, 3, [[.bool true, .str e66.Key, .bool vr4.Bottom]]⟩)], 817, []⟩ ?_
          refine fC (l' := []) rfl ?_
          refine mD ?_
          refine gA ?_
          refine xE ⟨[(2, .fn 85 [] [.ref 0 0 0 0]), (8, .ref 104 0 0 0), (12, .ref 681 0 0 0), (19, .psl 4 (List.map aA.enc l1)), (20, .int .i64 (l1.length : Int)), (21, .int .i64 v60)], [(0, ⟨0, true, false, 1, [[.sl 144 g64 4 0 v63.length]]⟩), (104, ⟨0, true, true, 3, [[.bool v61, .str v62, .bool vr4.Bottom]]⟩), (144, ⟨g64, true, true, 4, List.map aA.enc v63⟩), (681, ⟨0, true, true, 3, [[.bool true, .str e66.Key, .bool vr4.Bottom]]⟩)], 817, []⟩ ?_
          refine iC 833 [2, 8, 19, 20, 21] (fun _ => none) rfl (fun _ _ => rS (rA he66a (rA he66b he66c))) ?_
          refine cC (gA ?_)
          refine iC 849 [2, 8, 19, 20, 21] (fun _ => none) rfl (fun _ _ => rS (rA he66a (rA he66b he66c))) ?_
          refine gA ?_
          exact ⟨⟨(fu, (IntKind.i64.wrap (v60 + 1)), true, e66.Key, v63, g64), h1⟩, ⟨rF, rE, rfl, rfl, trivial, trivial⟩, Nat.lt_succ_self _⟩
         ·
          refine qA (cC (gA ?_))
          refine jD 649 [4, 5, 6] (fun _ => none) rfl rfl rfl (fun _ _ => uE (rA he66a (rA he66b he66c))) ?_
          refine jA ?_
          refine oE (fun _ _ => rS (rA he66a (rA he66b he66c))) ?_
          refine xF ⟨[(2, .fn 85 [] [.ref 0 0 0 0]), (8, .ref 104 0 0 0), (9, .int .i64 v60), (10, .ref 177 0 0 0), (19, .psl 4 (List.map aA.enc l1)), (20, .int .i64 (l1.length : Int)), (21, .int .i64 v60), (27, .agg [.bool v61, .str v62, .bool vr4.Bottom]), (28, .agg [.str e66.Key, .str e66.Val, .bool e66.Dead, .int .i64 e66.Seq]), (29, .tup [.iface 143 (.agg [.str e66.Key, .str e66.Val, .bool e66.Dead, .int .i64 e66.Seq]), .agg [.bool true, .str e66.Key, .bool vr4.Bottom], .int .i64 0])], [(0, ⟨0, true, false, 1, [[.sl 144 g64 4 0 v63.length]]⟩), (104, ⟨0, true, true, 3, [[.bool v61, .str v62, .bool vr4.Bottom]]⟩), (144, ⟨g64, true, true, 4, List.map aA.enc v63⟩), (177, ⟨0, true, true, 4, [[.str e66.Key, .str e66.Val, .bool e66.Dead, .int .i64 e66.Seq]]⟩)], 649, []⟩ ?_
          refine fC (l' := List.range' 3 8 ++ []) rfl ?_
          refine pC 3 8 713 [] (fun _ => none) rfl rfl rfl (fun _ _ => rS (rA he66a (rA he66b he66c))) ?_
          refine mD ?_
          refine gA ?_
          refine xE ⟨[(2, .fn 85 [] [.ref 0 0 0 0]), (8, .ref 104 0 0 0), (9, .int .i64 v60), (11, .iface 143 (.agg [.str e66.Key, .str e66.Val, .bool e66.Dead, .int .i64 e66.Seq])), (12, .ref 681 0 0 0), (13, .int .i64 0), (19, .psl 4 (List.map aA.enc l1)), (20, .int .i64 (l1.length : Int)), (21, .int .i64 v60)], [(0, ⟨0, true, false, 1, [[.sl 144 g64 4 0 v63.length]]⟩), (104, ⟨0, true, true, 3, [[.bool v61, .str v62, .bool vr4.Bottom]]⟩), (144, ⟨g64, true, true, 4, List.map aA.enc v63⟩), (681, ⟨0, true, true, 3, [[.bool true, .str e66.Key, .bool vr4.Bottom]]⟩)], 713, []⟩ ?_
          refine kA ?_
          refine oA 729 [2, 8, 9, 11, 12, 13, 19, 20, 21, 34] (fun _ => none) rfl (fun _ _ => rS (rA he66a (rA he66b he66c))) ?_
          refine wF rfl ?_
          refine qA (gA ?_)
          refine mH 3 rfl ?_
          refine fC (l' := List.range' 0 2 ++ (2 :: (List.range' 3 0 ++ []))) rfl ?_
          refine pC 0 2 745 (2 :: (List.range' 3 0 ++ [])) (fun _ => none) rfl rfl rfl (fun _ _ => rS (rA he66a (rA he66b he66c))) ?_
          refine xJ rfl rfl rfl rfl rfl Try.func85 rfl (by decide) rfl rL ?_
          dsimp only [Try.f85]
          refine xE ⟨[(0, .iface 143 (.agg [.str e66.Key, .str e66.Val, .bool e66.Dead, .int .i64 e66.Seq])), (1, .ref 0 0 0 0)], [(0, ⟨0, true, false, 1, [[.sl 144 g64 4 0 v63.length]]⟩), (104, ⟨0, true, true, 3, [[.bool v61, .str v62, .bool vr4.Bottom]]⟩), (144, ⟨g64, true, true, 4, List.map aA.enc v63⟩), (681, ⟨0, true, true, 3, [[.bool true, .str e66.Key, .bool vr4.Bottom]]⟩)], 745, []⟩ ?_
          refine oA 809 [0, 1, 4] (fun _ => none) rfl (fun _ _ => rS (rA he66a (rA he66b he66c))) ?_
          refine oA 817 [0, 1, 10] (fun _ => none) rfl (fun _ _ => rS (rA he66a (rA he66b he66c))) ?_
          refine wQ rfl ?_
          obtain ⟨vr80, hvr80, h1⟩ := eA h1
          obtain ⟨hc81, h1⟩ := cF h1
          refine aJ 865 [] (fun | 2 => some (.agg (aA.enc vr80), []) | _ => none) rfl rfl rfl (fun _ _ => cQ (rA he66a (rA he66b he66c)) (zjk hvr80)) ?_
          refine iS (fun _ _ => rS (rA he66a (rA he66b he66c))) ?_
          refine xF ⟨[(2, .fn 85 [] [.ref 0 0 0 0]), (8, .ref 104 0 0 0), (9, .int .i64 v60), (11, .iface 143 (.agg [.str e66.Key, .str e66.Val, .bool e66.Dead, .int .i64 e66.Seq])), (12, .ref 681 0 0 0), (13, .int .i64 0), (19, .psl 4 (List.map aA.enc l1)), (20, .int .i64 (l1.length : Int)), (21, .int .i64 v60), (34, .bool false), (37, .fn 85 [] [.ref 0 0 0 0]), (38, .iface 143 (.agg [.str e66.Key, .str e66.Val, .bool e66.Dead, .int .i64 e66.Seq])), (39, .tup [])], [(0, ⟨0, true, false, 1, [[.sl 144 (g64 + 1) 4 0 ((v63 ++ [vr80]).length)]]⟩), (104, ⟨0, true, true, 3, [[.bool v61, .str v62, .bool vr4.Bottom]]⟩), (144, ⟨(g64 + 1), true, true, 4, List.map aA.enc (v63 ++ [vr80])⟩), (681, ⟨0, true, true, 3, [[.bool true, .str e66.Key, .bool vr4.Bottom]]⟩)], 865, []⟩ ?_
          refine fC (l' := []) rfl ?_
          refine mD ?_
          refine gA ?_
          refine xE ⟨[(2, .fn 85 [] [.ref 0 0 0 0]), (8, .ref 104 0 0 0), (12, .ref 681 0 0 0), (19, .psl 4 (List.map aA.enc l1)), (20, .int .i64 (l1.length : Int)), (21, .int .i64 v60)], [(0, ⟨0, true, false, 1, [[.sl 144 (g64 + 1) 4 0 ((v63 ++ [vr80]).length)]]⟩), (104, ⟨0, true, true, 3, [[.bool v61, .str v62, .bool vr4.Bottom]]⟩), (144, ⟨(g64 + 1), true, true, 4, List.map aA.enc (v63 ++ [vr80])⟩), (681, ⟨0, true, true, 3, [[.bool true, .str e66.Key, .bool vr4.Bottom]]⟩)], 865, []⟩ ?_
          refine iC 881 [2, 8, 19, 20, 21] (fun _ => none) rfl (fun _ _ => rS (rA he66a (rA he66b he66c))) ?_
          refine cC (gA ?_)
          refine iC 897 [2, 8, 19, 20, 21] (fun _ => none) rfl (fun _ _ => rS (rA he66a (rA he66b he66c))) ?_
          refine gA ?_
          exact ⟨⟨(fu, (IntKind.i64.wrap (v60 + 1)), true, e66.Key, (v63 ++ [vr80]), (g64 + 1)), h1⟩, ⟨rF, rE, rfl, rfl, trivial, trivial⟩, Nat.lt_succ_self _⟩
    ·
     refine vC (jB (jB (bD ?_)))
     obtain rfl := Option.some.inj h1
     exact ⟨_, g64, rfl, rL, ⟨rF, rE, rfl, rfl, trivial, trivial⟩⟩
theorem uX {fu : Nat} {a1 : List aA} {b2 : List aA} {r : Bool} (h0 : nO fu a1 b2 = some r) : lB Try.prog 62 [.psl 4 (a1.map aA.enc), .psl 4 (b2.map aA.enc)] (.bool r) [] := by
 refine sB Try.func62 rfl (by decide) rL ?_
 dsimp only [Try.f62]
 rw [nO] at h0
 refine (show pA _ _ _ _ ⟨kB 0 _, [], 0, []⟩ from ?_)
 refine xS 8 [0, 1] ?_
 refine kA ?_
 refine xS 48 [0, 1, 11] ?_
 refine xI h0 rfl (fun h0 hb3 => ?_) (fun h0 hb3 => ?_)
 ·
  refine xS 56 [4] ?_
  refine jA (mA ?_)
  obtain rfl := Option.some.inj h0
  refine nA [] ?_
  exact rG
 ·
  refine qA (gA (kA ?_))
  refine xS 72 [1, 12, 13, 14] ?_
  obtain ⟨x13, hxx13, h0⟩ := eA h0
  refine lD (fun s' => ∃ o19 : Unit, x13 = .inl o19 ∧ s'.nx ≤ 80 ∧ LeN [] s' ⟨[], [], 80, []⟩) ?_ ?_
  ·
   intro s' hs
   obtain ⟨o19, rfl, hn, hs⟩ := hs
   refine gA ?_
   refine zB [] hn hs ?_
   refine xS 88 [4] ?_
   refine jA ?_
   obtain rfl := Option.some.inj h0
   refine nA [] ?_
   exact rG
  ·
   refine kD (ι := { p : Nat × Int // lI a1 b2 p.1 p.2 = some x13 }) (fun p => ⟨[(1, .psl 4 (List.map aA.enc b2)), (12, .psl 4 (List.map aA.enc a1)), (13, .int .i64 (a1.length : Int)), (14, .int .i64 p.1.2)], [], 72, []⟩) (fun p => p.1.1) ⟨(fu, 0), hxx13⟩ ⟨rF, rE, rfl, rfl, trivial, trivial⟩ (fun _ => Nat.le_refl _) ?_
   rintro ⟨⟨fu, v14⟩, h1⟩
   cases fu with
   | zero =>
   replace h1 : lI a1 b2 0 v14 = some x13 := h1
   rw [lI] at h1; cases h1
   | succ fu =>
    replace h1 : lI a1 b2 (fu + 1) v14 = some x13 := h1
    rw [lI] at h1
    refine (show pA _ _ _ _ ⟨[(1, .psl 4 (List.map aA.enc b2)), (12, .psl 4 (List.map aA.enc a1)), (13, .int .i64 (a1.length : Int)), (14, .int .i64 v14)], [], 72, []⟩ from ?_)
    refine xS 80 [1, 12, 13, 14, 15] ?_
    refine kA ?_
    refine xI h1 rfl (fun h1 hb15 => ?_) (fun h1 hb15 => ?_)
    ·
     refine qA (gA (kA (jC ?_)))
     obtain ⟨e16, he16, h1⟩ := eA h1
     obtain ⟨he16a, he16b, he16c⟩ := fB he16
     refine oA 128 [1, 5, 6, 12, 13, 14] (fun _ => none) rfl (fun _ _ => rS (rA he16a (rA he16b he16c))) ?_
     obtain ⟨e17, he17, h1⟩ := eA h1
     obtain ⟨he17a, he17b, he17c⟩ := fB he17
     refine jD 176 [1, 12, 13, 14, 24] (fun _ => none) rfl rfl rfl (fun _ _ => uE (rA he16a (rA he16b (rA he16c (rA he17a (rA he17b he17c)))))) ?_
     refine xI h1 rfl (fun h1 hb18 => ?_) (fun h1 hb18 => ?_)
     ·
      refine oA 184 [4] (fun _ => none) rfl (fun _ _ => rS (rA he16a (rA he16b (rA he16c (rA he17a (rA he17b he17c)))))) ?_
      refine jA ?_
      obtain rfl := Option.some.inj h1
      refine kC (mA (mA (uD (mA ?_))))
      obtain rfl := Option.some.inj h0
      refine nA [] ?_
      simp (maxSteps := 1000000) only [↓reduceIte, reduceCtorEq, Nat.reduceEqDiff, Nat.reduceLT, Nat.reduceLeDiff, Nat.reduceAdd, Nat.reduceMul, Int.reduceToNat, push_cast, lC, he16a, he16b, he16c, he17a, he17b, he17c]
      all_goals exact rH
     ·
      refine qA (cC (gA ?_))
      refine iC 192 [1, 12, 13, 14] (fun _ => none) rfl (fun _ _ => rS (rA he16a (rA he16b (rA he16c (rA he17a (rA he17b he17c)))))) ?_
      refine gA ?_
      exact ⟨⟨(fu, (IntKind.i64.wrap (v14 + 1))), h1⟩, ⟨rF, rE, rfl, rfl, trivial, trivial⟩, Nat.lt_succ_self _⟩
    ·
     refine vC (jB (jB (bD ?_)))
     obtain rfl := Option.some.inj h1
     exact ⟨_, rfl, rL, ⟨rF, rE, rfl, rfl, trivial, trivial⟩⟩
theorem zlH {fu : Nat} {vs1 : pB} {r : Int} (h0 : uO fu vs1 = some r) : lB Try.prog 43 [.agg (pB.enc vs1)] (.int .i64 r) [] := by
 refine sB Try.func43 rfl (by decide) rL ?_
 dsimp only [Try.f43]
 rw [uO] at h0
 refine (show pA _ _ _ _ ⟨kB 0 _, [], 0, []⟩ from ?_)
 refine xS 16 [1] ?_
 refine kA ?_
 obtain ⟨vr2, hvr2, h0⟩ := eA h0
 refine oA 80 [1, 4] (fun | 2 => some (.tup [.int .i64 vr2.1, .int .i64 vr2.2], []) | _ => none) rfl (fun _ _ => rC (zbp hvr2)) ?_
 refine xS 96 [1, 4, 21] ?_
 refine xI h0 rfl (fun h0 hb3 => ?_) (fun h0 hb3 => ?_)
 ·
  refine xS 112 [2] ?_
  refine jA (mA ?_)
  obtain rfl := Option.some.inj h0
  refine nA [] ?_
  exact rG
 ·
  refine qA (gA ?_)
  refine xS 104 [1, 5] ?_
  refine kA ?_
  refine xS 144 [1, 5, 25, 26, 27] ?_
  obtain ⟨x10, hxx10, h0⟩ := eA h0
  refine lD (fun s' => s'.nx ≤ 152 ∧ LeN [] s' ⟨[(1, .ref 0 0 0 0), (5, .int .i64 x10)], [(0, ⟨0, true, true, 10, [[.psl 1 (List.map (wA 4 aA.enc) vs1.Merge.Runs), .psl 1 (List.map (iA .i64) vs1.Merge.At), .psl 2 (List.map cA.enc vs1.Merge.Tree.Keys), .psl 1 (List.map (iA .i64) vs1.Merge.Tree.Lose), .int .i64 vs1.Merge.Tree.Win, .bool vs1.Shadow.Some, .str vs1.Shadow.Last, .bool vs1.Shadow.Bottom, .psl 4 (List.map aA.enc vs1.Out), .int .i64 vs1.Steps]]⟩)], 152, []⟩) ?_ ?_
  ·
   intro s' hs
   obtain ⟨hn, hs⟩ := hs
   refine gA ?_
   refine zB [] hn hs ?_
   refine kA (jC ?_)
   obtain ⟨b15, hb15, h0⟩ := eA h0
   refine dD (fr' := [(1, .ref 0 0 0 0), (5, .int .i64 x10), (35, .bool b15)]) (hp' := [(0, ⟨0, true, true, 10, [[.psl 1 (List.map (wA 4 aA.enc) vs1.Merge.Runs), .psl 1 (List.map (iA .i64) vs1.Merge.At), .psl 2 (List.map cA.enc vs1.Merge.Tree.Keys), .psl 1 (List.map (iA .i64) vs1.Merge.Tree.Lose), .int .i64 vs1.Merge.Tree.Win, .bool vs1.Shadow.Some, .str vs1.Shadow.Last, .bool vs1.Shadow.Bottom, .psl 4 (List.map aA.enc vs1.Out), .int .i64 vs1.Steps]]⟩)]) [0] 224 [1, 5, 35] (fun _ => none) rfl (fun Kt hK => by
     cases hg16 : (decide (20000 < (vs1.Out.length : Int))) with
     | false =>
      replace hb15 := vA hb15 hg16
      have hqb15 := Option.some.inj hb15
      subst hqb15
      simp (maxSteps := 1000000) only [↓reduceIte, reduceCtorEq, Nat.reduceEqDiff, Nat.reduceLT, Nat.reduceLeDiff, Nat.reduceAdd, Nat.reduceMul, Int.reduceToNat, push_cast, ↓hg16]
      try simp only [↓hg16] at hK
      all_goals exact rU
     | true =>
      replace hb15 := iB hb15 hg16
      have hqb15 := Option.some.inj hb15
      subst hqb15
      simp (maxSteps := 1000000) only [↓reduceIte, reduceCtorEq, Nat.reduceEqDiff, Nat.reduceLT, Nat.reduceLeDiff, Nat.reduceAdd, Nat.reduceMul, Int.reduceToNat, push_cast, ↓hg16]
      try simp only [↓hg16] at hK
      all_goals exact rU) ?_
   refine xI h0 rfl (fun h0 hb17 => ?_) (fun h0 hb17 => ?_)
   ·
    refine xS 232 [2] ?_
    refine jA (kC (mA ?_))
    obtain rfl := Option.some.inj h0
    refine nA [] ?_
    exact rG
   ·
    refine xS 264 [1, 5, 44] ?_
    refine xI h0 rfl (fun h0 hb18 => ?_) (fun h0 hb18 => ?_)
    ·
     refine xS 272 [2] ?_
     refine jA (kC (mA ?_))
     obtain rfl := Option.some.inj h0
     refine nA [] ?_
     exact rG
    ·
     refine qA (cC (gA ?_))
     obtain ⟨vr19, hvr19, h0⟩ := eA h0
     refine oA 352 [1, 5, 8, 10] (fun | 3 => some (.tup [.psl 4 (vr19.1.map aA.enc), .psl 1 (vr19.2.1.map (iA .i64)), .int .i64 vr19.2.2], []) | _ => none) rfl (fun _ _ => rC (zfd hvr19)) ?_
     refine kA ?_
     refine xS 368 [1, 5, 8, 10, 58] ?_
     refine xI h0 rfl (fun h0 hb20 => ?_) (fun h0 hb20 => ?_)
     ·
      refine xS 384 [2] ?_
      refine jA (mA ?_)
      obtain rfl := Option.some.inj h0
      refine nA [] ?_
      exact rG
     ·
      refine qA (gA ?_)
      obtain ⟨hc21, h0⟩ := cF h0
      obtain ⟨vr22, hvr22, h0⟩ := eA h0
      refine jD 480 [1, 5, 8, 10, 11] (fun | 6 => some (.tup [.psl 4 (vr22.1.map aA.enc), .int .i64 vr22.2.1, .int .i64 vr22.2.2], []) | _ => none) rfl rfl rfl (fun _ _ => rCd (zgF hvr22)) ?_
      refine kA ?_
      refine xS 496 [1, 5, 8, 10, 11, 72] ?_
      refine xI h0 rfl (fun h0 hb23 => ?_) (fun h0 hb23 => ?_)
      ·
       refine xS 512 [2] ?_
       refine jA (mA ?_)
       obtain rfl := Option.some.inj h0
       refine nA [] ?_
       exact rG
      ·
       refine qA (gA ?_)
       obtain ⟨vr24, hvr24, h0⟩ := eA h0
       refine oA 544 [1, 5, 8, 11, 13] (fun | 3 => some (.agg (mB.enc vr24), []) | _ => none) rfl (fun _ _ => rC (zaY hvr24)) ?_
       refine kA ?_
       refine xS 560 [1, 5, 8, 11, 13, 79] ?_
       refine xI h0 rfl (fun h0 hb25 => ?_) (fun h0 hb25 => ?_)
       ·
        obtain ⟨e26, he26, h0⟩ := eA h0
        obtain ⟨he26a, he26b, he26c⟩ := fB he26
        refine aJ 640 [1, 11, 13] (fun _ => none) rfl rfl rfl (fun _ _ => uE (rA he26a (rA he26b he26c))) ?_
        refine gA (kA ?_)
        obtain ⟨vr27, hvr27, h0⟩ := eA h0
        obtain ⟨b28, hb28, h0⟩ := eA h0
        refine dD (fr' := [(98, .bool b28)]) (hp' := [(0, ⟨0, true, true, 10, [[.psl 1 (List.map (wA 4 aA.enc) vs1.Merge.Runs), .psl 1 (List.map (iA .i64) vs1.Merge.At), .psl 2 (List.map cA.enc vs1.Merge.Tree.Keys), .psl 1 (List.map (iA .i64) vs1.Merge.Tree.Lose), .int .i64 vs1.Merge.Tree.Win, .bool vs1.Shadow.Some, .str vs1.Shadow.Last, .bool vs1.Shadow.Bottom, .psl 4 (List.map aA.enc vs1.Out), .int .i64 vs1.Steps]]⟩), (528, ⟨0, true, true, 3, [[.bool true, .str e26.Key, .bool vr24.Bottom]]⟩)]) [0, 528] 728 [98] (fun | 3 => some (.bool vr27, []) | _ => none) rfl (fun Kt hK => by
          cases hg29 : (!vr27) with
          | false =>
           replace hb28 := vA hb28 hg29
           have hqb28 := Option.some.inj hb28
           subst hqb28
           simp (maxSteps := 1000000) only [↓reduceIte, reduceCtorEq, Nat.reduceEqDiff, Nat.reduceLT, Nat.reduceLeDiff, Nat.reduceAdd, Nat.reduceMul, Int.reduceToNat, push_cast, he26a, he26b, he26c, ↓hg29]
           try simp only [↓hg29] at hK
           try have q0 := uX hvr27
           all_goals exact rU
          | true =>
           replace hb28 := iB hb28 hg29
           have hqb28 := Option.some.inj hb28
           subst hqb28
           simp (maxSteps := 1000000) only [↓reduceIte, reduceCtorEq, Nat.reduceEqDiff, Nat.reduceLT, Nat.reduceLeDiff, Nat.reduceAdd, Nat.reduceMul, Int.reduceToNat, push_cast, he26a, he26b, he26c, ↓hg29]
           try simp only [↓hg29] at hK
           try have q0 := uX hvr27
           all_goals exact rU) ?_
        refine xI h0 rfl (fun h0 hb30 => ?_) (fun h0 hb30 => ?_)
        ·
         refine oA 736 [2] (fun _ => none) rfl (fun _ _ => rS (rA he26a (rA he26b he26c))) ?_
         refine jA (mA ?_)
         obtain rfl := Option.some.inj h0
         refine nA [] ?_
         simp (maxSteps := 1000000) only [↓reduceIte, reduceCtorEq, Nat.reduceEqDiff, Nat.reduceLT, Nat.reduceLeDiff, Nat.reduceAdd, Nat.reduceMul, Int.reduceToNat, push_cast, lC, he26a, he26b, he26c]
         all_goals exact rH
        ·
         refine qA (gA ?_)
         refine oA 736 [2] (fun _ => none) rfl (fun _ _ => rS (rA he26a (rA he26b he26c))) ?_
         refine jA ?_
         obtain rfl := Option.some.inj h0
         refine nA [] ?_
         simp (maxSteps := 1000000) only [↓reduceIte, reduceCtorEq, Nat.reduceEqDiff, Nat.reduceLT, Nat.reduceLeDiff, Nat.reduceAdd, Nat.reduceMul, Int.reduceToNat, push_cast, lC, he26a, he26b, he26c]
         all_goals exact rH
       ·
        refine qA (gA (kA ?_))
        obtain ⟨vr31, hvr31, h0⟩ := eA h0
        obtain ⟨b32, hb32, h0⟩ := eA h0
        refine dD (fr' := [(98, .bool b32)]) (hp' := [(0, ⟨0, true, true, 10, [[.psl 1 (List.map (wA 4 aA.enc) vs1.Merge.Runs), .psl 1 (List.map (iA .i64) vs1.Merge.At), .psl 2 (List.map cA.enc vs1.Merge.Tree.Keys), .psl 1 (List.map (iA .i64) vs1.Merge.Tree.Lose), .int .i64 vs1.Merge.Tree.Win, .bool vs1.Shadow.Some, .str vs1.Shadow.Last, .bool vs1.Shadow.Bottom, .psl 4 (List.map aA.enc vs1.Out), .int .i64 vs1.Steps]]⟩), (528, ⟨0, true, true, 3, [[.bool vr24.Some, .str vr24.Last, .bool vr24.Bottom]]⟩)]) [0, 528] 648 [98] (fun | 3 => some (.bool vr31, []) | _ => none) rfl (fun Kt hK => by
          cases hg33 : (!vr31) with
          | false =>
           replace hb32 := vA hb32 hg33
           have hqb32 := Option.some.inj hb32
           subst hqb32
           simp (maxSteps := 1000000) only [↓reduceIte, reduceCtorEq, Nat.reduceEqDiff, Nat.reduceLT, Nat.reduceLeDiff, Nat.reduceAdd, Nat.reduceMul, Int.reduceToNat, push_cast, ↓hg33]
           try simp only [↓hg33] at hK
           try have q0 := uX hvr31
           all_goals exact rU
          | true =>
           replace hb32 := iB hb32 hg33
           have hqb32 := Option.some.inj hb32
           subst hqb32
           simp (maxSteps := 1000000) only [↓reduceIte, reduceCtorEq, Nat.reduceEqDiff, Nat.reduceLT, Nat.reduceLeDiff, Nat.reduceAdd, Nat.reduceMul, Int.reduceToNat, push_cast, ↓hg33]
           try simp only [↓hg33] at hK
           try have q0 := uX hvr31
           all_goals exact rU) ?_
        refine xI h0 rfl (fun h0 hb34 => ?_) (fun h0 hb34 => ?_)
        ·
         refine xS 656 [2] ?_
         refine jA (mA ?_)
         obtain rfl := Option.some.inj h0
         refine nA [] ?_
         exact rG
        ·
         refine qA (gA ?_)
         refine xS 656 [2] ?_
         refine jA ?_
         obtain rfl := Option.some.inj h0
         refine nA [] ?_
         exact rG
  ·
   refine kD (ι := { p : Nat × Int × Int // fI vs1 p.1 p.2.1 p.2.2 = some x10 }) (fun p => ⟨[(1, .ref 0 0 0 0), (5, .int .i64 p.1.2.1), (25, .psl 1 (List.map (iA .i64) vs1.Merge.At)), (26, .int .i64 (vs1.Merge.At.length : Int)), (27, .int .i64 p.1.2.2)], [(0, ⟨0, true, true, 10, [[.psl 1 (List.map (wA 4 aA.enc) vs1.Merge.Runs), .psl 1 (List.map (iA .i64) vs1.Merge.At), .psl 2 (List.map cA.enc vs1.Merge.Tree.Keys), .psl 1 (List.map (iA .i64) vs1.Merge.Tree.Lose), .int .i64 vs1.Merge.Tree.Win, .bool vs1.Shadow.Some, .str vs1.Shadow.Last, .bool vs1.Shadow.Bottom, .psl 4 (List.map aA.enc vs1.Out), .int .i64 vs1.Steps]]⟩)], 144, []⟩) (fun p => p.1.1) ⟨(fu, 0, 0), hxx10⟩ ⟨rF, rE, rfl, rfl, trivial, trivial⟩ (fun _ => Nat.le_refl _) ?_
   rintro ⟨⟨fu, n11, v12⟩, h1⟩
   cases fu with
   | zero =>
   replace h1 : fI vs1 0 n11 v12 = some x10 := h1
   rw [fI] at h1; cases h1
   | succ fu =>
    replace h1 : fI vs1 (fu + 1) n11 v12 = some x10 := h1
    rw [fI] at h1
    refine (show pA _ _ _ _ ⟨[(1, .ref 0 0 0 0), (5, .int .i64 n11), (25, .psl 1 (List.map (iA .i64) vs1.Merge.At)), (26, .int .i64 (vs1.Merge.At.length : Int)), (27, .int .i64 v12)], [(0, ⟨0, true, true, 10, [[.psl 1 (List.map (wA 4 aA.enc) vs1.Merge.Runs), .psl 1 (List.map (iA .i64) vs1.Merge.At), .psl 2 (List.map cA.enc vs1.Merge.Tree.Keys), .psl 1 (List.map (iA .i64) vs1.Merge.Tree.Lose), .int .i64 vs1.Merge.Tree.Win, .bool vs1.Shadow.Some, .str vs1.Shadow.Last, .bool vs1.Shadow.Bottom, .psl 4 (List.map aA.enc vs1.Out), .int .i64 vs1.Steps]]⟩)], 144, []⟩ from ?_)
    refine xS 152 [1, 5, 25, 26, 27, 28] ?_
    refine kA ?_
    refine xI h1 rfl (fun h1 hb13 => ?_) (fun h1 hb13 => ?_)
    ·
     refine qA (gA (kA (jC ?_)))
     obtain ⟨e14, he14, h1⟩ := eA h1
     obtain ⟨he14a, he14b, he14c⟩ := fB he14
     refine oA 176 [1, 5, 7, 25, 26, 27] (fun _ => none) rfl (fun _ _ => rS (rA he14a (rA he14b he14c))) ?_
     refine iC 208 [1, 5, 25, 26, 27] (fun _ => none) rfl (fun _ _ => rS (rA he14a (rA he14b he14c))) ?_
     refine cC (gA ?_)
     refine iC 224 [1, 5, 25, 26, 27] (fun _ => none) rfl (fun _ _ => rS (rA he14a (rA he14b he14c))) ?_
     refine gA ?_
     exact ⟨⟨(fu, (IntKind.i64.wrap (n11 + e14)), (IntKind.i64.wrap (v12 + 1))), h1⟩, ⟨rF, rE, rfl, rfl, trivial, trivial⟩, Nat.lt_succ_self _⟩
    ·
     refine vC (jB (jB (bD ?_)))
     obtain rfl := Option.some.inj h1
     exact ⟨rL, ⟨rF, rE, rfl, rfl, trivial, trivial⟩⟩
theorem zhg {fu : Nat} {vs1 : gB} {r : Int × Int} (h0 : iP fu vs1 = some r) : lB Try.prog 44 [.agg (gB.enc vs1)] (.tup [.int .i64 r.1, .int .i64 r.2]) [] := by
 refine sB Try.func44 rfl (by decide) rL ?_
 dsimp only [Try.f44]
 rw [iP] at h0
 refine (show pA _ _ _ _ ⟨kB 0 _, [], 0, []⟩ from ?_)
 refine xS 24 [1] ?_
 refine kA ?_
 obtain ⟨vr2, hvr2, h0⟩ := eA h0
 refine oA 80 [1, 5] (fun | 1 => some (.tup [.int .i64 vr2.1, .int .i64 vr2.2], []) | _ => none) rfl (fun _ _ => rC (zbp hvr2)) ?_
 refine xS 96 [1, 5, 15] ?_
 refine xI h0 rfl (fun h0 hb3 => ?_) (fun h0 hb3 => ?_)
 ·
  refine xS 120 [2, 3] ?_
  refine jA (mA ?_)
  obtain rfl := Option.some.inj h0
  refine nA [] ?_
  exact rG
 ·
  refine qA (gA ?_)
  refine xS 104 [1, 6] ?_
  refine kA ?_
  refine xS 136 [1, 6, 18, 19, 20] ?_
  obtain ⟨x12, hxx12, h0⟩ := eA h0
  refine lD (fun s' => s'.nx ≤ 144 ∧ LeN [] s' ⟨[(6, .int .i64 x12)], [(0, ⟨0, true, true, 5, [[.psl 1 (List.map (wA 4 aA.enc) vs1.Runs), .psl 1 (List.map (iA .i64) vs1.At), .psl 2 (List.map cA.enc vs1.Tree.Keys), .psl 1 (List.map (iA .i64) vs1.Tree.Lose), .int .i64 vs1.Tree.Win]]⟩)], 144, []⟩) ?_ ?_
  ·
   intro s' hs
   obtain ⟨hn, hs⟩ := hs
   refine gA ?_
   refine zB [] hn hs ?_
   refine xS 168 [2, 3] ?_
   refine jA ?_
   obtain rfl := Option.some.inj h0
   refine nA [] ?_
   exact rG
  ·
   refine kD (ι := { p : Nat × Int × Int // pI vs1 p.1 p.2.1 p.2.2 = some x12 }) (fun p => ⟨[(1, .ref 0 0 0 0), (6, .int .i64 p.1.2.1), (18, .psl 1 (List.map (wA 4 aA.enc) vs1.Runs)), (19, .int .i64 (vs1.Runs.length : Int)), (20, .int .i64 p.1.2.2)], [(0, ⟨0, true, true, 5, [[.psl 1 (List.map (wA 4 aA.enc) vs1.Runs), .psl 1 (List.map (iA .i64) vs1.At), .psl 2 (List.map cA.enc vs1.Tree.Keys), .psl 1 (List.map (iA .i64) vs1.Tree.Lose), .int .i64 vs1.Tree.Win]]⟩)], 136, []⟩) (fun p => p.1.1) ⟨(fu, 0, 0), hxx12⟩ ⟨rF, rE, rfl, rfl, trivial, trivial⟩ (fun _ => Nat.le_refl _) ?_
   rintro ⟨⟨fu, n13, v14⟩, h1⟩
   cases fu with
   | zero =>
   replace h1 : pI vs1 0 n13 v14 = some x12 := h1
   rw [pI] at h1; cases h1
   | succ fu =>
    replace h1 : pI vs1 (fu + 1) n13 v14 = some x12 := h1
    rw [pI] at h1
    refine (show pA _ _ _ _ ⟨[(1, .ref 0 0 0 0), (6, .int .i64 n13), (18, .psl 1 (List.map (wA 4 aA.enc) vs1.Runs)), (19, .int .i64 (vs1.Runs.length : Int)), (20, .int .i64 v14)], [(0, ⟨0, true, true, 5, [[.psl 1 (List.map (wA 4 aA.enc) vs1.Runs), .psl 1 (List.map (iA .i64) vs1.At), .psl 2 (List.map cA.enc vs1.Tree.Keys), .psl 1 (List.map (iA .i64) vs1.Tree.Lose), .int .i64 vs1.Tree.Win]]⟩)], 136, []⟩ from ?_)
    refine xS 144 [1, 6, 18, 19, 20, 21] ?_
    refine kA ?_
    refine xI h1 rfl (fun h1 hb15 => ?_) (fun h1 hb15 => ?_)
    ·
     refine qA (gA (kA (jC ?_)))
     obtain ⟨e16, he16, h1⟩ := eA h1
     obtain ⟨he16a, he16b, he16c⟩ := fB he16
     refine oA 184 [1, 6, 7, 8, 18, 19, 20] (fun _ => none) rfl (fun _ _ => rS (rA he16a (rA he16b he16c))) ?_
     obtain ⟨e17, he17, h1⟩ := eA h1
     obtain ⟨he17a, he17b, he17c⟩ := fB he17
     refine iC 272 [1, 6, 18, 19, 20] (fun _ => none) rfl (fun _ _ => rS (rA he16a (rA he16b (rA he16c (rA he17a (rA he17b he17c)))))) ?_
     refine cC (gA ?_)
     refine iC 288 [1, 6, 18, 19, 20] (fun _ => none) rfl (fun _ _ => rS (rA he16a (rA he16b (rA he16c (rA he17a (rA he17b he17c)))))) ?_
     refine gA ?_
     exact ⟨⟨(fu, (IntKind.i64.wrap (n13 + (IntKind.i64.wrap ((e16.length : Int) - e17)))), (IntKind.i64.wrap (v14 + 1))), h1⟩, ⟨rF, rE, rfl, rfl, trivial, trivial⟩, Nat.lt_succ_self _⟩
    ·
     refine vC (jB (jB (bD ?_)))
     obtain rfl := Option.some.inj h1
     exact ⟨rL, ⟨rF, rE, rfl, rfl, trivial, trivial⟩⟩
theorem wX {fu : Nat} {vs1 : pB} {r : Int × Int} (h0 : zK fu vs1 = some r) : lB Try.prog 25 [.agg (pB.enc vs1)] (.tup [.int .i64 r.1, .int .i64 r.2]) [] := by
 refine sB Try.func25 rfl (by decide) rL ?_
 dsimp only [Try.f25]
 rw [zK] at h0
 refine (show pA _ _ _ _ ⟨kB 0 _, [], 0, []⟩ from ?_)
 refine xS 24 [1] ?_
 refine kA ?_
 obtain ⟨vr2, hvr2, h0⟩ := eA h0
 refine oA 48 [1, 4] (fun | 1 => some (.int .i64 vr2, []) | _ => none) rfl (fun _ _ => rC (zlH hvr2)) ?_
 refine xS 64 [1, 4, 8] ?_
 refine xI h0 rfl (fun h0 hb3 => ?_) (fun h0 hb3 => ?_)
 ·
  refine xS 88 [2, 3] ?_
  refine jA (mA ?_)
  obtain rfl := Option.some.inj h0
  refine nA [] ?_
  exact rG
 ·
  refine qA (gA ?_)
  obtain ⟨vr4, hvr4, h0⟩ := eA h0
  refine oA 120 [2, 3] (fun | 2 => some (.tup [.int .i64 vr4.1, .int .i64 vr4.2], []) | _ => none) rfl (fun _ _ => rC (zhg hvr4)) ?_
  refine jA ?_
  obtain rfl := Option.some.inj h0
  refine nA [] ?_
  exact rG
theorem znI {fu : Nat} {vs1 : gB} {r : aA × Int × gB × Int} (h0 : oO fu vs1 = some r) : lB Try.prog 69 [.agg (gB.enc vs1)] (.tup [.agg (aA.enc r.1), .int .i64 r.2.1, .agg (gB.enc r.2.2.1), .int .i64 r.2.2.2]) [] := by
 refine sB Try.func69 rfl (by decide) rL ?_
 dsimp only [Try.f69]
 rw [oO] at h0
 refine (show pA _ _ _ _ ⟨kB 0 _, [], 0, []⟩ from ?_)
 refine xS 40 [1, 2, 4] ?_
 refine mH 7 rfl ?_
 refine fC (l' := List.range' 0 1 ++ (1 :: (List.range' 2 5 ++ []))) rfl ?_
 refine pC 0 1 48 (1 :: (List.range' 2 5 ++ [])) (fun _ => none) rfl rfl rfl (fun _ _ => rT) ?_
 refine xJ rfl rfl rfl rfl rfl Try.func88 rfl (by decide) rfl rL ?_
 dsimp only [Try.f88]
 refine xE ⟨[(0, .agg [.psl 1 (List.map (wA 4 aA.enc) vs1.Runs), .psl 1 (List.map (iA .i64) vs1.At), .psl 2 (List.map cA.enc vs1.Tree.Keys), .psl 1 (List.map (iA .i64) vs1.Tree.Lose), .int .i64 vs1.Tree.Win])], [(0, ⟨0, true, true, 5, [[.psl 1 (List.map (wA 4 aA.enc) vs1.Runs), .psl 1 (List.map (iA .i64) vs1.At), .psl 2 (List.map cA.enc vs1.Tree.Keys), .psl 1 (List.map (iA .i64) vs1.Tree.Lose), .int .i64 vs1.Tree.Win]]⟩), (8, ⟨0, true, true, 4, [[.str [], .str [], .bool false, .int .i64 0]]⟩), (24, ⟨0, true, true, 5, [[.nils, .nils, .nils, .nils, .int .i64 0]]⟩)], 48, []⟩ ?_
 refine xS 72 [1] ?_
 refine kA ?_
 obtain ⟨vr2, hvr2, h0⟩ := eA h0
 refine oA 128 [1, 5] (fun | 1 => some (.tup [.int .i64 vr2.1, .int .i64 vr2.2], []) | _ => none) rfl (fun _ _ => rC (zbp hvr2)) ?_
 refine xS 144 [1, 5, 12] ?_
 refine xI h0 rfl (fun h0 hb3 => ?_) (fun h0 hb3 => ?_)
 ·
  refine xS 168 [2, 3] ?_
  refine jA (mA ?_)
  refine oE (fun _ _ => rT) ?_
  refine xF ⟨[(1, .ref 0 0 0 0), (2, .ref 8 0 0 0), (4, .ref 24 0 0 0), (8, .agg [.psl 1 (List.map (wA 4 aA.enc) vs1.Runs), .psl 1 (List.map (iA .i64) vs1.At), .psl 2 (List.map cA.enc vs1.Tree.Keys), .psl 1 (List.map (iA .i64) vs1.Tree.Lose), .int .i64 vs1.Tree.Win]), (9, .tup [.nilp, .int .i64 vr2.2])], [(0, ⟨0, true, true, 5, [[.psl 1 (List.map (wA 4 aA.enc) vs1.Runs), .psl 1 (List.map (iA .i64) vs1.At), .psl 2 (List.map cA.enc vs1.Tree.Keys), .psl 1 (List.map (iA .i64) vs1.Tree.Lose), .int .i64 vs1.Tree.Win]]⟩), (8, ⟨0, true, true, 4, [[.str [], .str [], .bool false, .int .i64 0]]⟩), (24, ⟨0, true, true, 5, [[.nils, .nils, .nils, .nils, .int .i64 0]]⟩)], 168, []⟩ ?_
  refine fC (l' := List.range' 2 5 ++ []) rfl ?_
  refine pC 2 5 208 [] (fun _ => none) rfl rfl rfl (fun _ _ => rT) ?_
  refine mD ?_
  refine gA ?_
  refine xE ⟨[(2, .ref 8 0 0 0), (4, .ref 24 0 0 0), (5, .int .i64 vr2.2), (6, .nilp)], [(8, ⟨0, true, true, 4, [[.str [], .str [], .bool false, .int .i64 0]]⟩), (24, ⟨0, true, true, 5, [[.nils, .nils, .nils, .nils, .int .i64 0]]⟩)], 208, []⟩ ?_
  refine kA ?_
  refine xS 224 [2, 4, 5, 6, 13] ?_
  refine bO rfl hb3 ?_
  refine xS 280 [2, 3, 4, 5] ?_
  refine jA (mA ?_)
  obtain rfl := Option.some.inj h0
  refine nA [] ?_
  exact rG
 ·
  refine qA (gA ?_)
  obtain ⟨vr4, hvr4, h0⟩ := eA h0
  obtain ⟨vr5, hvr5, h0⟩ := eA h0
  refine jD 248 [2, 3] (fun | 2 => some (.psl 1 (vr4.map (wA 4 aA.enc)), []) | 5 => some (.sl 0 0 1 0 vr5.length, [⟨0, true, true, 1, vr5.map (iA .i64)⟩]) | _ => none) rfl rfl rfl (fun Kt hK => by
    try have q0 := zaP hvr4
    try have q1 := zcb hvr5
    exact vG) ?_
  refine jA ?_
  refine oE (fun _ _ => rT) ?_
  refine xF ⟨[(1, .ref 0 0 0 0), (2, .ref 8 0 0 0), (4, .ref 24 0 0 0), (8, .agg [.psl 1 (List.map (wA 4 aA.enc) vs1.Runs), .psl 1 (List.map (iA .i64) vs1.At), .psl 2 (List.map cA.enc vs1.Tree.Keys), .psl 1 (List.map (iA .i64) vs1.Tree.Lose), .int .i64 vs1.Tree.Win]), (9, .tup [.ref 224 0 0 0, .int .i64 0])], [(0, ⟨0, true, true, 5, [[.psl 1 (List.map (wA 4 aA.enc) vs1.Runs), .psl 1 (List.map (iA .i64) vs1.At), .psl 2 (List.map cA.enc vs1.Tree.Keys), .psl 1 (List.map (iA .i64) vs1.Tree.Lose), .int .i64 vs1.Tree.Win]]⟩), (8, ⟨0, true, true, 4, [[.str [], .str [], .bool false, .int .i64 0]]⟩), (24, ⟨0, true, true, 5, [[.nils, .nils, .nils, .nils, .int .i64 0]]⟩), (184, ⟨0, true, true, 1, List.map (iA .i64) vr5⟩), (224, ⟨0, true, false, 5, [[.psl 1 (List.map (wA 4 aA.enc) vr4), .sl 184 0 1 0 vr5.length, .psl 2 (List.map cA.enc vs1.Tree.Keys), .psl 1 (List.map (iA .i64) vs1.Tree.Lose), .int .i64 vs1.Tree.Win]]⟩)], 248, []⟩ ?_
  refine fC (l' := List.range' 2 5 ++ []) rfl ?_
  refine pC 2 5 288 [] (fun _ => none) rfl rfl rfl (fun _ _ => rT) ?_
  refine mD ?_
  refine gA ?_
  refine xE ⟨[(2, .ref 8 0 0 0), (4, .ref 24 0 0 0), (5, .int .i64 0), (6, .ref 224 0 0 0)], [(8, ⟨0, true, true, 4, [[.str [], .str [], .bool false, .int .i64 0]]⟩), (24, ⟨0, true, true, 5, [[.nils, .nils, .nils, .nils, .int .i64 0]]⟩), (184, ⟨0, true, true, 1, List.map (iA .i64) vr5⟩), (224, ⟨0, true, false, 5, [[.psl 1 (List.map (wA 4 aA.enc) vr4), .sl 184 0 1 0 vr5.length, .psl 2 (List.map cA.enc vs1.Tree.Keys), .psl 1 (List.map (iA .i64) vs1.Tree.Lose), .int .i64 vs1.Tree.Win]]⟩)], 288, []⟩ ?_
  refine kA ?_
  refine xS 304 [2, 4, 5, 6, 13] ?_
  refine wF rfl ?_
  refine qA (gA ?_)
  obtain ⟨vr6, hvr6, h0⟩ := eA h0
  refine oA 376 [2, 3, 4, 5, 6] (fun | 1 => some (.tup [.agg (aA.enc vr6.1), .int .i64 vr6.2.1, .int .i64 vr6.2.2], []) | _ => none) rfl (fun _ _ => rC (zcZ hvr6)) ?_
  refine kA ?_
  refine xS 392 [2, 3, 4, 5, 6, 24] ?_
  refine xI h0 rfl (fun h0 hb7 => ?_) (fun h0 hb7 => ?_)
  ·
   refine xS 448 [2, 3, 4, 5] ?_
   refine jA (mA ?_)
   obtain rfl := Option.some.inj h0
   refine nA [] ?_
   exact rG
  ·
   refine qA (gA ?_)
   refine mH 3 rfl ?_
   refine fC (l' := List.range' 0 2 ++ (2 :: (List.range' 3 0 ++ []))) rfl ?_
   refine pC 0 2 408 (2 :: (List.range' 3 0 ++ [])) (fun _ => none) rfl rfl rfl (fun _ _ => rT) ?_
   refine xJ rfl rfl rfl rfl rfl Try.func90 rfl (by decide) rfl rL ?_
   dsimp only [Try.f90]
   refine xE ⟨[(0, .ref 224 0 0 0), (1, .int .i64 vr6.2.1)], [(8, ⟨0, true, true, 4, [[.str vr6.1.Key, .str vr6.1.Val, .bool vr6.1.Dead, .int .i64 vr6.1.Seq]]⟩), (24, ⟨0, true, true, 5, [[.nils, .nils, .nils, .nils, .int .i64 0]]⟩), (184, ⟨0, true, true, 1, List.map (iA .i64) vr5⟩), (224, ⟨0, true, false, 5, [[.psl 1 (List.map (wA 4 aA.enc) vr4), .sl 184 0 1 0 vr5.length, .psl 2 (List.map cA.enc vs1.Tree.Keys), .psl 1 (List.map (iA .i64) vs1.Tree.Lose), .int .i64 vs1.Tree.Win]]⟩)], 408, []⟩ ?_
   obtain ⟨e8, he8, h0⟩ := eA h0
   obtain ⟨he8a, he8b, he8c⟩ := fB he8
   refine oA 496 [0, 1] (fun _ => none) rfl (fun _ _ => rS (rA he8a (rA he8b he8c))) ?_
   refine xE ⟨[(0, .ref 224 0 0 0), (1, .int .i64 vr6.2.1)], [(8, ⟨0, true, true, 4, [[.str vr6.1.Key, .str vr6.1.Val, .bool vr6.1.Dead, .int .i64 vr6.1.Seq]]⟩), (24, ⟨0, true, true, 5, [[.nils, .nils, .nils, .nils, .int .i64 0]]⟩), (184, ⟨0, true, true, 1, List.map (iA .i64) (vr5.set vr6.2.1.toNat (IntKind.i64.wrap (e8 + 1)))⟩), (224, ⟨0, true, false, 5, [[.psl 1 (List.map (wA 4 aA.enc) vr4), .sl 184 0 1 0 ((vr5.set vr6.2.1.toNat (IntKind.i64.wrap (e8 + 1))).length), .psl 2 (List.map cA.enc vs1.Tree.Keys), .psl 1 (List.map (iA .i64) vs1.Tree.Lose), .int .i64 vs1.Tree.Win]]⟩)], 496, []⟩ ?_
   obtain ⟨e9, he9, h0⟩ := eA h0
   obtain ⟨he9a, he9b, he9c⟩ := fB he9
   obtain ⟨e10, he10, h0⟩ := eA h0
   obtain ⟨he10a, he10b, he10c⟩ := fB he10
   obtain ⟨vr11, hvr11, h0⟩ := eA h0
   obtain ⟨vr12, hvr12, h0⟩ := eA h0
   refine aJ 752 [] (fun | 22 => some (.agg (cA.enc vr11), []) | 23 => some (.tup [.agg (zA.enc vr12.1), .int .i64 vr12.2.1, .int .i64 vr12.2.2], []) | _ => none) rfl rfl rfl (fun Kt hK => by
     try have q0 := eZ hvr11
     try have q1 := zcp hvr12
     exact uE (rA he8a (rA he8b (rA he8c (rA he9a (rA he9b (rA he9c (rA he10a (rA he10b he10c))))))))) ?_
   refine iS (fun _ _ => rS (rA he8a (rA he8b (rA he8c (rA he9a (rA he9b (rA he9c (rA he10a (rA he10b he10c))))))))) ?_
   refine xF ⟨[(2, .ref 8 0 0 0), (3, .int .i64 vr6.2.1), (4, .ref 24 0 0 0), (5, .int .i64 vr6.2.2), (6, .ref 224 0 0 0), (24, .bool (!(decide (vr6.2.2 = 0)))), (28, .ref 224 0 0 0), (29, .int .i64 vr6.2.1), (30, .tup [])], [(8, ⟨0, true, true, 4, [[.str vr6.1.Key, .str vr6.1.Val, .bool vr6.1.Dead, .int .i64 vr6.1.Seq]]⟩), (24, ⟨0, true, true, 5, [[.nils, .nils, .nils, .nils, .int .i64 0]]⟩), (184, ⟨0, true, true, 1, List.map (iA .i64) (vr5.set vr6.2.1.toNat (IntKind.i64.wrap (e8 + 1)))⟩), (224, ⟨0, true, false, 5, [[.psl 1 (List.map (wA 4 aA.enc) vr4), .sl 184 0 1 0 ((vr5.set vr6.2.1.toNat (IntKind.i64.wrap (e8 + 1))).length), .psl 2 (List.map cA.enc vr12.1.Keys), .psl 1 (List.map (iA .i64) vr12.1.Lose), .int .i64 vr12.1.Win]]⟩)], 752, []⟩ ?_
   refine fC (l' := []) rfl ?_
   refine mD ?_
   refine gA ?_
   refine xE ⟨[(2, .ref 8 0 0 0), (3, .int .i64 vr6.2.1), (4, .ref 24 0 0 0), (6, .ref 224 0 0 0)], [(8, ⟨0, true, true, 4, [[.str vr6.1.Key, .str vr6.1.Val, .bool vr6.1.Dead, .int .i64 vr6.1.Seq]]⟩), (24, ⟨0, true, true, 5, [[.nils, .nils, .nils, .nils, .int .i64 0]]⟩), (184, ⟨0, true, true, 1, List.map (iA .i64) (vr5.set vr6.2.1.toNat (IntKind.i64.wrap (e8 + 1)))⟩), (224, ⟨0, true, false, 5, [[.psl 1 (List.map (wA 4 aA.enc) vr4), .sl 184 0 1 0 ((vr5.set vr6.2.1.toNat (IntKind.i64.wrap (e8 + 1))).length), .psl 2 (List.map cA.enc vr12.1.Keys), .psl 1 (List.map (iA .i64) vr12.1.Lose), .int .i64 vr12.1.Win]]⟩)], 752, []⟩ ?_
   refine jD 832 [2, 3, 4, 5] (fun _ => none) rfl rfl rfl (fun _ _ => uE (rA he8a (rA he8b (rA he8c (rA he9a (rA he9b (rA he9c (rA he10a (rA he10b he10c))))))))) ?_
   refine jA ?_
   obtain rfl := Option.some.inj h0
   refine nA [] ?_
   simp (maxSteps := 1000000) only [↓reduceIte, reduceCtorEq, Nat.reduceEqDiff, Nat.reduceLT, Nat.reduceLeDiff, Nat.reduceAdd, Nat.reduceMul, Int.reduceToNat, push_cast, lC, he8a, he8b, he8c, he9a, he9b, he9c, he10a, he10b, he10c]
   all_goals exact rH
theorem zkR {fu : Nat} {vs1 : mB} {vx2 : aA} {r : Bool × mB × Int} (h0 : lM fu vs1 vx2 = some r) : lB Try.prog 70 [.agg (mB.enc vs1), .agg (aA.enc vx2)] (.tup [.bool r.1, .agg (mB.enc r.2.1), .int .i64 r.2.2]) [] := by
 refine sB Try.func70 rfl (by decide) rL ?_
 dsimp only [Try.f70]
 rw [lM] at h0
 refine (show pA _ _ _ _ ⟨kB 0 _, [], 0, []⟩ from ?_)
 refine xS 40 [2, 3, 5] ?_
 refine mH 10 rfl ?_
 refine fC (l' := List.range' 0 2 ++ (2 :: (List.range' 3 7 ++ []))) rfl ?_
 refine pC 0 2 56 (2 :: (List.range' 3 7 ++ [])) (fun _ => none) rfl rfl rfl (fun _ _ => rT) ?_
 refine xJ rfl rfl rfl rfl rfl Try.func91 rfl (by decide) rfl rL ?_
 dsimp only [Try.f91]
 refine xE ⟨[(0, .agg [.bool vs1.Some, .str vs1.Last, .bool vs1.Bottom]), (1, .agg [.str vx2.Key, .str vx2.Val, .bool vx2.Dead, .int .i64 vx2.Seq])], [(0, ⟨0, true, true, 3, [[.bool vs1.Some, .str vs1.Last, .bool vs1.Bottom]]⟩), (8, ⟨0, true, true, 4, [[.str vx2.Key, .str vx2.Val, .bool vx2.Dead, .int .i64 vx2.Seq]]⟩), (24, ⟨0, true, true, 3, [[.bool false, .str [], .bool false]]⟩)], 56, []⟩ ?_
 refine xS 96 [2, 3, 5] ?_
 refine kA ?_
 obtain ⟨vr3, hvr3, h0⟩ := eA h0
 refine oA 120 [2, 3, 5, 7] (fun | 1 => some (.int .i64 vr3, []) | _ => none) rfl (fun _ _ => rC (zdI hvr3)) ?_
 refine xS 136 [2, 3, 5, 7, 13] ?_
 refine xI h0 rfl (fun h0 hb4 => ?_) (fun h0 hb4 => ?_)
 ·
  refine xS 176 [4, 5, 6] ?_
  refine jA (mA ?_)
  refine oE (fun _ _ => rT) ?_
  refine xF ⟨[(2, .ref 0 0 0 0), (3, .ref 8 0 0 0), (5, .ref 24 0 0 0), (9, .agg [.bool vs1.Some, .str vs1.Last, .bool vs1.Bottom]), (10, .agg [.str vx2.Key, .str vx2.Val, .bool vx2.Dead, .int .i64 vx2.Seq]), (11, .tup [.nili, .agg [.bool false, .str [], .bool false], .int .i64 vr3])], [(0, ⟨0, true, true, 3, [[.bool vs1.Some, .str vs1.Last, .bool vs1.Bottom]]⟩), (8, ⟨0, true, true, 4, [[.str vx2.Key, .str vx2.Val, .bool vx2.Dead, .int .i64 vx2.Seq]]⟩), (24, ⟨0, true, true, 3, [[.bool false, .str [], .bool false]]⟩)], 176, []⟩ ?_
  refine fC (l' := List.range' 3 7 ++ []) rfl ?_
  refine pC 3 7 232 [] (fun _ => none) rfl rfl rfl (fun _ _ => rT) ?_
  refine mD ?_
  refine gA ?_
  refine xE ⟨[(5, .ref 24 0 0 0), (6, .int .i64 vr3), (7, .nili)], [(24, ⟨0, true, true, 3, [[.bool false, .str [], .bool false]]⟩)], 232, []⟩ ?_
  refine xS 280 [4, 5, 6] ?_
  refine jD 328 [4, 5, 6] (fun _ => none) rfl rfl rfl (fun _ _ => vG) ?_
  refine jA ?_
  obtain rfl := Option.some.inj h0
  refine nA [] ?_
  exact rG
 ·
  refine qA (gA (kA ?_))
  obtain ⟨vr5, hvr5, h0⟩ := eA h0
  refine oA 160 [2, 3, 5, 8] (fun | 1 => some (.int .i64 vr5, []) | _ => none) rfl (fun _ _ => rC (zag hvr5)) ?_
  refine xS 176 [2, 3, 5, 8, 19] ?_
  refine xI h0 rfl (fun h0 hb6 => ?_) (fun h0 hb6 => ?_)
  ·
   refine xS 216 [4, 5, 6] ?_
   refine jA (mA ?_)
   refine oE (fun _ _ => rT) ?_
   refine xF ⟨[(2, .ref 0 0 0 0), (3, .ref 8 0 0 0), (5, .ref 24 0 0 0), (9, .agg [.bool vs1.Some, .str vs1.Last, .bool vs1.Bottom]), (10, .agg [.str vx2.Key, .str vx2.Val, .bool vx2.Dead, .int .i64 vx2.Seq]), (11, .tup [.nili, .agg [.bool false, .str [], .bool false], .int .i64 vr5])], [(0, ⟨0, true, true, 3, [[.bool vs1.Some, .str vs1.Last, .bool vs1.Bottom]]⟩), (8, ⟨0, true, true, 4, [[.str vx2.Key, .str vx2.Val, .bool vx2.Dead, .int .i64 vx2.Seq]]⟩), (24, ⟨0, true, true, 3, [[.bool false, .str [], .bool false]]⟩)], 216, []⟩ ?_
   refine fC (l' := List.range' 3 7 ++ []) rfl ?_
   refine pC 3 7 272 [] (fun _ => none) rfl rfl rfl (fun _ _ => rT) ?_
   refine mD ?_
   refine gA ?_
   refine xE ⟨[(5, .ref 24 0 0 0), (6, .int .i64 vr5), (7, .nili)], [(24, ⟨0, true, true, 3, [[.bool false, .str [], .bool false]]⟩)], 272, []⟩ ?_
   refine xS 320 [4, 5, 6] ?_
   refine jD 368 [4, 5, 6] (fun _ => none) rfl rfl rfl (fun _ _ => vG) ?_
   refine jA ?_
   obtain rfl := Option.some.inj h0
   refine nA [] ?_
   exact rG
  ·
   refine qA (gA (kA ?_))
   obtain ⟨b7, hb7, h0⟩ := eA h0
   refine dD (fr' := [(2, .ref 56 0 0 0), (3, .ref 64 0 0 0), (5, .ref 80 0 0 0), (30, .bool b7)]) (hp' := [(0, ⟨0, true, true, 3, [[.bool vs1.Some, .str vs1.Last, .bool vs1.Bottom]]⟩), (8, ⟨0, true, true, 4, [[.str vx2.Key, .str vx2.Val, .bool vx2.Dead, .int .i64 vx2.Seq]]⟩), (24, ⟨0, true, true, 3, [[.bool false, .str [], .bool false]]⟩), (56, ⟨0, true, true, 3, [[.bool vs1.Some, .str vs1.Last, .bool vs1.Bottom]]⟩), (64, ⟨0, true, true, 4, [[.str vx2.Key, .str vx2.Val, .bool vx2.Dead, .int .i64 vx2.Seq]]⟩), (80, ⟨0, true, true, 3, [[.bool false, .str [], .bool false]]⟩)]) [0, 8, 24, 56, 64, 80] 248 [2, 3, 5, 30] (fun _ => none) rfl (fun Kt hK => by
     cases hg8 : vs1.Some with
     | false =>
      replace hb7 := vA hb7 hg8
      have hqb7 := Option.some.inj hb7
      subst hqb7
      simp (maxSteps := 1000000) only [↓reduceIte, reduceCtorEq, Nat.reduceEqDiff, Nat.reduceLT, Nat.reduceLeDiff, Nat.reduceAdd, Nat.reduceMul, Int.reduceToNat, push_cast, ↓hg8]
      try simp only [↓hg8] at hK
      all_goals exact rU
     | true =>
      replace hb7 := iB hb7 hg8
      have hqb7 := Option.some.inj hb7
      subst hqb7
      simp (maxSteps := 1000000) only [↓reduceIte, reduceCtorEq, Nat.reduceEqDiff, Nat.reduceLT, Nat.reduceLeDiff, Nat.reduceAdd, Nat.reduceMul, Int.reduceToNat, push_cast, ↓hg8]
      try simp only [↓hg8] at hK
      all_goals exact rU) ?_
   refine xI h0 rfl (fun h0 hb9 => ?_) (fun h0 hb9 => ?_)
   ·
    refine xS 280 [4, 5, 6] ?_
    refine jA (mA ?_)
    refine oE (fun _ _ => rT) ?_
    refine xF ⟨[(2, .ref 0 0 0 0), (3, .ref 8 0 0 0), (5, .ref 24 0 0 0), (9, .agg [.bool vs1.Some, .str vs1.Last, .bool vs1.Bottom]), (10, .agg [.str vx2.Key, .str vx2.Val, .bool vx2.Dead, .int .i64 vx2.Seq]), (11, .tup [.nili, .agg [.bool false, .str [], .bool false], .int .i64 6])], [(0, ⟨0, true, true, 3, [[.bool vs1.Some, .str vs1.Last, .bool vs1.Bottom]]⟩), (8, ⟨0, true, true, 4, [[.str vx2.Key, .str vx2.Val, .bool vx2.Dead, .int .i64 vx2.Seq]]⟩), (24, ⟨0, true, true, 3, [[.bool false, .str [], .bool false]]⟩)], 280, []⟩ ?_
    refine fC (l' := List.range' 3 7 ++ []) rfl ?_
    refine pC 3 7 336 [] (fun _ => none) rfl rfl rfl (fun _ _ => rT) ?_
    refine mD ?_
    refine gA ?_
    refine xE ⟨[(5, .ref 24 0 0 0), (6, .int .i64 6), (7, .nili)], [(24, ⟨0, true, true, 3, [[.bool false, .str [], .bool false]]⟩)], 336, []⟩ ?_
    refine xS 384 [4, 5, 6] ?_
    refine jD 432 [4, 5, 6] (fun _ => none) rfl rfl rfl (fun _ _ => vG) ?_
    refine jA ?_
    obtain rfl := Option.some.inj h0
    refine nA [] ?_
    exact rG
   ·
    refine qA (gA ?_)
    refine xS 304 [2, 3, 5, 9] ?_
    refine kA (jC ?_)
    obtain ⟨b10, hb10, h0⟩ := eA h0
    refine dD (fr' := [(2, .ref 56 0 0 0), (3, .ref 64 0 0 0), (5, .ref 80 0 0 0), (9, .ref 288 0 0 0), (37, .bool b10)]) (hp' := [(0, ⟨0, true, true, 3, [[.bool vs1.Some, .str vs1.Last, .bool vs1.Bottom]]⟩), (8, ⟨0, true, true, 4, [[.str vx2.Key, .str vx2.Val, .bool vx2.Dead, .int .i64 vx2.Seq]]⟩), (24, ⟨0, true, true, 3, [[.bool false, .str [], .bool false]]⟩), (56, ⟨0, true, true, 3, [[.bool vs1.Some, .str vs1.Last, .bool vs1.Bottom]]⟩), (64, ⟨0, true, true, 4, [[.str vx2.Key, .str vx2.Val, .bool vx2.Dead, .int .i64 vx2.Seq]]⟩), (80, ⟨0, true, true, 3, [[.bool false, .str [], .bool false]]⟩), (288, ⟨0, true, true, 3, [[.bool true, .str vx2.Key, .bool vs1.Bottom]]⟩)]) [0, 8, 24, 56, 64, 80, 288] 384 [2, 3, 5, 9, 37] (fun _ => none) rfl (fun Kt hK => by
      cases hg11 : vs1.Some with
      | false =>
       replace hb10 := vA hb10 hg11
       have hqb10 := Option.some.inj hb10
       subst hqb10
       simp (maxSteps := 1000000) only [↓reduceIte, reduceCtorEq, Nat.reduceEqDiff, Nat.reduceLT, Nat.reduceLeDiff, Nat.reduceAdd, Nat.reduceMul, Int.reduceToNat, push_cast, ↓hg11]
       try simp only [↓hg11] at hK
       all_goals exact rU
      | true =>
       replace hb10 := iB hb10 hg11
       have hqb10 := Option.some.inj hb10
       subst hqb10
       simp (maxSteps := 1000000) only [↓reduceIte, reduceCtorEq, Nat.reduceEqDiff, Nat.reduceLT, Nat.reduceLeDiff, Nat.reduceAdd, Nat.reduceMul, Int.reduceToNat, push_cast, ↓hg11]
       try simp only [↓hg11] at hK
       all_goals exact rU) ?_
    refine xI h0 rfl (fun h0 hb12 => ?_) (fun h0 hb12 => ?_)
    ·
     refine jD 432 [4, 5, 6] (fun _ => none) rfl rfl rfl (fun _ _ => vG) ?_
     refine jA (kC (mA ?_))
     refine oE (fun _ _ => rT) ?_
     refine xF ⟨[(2, .ref 0 0 0 0), (3, .ref 8 0 0 0), (5, .ref 24 0 0 0), (9, .agg [.bool vs1.Some, .str vs1.Last, .bool vs1.Bottom]), (10, .agg [.str vx2.Key, .str vx2.Val, .bool vx2.Dead, .int .i64 vx2.Seq]), (11, .tup [.iface 163 (.agg [.str vx2.Key, .str vx2.Val, .bool vx2.Dead, .int .i64 vx2.Seq]), .agg [.bool true, .str vx2.Key, .bool vs1.Bottom], .int .i64 0])], [(0, ⟨0, true, true, 3, [[.bool vs1.Some, .str vs1.Last, .bool vs1.Bottom]]⟩), (8, ⟨0, true, true, 4, [[.str vx2.Key, .str vx2.Val, .bool vx2.Dead, .int .i64 vx2.Seq]]⟩), (24, ⟨0, true, true, 3, [[.bool false, .str [], .bool false]]⟩)], 432, []⟩ ?_
     refine fC (l' := List.range' 3 7 ++ []) rfl ?_
     refine pC 3 7 488 [] (fun _ => none) rfl rfl rfl (fun _ _ => rT) ?_
     refine mD ?_
     refine gA ?_
     refine xE ⟨[(5, .ref 24 0 0 0), (6, .int .i64 0), (7, .iface 163 (.agg [.str vx2.Key, .str vx2.Val, .bool vx2.Dead, .int .i64 vx2.Seq]))], [(24, ⟨0, true, true, 3, [[.bool true, .str vx2.Key, .bool vs1.Bottom]]⟩)], 488, []⟩ ?_
     refine xS 536 [4, 5, 6] ?_
     refine jD 584 [4, 5, 6] (fun _ => none) rfl rfl rfl (fun _ _ => vG) ?_
     refine jA ?_
     obtain rfl := Option.some.inj h0
     refine nA [] ?_
     exact rG
    ·
     obtain ⟨b13, hb13, h0⟩ := eA h0
     refine dD (fr' := [(3, .ref 64 0 0 0), (5, .ref 80 0 0 0), (9, .ref 288 0 0 0), (50, .bool b13)]) (hp' := [(0, ⟨0, true, true, 3, [[.bool vs1.Some, .str vs1.Last, .bool vs1.Bottom]]⟩), (8, ⟨0, true, true, 4, [[.str vx2.Key, .str vx2.Val, .bool vx2.Dead, .int .i64 vx2.Seq]]⟩), (24, ⟨0, true, true, 3, [[.bool false, .str [], .bool false]]⟩), (56, ⟨0, true, true, 3, [[.bool vs1.Some, .str vs1.Last, .bool vs1.Bottom]]⟩), (64, ⟨0, true, true, 4, [[.str vx2.Key, .str vx2.Val, .bool vx2.Dead, .int .i64 vx2.Seq]]⟩), (80, ⟨0, true, true, 3, [[.bool false, .str [], .bool false]]⟩), (288, ⟨0, true, true, 3, [[.bool true, .str vx2.Key, .bool vs1.Bottom]]⟩)]) [0, 8, 24, 56, 64, 80, 288] 440 [3, 5, 9, 50] (fun _ => none) rfl (fun Kt hK => by
       cases hg14 : vs1.Bottom with
       | false =>
        replace hb13 := vA hb13 hg14
        have hqb13 := Option.some.inj hb13
        subst hqb13
        simp (maxSteps := 1000000) only [↓reduceIte, reduceCtorEq, Nat.reduceEqDiff, Nat.reduceLT, Nat.reduceLeDiff, Nat.reduceAdd, Nat.reduceMul, Int.reduceToNat, push_cast, ↓hg14]
        try simp only [↓hg14] at hK
        all_goals exact rU
       | true =>
        replace hb13 := iB hb13 hg14
        have hqb13 := Option.some.inj hb13
        subst hqb13
        simp (maxSteps := 1000000) only [↓reduceIte, reduceCtorEq, Nat.reduceEqDiff, Nat.reduceLT, Nat.reduceLeDiff, Nat.reduceAdd, Nat.reduceMul, Int.reduceToNat, push_cast, ↓hg14]
        try simp only [↓hg14] at hK
        all_goals exact rU) ?_
     refine xI h0 rfl (fun h0 hb15 => ?_) (fun h0 hb15 => ?_)
     ·
      refine jD 488 [4, 5, 6] (fun _ => none) rfl rfl rfl (fun _ _ => vG) ?_
      refine jA (kC (mA ?_))
      refine oE (fun _ _ => rT) ?_
      refine xF ⟨[(2, .ref 0 0 0 0), (3, .ref 8 0 0 0), (5, .ref 24 0 0 0), (9, .agg [.bool vs1.Some, .str vs1.Last, .bool vs1.Bottom]), (10, .agg [.str vx2.Key, .str vx2.Val, .bool vx2.Dead, .int .i64 vx2.Seq]), (11, .tup [.iface 164 (.agg [.str vx2.Key, .str vx2.Val, .bool vx2.Dead, .int .i64 vx2.Seq]), .agg [.bool true, .str vx2.Key, .bool vs1.Bottom], .int .i64 0])], [(0, ⟨0, true, true, 3, [[.bool vs1.Some, .str vs1.Last, .bool vs1.Bottom]]⟩), (8, ⟨0, true, true, 4, [[.str vx2.Key, .str vx2.Val, .bool vx2.Dead, .int .i64 vx2.Seq]]⟩), (24, ⟨0, true, true, 3, [[.bool false, .str [], .bool false]]⟩)], 488, []⟩ ?_
      refine fC (l' := List.range' 3 7 ++ []) rfl ?_
      refine pC 3 7 544 [] (fun _ => none) rfl rfl rfl (fun _ _ => rT) ?_
      refine mD ?_
      refine gA ?_
      refine xE ⟨[(5, .ref 24 0 0 0), (6, .int .i64 0), (7, .iface 164 (.agg [.str vx2.Key, .str vx2.Val, .bool vx2.Dead, .int .i64 vx2.Seq]))], [(24, ⟨0, true, true, 3, [[.bool true, .str vx2.Key, .bool vs1.Bottom]]⟩)], 544, []⟩ ?_
      refine xS 592 [4, 5, 6] ?_
      refine jD 640 [4, 5, 6] (fun _ => none) rfl rfl rfl (fun _ _ => vG) ?_
      refine jA ?_
      obtain rfl := Option.some.inj h0
      refine nA [] ?_
      exact rG
     ·
      refine qA (cC (gA ?_))
      refine jD 488 [4, 5, 6] (fun _ => none) rfl rfl rfl (fun _ _ => vG) ?_
      refine jA ?_
      refine oE (fun _ _ => rT) ?_
      refine xF ⟨[(2, .ref 0 0 0 0), (3, .ref 8 0 0 0), (5, .ref 24 0 0 0), (9, .agg [.bool vs1.Some, .str vs1.Last, .bool vs1.Bottom]), (10, .agg [.str vx2.Key, .str vx2.Val, .bool vx2.Dead, .int .i64 vx2.Seq]), (11, .tup [.iface 143 (.agg [.str vx2.Key, .str vx2.Val, .bool vx2.Dead, .int .i64 vx2.Seq]), .agg [.bool true, .str vx2.Key, .bool vs1.Bottom], .int .i64 0])], [(0, ⟨0, true, true, 3, [[.bool vs1.Some, .str vs1.Last, .bool vs1.Bottom]]⟩), (8, ⟨0, true, true, 4, [[.str vx2.Key, .str vx2.Val, .bool vx2.Dead, .int .i64 vx2.Seq]]⟩), (24, ⟨0, true, true, 3, [[.bool false, .str [], .bool false]]⟩)], 488, []⟩ ?_
      refine fC (l' := List.range' 3 7 ++ []) rfl ?_
      refine pC 3 7 544 [] (fun _ => none) rfl rfl rfl (fun _ _ => rT) ?_
      refine mD ?_
      refine gA ?_
      refine xE ⟨[(5, .ref 24 0 0 0), (6, .int .i64 0), (7, .iface 143 (.agg [.str vx2.Key, .str vx2.Val, .bool vx2.Dead, .int .i64 vx2.Seq]))], [(24, ⟨0, true, true, 3, [[.bool true, .str vx2.Key, .bool vs1.Bottom]]⟩)], 544, []⟩ ?_
      refine xS 592 [4, 5, 6] ?_
      refine jD 640 [4, 5, 6] (fun _ => none) rfl rfl rfl (fun _ _ => vG) ?_
      refine jA ?_
      obtain rfl := Option.some.inj h0
      refine nA [] ?_
      exact rG
theorem zdt {fu : Nat} {vs1 : pB} {n2 : Int} {r : pB × Int × Int} (h0 : yN fu vs1 n2 = some r) : lB Try.prog 31 [.agg (pB.enc vs1), .int .i64 n2] (.tup [.agg (pB.enc r.1), .int .i64 r.2.1, .int .i64 r.2.2]) [] := by
 refine sB Try.func31 rfl (by decide) rL ?_
 dsimp only [Try.f31]
 rw [yN] at h0
 refine (show pA _ _ _ _ ⟨kB 0 _, [], 0, []⟩ from ?_)
 refine xS 32 [1, 2, 4] ?_
 obtain ⟨vr3, hvr3, h0⟩ := eA h0
 refine oA 88 [1, 2, 4, 6, 7] (fun | 1 => some (.tup [.int .i64 vr3.1, .int .i64 vr3.2], []) | _ => none) rfl (fun _ _ => rC (wX hvr3)) ?_
 refine kA (jC ?_)
 refine xS 112 [1, 2, 4, 6, 7, 15] ?_
 refine xI h0 rfl (fun h0 hb4 => ?_) (fun h0 hb4 => ?_)
 ·
  refine xS 152 [4, 5, 6] ?_
  refine jA (kC (mA ?_))
  obtain rfl := Option.some.inj h0
  refine nA [] ?_
  exact rG
 ·
  refine xS 136 [1, 2, 4, 7, 20] ?_
  refine xI h0 rfl (fun h0 hb5 => ?_) (fun h0 hb5 => ?_)
  ·
   refine xS 168 [4, 5, 6] ?_
   refine jA (kC (mA ?_))
   obtain rfl := Option.some.inj h0
   refine nA [] ?_
   exact rG
  ·
   refine qA (cC (gA ?_))
   refine xS 168 [2, 4, 5] ?_
   refine kA ?_
   refine xS 208 [2, 4, 5, 31] ?_
   refine xI h0 rfl (fun h0 hb6 => ?_) (fun h0 hb6 => ?_)
   ·
    refine xS 240 [4, 5, 6] ?_
    refine jA (mA ?_)
    obtain rfl := Option.some.inj h0
    refine nA [] ?_
    exact rG
   ·
    refine qA (gA ?_)
    refine xS 240 [2, 4, 5, 8] ?_
    obtain ⟨hc7, h0⟩ := cF h0
    refine xS 288 [2, 4, 5, 8] ?_
    refine xE ⟨[(2, .ref 0 0 0 0), (4, .ref 8 0 0 0), (5, .int .i64 (if vr3.1 < n2 then vr3.1 else n2)), (8, .ref 224 0 0 0)], [(0, ⟨0, true, true, 10, [[.psl 1 (List.map (wA 4 aA.enc) vs1.Merge.Runs), .psl 1 (List.map (iA .i64) vs1.Merge.At), .psl 2 (List.map cA.enc vs1.Merge.Tree.Keys), .psl 1 (List.map (iA .i64) vs1.Merge.Tree.Lose), .int .i64 vs1.Merge.Tree.Win, .bool vs1.Shadow.Some, .str vs1.Shadow.Last, .bool vs1.Shadow.Bottom, .psl 4 (List.map aA.enc vs1.Out), .int .i64 vs1.Steps]]⟩), (8, ⟨0, true, true, 10, [[.nils, .nils, .nils, .nils, .int .i64 0, .bool false, .str [], .bool false, .nils, .int .i64 0]]⟩), (224, ⟨0, true, false, 10, [[.psl 1 (List.map (wA 4 aA.enc) vs1.Merge.Runs), .psl 1 (List.map (iA .i64) vs1.Merge.At), .psl 2 (List.map cA.enc vs1.Merge.Tree.Keys), .psl 1 (List.map (iA .i64) vs1.Merge.Tree.Lose), .int .i64 vs1.Merge.Tree.Win, .bool vs1.Shadow.Some, .str vs1.Shadow.Last, .bool vs1.Shadow.Bottom, .sl 256 0 4 0 vs1.Out.length, .int .i64 vs1.Steps]]⟩), (256, ⟨0, true, true, 4, List.map aA.enc vs1.Out⟩)], 288, []⟩ ?_
    obtain ⟨hc8, h0⟩ := cF h0
    refine xS 352 [4, 5, 8] ?_
    refine xE ⟨[(4, .ref 8 0 0 0), (5, .int .i64 (if vr3.1 < n2 then vr3.1 else n2)), (8, .ref 224 0 0 0)], [(8, ⟨0, true, true, 10, [[.nils, .nils, .nils, .nils, .int .i64 0, .bool false, .str [], .bool false, .nils, .int .i64 0]]⟩), (224, ⟨0, true, false, 10, [[.psl 1 (List.map (wA 4 aA.enc) vs1.Merge.Runs), .sl 312 0 1 0 vs1.Merge.At.length, .psl 2 (List.map cA.enc vs1.Merge.Tree.Keys), .psl 1 (List.map (iA .i64) vs1.Merge.Tree.Lose), .int .i64 vs1.Merge.Tree.Win, .bool vs1.Shadow.Some, .str vs1.Shadow.Last, .bool vs1.Shadow.Bottom, .sl 256 0 4 0 vs1.Out.length, .int .i64 vs1.Steps]]⟩), (256, ⟨0, true, true, 4, List.map aA.enc vs1.Out⟩), (312, ⟨0, true, true, 1, List.map (iA .i64) vs1.Merge.At⟩)], 352, []⟩ ?_
    refine kA ?_
    refine mH 4 rfl ?_
    refine fC (l' := List.range' 0 2 ++ (2 :: (List.range' 3 1 ++ []))) rfl ?_
    refine pC 0 2 368 (2 :: (List.range' 3 1 ++ [])) (fun _ => none) rfl rfl rfl (fun _ _ => rT) ?_
    refine xJ rfl rfl rfl rfl rfl Try.func50 rfl (by decide) rfl rL ?_
    dsimp only [Try.f50]
    refine xE ⟨[(0, .int .i64 (if vr3.1 < n2 then vr3.1 else n2)), (1, .fn 51 [.ref 224 0 0 0] [])], [(8, ⟨0, true, true, 10, [[.nils, .nils, .nils, .nils, .int .i64 0, .bool false, .str [], .bool false, .nils, .int .i64 0]]⟩), (224, ⟨0, true, false, 10, [[.psl 1 (List.map (wA 4 aA.enc) vs1.Merge.Runs), .sl 312 0 1 0 vs1.Merge.At.length, .psl 2 (List.map cA.enc vs1.Merge.Tree.Keys), .psl 1 (List.map (iA .i64) vs1.Merge.Tree.Lose), .int .i64 vs1.Merge.Tree.Win, .bool vs1.Shadow.Some, .str vs1.Shadow.Last, .bool vs1.Shadow.Bottom, .sl 256 0 4 0 vs1.Out.length, .int .i64 vs1.Steps]]⟩), (256, ⟨0, true, true, 4, List.map aA.enc vs1.Out⟩), (312, ⟨0, true, true, 1, List.map (iA .i64) vs1.Merge.At⟩)], 368, []⟩ ?_
    refine xS 376 [0, 1] ?_
    refine kA ?_
    refine xS 392 [1, 6, 7] ?_
    refine zds [312] (fun Kt hK => by simp only [↓reduceIte, reduceCtorEq, Nat.reduceEqDiff, Nat.reduceLT, Nat.reduceLeDiff, Nat.reduceAdd, Nat.reduceMul, Int.reduceToNat, Nat.reduceBEq, push_cast]; exact hK) ?_
    refine xE ⟨[(1, .fn 51 [.ref 224 0 0 0] []), (6, .int .i64 (if vr3.1 < n2 then vr3.1 else n2)), (7, .int .i64 0)], [(8, ⟨0, true, true, 10, [[.nils, .nils, .nils, .nils, .int .i64 0, .bool false, .str [], .bool false, .nils, .int .i64 0]]⟩), (224, ⟨0, true, false, 10, [[.psl 1 (List.map (wA 4 aA.enc) vs1.Merge.Runs), .psl 1 (List.map (iA .i64) vs1.Merge.At), .psl 2 (List.map cA.enc vs1.Merge.Tree.Keys), .psl 1 (List.map (iA .i64) vs1.Merge.Tree.Lose), .int .i64 vs1.Merge.Tree.Win, .bool vs1.Shadow.Some, .str vs1.Shadow.Last, .bool vs1.Shadow.Bottom, .sl 256 0 4 0 vs1.Out.length, .int .i64 vs1.Steps]]⟩), (256, ⟨0, true, true, 4, List.map aA.enc vs1.Out⟩), (312, ⟨0, false, true, 1, List.map (iA .i64) vs1.Merge.At⟩)], 392, []⟩ ?_
    obtain ⟨x42, hxx42, h0⟩ := eA h0
    refine lD (fun s' => ∃ o62 : List (List aA) × List Int × List cA × List Int × Int × Bool × List UInt8 × Bool × Int × List aA, ∃ g63 : Nat, x42 = .inl o62 ∧ s'.nx ≤ 400 ∧ LeN [] s' ⟨[], [(8, ⟨0, true, true, 10, [[.nils, .nils, .nils, .nils, .int .i64 0, .bool false, .str [], .bool false, .nils, .int .i64 0]]⟩), (224, ⟨0, true, false, 10, [[.psl 1 (List.map (wA 4 aA.enc) o62.1), .psl 1 (List.map (iA .i64) o62.2.1), .psl 2 (List.map cA.enc o62.2.2.1), .psl 1 (List.map (iA .i64) o62.2.2.2.1), .int .i64 o62.2.2.2.2.1, .bool o62.2.2.2.2.2.1, .str o62.2.2.2.2.2.2.1, .bool o62.2.2.2.2.2.2.2.1, .sl 256 g63 4 0 o62.2.2.2.2.2.2.2.2.2.length, .int .i64 o62.2.2.2.2.2.2.2.2.1]]⟩), (256, ⟨g63, true, true, 4, List.map aA.enc o62.2.2.2.2.2.2.2.2.2⟩), (312, ⟨0, false, true, 1, List.map (iA .i64) vs1.Merge.At⟩)], 400, []⟩) ?_ ?_
    ·
     intro s' hs
     obtain ⟨o62, g63, rfl, hn, hs⟩ := hs
     refine gA ?_
     refine zB [] hn hs ?_
     refine xS 408 [4] ?_
     refine jA ?_
     refine oE (fun _ _ => rT) ?_
     refine xF ⟨[(4, .ref 8 0 0 0), (5, .int .i64 (if vr3.1 < n2 then vr3.1 else n2)), (8, .ref 224 0 0 0), (47, .int .i64 (if vr3.1 < n2 then vr3.1 else n2)), (48, .fn 51 [.ref 224 0 0 0] []), (49, .int .i64 0)], [(8, ⟨0, true, true, 10, [[.nils, .nils, .nils, .nils, .int .i64 0, .bool false, .str [], .bool false, .nils, .int .i64 0]]⟩), (224, ⟨0, true, false, 10, [[.psl 1 (List.map (wA 4 aA.enc) o62.1), .psl 1 (List.map (iA .i64) o62.2.1), .psl 2 (List.map cA.enc o62.2.2.1), .psl 1 (List.map (iA .i64) o62.2.2.2.1), .int .i64 o62.2.2.2.2.1, .bool o62.2.2.2.2.2.1, .str o62.2.2.2.2.2.2.1, .bool o62.2.2.2.2.2.2.2.1, .sl 256 g63 4 0 o62.2.2.2.2.2.2.2.2.2.length, .int .i64 o62.2.2.2.2.2.2.2.2.1]]⟩), (256, ⟨g63, true, true, 4, List.map aA.enc o62.2.2.2.2.2.2.2.2.2⟩)], 408, []⟩ ?_
     refine fC (l' := List.range' 3 1 ++ []) rfl ?_
     refine pC 3 1 416 [] (fun _ => none) rfl rfl rfl (fun _ _ => rT) ?_
     refine mD ?_
     refine gA ?_
     refine xE ⟨[(4, .ref 8 0 0 0), (5, .int .i64 (if vr3.1 < n2 then vr3.1 else n2)), (8, .ref 224 0 0 0), (9, .int .i64 0)], [(8, ⟨0, true, true, 10, [[.nils, .nils, .nils, .nils, .int .i64 0, .bool false, .str [], .bool false, .nils, .int .i64 0]]⟩), (224, ⟨0, true, false, 10, [[.psl 1 (List.map (wA 4 aA.enc) o62.1), .psl 1 (List.map (iA .i64) o62.2.1), .psl 2 (List.map cA.enc o62.2.2.1), .psl 1 (List.map (iA .i64) o62.2.2.2.1), .int .i64 o62.2.2.2.2.1, .bool o62.2.2.2.2.2.1, .str o62.2.2.2.2.2.2.1, .bool o62.2.2.2.2.2.2.2.1, .sl 256 g63 4 0 o62.2.2.2.2.2.2.2.2.2.length, .int .i64 o62.2.2.2.2.2.2.2.2.1]]⟩), (256, ⟨g63, true, true, 4, List.map aA.enc o62.2.2.2.2.2.2.2.2.2⟩)], 416, []⟩ ?_
     refine xS 432 [4, 5, 8, 9, 51] ?_
     refine wF rfl ?_
     refine qA (gA ?_)
     refine xS 480 [4, 5, 6] ?_
     refine jA ?_
     obtain rfl := Option.some.inj h0
     refine nA [] ?_
     exact rG
    ·
     refine kD (ι := { p : Nat × Int × List (List aA) × List Int × List cA × List Int × Int × Bool × List UInt8 × Bool × Int × List aA × Nat // kH vr3 n2 p.1 p.2.1 p.2.2.1 p.2.2.2.1 p.2.2.2.2.1 p.2.2.2.2.2.1 p.2.2.2.2.2.2.1 p.2.2.2.2.2.2.2.1 p.2.2.2.2.2.2.2.2.1 p.2.2.2.2.2.2.2.2.2.1 p.2.2.2.2.2.2.2.2.2.2.1 p.2.2.2.2.2.2.2.2.2.2.2.1 = some x42 }) (fun p => ⟨[(1, .fn 51 [.ref 224 0 0 0] []), (6, .int .i64 (if vr3.1 < n2 then vr3.1 else n2)), (7, .int .i64 p.1.2.1)], [(8, ⟨0, true, true, 10, [[.nils, .nils, .nils, .nils, .int .i64 0, .bool false, .str [], .bool false, .nils, .int .i64 0]]⟩), (224, ⟨0, true, false, 10, [[.psl 1 (List.map (wA 4 aA.enc) p.1.2.2.1), .psl 1 (List.map (iA .i64) p.1.2.2.2.1), .psl 2 (List.map cA.enc p.1.2.2.2.2.1), .psl 1 (List.map (iA .i64) p.1.2.2.2.2.2.1), .int .i64 p.1.2.2.2.2.2.2.1, .bool p.1.2.2.2.2.2.2.2.1, .str p.1.2.2.2.2.2.2.2.2.1, .bool p.1.2.2.2.2.2.2.2.2.2.1, .sl 256 p.1.2.2.2.2.2.2.2.2.2.2.2.2 4 0 p.1.2.2.2.2.2.2.2.2.2.2.2.1.length, .int .i64 p.1.2.2.2.2.2.2.2.2.2.2.1]]⟩), (256, ⟨p.1.2.2.2.2.2.2.2.2.2.2.2.2, true, true, 4, List.map aA.enc p.1.2.2.2.2.2.2.2.2.2.2.2.1⟩), (312, ⟨0, false, true, 1, List.map (iA .i64) vs1.Merge.At⟩)], 392, []⟩) (fun p => p.1.1) ⟨(fu, 0, vs1.Merge.Runs, vs1.Merge.At, vs1.Merge.Tree.Keys, vs1.Merge.Tree.Lose, vs1.Merge.Tree.Win, vs1.Shadow.Some, vs1.Shadow.Last, vs1.Shadow.Bottom, vs1.Steps, vs1.Out, 0), hxx42⟩ ⟨rF, rE, rfl, rfl, trivial, trivial⟩ (fun _ => Nat.le_refl _) ?_
     rintro ⟨⟨fu, left43, v44, v45, v46, v47, v48, v49, v50, v51, v52, v53, g54⟩, h1⟩
     cases fu with
     | zero =>
   replace h1 : kH vr3 n2 0 left43 v44 v45 v46 v47 v48 v49 v50 v51 v52 v53 = some x42 := h1
   rw [kH] at h1; cases h1
     | succ fu =>
      replace h1 : kH vr3 n2 (fu + 1) left43 v44 v45 v46 v47 v48 v49 v50 v51 v52 v53 = some x42 := h1
      rw [kH] at h1
      refine (show pA _ _ _ _ ⟨[(1, .fn 51 [.ref 224 0 0 0] []), (6, .int .i64 (if vr3.1 < n2 then vr3.1 else n2)), (7, .int .i64 left43)], [(8, ⟨0, true, true, 10, [[.nils, .nils, .nils, .nils, .int .i64 0, .bool false, .str [], .bool false, .nils, .int .i64 0]]⟩), (224, ⟨0, true, false, 10, [[.psl 1 (List.map (wA 4 aA.enc) v44), .psl 1 (List.map (iA .i64) v45), .psl 2 (List.map cA.enc v46), .psl 1 (List.map (iA .i64) v47), .int .i64 v48, .bool v49, .str v50, .bool v51, .sl 256 g54 4 0 v53.length, .int .i64 v52]]⟩), (256, ⟨g54, true, true, 4, List.map aA.enc v53⟩), (312, ⟨0, false, true, 1, List.map (iA .i64) vs1.Merge.At⟩)], 392, []⟩ from ?_)
      refine xS 400 [1, 6, 7, 8] ?_
      refine kA ?_
      refine xI h1 rfl (fun h1 hb55 => ?_) (fun h1 hb55 => ?_)
      ·
       refine qA (gA (kA (jC ?_)))
       refine mH 3 rfl ?_
       refine fC (l' := List.range' 0 1 ++ (1 :: (List.range' 2 1 ++ []))) rfl ?_
       refine pC 0 1 408 (1 :: (List.range' 2 1 ++ [])) (fun _ => none) rfl rfl rfl (fun _ _ => rT) ?_
       refine xJ rfl rfl rfl rfl rfl Try.func51 rfl (by decide) rfl rL ?_
       dsimp only [Try.f51]
       refine xE ⟨[(0, .ref 224 0 0 0)], [(8, ⟨0, true, true, 10, [[.nils, .nils, .nils, .nils, .int .i64 0, .bool false, .str [], .bool false, .nils, .int .i64 0]]⟩), (224, ⟨0, true, false, 10, [[.psl 1 (List.map (wA 4 aA.enc) v44), .psl 1 (List.map (iA .i64) v45), .psl 2 (List.map cA.enc v46), .psl 1 (List.map (iA .i64) v47), .int .i64 v48, .bool v49, .str v50, .bool v51, .sl 256 g54 4 0 v53.length, .int .i64 v52]]⟩), (256, ⟨g54, true, true, 4, List.map aA.enc v53⟩), (312, ⟨0, false, true, 1, List.map (iA .i64) vs1.Merge.At⟩)], 408, []⟩ ?_
       refine xS 416 [0] ?_
       obtain ⟨vr56, hvr56, h1⟩ := eA h1
       refine oA 552 [0, 3, 5, 6] (fun | 5 => some (.tup [.agg (aA.enc vr56.1), .int .i64 vr56.2.1, .agg (gB.enc vr56.2.2.1), .int .i64 vr56.2.2.2], []) | _ => none) rfl (fun _ _ => rC (znI hvr56)) ?_
       refine kA ?_
       refine xS 568 [0, 3, 5, 6, 21] ?_
       refine xI h1 rfl (fun h1 hb57 => ?_) (fun h1 hb57 => ?_)
       ·
        refine xS 584 [2] ?_
        refine jA (mA ?_)
        refine oE (fun _ _ => rT) ?_
        refine xF ⟨[(1, .fn 51 [.ref 224 0 0 0] []), (6, .int .i64 (if vr3.1 < n2 then vr3.1 else n2)), (7, .int .i64 left43), (8, .bool (decide (left43 < (if vr3.1 < n2 then vr3.1 else n2)))), (9, .fn 51 [.ref 224 0 0 0] []), (10, .int .i64 vr56.2.2.2)], [(8, ⟨0, true, true, 10, [[.nils, .nils, .nils, .nils, .int .i64 0, .bool false, .str [], .bool false, .nils, .int .i64 0]]⟩), (224, ⟨0, true, false, 10, [[.psl 1 (List.map (wA 4 aA.enc) v44), .psl 1 (List.map (iA .i64) v45), .psl 2 (List.map cA.enc v46), .psl 1 (List.map (iA .i64) v47), .int .i64 v48, .bool v49, .str v50, .bool v51, .sl 256 g54 4 0 v53.length, .int .i64 v52]]⟩), (256, ⟨g54, true, true, 4, List.map aA.enc v53⟩), (312, ⟨0, false, true, 1, List.map (iA .i64) vs1.Merge.At⟩)], 584, []⟩ ?_
        refine fC (l' := List.range' 2 1 ++ []) rfl ?_
        refine pC 2 1 592 [] (fun _ => none) rfl rfl rfl (fun _ _ => rT) ?_
        refine mD ?_
        refine gA ?_
        refine xE ⟨[(1, .fn 51 [.ref 224 0 0 0] []), (5, .int .i64 vr56.2.2.2), (6, .int .i64 (if vr3.1 < n2 then vr3.1 else n2)), (7, .int .i64 left43)], [(8, ⟨0, true, true, 10, [[.nils, .nils, .nils, .nils, .int .i64 0, .bool false, .str [], .bool false, .nils, .int .i64 0]]⟩), (224, ⟨0, true, false, 10, [[.psl 1 (List.map (wA 4 aA.enc) v44), .psl 1 (List.map (iA .i64) v45), .psl 2 (List.map cA.enc v46), .psl 1 (List.map (iA .i64) v47), .int .i64 v48, .bool v49, .str v50, .bool v51, .sl 256 g54 4 0 v53.length, .int .i64 v52]]⟩), (256, ⟨g54, true, true, 4, List.map aA.enc v53⟩), (312, ⟨0, false, true, 1, List.map (iA .i64) vs1.Merge.At⟩)], 592, []⟩ ?_
        refine xS 608 [1, 5, 6, 7, 12] ?_
        refine bO rfl hb57 ?_
        refine xS 624 [4] ?_
        refine jA ?_
        obtain rfl := Option.some.inj h1
        refine kC (mA (mA (uD (mA ?_))))
        refine oE (fun _ _ => rT) ?_
        refine xF ⟨[(4, .ref 8 0 0 0), (5, .int .i64 (if vr3.1 < n2 then vr3.1 else n2)), (8, .ref 224 0 0 0), (47, .int .i64 (if vr3.1 < n2 then vr3.1 else n2)), (48, .fn 51 [.ref 224 0 0 0] []), (49, .int .i64 vr56.2.2.2)], [(8, ⟨0, true, true, 10, [[.nils, .nils, .nils, .nils, .int .i64 0, .bool false, .str [], .bool false, .nils, .int .i64 0]]⟩), (224, ⟨0, true, false, 10, [[.psl 1 (List.map (wA 4 aA.enc) v44), .psl 1 (List.map (iA .i64) v45), .psl 2 (List.map cA.enc v46), .psl 1 (List.map (iA .i64) v47), .int .i64 v48, .bool v49, .str v50, .bool v51, .sl 256 g54 4 0 v53.length, .int .i64 v52]]⟩), (256, ⟨g54, true, true, 4, List.map aA.enc v53⟩)], 624, []⟩ ?_
        refine fC (l' := List.range' 3 1 ++ []) rfl ?_
        refine pC 3 1 632 [] (fun _ => none) rfl rfl rfl (fun _ _ => rT) ?_
        refine mD ?_
        refine gA ?_
        refine xE ⟨[(4, .ref 8 0 0 0), (5, .int .i64 (if vr3.1 < n2 then vr3.1 else n2)), (8, .ref 224 0 0 0), (9, .int .i64 vr56.2.2.2)], [(8, ⟨0, true, true, 10, [[.nils, .nils, .nils, .nils, .int .i64 0, .bool false, .str [], .bool false, .nils, .int .i64 0]]⟩), (224, ⟨0, true, false, 10, [[.psl 1 (List.map (wA 4 aA.enc) v44), .psl 1 (List.map (iA .i64) v45), .psl 2 (List.map cA.enc v46), .psl 1 (List.map (iA .i64) v47), .int .i64 v48, .bool v49, .str v50, .bool v51, .sl 256 g54 4 0 v53.length, .int .i64 v52]]⟩), (256, ⟨g54, true, true, 4, List.map aA.enc v53⟩)], 632, []⟩ ?_
        refine xS 648 [4, 5, 8, 9, 51] ?_
        refine bO rfl hb57 ?_
        refine xS 688 [4, 5, 6] ?_
        refine jA (mA ?_)
        obtain rfl := Option.some.inj h0
        refine nA [] ?_
        exact rG
       ·
        refine qA (gA ?_)
        obtain ⟨vr58, hvr58, h1⟩ := eA h1
        refine jD 688 [0, 3, 5, 6, 7, 8] (fun | 6 => some (.tup [.bool vr58.1, .agg (mB.enc vr58.2.1), .int .i64 vr58.2.2], []) | _ => none) rfl rfl rfl (fun _ _ => rCd (zkR hvr58)) ?_
        refine kA ?_
        refine xS 704 [0, 3, 5, 6, 7, 8, 35] ?_
        refine xI h1 rfl (fun h1 hb59 => ?_) (fun h1 hb59 => ?_)
        ·
         refine xS 720 [2] ?_
         refine jA (mA ?_)
         refine oE (fun _ _ => rT) ?_
         refine xF ⟨[(1, .fn 51 [.ref 224 0 0 0] []), (6, .int .i64 (if vr3.1 < n2 then vr3.1 else n2)), (7, .int .i64 left43), (8, .bool (decide (left43 < (if vr3.1 < n2 then vr3.1 else n2)))), (9, .fn 51 [.ref 224 0 0 0] []), (10, .int .i64 vr58.2.2)], [(8, ⟨0, true, true, 10, [[.nils, .nils, .nils, .nils, .int .i64 0, .bool false, .str [], .bool false, .nils, .int .i64 0]]⟩), (224, ⟨0, true, false, 10, [[.psl 1 (List.map (wA 4 aA.enc) v44), .psl 1 (List.map (iA .i64) v45), .psl 2 (List.map cA.enc v46), .psl 1 (List.map (iA .i64) v47), .int .i64 v48, .bool v49, .str v50, .bool v51, .sl 256 g54 4 0 v53.length, .int .i64 v52]]⟩), (256, ⟨g54, true, true, 4, List.map aA.enc v53⟩), (312, ⟨0, false, true, 1, List.map (iA .i64) vs1.Merge.At⟩)], 720, []⟩ ?_
         refine fC (l' := List.range' 2 1 ++ []) rfl ?_
         refine pC 2 1 728 [] (fun _ => none) rfl rfl rfl (fun _ _ => rT) ?_
         refine mD ?_
         refine gA ?_
         refine xE ⟨[(1, .fn 51 [.ref 224 0 0 0] []), (5, .int .i64 vr58.2.2), (6, .int .i64 (if vr3.1 < n2 then vr3.1 else n2)), (7, .int .i64 left43)], [(8, ⟨0, true, true, 10, [[.nils, .nils, .nils, .nils, .int .i64 0, .bool false, .str [], .bool false, .nils, .int .i64 0]]⟩), (224, ⟨0, true, false, 10, [[.psl 1 (List.map (wA 4 aA.enc) v44), .psl 1 (List.map (iA .i64) v45), .psl 2 (List.map cA.enc v46), .psl 1 (List.map (iA .i64) v47), .int .i64 v48, .bool v49, .str v50, .bool v51, .sl 256 g54 4 0 v53.length, .int .i64 v52]]⟩), (256, ⟨g54, true, true, 4, List.map aA.enc v53⟩), (312, ⟨0, false, true, 1, List.map (iA .i64) vs1.Merge.At⟩)], 728, []⟩ ?_
         refine xS 744 [1, 5, 6, 7, 12] ?_
         refine bO rfl hb59 ?_
         refine xS 760 [4] ?_
         refine jA ?_
         obtain rfl := Option.some.inj h1
         refine kC (mA (mA (uD (mA ?_))))
         refine oE (fun _ _ => rT) ?_
         refine xF ⟨[(4, .ref 8 0 0 0), (5, .int .i64 (if vr3.1 < n2 then vr3.1 else n2)), (8, .ref 224 0 0 0), (47, .int .i64 (if vr3.1 < n2 then vr3.1 else n2)), (48, .fn 51 [.ref 224 0 0 0] []), (49, .int .i64 vr58.2.2)], [(8, ⟨0, true, true, 10, [[.nils, .nils, .nils, .nils, .int .i64 0, .bool false, .str [], .bool false, .nils, .int .i64 0]]⟩), (224, ⟨0, true, false, 10, [[.psl 1 (List.map (wA 4 aA.enc) v44), .psl 1 (List.map (iA .i64) v45), .psl 2 (List.map cA.enc v46), .psl 1 (List.map (iA .i64) v47), .int .i64 v48, .bool v49, .str v50, .bool v51, .sl 256 g54 4 0 v53.length, .int .i64 v52]]⟩), (256, ⟨g54, true, true, 4, List.map aA.enc v53⟩)], 760, []⟩ ?_
         refine fC (l' := List.range' 3 1 ++ []) rfl ?_
         refine pC 3 1 768 [] (fun _ => none) rfl rfl rfl (fun _ _ => rT) ?_
         refine mD ?_
         refine gA ?_
         refine xE ⟨[(4, .ref 8 0 0 0), (5, .int .i64 (if vr3.1 < n2 then vr3.1 else n2)), (8, .ref 224 0 0 0), (9, .int .i64 vr58.2.2)], [(8, ⟨0, true, true, 10, [[.nils, .nils, .nils, .nils, .int .i64 0, .bool false, .str [], .bool false, .nils, .int .i64 0]]⟩), (224, ⟨0, true, false, 10, [[.psl 1 (List.map (wA 4 aA.enc) v44), .psl 1 (List.map (iA .i64) v45), .psl 2 (List.map cA.enc v46), .psl 1 (List.map (iA .i64) v47), .int .i64 v48, .bool v49, .str v50, .bool v51, .sl 256 g54 4 0 v53.length, .int .i64 v52]]⟩), (256, ⟨g54, true, true, 4, List.map aA.enc v53⟩)], 768, []⟩ ?_
         refine xS 784 [4, 5, 8, 9, 51] ?_
         refine bO rfl hb59 ?_
         refine xS 824 [4, 5, 6] ?_
         refine jA (mA ?_)
         obtain rfl := Option.some.inj h0
         refine nA [] ?_
         exact rG
        ·
         refine qA (gA ?_)
         refine jD 800 [0, 3, 7] (fun _ => none) rfl rfl rfl (fun _ _ => vG) ?_
         refine xS 880 [0, 3, 7] ?_
         refine kA ?_
         refine xS 888 [0, 3, 56] ?_
         refine xI h1 rfl (fun h1 hb60 => ?_) (fun h1 hb60 => ?_)
         ·
          obtain ⟨hc61, h1⟩ := cF h1
          refine aJ 992 [] (fun _ => none) rfl rfl rfl (fun _ _ => vG) ?_
          refine gA ?_
          refine xE ⟨[], [(8, ⟨0, true, true, 10, [[.nils, .nils, .nils, .nils, .int .i64 0, .bool false, .str [], .bool false, .nils, .int .i64 0]]⟩), (224, ⟨0, true, false, 10, [[.psl 1 (List.map (wA 4 aA.enc) vr56.2.2.1.Runs), .psl 1 (List.map (iA .i64) vr56.2.2.1.At), .psl 2 (List.map cA.enc vr56.2.2.1.Tree.Keys), .psl 1 (List.map (iA .i64) vr56.2.2.1.Tree.Lose), .int .i64 vr56.2.2.1.Tree.Win, .bool vr58.2.1.Some, .str vr58.2.1.Last, .bool vr58.2.1.Bottom, .sl 256 (g54 + 1) 4 0 ((v53 ++ [vr56.1]).length), .int .i64 (IntKind.i64.wrap (v52 + 1))]]⟩), (256, ⟨(g54 + 1), true, true, 4, List.map aA.enc (v53 ++ [vr56.1])⟩), (312, ⟨0, false, true, 1, List.map (iA .i64) vs1.Merge.At⟩)], 992, []⟩ ?_
          refine xS 1000 [2] ?_
          refine jA ?_
          refine oE (fun _ _ => rT) ?_
          refine xF ⟨[(1, .fn 51 [.ref 224 0 0 0] []), (6, .int .i64 (if vr3.1 < n2 then vr3.1 else n2)), (7, .int .i64 left43), (8, .bool (decide (left43 < (if vr3.1 < n2 then vr3.1 else n2)))), (9, .fn 51 [.ref 224 0 0 0] []), (10, .int .i64 0)], [(8, ⟨0, true, true, 10, [[.nils, .nils, .nils, .nils, .int .i64 0, .bool false, .str [], .bool false, .nils, .int .i64 0]]⟩), (224, ⟨0, true, false, 10, [[.psl 1 (List.map (wA 4 aA.enc) vr56.2.2.1.Runs), .psl 1 (List.map (iA .i64) vr56.2.2.1.At), .psl 2 (List.map cA.enc vr56.2.2.1.Tree.Keys), .psl 1 (List.map (iA .i64) vr56.2.2.1.Tree.Lose), .int .i64 vr56.2.2.1.Tree.Win, .bool vr58.2.1.Some, .str vr58.2.1.Last, .bool vr58.2.1.Bottom, .sl 256 (g54 + 1) 4 0 ((v53 ++ [vr56.1]).length), .int .i64 (IntKind.i64.wrap (v52 + 1))]]⟩), (256, ⟨(g54 + 1), true, true, 4, List.map aA.enc (v53 ++ [vr56.1])⟩), (312, ⟨0, false, true, 1, List.map (iA .i64) vs1.Merge.At⟩)], 1000, []⟩ ?_
          refine fC (l' := List.range' 2 1 ++ []) rfl ?_
          refine pC 2 1 1008 [] (fun _ => none) rfl rfl rfl (fun _ _ => rT) ?_
          refine mD ?_
          refine gA ?_
          refine xE ⟨[(1, .fn 51 [.ref 224 0 0 0] []), (5, .int .i64 0), (6, .int .i64 (if vr3.1 < n2 then vr3.1 else n2)), (7, .int .i64 left43)], [(8, ⟨0, true, true, 10, [[.nils, .nils, .nils, .nils, .int .i64 0, .bool false, .str [], .bool false, .nils, .int .i64 0]]⟩), (224, ⟨0, true, false, 10, [[.psl 1 (List.map (wA 4 aA.enc) vr56.2.2.1.Runs), .psl 1 (List.map (iA .i64) vr56.2.2.1.At), .psl 2 (List.map cA.enc vr56.2.2.1.Tree.Keys), .psl 1 (List.map (iA .i64) vr56.2.2.1.Tree.Lose), .int .i64 vr56.2.2.1.Tree.Win, .bool vr58.2.1.Some, .str vr58.2.1.Last, .bool vr58.2.1.Bottom, .sl 256 (g54 + 1) 4 0 ((v53 ++ [vr56.1]).length), .int .i64 (IntKind.i64.wrap (v52 + 1))]]⟩), (256, ⟨(g54 + 1), true, true, 4, List.map aA.enc (v53 ++ [vr56.1])⟩), (312, ⟨0, false, true, 1, List.map (iA .i64) vs1.Merge.At⟩)], 1008, []⟩ ?_
          refine xS 1024 [1, 5, 6, 7, 12] ?_
          refine wF rfl ?_
          refine qA (cC (gA ?_))
          refine xR 1040 [1, 6, 7] ?_
          refine gA ?_
          exact ⟨⟨(fu, (IntKind.i64.wrap (left43 + 1)), vr56.2.2.1.Runs, vr56.2.2.1.At, vr56.2.2.1.Tree.Keys, vr56.2.2.1.Tree.Lose, vr56.2.2.1.Tree.Win, vr58.2.1.Some, vr58.2.1.Last, vr58.2.1.Bottom, (IntKind.i64.wrap (v52 + 1)), (v53 ++ [vr56.1]), (g54 + 1)), h1⟩, ⟨rF, rE, rfl, rfl, trivial, trivial⟩, Nat.lt_succ_self _⟩
         ·
          refine qA (gA ?_)
          refine xS 896 [2] ?_
          refine jA ?_
          refine oE (fun _ _ => rT) ?_
          refine xF ⟨[(1, .fn 51 [.ref 224 0 0 0] []), (6, .int .i64 (if vr3.1 < n2 then vr3.1 else n2)), (7, .int .i64 left43), (8, .bool (decide (left43 < (if vr3.1 < n2 then vr3.1 else n2)))), (9, .fn 51 [.ref 224 0 0 0] []), (10, .int .i64 0)], [(8, ⟨0, true, true, 10, [[.nils, .nils, .nils, .nils, .int .i64 0, .bool false, .str [], .bool false, .nils, .int .i64 0]]⟩), (224, ⟨0, true, false, 10, [[.psl 1 (List.map (wA 4 aA.enc) vr56.2.2.1.Runs), .psl 1 (List.map (iA .i64) vr56.2.2.1.At), .psl 2 (List.map cA.enc vr56.2.2.1.Tree.Keys), .psl 1 (List.map (iA .i64) vr56.2.2.1.Tree.Lose), .int .i64 vr56.2.2.1.Tree.Win, .bool vr58.2.1.Some, .str vr58.2.1.Last, .bool vr58.2.1.Bottom, .sl 256 g54 4 0 v53.length, .int .i64 (IntKind.i64.wrap (v52 + 1))]]⟩), (256, ⟨g54, true, true, 4, List.map aA.enc v53⟩), (312, ⟨0, false, true, 1, List.map (iA .i64) vs1.Merge.At⟩)], 896, []⟩ ?_
          refine fC (l' := List.range' 2 1 ++ []) rfl ?_
          refine pC 2 1 904 [] (fun _ => none) rfl rfl rfl (fun _ _ => rT) ?_
          refine mD ?_
          refine gA ?_
          refine xE ⟨[(1, .fn 51 [.ref 224 0 0 0] []), (5, .int .i64 0), (6, .int .i64 (if vr3.1 < n2 then vr3.1 else n2)), (7, .int .i64 left43)], [(8, ⟨0, true, true, 10, [[.nils, .nils, .nils, .nils, .int .i64 0, .bool false, .str [], .bool false, .nils, .int .i64 0]]⟩), (224, ⟨0, true, false, 10, [[.psl 1 (List.map (wA 4 aA.enc) vr56.2.2.1.Runs), .psl 1 (List.map (iA .i64) vr56.2.2.1.At), .psl 2 (List.map cA.enc vr56.2.2.1.Tree.Keys), .psl 1 (List.map (iA .i64) vr56.2.2.1.Tree.Lose), .int .i64 vr56.2.2.1.Tree.Win, .bool vr58.2.1.Some, .str vr58.2.1.Last, .bool vr58.2.1.Bottom, .sl 256 g54 4 0 v53.length, .int .i64 (IntKind.i64.wrap (v52 + 1))]]⟩), (256, ⟨g54, true, true, 4, List.map aA.enc v53⟩), (312, ⟨0, false, true, 1, List.map (iA .i64) vs1.Merge.At⟩)], 904, []⟩ ?_
          refine xS 920 [1, 5, 6, 7, 12] ?_
          refine wF rfl ?_
          refine qA (cC (gA ?_))
          refine xR 936 [1, 6, 7] ?_
          refine gA ?_
          exact ⟨⟨(fu, (IntKind.i64.wrap (left43 + 1)), vr56.2.2.1.Runs, vr56.2.2.1.At, vr56.2.2.1.Tree.Keys, vr56.2.2.1.Tree.Lose, vr56.2.2.1.Tree.Win, vr58.2.1.Some, vr58.2.1.Last, vr58.2.1.Bottom, (IntKind.i64.wrap (v52 + 1)), v53, g54), h1⟩, ⟨rF, rE, rfl, rfl, trivial, trivial⟩, Nat.lt_succ_self _⟩
      ·
       refine vC (jB (jB (bD ?_)))
       obtain rfl := Option.some.inj h1
       exact ⟨_, g54, rfl, rL, ⟨rF, rE, rfl, rfl, trivial, trivial⟩⟩
theorem zgi {fu : Nat} {s11 : List aA} {s22 : List aA} {r : Bool} (h0 : dR fu s11 s22 = some r) : lB Try.prog 87 [.psl 4 (s11.map aA.enc), .psl 4 (s22.map aA.enc)] (.bool r) [] := by
 refine sB Try.func87 rfl (by decide) rL ?_
 dsimp only [Try.f87]
 rw [dR] at h0
 refine (show pA _ _ _ _ ⟨kB 0 _, [], 0, []⟩ from ?_)
 refine xS 8 [0, 1] ?_
 refine kA ?_
 refine xS 48 [0, 1, 10] ?_
 refine xI h0 rfl (fun h0 hb3 => ?_) (fun h0 hb3 => ?_)
 ·
  refine xS 56 [4] ?_
  refine jA (mA ?_)
  obtain rfl := Option.some.inj h0
  refine nA [] ?_
  exact rG
 ·
  refine qA (gA (kA ?_))
  refine xS 72 [0, 1, 12, 13] ?_
  obtain ⟨x13, hxx13, h0⟩ := eA h0
  refine lD (fun s' => ∃ o19 : Unit, x13 = .inl o19 ∧ s'.nx ≤ 80 ∧ LeN [] s' ⟨[], [], 80, []⟩) ?_ ?_
  ·
   intro s' hs
   obtain ⟨o19, rfl, hn, hs⟩ := hs
   refine gA ?_
   refine zB [] hn hs ?_
   refine xS 88 [4] ?_
   refine jA ?_
   obtain rfl := Option.some.inj h0
   refine nA [] ?_
   exact rG
  ·
   refine kD (ι := { p : Nat × Int // bI s11 s22 p.1 p.2 = some x13 }) (fun p => ⟨[(0, .psl 4 (List.map aA.enc s11)), (1, .psl 4 (List.map aA.enc s22)), (12, .int .i64 (s11.length : Int)), (13, .int .i64 p.1.2)], [], 72, []⟩) (fun p => p.1.1) ⟨(fu, 0), hxx13⟩ ⟨rF, rE, rfl, rfl, trivial, trivial⟩ (fun _ => Nat.le_refl _) ?_
   rintro ⟨⟨fu, v14⟩, h1⟩
   cases fu with
   | zero =>
   replace h1 : bI s11 s22 0 v14 = some x13 := h1
   rw [bI] at h1; cases h1
   | succ fu =>
    replace h1 : bI s11 s22 (fu + 1) v14 = some x13 := h1
    rw [bI] at h1
    refine (show pA _ _ _ _ ⟨[(0, .psl 4 (List.map aA.enc s11)), (1, .psl 4 (List.map aA.enc s22)), (12, .int .i64 (s11.length : Int)), (13, .int .i64 v14)], [], 72, []⟩ from ?_)
    refine xS 80 [0, 1, 12, 13, 14] ?_
    refine kA ?_
    refine xI h1 rfl (fun h1 hb15 => ?_) (fun h1 hb15 => ?_)
    ·
     refine qA (gA (kA (jC ?_)))
     refine xS 96 [0, 1, 5, 12, 13] ?_
     obtain ⟨e16, he16, h1⟩ := eA h1
     obtain ⟨he16a, he16b, he16c⟩ := fB he16
     obtain ⟨e17, he17, h1⟩ := eA h1
     obtain ⟨he17a, he17b, he17c⟩ := fB he17
     refine jD 168 [0, 1, 12, 13, 24] (fun _ => none) rfl rfl rfl (fun _ _ => uE (rA he16a (rA he16b (rA he16c (rA he17a (rA he17b he17c)))))) ?_
     refine xI h1 rfl (fun h1 hb18 => ?_) (fun h1 hb18 => ?_)
     ·
      refine oA 176 [4] (fun _ => none) rfl (fun _ _ => rS (rA he16a (rA he16b (rA he16c (rA he17a (rA he17b he17c)))))) ?_
      refine jA ?_
      obtain rfl := Option.some.inj h1
      refine kC (mA (mA (uD (mA ?_))))
      obtain rfl := Option.some.inj h0
      refine nA [] ?_
      simp (maxSteps := 1000000) only [↓reduceIte, reduceCtorEq, Nat.reduceEqDiff, Nat.reduceLT, Nat.reduceLeDiff, Nat.reduceAdd, Nat.reduceMul, Int.reduceToNat, push_cast, lC, he16a, he16b, he16c, he17a, he17b, he17c]
      all_goals exact rH
     ·
      refine qA (cC (gA ?_))
      refine iC 184 [0, 1, 12, 13] (fun _ => none) rfl (fun _ _ => rS (rA he16a (rA he16b (rA he16c (rA he17a (rA he17b he17c)))))) ?_
      refine gA ?_
      exact ⟨⟨(fu, (IntKind.i64.wrap (v14 + 1))), h1⟩, ⟨rF, rE, rfl, rfl, trivial, trivial⟩, Nat.lt_succ_self _⟩
    ·
     refine vC (jB (jB (bD ?_)))
     obtain rfl := Option.some.inj h1
     exact ⟨_, rfl, rL, ⟨rF, rE, rfl, rfl, trivial, trivial⟩⟩
theorem sN {fu : Nat} {a1 : List aA} {b2 : List aA} {r : Bool} (h0 : jN fu a1 b2 = some r) : lB Try.prog 66 [.psl 4 (a1.map aA.enc), .psl 4 (b2.map aA.enc)] (.bool r) [] := by
 refine sB Try.func66 rfl (by decide) rL ?_
 dsimp only [Try.f66]
 rw [jN] at h0
 refine (show pA _ _ _ _ ⟨kB 0 _, [], 0, []⟩ from ?_)
 refine xS 8 [0, 1] ?_
 obtain ⟨vr3, hvr3, h0⟩ := eA h0
 refine oA 40 [4] (fun | 2 => some (.bool vr3, []) | _ => none) rfl (fun _ _ => rC (zgi hvr3)) ?_
 refine jA ?_
 obtain rfl := Option.some.inj h0
 refine nA [] ?_
 exact rG
theorem lP {fu : Nat} {s11 : List (List aA)} {s22 : List (List aA)} {r : Bool} (h0 : oP fu s11 s22 = some r) : lB Try.prog 65 [.psl 1 (s11.map (wA 4 aA.enc)), .psl 1 (s22.map (wA 4 aA.enc)), .fn 66 [] []] (.bool r) [] := by
 refine sB Try.func65 rfl (by decide) rL ?_
 dsimp only [Try.f65]
 rw [oP] at h0
 refine (show pA _ _ _ _ ⟨kB 0 _, [], 0, []⟩ from ?_)
 refine xS 8 [0, 1, 2] ?_
 refine kA ?_
 refine xS 48 [0, 1, 2, 14] ?_
 refine xI h0 rfl (fun h0 hb3 => ?_) (fun h0 hb3 => ?_)
 ·
  refine xS 56 [6] ?_
  refine jA (mA ?_)
  obtain rfl := Option.some.inj h0
  refine nA [] ?_
  exact rG
 ·
  refine qA (gA (kA ?_))
  refine xS 72 [1, 2, 15, 16, 17] ?_
  obtain ⟨x15, hxx15, h0⟩ := eA h0
  refine lD (fun s' => ∃ o22 : Unit, x15 = .inl o22 ∧ s'.nx ≤ 80 ∧ LeN [] s' ⟨[], [], 80, []⟩) ?_ ?_
  ·
   intro s' hs
   obtain ⟨o22, rfl, hn, hs⟩ := hs
   refine gA ?_
   refine zB [] hn hs ?_
   refine xS 88 [6] ?_
   refine jA ?_
   obtain rfl := Option.some.inj h0
   refine nA [] ?_
   exact rG
  ·
   refine kD (ι := { p : Nat × Int // lH s11 s22 p.1 p.2 = some x15 }) (fun p => ⟨[(1, .psl 1 (List.map (wA 4 aA.enc) s22)), (2, .fn 66 [] []), (15, .psl 1 (List.map (wA 4 aA.enc) s11)), (16, .int .i64 (s11.length : Int)), (17, .int .i64 p.1.2)], [], 72, []⟩) (fun p => p.1.1) ⟨(fu, 0), hxx15⟩ ⟨rF, rE, rfl, rfl, trivial, trivial⟩ (fun _ => Nat.le_refl _) ?_
   rintro ⟨⟨fu, v16⟩, h1⟩
   cases fu with
   | zero =>
   replace h1 : lH s11 s22 0 v16 = some x15 := h1
   rw [lH] at h1; cases h1
   | succ fu =>
    replace h1 : lH s11 s22 (fu + 1) v16 = some x15 := h1
    rw [lH] at h1
    refine (show pA _ _ _ _ ⟨[(1, .psl 1 (List.map (wA 4 aA.enc) s22)), (2, .fn 66 [] []), (15, .psl 1 (List.map (wA 4 aA.enc) s11)), (16, .int .i64 (s11.length : Int)), (17, .int .i64 v16)], [], 72, []⟩ from ?_)
    refine xS 80 [1, 2, 15, 16, 17, 18] ?_
    refine kA ?_
    refine xI h1 rfl (fun h1 hb17 => ?_) (fun h1 hb17 => ?_)
    ·
     refine qA (gA (kA (jC ?_)))
     obtain ⟨e18, he18, h1⟩ := eA h1
     obtain ⟨he18a, he18b, he18c⟩ := fB he18
     refine oA 120 [1, 2, 7, 8, 15, 16, 17] (fun _ => none) rfl (fun _ _ => rS (rA he18a (rA he18b he18c))) ?_
     obtain ⟨e19, he19, h1⟩ := eA h1
     obtain ⟨he19a, he19b, he19c⟩ := fB he19
     refine oA 160 [1, 2, 8, 9, 15, 16, 17] (fun _ => none) rfl (fun _ _ => rS (rA he18a (rA he18b (rA he18c (rA he19a (rA he19b he19c)))))) ?_
     obtain ⟨vr20, hvr20, h1⟩ := eA h1
     refine oA 200 [1, 2, 15, 16, 17, 30] (fun | 3 => some (.bool vr20, []) | _ => none) rfl (fun _ _ => rB (rA he18a (rA he18b (rA he18c (rA he19a (rA he19b he19c))))) (sN hvr20)) ?_
     refine xI h1 rfl (fun h1 hb21 => ?_) (fun h1 hb21 => ?_)
     ·
      refine oA 208 [6] (fun _ => none) rfl (fun _ _ => rS (rA he18a (rA he18b (rA he18c (rA he19a (rA he19b he19c)))))) ?_
      refine jA ?_
      obtain rfl := Option.some.inj h1
      refine kC (mA (mA (uD (mA ?_))))
      obtain rfl := Option.some.inj h0
      refine nA [] ?_
      simp (maxSteps := 1000000) only [↓reduceIte, reduceCtorEq, Nat.reduceEqDiff, Nat.reduceLT, Nat.reduceLeDiff, Nat.reduceAdd, Nat.reduceMul, Int.reduceToNat, push_cast, lC, he18a, he18b, he18c, he19a, he19b, he19c]
      all_goals exact rH
     ·
      refine qA (cC (gA ?_))
      refine iC 216 [1, 2, 15, 16, 17] (fun _ => none) rfl (fun _ _ => rS (rA he18a (rA he18b (rA he18c (rA he19a (rA he19b he19c)))))) ?_
      refine gA ?_
      exact ⟨⟨(fu, (IntKind.i64.wrap (v16 + 1))), h1⟩, ⟨rF, rE, rfl, rfl, trivial, trivial⟩, Nat.lt_succ_self _⟩
    ·
     refine vC (jB (jB (bD ?_)))
     obtain rfl := Option.some.inj h1
     exact ⟨_, rfl, rL, ⟨rF, rE, rfl, rfl, trivial, trivial⟩⟩
theorem zhG {fu : Nat} {a1 : pB} {b2 : pB} {r : Bool} (h0 : uP fu a1 b2 = some r) : lB Try.prog 49 [.agg (pB.enc a1), .agg (pB.enc b2)] (.bool r) [] := by
 refine sB Try.func49 rfl (by decide) rL ?_
 dsimp only [Try.f49, List.append]
 rw [uP] at h0
 refine (show pA _ _ _ _ ⟨kB 0 _, [], 0, []⟩ from ?_)
 refine xS 24 [2, 3] ?_
 refine jD 88 [2, 3, 5, 6] (fun _ => none) rfl rfl rfl (fun _ _ => vG) ?_
 obtain ⟨vr3, hvr3, h0⟩ := eA h0
 obtain ⟨b5, hb5, h0⟩ := eA h0
 obtain ⟨b7, hb7, h0⟩ := eA h0
 obtain ⟨b9, hb9, h0⟩ := eA h0
 obtain ⟨b10, hb10, h0⟩ := eA h0
 obtain ⟨b11, hb11, h0⟩ := eA h0
 obtain ⟨b13, hb13, h0⟩ := eA h0
 obtain ⟨b14, hb14, h0⟩ := eA h0
 refine dD (fr' := [(4, .bool b14)]) (hp' := [(0, ⟨0, true, true, 10, [[.psl 1 (List.map (wA 4 aA.enc) a1.Merge.Runs), .psl 1 (List.map (iA .i64) a1.Merge.At), .psl 2 (List.map cA.enc a1.Merge.Tree.Keys), .psl 1 (List.map (iA .i64) a1.Merge.Tree.Lose), .int .i64 a1.Merge.Tree.Win, .bool a1.Shadow.Some, .str a1.Shadow.Last, .bool a1.Shadow.Bottom, .psl 4 (List.map aA.enc a1.Out), .int .i64 a1.Steps]]⟩), (8, ⟨0, true, true, 10, [[.psl 1 (List.map (wA 4 aA.enc) b2.Merge.Runs), .psl 1 (List.map (iA .i64) b2.Merge.At), .psl 2 (List.map cA.enc b2.Merge.Tree.Keys), .psl 1 (List.map (iA .i64) b2.Merge.Tree.Lose), .int .i64 b2.Merge.Tree.Win, .bool b2.Shadow.Some, .str b2.Shadow.Last, .bool b2.Shadow.Bottom, .psl 4 (List.map aA.enc b2.Out), .int .i64 b2.Steps]]⟩), (56, ⟨0, true, true, 5, [[.psl 1 (List.map (wA 4 aA.enc) a1.Merge.Runs), .psl 1 (List.map (iA .i64) a1.Merge.At), .psl 2 (List.map cA.enc a1.Merge.Tree.Keys), .psl 1 (List.map (iA .i64) a1.Merge.Tree.Lose), .int .i64 a1.Merge.Tree.Win]]⟩), (64, ⟨0, true, true, 5, [[.psl 1 (List.map (wA 4 aA.enc) b2.Merge.Runs), .psl 1 (List.map (iA .i64) b2.Merge.At), .psl 2 (List.map cA.enc b2.Merge.Tree.Keys), .psl 1 (List.map (iA .i64) b2.Merge.Tree.Lose), .int .i64 b2.Merge.Tree.Win]]⟩)]) [0, 8, 56, 64] 576 [4] (fun | 4 => some (.bool vr3, []) | 10 => (aK fu a1.Merge.At b2.Merge.At).bind fun vr4 => some (.bool vr4, []) | 19 => (uK fu a1.Merge.Tree.Keys b2.Merge.Tree.Keys).bind fun vr6 => some (.bool vr6, []) | 28 => (aK fu a1.Merge.Tree.Lose b2.Merge.Tree.Lose).bind fun vr8 => some (.bool vr8, []) | 51 => (jN fu a1.Out b2.Out).bind fun vr12 => some (.bool vr12, []) | _ => none) rfl (fun Kt hK => by
   cases vr3 with
   | false =>
    replace hb5 := vA hb5 rfl
    have hqb5 := Option.some.inj hb5
    cases b5 with
    | false =>
     replace hb7 := vA hb7 rfl
     have hqb7 := Option.some.inj hb7
     cases b7 with
     | false =>
      replace hb9 := vA hb9 rfl
      have hqb9 := Option.some.inj hb9
      cases b9 with
      | false =>
       replace hb10 := vA hb10 rfl
       have hqb10 := Option.some.inj hb10
       cases b10 with
       | false =>
        replace hb11 := vA hb11 rfl
        have hqb11 := Option.some.inj hb11
        cases b11 with
        | false =>
         replace hb13 := vA hb13 rfl
         have hqb13 := Option.some.inj hb13
         cases b13 with
         | false =>
          replace hb14 := vA hb14 rfl
          have hqb14 := Option.some.inj hb14
          subst hqb14
          try have q0 := lP hvr3
          try have q1 := jG hvr4
          try have q2 := oL hvr6
          try have q3 := jG hvr8
          try have q4 := sN hvr12
          exact rT
         | true =>
          cases hqb13
        | true =>
         cases hqb11
       | true =>
        cases hqb10
      | true =>
       cases hqb9
     | true =>
      cases hqb7
    | true =>
     cases hqb5
   | true =>
    replace hb5 := iB hb5 rfl
    obtain ⟨vr4, hvr4, hb5⟩ := eA hb5
    have hqb5 := Option.some.inj hb5
    cases b5 with
    | false =>
     subst hqb5
     replace hb7 := vA hb7 rfl
     have hqb7 := Option.some.inj hb7
     cases b7 with
     | false =>
      replace hb9 := vA hb9 rfl
      have hqb9 := Option.some.inj hb9
      cases b9 with
      | false =>
       replace hb10 := vA hb10 rfl
       have hqb10 := Option.some.inj hb10
       cases b10 with
       | false =>
        replace hb11 := vA hb11 rfl
        have hqb11 := Option.some.inj hb11
        cases b11 with
        | false =>
         replace hb13 := vA hb13 rfl
         have hqb13 := Option.some.inj hb13
         cases b13 with
         | false =>
          replace hb14 := vA hb14 rfl
          have hqb14 := Option.some.inj hb14
          subst hqb14
          try have q0 := lP hvr3
          try have q1 := jG hvr4
          try have q2 := oL hvr6
          try have q3 := jG hvr8
          try have q4 := sN hvr12
          exact rS hvr4
         | true =>
          cases hqb13
        | true =>
         cases hqb11
       | true =>
        cases hqb10
      | true =>
       cases hqb9
     | true =>
      cases hqb7
    | true =>
     subst hqb5
     replace hb7 := iB hb7 rfl
     obtain ⟨vr6, hvr6, hb7⟩ := eA hb7
     have hqb7 := Option.some.inj hb7
     cases b7 with
     | false =>
      subst hqb7
      replace hb9 := vA hb9 rfl
      have hqb9 := Option.some.inj hb9
      cases b9 with
      | false =>
       replace hb10 := vA hb10 rfl
       have hqb10 := Option.some.inj hb10
       cases b10 with
       | false =>
        replace hb11 := vA hb11 rfl
        have hqb11 := Option.some.inj hb11
        cases b11 with
        | false =>
         replace hb13 := vA hb13 rfl
         have hqb13 := Option.some.inj hb13
         cases b13 with
         | false =>
          replace hb14 := vA hb14 rfl
          have hqb14 := Option.some.inj hb14
          subst hqb14
          try have q0 := lP hvr3
          try have q1 := jG hvr4
          try have q2 := oL hvr6
          try have q3 := jG hvr8
          try have q4 := sN hvr12
          exact rS (rA hvr4 hvr6)
         | true =>
          cases hqb13
        | true =>
         cases hqb11
       | true =>
        cases hqb10
      | true =>
       cases hqb9
     | true =>
      subst hqb7
      replace hb9 := iB hb9 rfl
      obtain ⟨vr8, hvr8, hb9⟩ := eA hb9
      have hqb9 := Option.some.inj hb9
      cases b9 with
      | false =>
       subst hqb9
       replace hb10 := vA hb10 rfl
       have hqb10 := Option.some.inj hb10
       cases b10 with
       | false =>
        replace hb11 := vA hb11 rfl
        have hqb11 := Option.some.inj hb11
        cases b11 with
        | false =>
         replace hb13 := vA hb13 rfl
         have hqb13 := Option.some.inj hb13
         cases b13 with
         | false =>
          replace hb14 := vA hb14 rfl
          have hqb14 := Option.some.inj hb14
          subst hqb14
          try have q0 := lP hvr3
          try have q1 := jG hvr4
          try have q2 := oL hvr6
          try have q3 := jG hvr8
          try have q4 := sN hvr12
          exact rS (rA hvr4 (rA hvr6 hvr8))
         | true =>
          cases hqb13
        | true =>
         cases hqb11
       | true =>
        cases hqb10
      | true =>
       subst hqb9
       replace hb10 := iB hb10 rfl
       have hqb10 := Option.some.inj hb10
       cases b10 with
       | false =>
        replace hb11 := vA hb11 rfl
        have hqb11 := Option.some.inj hb11
        cases b11 with
        | false =>
         replace hb13 := vA hb13 rfl
         have hqb13 := Option.some.inj hb13
         cases b13 with
         | false =>
          replace hb14 := vA hb14 rfl
          have hqb14 := Option.some.inj hb14
          subst hqb14
          simp (maxSteps := 1000000) only [↓reduceIte, reduceCtorEq, Nat.reduceEqDiff, Nat.reduceLT, Nat.reduceLeDiff, Nat.reduceAdd, Nat.reduceMul, Int.reduceToNat, push_cast, hvr4, hvr6, hvr8, ↓hqb10]
          try simp only [↓hqb10] at hK
          try have q0 := lP hvr3
          try have q1 := jG hvr4
          try have q2 := oL hvr6
          try have q3 := jG hvr8
          try have q4 := sN hvr12
          all_goals exact rU
         | true =>
          cases hqb13
        | true =>
         cases hqb11
       | true =>
        replace hb11 := iB hb11 rfl
        have hqb11 := Option.some.inj hb11
        cases b11 with
        | false =>
         replace hb13 := vA hb13 rfl
         have hqb13 := Option.some.inj hb13
         cases b13 with
         | false =>
          replace hb14 := vA hb14 rfl
          have hqb14 := Option.some.inj hb14
          subst hqb14
          simp (maxSteps := 1000000) only [↓reduceIte, reduceCtorEq, Nat.reduceEqDiff, Nat.reduceLT, Nat.reduceLeDiff, Nat.reduceAdd, Nat.reduceMul, Int.reduceToNat, push_cast, hvr4, hvr6, hvr8, ↓hqb10, ↓hqb11]
          try simp only [↓hqb10, ↓hqb11] at hK
          try have q0 := lP hvr3
          try have q1 := jG hvr4
          try have q2 := oL hvr6
          try have q3 := jG hvr8
          try have q4 := sN hvr12
          all_goals exact rU
         | true =>
          cases hqb13
        | true =>
         replace hb13 := iB hb13 rfl
         obtain ⟨vr12, hvr12, hb13⟩ := eA hb13
         have hqb13 := Option.some.inj hb13
         cases b13 with
         | false =>
          subst hqb13
          replace hb14 := vA hb14 rfl
          have hqb14 := Option.some.inj hb14
          subst hqb14
          simp (maxSteps := 1000000) only [↓reduceIte, reduceCtorEq, Nat.reduceEqDiff, Nat.reduceLT, Nat.reduceLeDiff, Nat.reduceAdd, Nat.reduceMul, Int.reduceToNat, push_cast, hvr4, hvr6, hvr8, ↓hqb10, ↓hqb11, hvr12]
          try simp only [↓hqb10, ↓hqb11] at hK
          try have q0 := lP hvr3
          try have q1 := jG hvr4
          try have q2 := oL hvr6
          try have q3 := jG hvr8
          try have q4 := sN hvr12
          all_goals exact rU
         | true =>
          subst hqb13
          replace hb14 := iB hb14 rfl
          have hqb14 := Option.some.inj hb14
          subst hqb14
          simp (maxSteps := 1000000) only [↓reduceIte, reduceCtorEq, Nat.reduceEqDiff, Nat.reduceLT, Nat.reduceLeDiff, Nat.reduceAdd, Nat.reduceMul, Int.reduceToNat, push_cast, hvr4, hvr6, hvr8, ↓hqb10, ↓hqb11, hvr12]
          try simp only [↓hqb10, ↓hqb11] at hK
          try have q0 := lP hvr3
          try have q1 := jG hvr4
          try have q2 := oL hvr6
          try have q3 := jG hvr8
          try have q4 := sN hvr12
          all_goals exact rU) ?_
 refine jA ?_
 obtain rfl := Option.some.inj h0
 refine nA [] ?_
 exact rG
theorem zdA {fu : Nat} {vs1 : bB} {r : Int × Int} (h0 : eJ fu vs1 = some r) : lB Try.prog 30 [.agg (bB.enc vs1)] (.tup [.int .i64 r.1, .int .i64 r.2]) [] := by
 refine sB Try.func30 rfl (by decide) rL ?_
 dsimp only [Try.f30]
 rw [eJ] at h0
 refine (show pA _ _ _ _ ⟨kB 0 _, [], 0, []⟩ from ?_)
 refine xS 24 [1] ?_
 obtain ⟨vr2, hvr2, h0⟩ := eA h0
 refine oA 88 [1, 3] (fun | 2 => some (.tup [.int .i64 vr2.1, .int .i64 vr2.2.1, .int .i64 vr2.2.2], []) | _ => none) rfl (fun _ _ => rC (zdy hvr2)) ?_
 refine kA (jC ?_)
 refine xS 112 [1, 3, 21] ?_
 refine xI h0 rfl (fun h0 hb3 => ?_) (fun h0 hb3 => ?_)
 ·
  refine xS 136 [2, 3] ?_
  refine jA (kC (mA ?_))
  obtain rfl := Option.some.inj h0
  refine nA [] ?_
  exact rG
 ·
  obtain ⟨b4, hb4, h0⟩ := eA h0
  refine dD (fr' := [(1, .ref 0 0 0 0), (25, .bool b4)]) (hp' := [(0, ⟨0, true, true, 4, [[.int .i64 vs1.Levels.B, .psl 1 (List.map sA.enc vs1.Levels.Levels), .psl 11 (List.map xA.enc vs1.Jobs), .int .i64 vs1.NextId]]⟩)]) [0] 184 [1, 25] (fun _ => none) rfl (fun Kt hK => by
    cases hg5 : (decide (vs1.NextId < 1)) with
    | false =>
     replace hb4 := vA hb4 hg5
     have hqb4 := Option.some.inj hb4
     subst hqb4
     simp (maxSteps := 1000000) only [↓reduceIte, reduceCtorEq, Nat.reduceEqDiff, Nat.reduceLT, Nat.reduceLeDiff, Nat.reduceAdd, Nat.reduceMul, Int.reduceToNat, push_cast, ↓hg5]
     try simp only [↓hg5] at hK
     all_goals exact rU
    | true =>
     replace hb4 := iB hb4 hg5
     have hqb4 := Option.some.inj hb4
     subst hqb4
     simp (maxSteps := 1000000) only [↓reduceIte, reduceCtorEq, Nat.reduceEqDiff, Nat.reduceLT, Nat.reduceLeDiff, Nat.reduceAdd, Nat.reduceMul, Int.reduceToNat, push_cast, ↓hg5]
     try simp only [↓hg5] at hK
     all_goals exact rU) ?_
  refine xI h0 rfl (fun h0 hb6 => ?_) (fun h0 hb6 => ?_)
  ·
   refine xS 200 [2, 3] ?_
   refine jA (kC (mA ?_))
   obtain rfl := Option.some.inj h0
   refine nA [] ?_
   exact rG
  ·
   obtain ⟨vr7, hvr7, h0⟩ := eA h0
   refine jD 240 [1, 34] (fun | 4 => some (.int .i64 vr7, []) | _ => none) rfl rfl rfl (fun _ _ => rCd (zdg hvr7)) ?_
   refine xI h0 rfl (fun h0 hb8 => ?_) (fun h0 hb8 => ?_)
   ·
    refine xS 256 [2, 3] ?_
    refine jA (kC (mA ?_))
    obtain rfl := Option.some.inj h0
    refine nA [] ?_
    exact rG
   ·
    refine qA (cC (gA ?_))
    obtain ⟨vr9, hvr9, h0⟩ := eA h0
    obtain ⟨vr10, hvr10, h0⟩ := eA h0
    refine oA 280 [1, 4] (fun | 2 => some (.fn 41 [] [.pp [.int .i64 vr9.1, .psl 1 (vr9.2.map sA.enc)]], []) | 3 => some (.psl 1 (vr10.map (iA .i64)), []) | _ => none) rfl (fun Kt hK => by
      try have q0 := zez hvr9
      try have q1 := zhk hvr10
      exact rT) ?_
    refine kA ?_
    refine xS 312 [1, 4, 46, 47, 48] ?_
    obtain ⟨x48, hxx48, h0⟩ := eA h0
    refine lD (fun s' => ∃ o68 : Unit, x48 = .inl o68 ∧ s'.nx ≤ 320 ∧ LeN [] s' ⟨[(1, .ref 0 0 0 0), (4, .psl 1 (List.map (iA .i64) vr10))], [(0, ⟨0, true, true, 4, [[.int .i64 vs1.Levels.B, .psl 1 (List.map sA.enc vs1.Levels.Levels), .psl 11 (List.map xA.enc vs1.Jobs), .int .i64 vs1.NextId]]⟩)], 320, []⟩) ?_ ?_
    ·
     intro s' hs
     obtain ⟨o68, rfl, hn, hs⟩ := hs
     refine gA ?_
     refine zB [] hn hs ?_
     refine kA ?_
     refine xS 368 [126] ?_
     refine xI h0 rfl (fun h0 hb69 => ?_) (fun h0 hb69 => ?_)
     ·
      refine xS 384 [2, 3] ?_
      refine jA (mA ?_)
      obtain rfl := Option.some.inj h0
      refine nA [] ?_
      exact rG
     ·
      refine qA (gA ?_)
      refine xS 384 [2, 3] ?_
      refine jA ?_
      obtain rfl := Option.some.inj h0
      refine nA [] ?_
      exact rG
    ·
     refine kD (ι := { p : Nat × Int // eF vs1 vr10 p.1 p.2 = some x48 }) (fun p => ⟨[(1, .ref 0 0 0 0), (4, .psl 1 (List.map (iA .i64) vr10)), (46, .psl 11 (List.map xA.enc vs1.Jobs)), (47, .int .i64 (vs1.Jobs.length : Int)), (48, .int .i64 p.1.2)], [(0, ⟨0, true, true, 4, [[.int .i64 vs1.Levels.B, .psl 1 (List.map sA.enc vs1.Levels.Levels), .psl 11 (List.map xA.enc vs1.Jobs), .int .i64 vs1.NextId]]⟩)], 312, []⟩) (fun p => p.1.1) ⟨(fu, 0), hxx48⟩ ⟨rF, rE, rfl, rfl, trivial, trivial⟩ (fun _ => Nat.le_refl _) ?_
     rintro ⟨⟨fu, v49⟩, h1⟩
     cases fu with
     | zero =>
   replace h1 : eF vs1 vr10 0 v49 = some x48 := h1
   rw [eF] at h1; cases h1
     | succ fu =>
      replace h1 : eF vs1 vr10 (fu + 1) v49 = some x48 := h1
      rw [eF] at h1
      refine (show pA _ _ _ _ ⟨[(1, .ref 0 0 0 0), (4, .psl 1 (List.map (iA .i64) vr10)), (46, .psl 11 (List.map xA.enc vs1.Jobs)), (47, .int .i64 (vs1.Jobs.length : Int)), (48, .int .i64 v49)], [(0, ⟨0, true, true, 4, [[.int .i64 vs1.Levels.B, .psl 1 (List.map sA.enc vs1.Levels.Levels), .psl 11 (List.map xA.enc vs1.Jobs), .int .i64 vs1.NextId]]⟩)], 312, []⟩ from ?_)
      refine xS 320 [1, 4, 46, 47, 48, 49] ?_
      refine kA ?_
      refine xI h1 rfl (fun h1 hb50 => ?_) (fun h1 hb50 => ?_)
      ·
       refine qA (gA (kA (jC ?_)))
       obtain ⟨e51, he51, h1⟩ := eA h1
       obtain ⟨he51a, he51b, he51c⟩ := fB he51
       refine oA 368 [1, 4, 5, 6, 46, 47, 48] (fun _ => none) rfl (fun _ _ => rS (rA he51a (rA he51b he51c))) ?_
       refine kA ?_
       obtain ⟨b53, hb53, h1⟩ := eA h1
       refine uY (fr' := [(1, .ref 0 0 0 0), (4, .psl 1 (List.map (iA .i64) vr10)), (5, .int .i64 v49), (6, .ref 344 0 0 0), (46, .psl 11 (List.map xA.enc vs1.Jobs)), (47, .int .i64 (vs1.Jobs.length : Int)), (48, .int .i64 v49), (65, .bool b53)]) (hp' := [(0, ⟨0, true, true, 4, [[.int .i64 vs1.Levels.B, .psl 1 (List.map sA.enc vs1.Levels.Levels), .psl 11 (List.map xA.enc vs1.Jobs), .int .i64 vs1.NextId]]⟩), (344, ⟨0, true, true, 11, [[.int .i64 e51.Level, .psl 1 (List.map (wA 4 aA.enc) e51.Work.Merge.Runs), .psl 1 (List.map (iA .i64) e51.Work.Merge.At), .psl 2 (List.map cA.enc e51.Work.Merge.Tree.Keys), .psl 1 (List.map (iA .i64) e51.Work.Merge.Tree.Lose), .int .i64 e51.Work.Merge.Tree.Win, .bool e51.Work.Shadow.Some, .str e51.Work.Shadow.Last, .bool e51.Work.Shadow.Bottom, .psl 4 (List.map aA.enc e51.Work.Out), .int .i64 e51.Work.Steps]]⟩)]) [0, 344] 472 [1, 4, 5, 6, 46, 47, 48, 65] (fun _ => none) rfl rfl rfl (fun Kt hK => by
         cases hg54 : (decide ((vr10.length : Int) ≤ v49)) with
         | false =>
          replace hb53 := vA hb53 hg54
          obtain ⟨e52, he52, hb53⟩ := eA hb53
          obtain ⟨he52a, he52b, he52c⟩ := fB he52
          have hqb53 := Option.some.inj hb53
          subst hqb53
          simp (maxSteps := 1000000) only [↓reduceIte, reduceCtorEq, Nat.reduceEqDiff, Nat.reduceLT, Nat.reduceLeDiff, Nat.reduceAdd, Nat.reduceMul, Int.reduceToNat, push_cast, he51a, he51b, he51c, ↓hg54, he52a, he52b, he52c, he52]
          try simp only [↓hg54] at hK
          all_goals exact dP
         | true =>
          replace hb53 := iB hb53 hg54
          have hqb53 := Option.some.inj hb53
          subst hqb53
          simp (maxSteps := 1000000) only [↓reduceIte, reduceCtorEq, Nat.reduceEqDiff, Nat.reduceLT, Nat.reduceLeDiff, Nat.reduceAdd, Nat.reduceMul, Int.reduceToNat, push_cast, he51a, he51b, he51c, ↓hg54]
          try simp only [↓hg54] at hK
          all_goals exact dP) ?_
       refine xI h1 rfl (fun h1 hb55 => ?_) (fun h1 hb55 => ?_)
       ·
        refine oA 496 [2, 3] (fun _ => none) rfl (fun _ _ => rS (rA he51a (rA he51b he51c))) ?_
        refine jA ?_
        obtain rfl := Option.some.inj h1
        refine mA (kC (mA (mA (uD (mA ?_)))))
        obtain rfl := Option.some.inj h0
        refine nA [] ?_
        simp (maxSteps := 1000000) only [↓reduceIte, reduceCtorEq, Nat.reduceEqDiff, Nat.reduceLT, Nat.reduceLeDiff, Nat.reduceAdd, Nat.reduceMul, Int.reduceToNat, push_cast, lC, he51a, he51b, he51c]
        all_goals exact rH
       ·
        refine qA (gA ?_)
        refine oA 512 [1, 4, 5, 6, 7, 46, 47, 48] (fun _ => none) rfl (fun _ _ => rS (rA he51a (rA he51b he51c))) ?_
        refine kA ?_
        obtain ⟨b57, hb57, h1⟩ := eA h1
        refine dD (fr' := [(1, .ref 0 0 0 0), (4, .psl 1 (List.map (iA .i64) vr10)), (5, .int .i64 v49), (6, .ref 344 0 0 0), (7, .bool e51.Work.Shadow.Bottom), (46, .psl 11 (List.map xA.enc vs1.Jobs)), (47, .int .i64 (vs1.Jobs.length : Int)), (48, .int .i64 v49), (79, .bool b57)]) (hp' := [(0, ⟨0, true, true, 4, [[.int .i64 vs1.Levels.B, .psl 1 (List.map sA.enc vs1.Levels.Levels), .psl 11 (List.map xA.enc vs1.Jobs), .int .i64 vs1.NextId]]⟩), (344, ⟨0, true, true, 11, [[.int .i64 e51.Level, .psl 1 (List.map (wA 4 aA.enc) e51.Work.Merge.Runs), .psl 1 (List.map (iA .i64) e51.Work.Merge.At), .psl 2 (List.map cA.enc e51.Work.Merge.Tree.Keys), .psl 1 (List.map (iA .i64) e51.Work.Merge.Tree.Lose), .int .i64 e51.Work.Merge.Tree.Win, .bool e51.Work.Shadow.Some, .str e51.Work.Shadow.Last, .bool e51.Work.Shadow.Bottom, .psl 4 (List.map aA.enc e51.Work.Out), .int .i64 e51.Work.Steps]]⟩)]) [0, 344] 584 [1, 4, 5, 6, 7, 46, 47, 48, 79] (fun | 6 => (jL fu vs1.Levels e51.Level).bind fun vr56 => some (.bool vr56, []) | _ => none) rfl (fun Kt hK => by
          cases hg58 : e51.Work.Shadow.Bottom with
          | false =>
           replace hb57 := vA hb57 hg58
           have hqb57 := Option.some.inj hb57
           subst hqb57
           simp (maxSteps := 1000000) only [↓reduceIte, reduceCtorEq, Nat.reduceEqDiff, Nat.reduceLT, Nat.reduceLeDiff, Nat.reduceAdd, Nat.reduceMul, Int.reduceToNat, push_cast, he51a, he51b, he51c, ↓hg58]
           try simp only [↓hg58] at hK
           try have q0 := zbI hvr56
           all_goals exact rU
          | true =>
           replace hb57 := iB hb57 hg58
           obtain ⟨vr56, hvr56, hb57⟩ := eA hb57
           have hqb57 := Option.some.inj hb57
           subst hqb57
           simp (maxSteps := 1000000) only [↓reduceIte, reduceCtorEq, Nat.reduceEqDiff, Nat.reduceLT, Nat.reduceLeDiff, Nat.reduceAdd, Nat.reduceMul, Int.reduceToNat, push_cast, he51a, he51b, he51c, ↓hg58, hvr56]
           try simp only [↓hg58] at hK
           try have q0 := zbI hvr56
           all_goals exact rU) ?_
        refine xI h1 rfl (fun h1 hb59 => ?_) (fun h1 hb59 => ?_)
        ·
         refine oA 608 [2, 3] (fun _ => none) rfl (fun _ _ => rS (rA he51a (rA he51b he51c))) ?_
         refine jA ?_
         obtain rfl := Option.some.inj h1
         refine mA (kC (mA (mA (uD (mA ?_)))))
         obtain rfl := Option.some.inj h0
         refine nA [] ?_
         simp (maxSteps := 1000000) only [↓reduceIte, reduceCtorEq, Nat.reduceEqDiff, Nat.reduceLT, Nat.reduceLeDiff, Nat.reduceAdd, Nat.reduceMul, Int.reduceToNat, push_cast, lC, he51a, he51b, he51c]
         all_goals exact rH
        ·
         refine qA (gA ?_)
         obtain ⟨vr60, hvr60, h1⟩ := eA h1
         refine oA 656 [1, 4, 5, 6, 8, 46, 47, 48] (fun | 5 => some (.agg (xA.enc vr60), []) | _ => none) rfl (fun _ _ => rB (rA he51a (rA he51b he51c)) (zdH hvr60)) ?_
         obtain ⟨vr61, hvr61, h1⟩ := eA h1
         refine oA 712 [1, 4, 5, 6, 8, 9, 46, 47, 48] (fun | 1 => some (.tup [.int .i64 vr61.1, .int .i64 vr61.2], []) | _ => none) rfl (fun _ _ => rB (rA he51a (rA he51b he51c)) (wX hvr61)) ?_
         refine kA ?_
         obtain ⟨b62, hb62, h1⟩ := eA h1
         refine dD (fr' := [(1, .ref 0 0 0 0), (4, .psl 1 (List.map (iA .i64) vr10)), (5, .int .i64 v49), (6, .ref 344 0 0 0), (8, .ref 640 0 0 0), (46, .psl 11 (List.map xA.enc vs1.Jobs)), (47, .int .i64 (vs1.Jobs.length : Int)), (48, .int .i64 v49), (103, .bool b62)]) (hp' := [(0, ⟨0, true, true, 4, [[.int .i64 vs1.Levels.B, .psl 1 (List.map sA.enc vs1.Levels.Levels), .psl 11 (List.map xA.enc vs1.Jobs), .int .i64 vs1.NextId]]⟩), (344, ⟨0, true, true, 11, [[.int .i64 e51.Level, .psl 1 (List.map (wA 4 aA.enc) e51.Work.Merge.Runs), .psl 1 (List.map (iA .i64) e51.Work.Merge.At), .psl 2 (List.map cA.enc e51.Work.Merge.Tree.Keys), .psl 1 (List.map (iA .i64) e51.Work.Merge.Tree.Lose), .int .i64 e51.Work.Merge.Tree.Win, .bool e51.Work.Shadow.Some, .str e51.Work.Shadow.Last, .bool e51.Work.Shadow.Bottom, .psl 4 (List.map aA.enc e51.Work.Out), .int .i64 e51.Work.Steps]]⟩), (640, ⟨0, true, true, 10, [[.psl 1 (List.map (wA 4 aA.enc) vr60.Work.Merge.Runs), .psl 1 (List.map (iA .i64) vr60.Work.Merge.At), .psl 2 (List.map cA.enc vr60.Work.Merge.Tree.Keys), .psl 1 (List.map (iA .i64) vr60.Work.Merge.Tree.Lose), .int .i64 vr60.Work.Merge.Tree.Win, .bool vr60.Work.Shadow.Some, .str vr60.Work.Shadow.Last, .bool vr60.Work.Shadow.Bottom, .psl 4 (List.map aA.enc vr60.Work.Out), .int .i64 vr60.Work.Steps]]⟩)]) [0, 344, 640] 800 [1, 4, 5, 6, 8, 46, 47, 48, 103] (fun _ => none) rfl (fun Kt hK => by
           cases hg63 : (decide (e51.Work.Steps < 0)) with
           | false =>
            replace hb62 := vA hb62 hg63
            have hqb62 := Option.some.inj hb62
            subst hqb62
            simp (maxSteps := 1000000) only [↓reduceIte, reduceCtorEq, Nat.reduceEqDiff, Nat.reduceLT, Nat.reduceLeDiff, Nat.reduceAdd, Nat.reduceMul, Int.reduceToNat, push_cast, he51a, he51b, he51c, ↓hg63]
            try simp only [↓hg63] at hK
            all_goals exact rU
           | true =>
            replace hb62 := iB hb62 hg63
            have hqb62 := Option.some.inj hb62
            subst hqb62
            simp (maxSteps := 1000000) only [↓reduceIte, reduceCtorEq, Nat.reduceEqDiff, Nat.reduceLT, Nat.reduceLeDiff, Nat.reduceAdd, Nat.reduceMul, Int.reduceToNat, push_cast, he51a, he51b, he51c, ↓hg63]
            try simp only [↓hg63] at hK
            all_goals exact rU) ?_
         refine xI h1 rfl (fun h1 hb64 => ?_) (fun h1 hb64 => ?_)
         ·
          refine oA 824 [2, 3] (fun _ => none) rfl (fun _ _ => rS (rA he51a (rA he51b he51c))) ?_
          refine jA ?_
          obtain rfl := Option.some.inj h1
          refine mA (kC (mA (mA (uD (mA ?_)))))
          obtain rfl := Option.some.inj h0
          refine nA [] ?_
          simp (maxSteps := 1000000) only [↓reduceIte, reduceCtorEq, Nat.reduceEqDiff, Nat.reduceLT, Nat.reduceLeDiff, Nat.reduceAdd, Nat.reduceMul, Int.reduceToNat, push_cast, lC, he51a, he51b, he51c]
          all_goals exact rH
         ·
          refine qA (gA ?_)
          obtain ⟨vr65, hvr65, h1⟩ := eA h1
          refine oA 904 [1, 4, 5, 6, 11, 46, 47, 48] (fun | 4 => some (.tup [.agg (pB.enc vr65.1), .int .i64 vr65.2.1, .int .i64 vr65.2.2], []) | _ => none) rfl (fun _ _ => rB (rA he51a (rA he51b he51c)) (zdt hvr65)) ?_
          obtain ⟨vr66, hvr66, h1⟩ := eA h1
          refine oA 944 [1, 4, 5, 46, 47, 48, 118] (fun | 3 => some (.bool vr66, []) | _ => none) rfl (fun _ _ => rB (rA he51a (rA he51b he51c)) (zhG hvr66)) ?_
          refine xI h1 rfl (fun h1 hb67 => ?_) (fun h1 hb67 => ?_)
          ·
           refine oA 968 [2, 3] (fun _ => none) rfl (fun _ _ => rS (rA he51a (rA he51b he51c))) ?_
           refine jA ?_
           obtain rfl := Option.some.inj h1
           refine kC (mA (mA (uD (mA ?_))))
           obtain rfl := Option.some.inj h0
           refine nA [] ?_
           simp (maxSteps := 1000000) only [↓reduceIte, reduceCtorEq, Nat.reduceEqDiff, Nat.reduceLT, Nat.reduceLeDiff, Nat.reduceAdd, Nat.reduceMul, Int.reduceToNat, push_cast, lC, he51a, he51b, he51c]
           all_goals exact rH
          ·
           refine qA (cC (gA ?_))
           refine iC 960 [1, 4, 46, 47, 48] (fun _ => none) rfl (fun _ _ => rS (rA he51a (rA he51b he51c))) ?_
           refine gA ?_
           exact ⟨⟨(fu, (IntKind.i64.wrap (v49 + 1))), h1⟩, ⟨rF, rE, rfl, rfl, trivial, trivial⟩, Nat.lt_succ_self _⟩
      ·
       refine vC (jB (jB (bD ?_)))
       obtain rfl := Option.some.inj h1
       exact ⟨_, rfl, rL, ⟨rF, rE, rfl, rfl, trivial, trivial⟩⟩
theorem zgL {fu : Nat} {j1 : xA} {p2 : Int} {r : Bool} (h0 : yM fu j1 p2 = some r) : lB Try.prog 34 [.agg (xA.enc j1), .pp [.int .i64 p2]] (.bool r) [] := by
 refine sB Try.func34 rfl (by decide) rL ?_
 dsimp only [Try.f34]
 rw [yM] at h0
 refine (show pA _ _ _ _ ⟨kB 0 _, [], 0, []⟩ from ?_)
 refine xS 16 [1, 2] ?_
 refine xS 56 [3] ?_
 refine jA ?_
 obtain rfl := Option.some.inj h0
 refine nA [] ?_
 exact rG
theorem zmo {fu : Nat} {vs1 : List xA} {f2 : Int} {r : Int} (h0 : dM fu vs1 f2 = some r) : lB Try.prog 52 [.psl 11 (vs1.map xA.enc), .fn 34 [] [.pp [.int .i64 f2]]] (.int .i64 r) [] := by
 refine sB Try.func52 rfl (by decide) rL ?_
 dsimp only [Try.f52]
 rw [dM] at h0
 refine (show pA _ _ _ _ ⟨kB 0 _, [], 0, []⟩ from ?_)
 refine xS 8 [0, 1] ?_
 refine kA ?_
 refine xS 32 [0, 1, 7, 8] ?_
 obtain ⟨x12, hxx12, h0⟩ := eA h0
 refine lD (fun s' => ∃ o18 : Unit, x12 = .inl o18 ∧ s'.nx ≤ 40 ∧ LeN [] s' ⟨[], [], 40, []⟩) ?_ ?_
 ·
  intro s' hs
  obtain ⟨o18, rfl, hn, hs⟩ := hs
  refine gA ?_
  refine zB [] hn hs ?_
  refine xS 48 [4] ?_
  refine jA ?_
  obtain rfl := Option.some.inj h0
  refine nA [] ?_
  exact rG
 ·
  refine kD (ι := { p : Nat × Int // bG vs1 f2 p.1 p.2 = some x12 }) (fun p => ⟨[(0, .psl 11 (List.map xA.enc vs1)), (1, .fn 34 [] [.pp [.int .i64 f2]]), (7, .int .i64 (vs1.length : Int)), (8, .int .i64 p.1.2)], [], 32, []⟩) (fun p => p.1.1) ⟨(fu, 0), hxx12⟩ ⟨rF, rE, rfl, rfl, trivial, trivial⟩ (fun _ => Nat.le_refl _) ?_
  rintro ⟨⟨fu, v13⟩, h1⟩
  cases fu with
  | zero =>
   replace h1 : bG vs1 f2 0 v13 = some x12 := h1
   rw [bG] at h1; cases h1
  | succ fu =>
   replace h1 : bG vs1 f2 (fu + 1) v13 = some x12 := h1
   rw [bG] at h1
   refine (show pA _ _ _ _ ⟨[(0, .psl 11 (List.map xA.enc vs1)), (1, .fn 34 [] [.pp [.int .i64 f2]]), (7, .int .i64 (vs1.length : Int)), (8, .int .i64 v13)], [], 32, []⟩ from ?_)
   refine xS 40 [0, 1, 7, 8, 9] ?_
   refine kA ?_
   refine xI h1 rfl (fun h1 hb14 => ?_) (fun h1 hb14 => ?_)
   ·
    refine qA (gA (kA (jC ?_)))
    refine xS 56 [0, 1, 5, 7, 8] ?_
    obtain ⟨e15, he15, h1⟩ := eA h1
    obtain ⟨he15a, he15b, he15c⟩ := fB he15
    obtain ⟨vr16, hvr16, h1⟩ := eA h1
    refine oA 104 [0, 1, 5, 7, 8, 16] (fun | 5 => some (.bool vr16, []) | _ => none) rfl (fun _ _ => rB (rA he15a (rA he15b he15c)) (zgL hvr16)) ?_
    refine xI h1 rfl (fun h1 hb17 => ?_) (fun h1 hb17 => ?_)
    ·
     refine oA 120 [4] (fun _ => none) rfl (fun _ _ => rS (rA he15a (rA he15b he15c))) ?_
     refine jA ?_
     obtain rfl := Option.some.inj h1
     refine kC (mA (mA (uD (mA ?_))))
     obtain rfl := Option.some.inj h0
     refine nA [] ?_
     simp (maxSteps := 1000000) only [↓reduceIte, reduceCtorEq, Nat.reduceEqDiff, Nat.reduceLT, Nat.reduceLeDiff, Nat.reduceAdd, Nat.reduceMul, Int.reduceToNat, push_cast, lC, he15a, he15b, he15c]
     all_goals exact rH
    ·
     refine qA (cC (gA ?_))
     refine iC 120 [0, 1, 7, 8] (fun _ => none) rfl (fun _ _ => rS (rA he15a (rA he15b he15c))) ?_
     refine gA ?_
     exact ⟨⟨(fu, (IntKind.i64.wrap (v13 + 1))), h1⟩, ⟨rF, rE, rfl, rfl, trivial, trivial⟩, Nat.lt_succ_self _⟩
   ·
    refine vC (jB (jB (bD ?_)))
    obtain rfl := Option.some.inj h1
    exact ⟨_, rfl, rL, ⟨rF, rE, rfl, rfl, trivial, trivial⟩⟩
theorem zlR {fu : Nat} {l1 : List xA} {is2 : Int} {r : Int × Int} (h0 : kO fu l1 is2 = some r) : lB Try.prog 33 [.psl 11 (l1.map xA.enc), .fn 34 [] [.pp [.int .i64 is2]]] (.tup [.int .i64 r.1, .int .i64 r.2]) [] := by
 refine sB Try.func33 rfl (by decide) rL ?_
 dsimp only [Try.f33]
 rw [kO] at h0
 refine (show pA _ _ _ _ ⟨kB 0 _, [], 0, []⟩ from ?_)
 refine xS 16 [0, 1] ?_
 obtain ⟨vr3, hvr3, h0⟩ := eA h0
 refine oA 48 [6] (fun | 2 => some (.int .i64 vr3, []) | _ => none) rfl (fun _ _ => rC (zmo hvr3)) ?_
 refine kA ?_
 refine xS 64 [6, 11] ?_
 refine xI h0 rfl (fun h0 hb4 => ?_) (fun h0 hb4 => ?_)
 ·
  refine xS 80 [4, 5] ?_
  refine jA (mA ?_)
  obtain rfl := Option.some.inj h0
  refine nA [] ?_
  exact rG
 ·
  refine qA (gA ?_)
  refine xS 88 [4, 5] ?_
  refine jA ?_
  obtain rfl := Option.some.inj h0
  refine nA [] ?_
  exact rG
theorem zba {fu : Nat} {vs1 : bB} {level2 : Int} {r : Int × Int} (h0 : mG fu vs1 level2 = some r) : lB Try.prog 13 [.agg (bB.enc vs1), .int .i64 level2] (.tup [.int .i64 r.1, .int .i64 r.2]) [] := by
 refine sB Try.func13 rfl (by decide) rL ?_
 dsimp only [Try.f13]
 rw [mG] at h0
 refine (show pA _ _ _ _ ⟨kB 0 _, [], 0, []⟩ from ?_)
 refine xS 32 [2, 3] ?_
 refine kA ?_
 obtain ⟨vr3, hvr3, h0⟩ := eA h0
 refine oA 88 [2, 3, 7] (fun | 1 => some (.tup [.int .i64 vr3.1, .int .i64 vr3.2], []) | _ => none) rfl (fun _ _ => rC (zdA hvr3)) ?_
 refine xS 104 [2, 3, 7, 14] ?_
 refine xI h0 rfl (fun h0 hb4 => ?_) (fun h0 hb4 => ?_)
 ·
  refine xS 128 [4, 5] ?_
  refine jA (mA ?_)
  obtain rfl := Option.some.inj h0
  refine nA [] ?_
  exact rG
 ·
  refine qA (gA ?_)
  obtain ⟨vr5, hvr5, h0⟩ := eA h0
  refine oA 168 [4, 5] (fun | 3 => some (.tup [.int .i64 vr5.1, .int .i64 vr5.2], []) | _ => none) rfl (fun _ _ => rC (zlR hvr5)) ?_
  refine jA ?_
  obtain rfl := Option.some.inj h0
  refine nA [] ?_
  exact rG
theorem sY {fu : Nat} {vs1 : bB} {level2 : Int} {r : Int × Int} (h0 : jI fu vs1 level2 = some r) : lB Try.prog 9 [.agg (bB.enc vs1), .int .i64 level2] (.tup [.int .i64 r.1, .int .i64 r.2]) [] := by
 refine sB Try.func9 rfl (by decide) rL ?_
 dsimp only [Try.f9]
 rw [jI] at h0
 refine (show pA _ _ _ _ ⟨kB 0 _, [], 0, []⟩ from ?_)
 refine xS 24 [1, 2] ?_
 obtain ⟨vr3, hvr3, h0⟩ := eA h0
 refine oA 88 [2, 5, 6] (fun | 2 => some (.tup [.int .i64 vr3.1, .int .i64 vr3.2], []) | _ => none) rfl (fun _ _ => rC (zba hvr3)) ?_
 refine kA ?_
 refine xS 104 [2, 5, 6, 14] ?_
 refine xI h0 rfl (fun h0 hb4 => ?_) (fun h0 hb4 => ?_)
 ·
  refine xS 128 [4, 5] ?_
  refine jA (mA ?_)
  obtain rfl := Option.some.inj h0
  refine nA [] ?_
  exact rG
 ·
  refine qA (gA ?_)
  obtain ⟨e5, he5, h0⟩ := eA h0
  obtain ⟨he5a, he5b, he5c⟩ := fB he5
  obtain ⟨vr6, hvr6, h0⟩ := eA h0
  refine oA 192 [4, 5] (fun | 6 => some (.tup [.int .i64 vr6.1, .int .i64 vr6.2], []) | _ => none) rfl (fun _ _ => rB (rA he5a (rA he5b he5c)) (wX hvr6)) ?_
  refine jA ?_
  obtain rfl := Option.some.inj h0
  refine nA [] ?_
  simp (maxSteps := 1000000) only [↓reduceIte, reduceCtorEq, Nat.reduceEqDiff, Nat.reduceLT, Nat.reduceLeDiff, Nat.reduceAdd, Nat.reduceMul, Int.reduceToNat, push_cast, lC, he5a, he5b, he5c]
  all_goals exact rH
theorem znJ {fu : Nat} {vs1 : List xA} {r : List xA} (h0 : qR fu vs1 = some r) : lB Try.prog 32 [.psl 11 (vs1.map xA.enc)] (.sl 0 0 11 0 r.length) [⟨0, true, true, 11, r.map xA.enc⟩] := by
 refine sB Try.func32 rfl (by decide) rL ?_
 dsimp only [Try.f32]
 rw [qR] at h0
 refine (show pA _ _ _ _ ⟨kB 0 _, [], 0, []⟩ from ?_)
 refine xS 8 [0] ?_
 refine kA ?_
 cases hb2 : vs1.isEmpty with
 | true =>
  replace h0 := iB h0 hb2
  obtain rfl : vs1 = [] := List.isEmpty_iff.1 hb2
  refine xS 24 [0, 4] ?_
  refine oV rfl ?_ ?_
  ·
   skip
   refine xS 32 [2] ?_
   refine zB (s2 := ⟨[(2, .sl 32 0 11 0 0)], [(32, ⟨0, true, true, 11, List.map xA.enc []⟩)], 33, []⟩) [(32, 11)] rL ⟨rF, rE, rfl, rfl, trivial, rN⟩ ?_
   refine jA (mA ?_)
   obtain rfl := Option.some.inj h0
   refine nA [32] ?_
   exact rG
  ·
   skip
   refine qA (gA ?_)
   refine xS 56 [2] ?_
   refine xE ⟨[(2, .sl 24 1 11 0 0)], [(24, ⟨1, true, true, 11, List.map xA.enc []⟩)], 56, []⟩ ?_
   refine jA ?_
   obtain rfl := Option.some.inj h0
   refine nA [24] ?_
   exact rG
 | false =>
  replace h0 := vA h0 hb2
  refine oA 24 [0, 4] (fun _ => none) rfl (fun _ _ => rS hb2) ?_
  refine wF rfl ?_
  refine qA (gA ?_)
  obtain ⟨hc3, h0⟩ := cF h0
  refine oA 56 [2] (fun _ => none) rfl (fun _ _ => rS hb2) ?_
  refine xE ⟨[(2, .sl 24 1 11 0 vs1.length)], [(24, ⟨1, true, true, 11, List.map xA.enc vs1⟩)], 56, []⟩ ?_
  refine jA ?_
  obtain rfl := Option.some.inj h0
  refine nA [24] ?_
  simp (maxSteps := 1000000) only [↓reduceIte, reduceCtorEq, Nat.reduceEqDiff, Nat.reduceLT, Nat.reduceLeDiff, Nat.reduceAdd, Nat.reduceMul, Int.reduceToNat, push_cast, lC, hb2]
  all_goals exact rH
theorem iW {fu : Nat} {vs1 : bB} {level2 : Int} {most3 : Int} {r : bB × Int × Int} (h0 : jK fu vs1 level2 most3 = some r) : lB Try.prog 12 [.agg (bB.enc vs1), .int .i64 level2, .int .i64 most3] (.tup [.agg (bB.enc r.1), .int .i64 r.2.1, .int .i64 r.2.2]) [] := by
 refine sB Try.func12 rfl (by decide) rL ?_
 dsimp only [Try.f12]
 rw [jK] at h0
 refine (show pA _ _ _ _ ⟨kB 0 _, [], 0, []⟩ from ?_)
 refine xS 32 [1, 2, 3, 6] ?_
 refine kA ?_
 obtain ⟨vr4, hvr4, h0⟩ := eA h0
 refine oA 88 [1, 2, 3, 6, 10] (fun | 1 => some (.tup [.int .i64 vr4.1, .int .i64 vr4.2], []) | _ => none) rfl (fun _ _ => rC (zdA hvr4)) ?_
 refine xS 104 [1, 2, 3, 6, 10, 21] ?_
 refine xI h0 rfl (fun h0 hb5 => ?_) (fun h0 hb5 => ?_)
 ·
  refine xS 144 [6, 7, 8] ?_
  refine jA (mA ?_)
  obtain rfl := Option.some.inj h0
  refine nA [] ?_
  exact rG
 ·
  refine qA (gA (kA ?_))
  refine xS 120 [1, 2, 3, 6, 25] ?_
  refine xI h0 rfl (fun h0 hb6 => ?_) (fun h0 hb6 => ?_)
  ·
   refine xS 152 [6, 7, 8] ?_
   refine jA (mA ?_)
   obtain rfl := Option.some.inj h0
   refine nA [] ?_
   exact rG
  ·
   refine qA (gA ?_)
   obtain ⟨vr7, hvr7, h0⟩ := eA h0
   refine oA 184 [2, 3, 6, 8, 11] (fun | 2 => some (.tup [.int .i64 vr7.1, .int .i64 vr7.2], []) | _ => none) rfl (fun _ _ => rC (zba hvr7)) ?_
   refine kA ?_
   refine xS 200 [2, 3, 6, 8, 11, 34] ?_
   refine xI h0 rfl (fun h0 hb8 => ?_) (fun h0 hb8 => ?_)
   ·
    refine xS 240 [6, 7, 8] ?_
    refine jA (mA ?_)
    obtain rfl := Option.some.inj h0
    refine nA [] ?_
    exact rG
   ·
    refine qA (gA (kA ?_))
    obtain ⟨e9, he9, h0⟩ := eA h0
    obtain ⟨he9a, he9b, he9c⟩ := fB he9
    obtain ⟨vr10, hvr10, h0⟩ := eA h0
    refine oA 296 [2, 3, 6, 11, 12] (fun | 6 => some (.tup [.int .i64 vr10.1, .int .i64 vr10.2], []) | _ => none) rfl (fun _ _ => rB (rA he9a (rA he9b he9c)) (wX hvr10)) ?_
    refine oA 312 [2, 3, 6, 11, 48] (fun _ => none) rfl (fun _ _ => rS (rA he9a (rA he9b he9c))) ?_
    refine xI h0 rfl (fun h0 hb11 => ?_) (fun h0 hb11 => ?_)
    ·
     refine oA 344 [6, 7, 8] (fun _ => none) rfl (fun _ _ => rS (rA he9a (rA he9b he9c))) ?_
     refine jA (mA ?_)
     obtain rfl := Option.some.inj h0
     refine nA [] ?_
     simp (maxSteps := 1000000) only [↓reduceIte, reduceCtorEq, Nat.reduceEqDiff, Nat.reduceLT, Nat.reduceLeDiff, Nat.reduceAdd, Nat.reduceMul, Int.reduceToNat, push_cast, lC, he9a, he9b, he9c]
     all_goals exact rH
    ·
     refine qA (gA ?_)
     obtain ⟨vr12, hvr12, h0⟩ := eA h0
     refine oA 440 [3, 6, 7, 8, 11, 14] (fun | 7 => some (.tup [.agg (pB.enc vr12.1), .int .i64 vr12.2.1, .int .i64 vr12.2.2], []) | _ => none) rfl (fun _ _ => rB (rA he9a (rA he9b he9c)) (zdt hvr12)) ?_
     refine kA ?_
     refine oA 456 [3, 6, 7, 8, 11, 14, 63] (fun _ => none) rfl (fun _ _ => rS (rA he9a (rA he9b he9c))) ?_
     refine xI h0 rfl (fun h0 hb13 => ?_) (fun h0 hb13 => ?_)
     ·
      refine oA 496 [6, 7, 8] (fun _ => none) rfl (fun _ _ => rS (rA he9a (rA he9b he9c))) ?_
      refine jA (mA ?_)
      obtain rfl := Option.some.inj h0
      refine nA [] ?_
      simp (maxSteps := 1000000) only [↓reduceIte, reduceCtorEq, Nat.reduceEqDiff, Nat.reduceLT, Nat.reduceLeDiff, Nat.reduceAdd, Nat.reduceMul, Int.reduceToNat, push_cast, lC, he9a, he9b, he9c]
      all_goals exact rH
     ·
      refine qA (gA ?_)
      refine oA 472 [3, 6, 7, 11, 14] (fun _ => none) rfl (fun _ _ => rS (rA he9a (rA he9b he9c))) ?_
      obtain ⟨vr14, hvr14, h0⟩ := eA h0
      refine oA 512 [6, 7, 11, 14] (fun | 2 => some (.sl 0 0 11 0 vr14.length, [⟨0, true, true, 11, vr14.map xA.enc⟩]) | _ => none) rfl (fun _ _ => rB (rA he9a (rA he9b he9c)) (znJ hvr14)) ?_
      obtain ⟨e15, he15, h0⟩ := eA h0
      obtain ⟨he15a, he15b, he15c⟩ := fB he15
      refine oA 568 [6, 7] (fun _ => none) rfl (fun _ _ => rS (rA he9a (rA he9b (rA he9c (rA he15a (rA he15b he15c)))))) ?_
      refine xE ⟨[(6, .ref 8 0 0 0), (7, .int .i64 vr12.2.1)], [(8, ⟨0, true, false, 4, [[.int .i64 vs1.Levels.B, .psl 1 (List.map sA.enc vs1.Levels.Levels), .sl 488 0 11 0 ((vr14.set vr7.1.toNat (xA.mk e15.Level vr12.1)).length), .int .i64 vs1.NextId]]⟩), (488, ⟨0, true, true, 11, List.map xA.enc (vr14.set vr7.1.toNat (xA.mk e15.Level vr12.1))⟩)], 568, []⟩ ?_
      refine oA 608 [6, 7, 8] (fun _ => none) rfl (fun _ _ => rS (rA he9a (rA he9b (rA he9c (rA he15a (rA he15b he15c)))))) ?_
      refine jA ?_
      obtain rfl := Option.some.inj h0
      refine nA [] ?_
      simp (maxSteps := 1000000) only [↓reduceIte, reduceCtorEq, Nat.reduceEqDiff, Nat.reduceLT, Nat.reduceLeDiff, Nat.reduceAdd, Nat.reduceMul, Int.reduceToNat, push_cast, lC, he9a, he9b, he9c, he15a, he15b, he15c]
      all_goals exact rH
theorem zcq {fu : Nat} {id1 : Int} {dead2 : Bool} {keys3 : List UInt8} {r : eB} (h0 : eR fu id1 dead2 keys3 = some r) : lB Try.prog 39 [.int .i64 id1, .bool dead2, .str keys3] (.agg (eB.enc r)) [] := by
 refine sB Try.func39 rfl (by decide) rL ?_
 dsimp only [Try.f39]
 rw [eR] at h0
 refine (show pA _ _ _ _ ⟨kB 0 _, [], 0, []⟩ from ?_)
 refine xS 8 [0, 1, 2, 6] ?_
 refine xS 40 [0, 1, 2, 6, 7] ?_
 refine kA ?_
 refine xS 48 [0, 1, 2, 6, 7, 8] ?_
 refine zB (s2 := ⟨[(0, .int .i64 id1), (1, .bool dead2), (2, .str keys3), (6, .ref 0 0 0 0), (7, .ref 24 0 0 0), (8, .int .i64 0)], [(0, ⟨0, true, true, 2, [[.int .i64 0, .nils]]⟩), (24, ⟨0, true, false, 2, [[.int .i64 id1, .sl 48 0 4 0 0]]⟩), (48, ⟨0, true, true, 4, List.map aA.enc []⟩)], 49, []⟩) [(48, 4)] rL ⟨rF, rE, rfl, rfl, trivial, rN⟩ ?_
 obtain ⟨x14, hxx14, h0⟩ := eA h0
 refine lD (fun s' => ∃ g21 : Nat, s'.nx ≤ 81 ∧ LeN [] s' ⟨[(6, .ref 0 0 0 0), (7, .ref 24 0 0 0)], [(0, ⟨0, true, true, 2, [[.int .i64 0, .nils]]⟩), (24, ⟨0, true, false, 2, [[.int .i64 id1, .sl 48 g21 4 0 x14.length]]⟩), (48, ⟨g21, true, true, 4, List.map aA.enc x14⟩)], 81, []⟩) ?_ ?_
 ·
  intro s' hs
  obtain ⟨g21, hn, hs⟩ := hs
  refine gA ?_
  refine zB [] hn hs ?_
  refine xS 97 [6] ?_
  refine jA ?_
  obtain rfl := Option.some.inj h0
  refine nA [] ?_
  exact rG
 ·
  refine kD (ι := { p : Nat × Int × List aA × Nat // bK keys3 dead2 id1 p.1 p.2.1 p.2.2.1 = some x14 }) (fun p => ⟨[(0, .int .i64 id1), (1, .bool dead2), (2, .str keys3), (6, .ref 0 0 0 0), (7, .ref 24 0 0 0), (8, .int .i64 p.1.2.1)], [(0, ⟨0, true, true, 2, [[.int .i64 0, .nils]]⟩), (24, ⟨0, true, false, 2, [[.int .i64 id1, .sl 48 p.1.2.2.2 4 0 p.1.2.2.1.length]]⟩), (48, ⟨p.1.2.2.2, true, true, 4, List.map aA.enc p.1.2.2.1⟩)], 49, []⟩) (fun p => p.1.1) ⟨(fu, 0, [], 0), hxx14⟩ ⟨rF, rE, rfl, rfl, trivial, trivial⟩ (fun _ => Nat.le_refl _) ?_
  rintro ⟨⟨fu, i15, v16, g17⟩, h1⟩
  cases fu with
  | zero =>
   replace h1 : bK keys3 dead2 id1 0 i15 v16 = some x14 := h1
   rw [bK] at h1; cases h1
  | succ fu =>
   replace h1 : bK keys3 dead2 id1 (fu + 1) i15 v16 = some x14 := h1
   rw [bK] at h1
   refine (show pA _ _ _ _ ⟨[(0, .int .i64 id1), (1, .bool dead2), (2, .str keys3), (6, .ref 0 0 0 0), (7, .ref 24 0 0 0), (8, .int .i64 i15)], [(0, ⟨0, true, true, 2, [[.int .i64 0, .nils]]⟩), (24, ⟨0, true, false, 2, [[.int .i64 id1, .sl 48 g17 4 0 v16.length]]⟩), (48, ⟨g17, true, true, 4, List.map aA.enc v16⟩)], 49, []⟩ from ?_)
   refine kA ?_
   refine xS 81 [0, 1, 2, 6, 7, 8, 14] ?_
   refine xI h1 rfl (fun h1 hb18 => ?_) (fun h1 hb18 => ?_)
   ·
    refine qA (gA (kA (jC ?_)))
    obtain ⟨hc19, h1⟩ := cF h1
    obtain ⟨hc20, h1⟩ := cF h1
    refine aJ 225 [0, 1, 2, 6, 7, 8] (fun _ => none) rfl rfl rfl (fun _ _ => vG) ?_
    refine cC (gA ?_)
    refine xE ⟨[(0, .int .i64 id1), (1, .bool dead2), (2, .str keys3), (6, .ref 0 0 0 0), (7, .ref 24 0 0 0), (8, .int .i64 i15)], [(0, ⟨0, true, true, 2, [[.int .i64 0, .nils]]⟩), (24, ⟨0, true, false, 2, [[.int .i64 id1, .sl 48 (g17 + 1) 4 0 ((v16 ++ [(aA.mk ((keys3.drop i15.toNat).take ((IntKind.i64.wrap (i15 + 1)).toNat - i15.toNat)) [] dead2 (IntKind.i64.wrap ((IntKind.i64.wrap ((IntKind.i64.wrap (10 * id1)) + i15)) + 1)))]).length)]]⟩), (48, ⟨(g17 + 1), true, true, 4, List.map aA.enc (v16 ++ [(aA.mk ((keys3.drop i15.toNat).take ((IntKind.i64.wrap (i15 + 1)).toNat - i15.toNat)) [] dead2 (IntKind.i64.wrap ((IntKind.i64.wrap ((IntKind.i64.wrap (10 * id1)) + i15)) + 1)))])⟩)], 225, []⟩ ?_
    refine xR 249 [0, 1, 2, 6, 7, 8] ?_
    refine gA ?_
    exact ⟨⟨(fu, (IntKind.i64.wrap (i15 + 1)), (v16 ++ [(aA.mk ((keys3.drop i15.toNat).take ((IntKind.i64.wrap (i15 + 1)).toNat - i15.toNat)) [] dead2 (IntKind.i64.wrap ((IntKind.i64.wrap ((IntKind.i64.wrap (10 * id1)) + i15)) + 1)))]), (g17 + 1)), h1⟩, ⟨rF, rE, rfl, rfl, trivial, trivial⟩, Nat.lt_succ_self _⟩
   ·
    refine vC (jB (jB (bD ?_)))
    obtain rfl := Option.some.inj h1
    exact ⟨g17, rL, ⟨rF, rE, rfl, rfl, trivial, trivial⟩⟩
theorem zii {fu : Nat} {r : dB} (h0 : lS fu = some r) : lB Try.prog 19 [] (.agg (dB.enc r)) [] := by
 refine sB Try.func19 rfl (by decide) rL ?_
 dsimp only [Try.f19]
 rw [lS] at h0
 refine (show pA _ _ _ _ ⟨kB 0 _, [], 0, []⟩ from ?_)
 refine xS 8 [0] ?_
 obtain ⟨vr1, hvr1, h0⟩ := eA h0
 obtain ⟨vr2, hvr2, h0⟩ := eA h0
 refine oA 64 [0] (fun | 0 => some (.agg (eB.enc vr1), []) | 1 => some (.agg (eB.enc vr2), []) | _ => none) rfl (fun Kt hK => by
   try have q0 := zcq hvr1
   try have q1 := zcq hvr2
   exact rT) ?_
 refine zds [24] (fun Kt hK => by simp only [↓reduceIte, reduceCtorEq, Nat.reduceEqDiff, Nat.reduceLT, Nat.reduceLeDiff, Nat.reduceAdd, Nat.reduceMul, Int.reduceToNat, Nat.reduceBEq, push_cast]; exact hK) ?_
 refine xE ⟨[(0, .ref 0 0 0 0)], [(0, ⟨0, true, false, 2, [[.int .i64 2, .sl 40 0 1 0 1]]⟩), (40, ⟨0, true, true, 1, List.map sA.enc [(sA.mk [vr1, vr2])]⟩)], 64, []⟩ ?_
 refine jA ?_
 obtain rfl := Option.some.inj h0
 refine nA [] ?_
 exact rG
theorem zke {fu : Nat} {l1 : dB} {r : bB × Int} (h0 : qS fu l1 = some r) : lB Try.prog 8 [.agg (dB.enc l1)] (.tup [.agg (bB.enc r.1), .int .i64 r.2]) [] := by
 refine sB Try.func8 rfl (by decide) rL ?_
 dsimp only [Try.f8]
 rw [qS] at h0
 refine (show pA _ _ _ _ ⟨kB 0 _, [], 0, []⟩ from ?_)
 refine xS 24 [1, 2, 3] ?_
 refine kA ?_
 obtain ⟨vr2, hvr2, h0⟩ := eA h0
 refine oA 96 [1, 2, 3, 6] (fun | 1 => some (.tup [.int .i64 vr2.1, .int .i64 vr2.2.1, .int .i64 vr2.2.2], []) | _ => none) rfl (fun _ _ => rC (zdy hvr2)) ?_
 refine xS 112 [1, 2, 3, 6, 16] ?_
 refine xI h0 rfl (fun h0 hb3 => ?_) (fun h0 hb3 => ?_)
 ·
  refine xS 144 [2, 3] ?_
  refine jA (mA ?_)
  obtain rfl := Option.some.inj h0
  refine nA [] ?_
  exact rG
 ·
  refine qA (gA ?_)
  obtain ⟨vr4, hvr4, h0⟩ := eA h0
  refine jD 168 [1, 2, 3, 7] (fun | 2 => some (.int .i64 vr4, []) | _ => none) rfl rfl rfl (fun _ _ => rCd (zdg hvr4)) ?_
  refine kA ?_
  obtain ⟨vr5, hvr5, h0⟩ := eA h0
  refine oA 184 [1, 2, 3, 7, 25] (fun | 1 => some (.fn 41 [] [.pp [.int .i64 vr5.1, .psl 1 (vr5.2.map sA.enc)]], []) | _ => none) rfl (fun _ _ => rC (zez hvr5)) ?_
  refine jC ?_
  refine zbE rfl Try.func41 rfl (by decide) rL ?_
  intro RC6 hRC6
  have stRC6 : RC6.st = .ready ∧ RC6.pend = none := by rw [hRC6]; exact ⟨rfl, rfl⟩
  have okRC6 : cZ 184 RC6 := by rw [hRC6]; exact And.intro (rR) rfl
  dsimp only [Try.f41]
  refine zB (s2 := ⟨[(0, .yld 184), (1, .pp [.int .i64 vr5.1, .psl 1 (List.map sA.enc vr5.2)])], [(0, ⟨0, true, true, 2, [[.int .i64 l1.B, .psl 1 (List.map sA.enc l1.Levels)]]⟩), (8, ⟨0, true, true, 4, [[.int .i64 0, .nils, .nils, .int .i64 0]]⟩), (152, ⟨0, true, true, 4, [[.int .i64 l1.B, .psl 1 (List.map sA.enc l1.Levels), .nils, .int .i64 (IntKind.i64.wrap (vr4 + 1))]]⟩)], 185, [(184, RC6)]⟩) [] rL ⟨rF, rE, rfl, rfl, (dC.consR rL rfl okRC6 rL trivial), trivial⟩ ?_
  refine xS 217 [0, 6, 7, 8] ?_
  refine zat ?_
  refine zB (s2 := ⟨[(0, .yld 184), (6, .psl 1 (List.map sA.enc vr5.2)), (7, .int .i64 (vr5.2.length : Int)), (8, .int .i64 0)], [(0, ⟨0, true, true, 2, [[.int .i64 l1.B, .psl 1 (List.map sA.enc l1.Levels)]]⟩), (8, ⟨0, true, true, 4, [[.int .i64 0, .nils, .nils, .int .i64 0]]⟩), (152, ⟨0, true, false, 4, [[.int .i64 l1.B, .psl 1 (List.map sA.enc l1.Levels), .sl 217 0 11 0 0, .int .i64 (IntKind.i64.wrap (vr4 + 1))]]⟩), (217, ⟨0, true, true, 11, List.map xA.enc []⟩)], 218, [(184, RC6)]⟩) [(217, 11)] rL ⟨rF, rE, rfl, rfl, (dC.consR rL rfl okRC6 rL trivial), rN⟩ ?_
  obtain ⟨x26, hxx26, h0⟩ := eA h0
  refine lD (fun s' => ∃ g36 : Nat, s'.nx ≤ 226 ∧ LeN [] s' ⟨[], [(0, ⟨0, true, true, 2, [[.int .i64 l1.B, .psl 1 (List.map sA.enc l1.Levels)]]⟩), (8, ⟨0, true, true, 4, [[.int .i64 0, .nils, .nils, .int .i64 0]]⟩), (152, ⟨0, true, false, 4, [[.int .i64 l1.B, .psl 1 (List.map sA.enc l1.Levels), .sl 217 g36 11 0 x26.length, .int .i64 (IntKind.i64.wrap (vr4 + 1))]]⟩), (217, ⟨g36, true, true, 11, List.map xA.enc x26⟩)], 226, [(184, RC6)]⟩) ?_ ?_
  ·
   intro s' hs
   obtain ⟨g36, hn, hs⟩ := hs
   refine ⟨_, hn, hs, ?_⟩
   refine iS (fun _ _ => rT) ?_
   refine zau stRC6 rfl ?_
   refine cC (gA ?_)
   refine xE ⟨[(1, .ref 0 0 0 0), (2, .ref 8 0 0 0), (3, .int .i64 0), (7, .ref 152 0 0 0), (25, .fn 41 [] [.pp [.int .i64 vr5.1, .psl 1 (List.map sA.enc vr5.2)]])], [(0, ⟨0, true, true, 2, [[.int .i64 l1.B, .psl 1 (List.map sA.enc l1.Levels)]]⟩), (8, ⟨0, true, true, 4, [[.int .i64 0, .nils, .nils, .int .i64 0]]⟩), (152, ⟨0, true, false, 4, [[.int .i64 l1.B, .psl 1 (List.map sA.enc l1.Levels), .sl 217 g36 11 0 x26.length, .int .i64 (IntKind.i64.wrap (vr4 + 1))]]⟩), (217, ⟨g36, true, true, 11, List.map xA.enc x26⟩)], 226, []⟩ ?_
   refine xS 250 [2, 3] ?_
   refine jA ?_
   obtain rfl := Option.some.inj h0
   refine nA [] ?_
   exact rG
  ·
   refine kD (ι := { p : Nat × Int × List xA × Nat // qJ vr5 l1 p.1 p.2.1 p.2.2.1 = some x26 }) (fun p => ⟨[(0, .yld 184), (6, .psl 1 (List.map sA.enc vr5.2)), (7, .int .i64 (vr5.2.length : Int)), (8, .int .i64 p.1.2.1)], [(0, ⟨0, true, true, 2, [[.int .i64 l1.B, .psl 1 (List.map sA.enc l1.Levels)]]⟩), (8, ⟨0, true, true, 4, [[.int .i64 0, .nils, .nils, .int .i64 0]]⟩), (152, ⟨0, true, false, 4, [[.int .i64 l1.B, .psl 1 (List.map sA.enc l1.Levels), .sl 217 p.1.2.2.2 11 0 p.1.2.2.1.length, .int .i64 (IntKind.i64.wrap (vr4 + 1))]]⟩), (217, ⟨p.1.2.2.2, true, true, 11, List.map xA.enc p.1.2.2.1⟩)], 218, [(184, RC6)]⟩) (fun p => p.1.1) ⟨(fu, 0, [], 0), hxx26⟩ ⟨rF, rE, rfl, rfl, (dC.consR rL rfl okRC6 rL trivial), trivial⟩ (fun _ => Nat.le_refl _) ?_
   rintro ⟨⟨fu, level27, v28, g29⟩, h1⟩
   cases fu with
   | zero =>
   replace h1 : qJ vr5 l1 0 level27 v28 = some x26 := h1
   rw [qJ] at h1; cases h1
   | succ fu =>
    replace h1 : qJ vr5 l1 (fu + 1) level27 v28 = some x26 := h1
    rw [qJ] at h1
    refine (show pA _ _ _ _ ⟨[(0, .yld 184), (6, .psl 1 (List.map sA.enc vr5.2)), (7, .int .i64 (vr5.2.length : Int)), (8, .int .i64 level27)], [(0, ⟨0, true, true, 2, [[.int .i64 l1.B, .psl 1 (List.map sA.enc l1.Levels)]]⟩), (8, ⟨0, true, true, 4, [[.int .i64 0, .nils, .nils, .int .i64 0]]⟩), (152, ⟨0, true, false, 4, [[.int .i64 l1.B, .psl 1 (List.map sA.enc l1.Levels), .sl 217 g29 11 0 v28.length, .int .i64 (IntKind.i64.wrap (vr4 + 1))]]⟩), (217, ⟨g29, true, true, 11, List.map xA.enc v28⟩)], 218, [(184, RC6)]⟩ from ?_)
    refine xS 226 [0, 6, 7, 8, 9] ?_
    refine kA ?_
    refine xI h1 rfl (fun h1 hb30 => ?_) (fun h1 hb30 => ?_)
    ·
     refine qA (gA (kA (jC ?_)))
     obtain ⟨e31, he31, h1⟩ := eA h1
     obtain ⟨he31a, he31b, he31c⟩ := fB he31
     refine oA 274 [0, 3, 4, 6, 7, 8] (fun _ => none) rfl (fun _ _ => rS (rA he31a (rA he31b he31c))) ?_
     refine mH 10 rfl ?_
     refine fC (l' := List.range' 0 5 ++ (List.range' 5 5 ++ [])) rfl ?_
     refine pC 0 5 314 (List.range' 5 5 ++ []) (fun _ => none) rfl rfl rfl (fun _ _ => rS (rA he31a (rA he31b he31c))) ?_
     refine iJ (s2 := ⟨[(0, .yld 184), (3, .int .i64 level27), (4, .ref 250 0 0 0), (6, .psl 1 (List.map sA.enc vr5.2)), (7, .int .i64 (vr5.2.length : Int)), (8, .int .i64 level27), (13, .ref 250 0 0 0), (14, .psl 2 (List.map eB.enc e31.Runs)), (15, .int .i64 (e31.Runs.length : Int)), (16, .bool (decide ((e31.Runs.length : Int) = 2))), (17, .bool (decide ((e31.Runs.length : Int) = 2)))], [(0, ⟨0, true, true, 2, [[.int .i64 l1.B, .psl 1 (List.map sA.enc l1.Levels)]]⟩), (8, ⟨0, true, true, 4, [[.int .i64 0, .nils, .nils, .int .i64 0]]⟩), (152, ⟨0, true, false, 4, [[.int .i64 l1.B, .psl 1 (List.map sA.enc l1.Levels), .sl 217 g29 11 0 v28.length, .int .i64 (IntKind.i64.wrap (vr4 + 1))]]⟩), (217, ⟨g29, true, true, 11, List.map xA.enc v28⟩), (250, ⟨0, true, true, 1, [[.psl 2 (List.map eB.enc e31.Runs)]]⟩)], 314, [(184, RC6)]⟩) [] rL ⟨rF, rE, rfl, rfl, (dC.consR rL rfl okRC6 rL trivial), trivial⟩ ?_
     generalize hg32 : (decide ((e31.Runs.length : Int) = 2)) = b32
     cases b32 with
     | true =>
      replace h1 := iB h1 hg32
      refine fC (l' := List.range' 5 2 ++ (7 :: (List.range' 8 2 ++ []))) rfl ?_
      refine pC 5 2 330 (7 :: (List.range' 8 2 ++ [])) (fun _ => none) rfl rfl rfl (fun _ _ => rS (rA he31a (rA he31b he31c))) ?_
      refine za6 hRC6 rfl rfl rfl rfl rfl rfl rfl rfl rfl ?_
      refine zB (s2 := ⟨[(1, .ref 0 0 0 0), (2, .ref 8 0 0 0), (3, .int .i64 0), (7, .ref 152 0 0 0), (25, .fn 41 [] [.pp [.int .i64 vr5.1, .psl 1 (List.map sA.enc vr5.2)]]), (26, .int .i64 level27)], [(0, ⟨0, true, true, 2, [[.int .i64 l1.B, .psl 1 (List.map sA.enc l1.Levels)]]⟩), (8, ⟨0, true, true, 4, [[.int .i64 0, .nils, .nils, .int .i64 0]]⟩), (152, ⟨0, true, false, 4, [[.int .i64 l1.B, .psl 1 (List.map sA.enc l1.Levels), .sl 217 g29 11 0 v28.length, .int .i64 (IntKind.i64.wrap (vr4 + 1))]]⟩), (217, ⟨g29, true, true, 11, List.map xA.enc v28⟩), (250, ⟨0, true, true, 1, [[.psl 2 (List.map eB.enc e31.Runs)]]⟩)], 330, [(184, RC6)]⟩) [] rL ⟨rF, rE, rfl, rfl, (dC.consR rL rfl okRC6 rL trivial), trivial⟩ ?_
      refine iC 338 [1, 2, 3, 7, 8] (fun _ => none) rfl (fun _ _ => rS (rA he31a (rA he31b he31c))) ?_
      refine gA ?_
      refine ⟨RC6, rfl, stRC6.1, ?_⟩
      refine zB (s2 := ⟨[(1, .ref 0 0 0 0), (2, .ref 8 0 0 0), (3, .int .i64 0), (7, .ref 152 0 0 0), (8, .int .i64 level27)], [(0, ⟨0, true, true, 2, [[.int .i64 l1.B, .psl 1 (List.map sA.enc l1.Levels)]]⟩), (8, ⟨0, true, true, 4, [[.int .i64 0, .nils, .nils, .int .i64 0]]⟩), (152, ⟨0, true, false, 4, [[.int .i64 l1.B, .psl 1 (List.map sA.enc l1.Levels), .sl 217 g29 11 0 v28.length, .int .i64 (IntKind.i64.wrap (vr4 + 1))]]⟩), (217, ⟨g29, true, true, 11, List.map xA.enc v28⟩), (250, ⟨0, true, true, 1, [[.psl 2 (List.map eB.enc e31.Runs)]]⟩)], 338, [(184, { RC6 with st := .busy, pend := RC6.pend })]⟩) [] rL ⟨rF, rE, rfl, rfl, (dC.consR rL rfl okRC6 rL trivial), trivial⟩ ?_
      refine jC ?_
      obtain ⟨vr33, hvr33, h1⟩ := eA h1
      obtain ⟨vr34, hvr34, h1⟩ := eA h1
      obtain ⟨hc35, h1⟩ := cF h1
      refine aJ 434 [2, 3, 7] (fun | 6 => some (.bool vr33, []) | 7 => some (.agg (xA.enc vr34), []) | _ => none) rfl rfl rfl (fun Kt hK => by
        try have q0 := zbI hvr33
        try have q1 := zdH hvr34
        exact uE (rA he31a (rA he31b he31c))) ?_
      refine cC ?_
      refine zaw stRC6 rfl ?_
      refine iJ (s2 := ⟨[(0, .yld 184), (3, .int .i64 level27), (4, .ref 250 0 0 0), (6, .psl 1 (List.map sA.enc vr5.2)), (7, .int .i64 (vr5.2.length : Int)), (8, .int .i64 level27), (13, .ref 250 0 0 0), (14, .psl 2 (List.map eB.enc e31.Runs)), (15, .int .i64 (e31.Runs.length : Int)), (16, .bool true), (17, .bool true), (18, .yld 184), (19, .int .i64 level27), (20, .bool true)], [(0, ⟨0, true, true, 2, [[.int .i64 l1.B, .psl 1 (List.map sA.enc l1.Levels)]]⟩), (8, ⟨0, true, true, 4, [[.int .i64 0, .nils, .nils, .int .i64 0]]⟩), (152, ⟨0, true, false, 4, [[.int .i64 l1.B, .psl 1 (List.map sA.enc l1.Levels), .sl 217 (g29 + 1) 11 0 ((v28 ++ [vr34]).length), .int .i64 (IntKind.i64.wrap (vr4 + 1))]]⟩), (217, ⟨(g29 + 1), true, true, 11, List.map xA.enc (v28 ++ [vr34])⟩), (250, ⟨0, true, true, 1, [[.psl 2 (List.map eB.enc e31.Runs)]]⟩)], 434, [(184, RC6)]⟩) [] rL ⟨rF, rE, rfl, rfl, (dC.consR rL rfl okRC6 rL trivial), trivial⟩ ?_
      refine fC (l' := List.range' 8 2 ++ []) rfl ?_
      refine pC 8 2 450 [] (fun _ => none) rfl rfl rfl (fun _ _ => rS (rA he31a (rA he31b he31c))) ?_
      refine mD ?_
      refine gA ?_
      refine zB (s2 := ⟨[(0, .yld 184), (6, .psl 1 (List.map sA.enc vr5.2)), (7, .int .i64 (vr5.2.length : Int)), (8, .int .i64 level27), (18, .yld 184), (19, .int .i64 level27), (20, .bool true), (21, .bool false), (22, .bool false)], [(0, ⟨0, true, true, 2, [[.int .i64 l1.B, .psl 1 (List.map sA.enc l1.Levels)]]⟩), (8, ⟨0, true, true, 4, [[.int .i64 0, .nils, .nils, .int .i64 0]]⟩), (152, ⟨0, true, false, 4, [[.int .i64 l1.B, .psl 1 (List.map sA.enc l1.Levels), .sl 217 (g29 + 1) 11 0 ((v28 ++ [vr34]).length), .int .i64 (IntKind.i64.wrap (vr4 + 1))]]⟩), (217, ⟨(g29 + 1), true, true, 11, List.map xA.enc (v28 ++ [vr34])⟩)], 450, [(184, RC6)]⟩) [] rL ⟨rF, rE, rfl, rfl, (dC.consR rL rfl okRC6 rL trivial), trivial⟩ ?_
      refine wF rfl ?_
      refine qA (cC (gA ?_))
      refine iC 466 [0, 6, 7, 8, 18, 19, 20, 21] (fun _ => none) rfl (fun _ _ => rS (rA he31a (rA he31b he31c))) ?_
      refine gA ?_
      exact ⟨⟨(fu, (IntKind.i64.wrap (level27 + 1)), (v28 ++ [vr34]), (g29 + 1)), h1⟩, ⟨rF, rE, rfl, rfl, (dC.consR rL rfl okRC6 rL trivial), trivial⟩, Nat.lt_succ_self _⟩
     | false =>
      replace h1 := vA h1 hg32
      refine fC (l' := List.range' 5 5 ++ []) rfl ?_
      refine pC 5 5 354 [] (fun _ => none) rfl rfl rfl (fun _ _ => rS (rA he31a (rA he31b he31c))) ?_
      refine mD ?_
      refine gA ?_
      refine zB (s2 := ⟨[(0, .yld 184), (6, .psl 1 (List.map sA.enc vr5.2)), (7, .int .i64 (vr5.2.length : Int)), (8, .int .i64 level27), (22, .bool false)], [(0, ⟨0, true, true, 2, [[.int .i64 l1.B, .psl 1 (List.map sA.enc l1.Levels)]]⟩), (8, ⟨0, true, true, 4, [[.int .i64 0, .nils, .nils, .int .i64 0]]⟩), (152, ⟨0, true, false, 4, [[.int .i64 l1.B, .psl 1 (List.map sA.enc l1.Levels), .sl 217 g29 11 0 v28.length, .int .i64 (IntKind.i64.wrap (vr4 + 1))]]⟩), (217, ⟨g29, true, true, 11, List.map xA.enc v28⟩)], 354, [(184, RC6)]⟩) [] rL ⟨rF, rE, rfl, rfl, (dC.consR rL rfl okRC6 rL trivial), trivial⟩ ?_
      refine wF rfl ?_
      refine qA (cC (gA ?_))
      refine iC 370 [0, 6, 7, 8] (fun _ => none) rfl (fun _ _ => rS (rA he31a (rA he31b he31c))) ?_
      refine gA ?_
      exact ⟨⟨(fu, (IntKind.i64.wrap (level27 + 1)), v28, g29), h1⟩, ⟨rF, rE, rfl, rfl, (dC.consR rL rfl okRC6 rL trivial), trivial⟩, Nat.lt_succ_self _⟩
    ·
     refine vC (jB (jB (bD ?_)))
     obtain rfl := Option.some.inj h1
     exact ⟨g29, rL, ⟨rF, rE, rfl, rfl, (dC.consR rL rfl okRC6 rL trivial), trivial⟩⟩
theorem uN {fu : Nat} {r : Bool} (h0 : tI fu = some r) : lB Try.prog 7 [] (.bool r) [] := by
 refine sB Try.func7 rfl (by decide) rL ?_
 dsimp only [Try.f7, List.append]
 rw [tI] at h0
 refine (show pA _ _ _ _ ⟨kB 0 _, [], 0, []⟩ from ?_)
 refine xS 8 [] ?_
 obtain ⟨vr1, hvr1, h0⟩ := eA h0
 obtain ⟨vr2, hvr2, h0⟩ := eA h0
 refine oA 72 [1, 2] (fun | 0 => some (.agg (dB.enc vr1), []) | 1 => some (.tup [.agg (bB.enc vr2.1), .int .i64 vr2.2], []) | _ => none) rfl (fun Kt hK => by
   try have q0 := zii hvr1
   try have q1 := zke hvr2
   exact rT) ?_
 refine kA ?_
 obtain ⟨b3, hb3, h0⟩ := eA h0
 obtain ⟨b4, hb4, h0⟩ := eA h0
 obtain ⟨b6, hb6, h0⟩ := eA h0
 refine dD (fr' := [(1, .ref 48 0 0 0), (37, .bool b6)]) (hp' := [(48, ⟨0, true, true, 4, [[.int .i64 vr2.1.Levels.B, .psl 1 (List.map sA.enc vr2.1.Levels.Levels), .psl 11 (List.map xA.enc vr2.1.Jobs), .int .i64 vr2.1.NextId]]⟩)]) [48] 240 [1, 37] (fun _ => none) rfl (fun Kt hK => by
   cases hg7 : (!(decide (vr2.2 = 0))) with
   | false =>
    replace hb3 := vA hb3 hg7
    have hqb3 := Option.some.inj hb3
    cases b3 with
    | false =>
     replace hb4 := vA hb4 rfl
     have hqb4 := Option.some.inj hb4
     cases b4 with
     | false =>
      replace hb6 := vA hb6 rfl
      obtain ⟨e5, he5, hb6⟩ := eA hb6
      have he5b := (fB he5).2.1
      have he5c := (nH 0 he5 rfl).1
      have he5a := (nH 0 he5 rfl).2
      have hqb6 := Option.some.inj hb6
      subst hqb6
      simp (maxSteps := 1000000) only [↓reduceIte, reduceCtorEq, Nat.reduceEqDiff, Nat.reduceLT, Nat.reduceLeDiff, Nat.reduceAdd, Nat.reduceMul, Int.reduceToNat, push_cast, ↓hg7, ↓hqb3, ↓hqb4, he5a, he5b, he5c, he5]
      try simp only [↓hg7, ↓hqb3, ↓hqb4] at hK
      all_goals exact rU
     | true =>
      replace hb6 := iB hb6 rfl
      have hqb6 := Option.some.inj hb6
      subst hqb6
      simp (maxSteps := 1000000) only [↓reduceIte, reduceCtorEq, Nat.reduceEqDiff, Nat.reduceLT, Nat.reduceLeDiff, Nat.reduceAdd, Nat.reduceMul, Int.reduceToNat, push_cast, ↓hg7, ↓hqb3, ↓hqb4]
      try simp only [↓hg7, ↓hqb3, ↓hqb4] at hK
      all_goals exact rU
    | true =>
     replace hb4 := iB hb4 rfl
     have hqb4 := Option.some.inj hb4
     cases b4 with
     | false =>
      cases hqb4
     | true =>
      replace hb6 := iB hb6 rfl
      have hqb6 := Option.some.inj hb6
      subst hqb6
      simp (maxSteps := 1000000) only [↓reduceIte, reduceCtorEq, Nat.reduceEqDiff, Nat.reduceLT, Nat.reduceLeDiff, Nat.reduceAdd, Nat.reduceMul, Int.reduceToNat, push_cast, ↓hg7, ↓hqb3]
      try simp only [↓hg7, ↓hqb3] at hK
      all_goals exact rU
   | true =>
    replace hb3 := iB hb3 hg7
    have hqb3 := Option.some.inj hb3
    cases b3 with
    | false =>
     cases hqb3
    | true =>
     replace hb4 := iB hb4 rfl
     have hqb4 := Option.some.inj hb4
     cases b4 with
     | false =>
      cases hqb4
     | true =>
      replace hb6 := iB hb6 rfl
      have hqb6 := Option.some.inj hb6
      subst hqb6
      simp (maxSteps := 1000000) only [↓reduceIte, reduceCtorEq, Nat.reduceEqDiff, Nat.reduceLT, Nat.reduceLeDiff, Nat.reduceAdd, Nat.reduceMul, Int.reduceToNat, push_cast, ↓hg7]
      try simp only [↓hg7] at hK
      all_goals exact rU) ?_
 refine xI h0 rfl (fun h0 hb13 => ?_) (fun h0 hb13 => ?_)
 ·
  refine xS 248 [0] ?_
  refine jA (mA ?_)
  obtain rfl := Option.some.inj h0
  refine nA [] ?_
  exact rG
 ·
  refine qA (gA ?_)
  obtain ⟨vr14, hvr14, h0⟩ := eA h0
  refine oA 296 [1, 2, 3] (fun | 1 => some (.tup [.int .i64 vr14.1, .int .i64 vr14.2], []) | _ => none) rfl (fun _ _ => rC (sY hvr14)) ?_
  obtain ⟨vr15, hvr15, h0⟩ := eA h0
  refine oA 376 [2, 3, 4, 5, 6] (fun | 1 => some (.tup [.agg (bB.enc vr15.1), .int .i64 vr15.2.1, .int .i64 vr15.2.2], []) | _ => none) rfl (fun _ _ => rC (iW hvr15)) ?_
  obtain ⟨vr16, hvr16, h0⟩ := eA h0
  refine oA 432 [2, 3, 4, 5, 6, 7, 8] (fun | 1 => some (.tup [.int .i64 vr16.1, .int .i64 vr16.2], []) | _ => none) rfl (fun _ _ => rC (sY hvr16)) ?_
  obtain ⟨vr17, hvr17, h0⟩ := eA h0
  refine oA 512 [2, 3, 4, 5, 6, 7, 8, 11] (fun | 1 => some (.tup [.agg (bB.enc vr17.1), .int .i64 vr17.2.1, .int .i64 vr17.2.2], []) | _ => none) rfl (fun _ _ => rC (iW hvr17)) ?_
  obtain ⟨b18, hb18, h0⟩ := eA h0
  obtain ⟨b19, hb19, h0⟩ := eA h0
  obtain ⟨b20, hb20, h0⟩ := eA h0
  obtain ⟨b21, hb21, h0⟩ := eA h0
  obtain ⟨b22, hb22, h0⟩ := eA h0
  obtain ⟨b23, hb23, h0⟩ := eA h0
  obtain ⟨b24, hb24, h0⟩ := eA h0
  obtain ⟨b26, hb26, h0⟩ := eA h0
  obtain ⟨b29, hb29, h0⟩ := eA h0
  refine dD (fr' := [(0, .bool b29)]) (hp' := [(48, ⟨0, true, true, 4, [[.int .i64 vr2.1.Levels.B, .psl 1 (List.map sA.enc vr2.1.Levels.Levels), .psl 11 (List.map xA.enc vr2.1.Jobs), .int .i64 vr2.1.NextId]]⟩), (344, ⟨0, true, true, 4, [[.int .i64 vr15.1.Levels.B, .psl 1 (List.map sA.enc vr15.1.Levels.Levels), .psl 11 (List.map xA.enc vr15.1.Jobs), .int .i64 vr15.1.NextId]]⟩), (480, ⟨0, true, true, 4, [[.int .i64 vr17.1.Levels.B, .psl 1 (List.map sA.enc vr17.1.Levels.Levels), .psl 11 (List.map xA.enc vr17.1.Jobs), .int .i64 vr17.1.NextId]]⟩)]) [48, 344, 480] 952 [0] (fun _ => none) rfl (fun Kt hK => by
    cases hg30 : (decide (vr14.1 = 3)) with
    | false =>
     replace hb18 := vA hb18 hg30
     have hqb18 := Option.some.inj hb18
     cases b18 with
     | false =>
      replace hb19 := vA hb19 rfl
      have hqb19 := Option.some.inj hb19
      cases b19 with
      | false =>
       replace hb20 := vA hb20 rfl
       have hqb20 := Option.some.inj hb20
       cases b20 with
       | false =>
        replace hb21 := vA hb21 rfl
        have hqb21 := Option.some.inj hb21
        cases b21 with
        | false =>
         replace hb22 := vA hb22 rfl
         have hqb22 := Option.some.inj hb22
         cases b22 with
         | false =>
          replace hb23 := vA hb23 rfl
          have hqb23 := Option.some.inj hb23
          cases b23 with
          | false =>
           replace hb24 := vA hb24 rfl
           have hqb24 := Option.some.inj hb24
           cases b24 with
           | false =>
            replace hb26 := vA hb26 rfl
            have hqb26 := Option.some.inj hb26
            cases b26 with
            | false =>
             replace hb29 := vA hb29 rfl
             have hqb29 := Option.some.inj hb29
             subst hqb29
             simp (maxSteps := 1000000) only [↓reduceIte, reduceCtorEq, Nat.reduceEqDiff, Nat.reduceLT, Nat.reduceLeDiff, Nat.reduceAdd, Nat.reduceMul, Int.reduceToNat, push_cast, ↓hg30]
             try simp only [↓hg30] at hK
             all_goals exact rU
            | true =>
             cases hqb26
           | true =>
            cases hqb24
          | true =>
           cases hqb23
         | true =>
          cases hqb22
        | true =>
         cases hqb21
       | true =>
        cases hqb20
      | true =>
       cases hqb19
     | true =>
      cases hqb18
    | true =>
     replace hb18 := iB hb18 hg30
     have hqb18 := Option.some.inj hb18
     cases b18 with
     | false =>
      replace hb19 := vA hb19 rfl
      have hqb19 := Option.some.inj hb19
      cases b19 with
      | false =>
       replace hb20 := vA hb20 rfl
       have hqb20 := Option.some.inj hb20
       cases b20 with
       | false =>
        replace hb21 := vA hb21 rfl
        have hqb21 := Option.some.inj hb21
        cases b21 with
        | false =>
         replace hb22 := vA hb22 rfl
         have hqb22 := Option.some.inj hb22
         cases b22 with
         | false =>
          replace hb23 := vA hb23 rfl
          have hqb23 := Option.some.inj hb23
          cases b23 with
          | false =>
           replace hb24 := vA hb24 rfl
           have hqb24 := Option.some.inj hb24
           cases b24 with
           | false =>
            replace hb26 := vA hb26 rfl
            have hqb26 := Option.some.inj hb26
            cases b26 with
            | false =>
             replace hb29 := vA hb29 rfl
             have hqb29 := Option.some.inj hb29
             subst hqb29
             simp (maxSteps := 1000000) only [↓reduceIte, reduceCtorEq, Nat.reduceEqDiff, Nat.reduceLT, Nat.reduceLeDiff, Nat.reduceAdd, Nat.reduceMul, Int.reduceToNat, push_cast, ↓hg30, ↓hqb18]
             try simp only [↓hg30, ↓hqb18] at hK
             all_goals exact rU
            | true =>
             cases hqb26
           | true =>
            cases hqb24
          | true =>
           cases hqb23
         | true =>
          cases hqb22
        | true =>
         cases hqb21
       | true =>
        cases hqb20
      | true =>
       cases hqb19
     | true =>
      replace hb19 := iB hb19 rfl
      have hqb19 := Option.some.inj hb19
      cases b19 with
      | false =>
       replace hb20 := vA hb20 rfl
       have hqb20 := Option.some.inj hb20
       cases b20 with
       | false =>
        replace hb21 := vA hb21 rfl
        have hqb21 := Option.some.inj hb21
        cases b21 with
        | false =>
         replace hb22 := vA hb22 rfl
         have hqb22 := Option.some.inj hb22
         cases b22 with
         | false =>
          replace hb23 := vA hb23 rfl
          have hqb23 := Option.some.inj hb23
          cases b23 with
          | false =>
           replace hb24 := vA hb24 rfl
           have hqb24 := Option.some.inj hb24
           cases b24 with
           | false =>
            replace hb26 := vA hb26 rfl
            have hqb26 := Option.some.inj hb26
            cases b26 with
            | false =>
             replace hb29 := vA hb29 rfl
             have hqb29 := Option.some.inj hb29
             subst hqb29
             simp (maxSteps := 1000000) only [↓reduceIte, reduceCtorEq, Nat.reduceEqDiff, Nat.reduceLT, Nat.reduceLeDiff, Nat.reduceAdd, Nat.reduceMul, Int.reduceToNat, push_cast, ↓hg30, ↓hqb18, ↓hqb19]
             try simp only [↓hg30, ↓hqb18, ↓hqb19] at hK
             all_goals exact rU
            | true =>
             cases hqb26
           | true =>
            cases hqb24
          | true =>
           cases hqb23
         | true =>
          cases hqb22
        | true =>
         cases hqb21
       | true =>
        cases hqb20
      | true =>
       replace hb20 := iB hb20 rfl
       have hqb20 := Option.some.inj hb20
       cases b20 with
       | false =>
        replace hb21 := vA hb21 rfl
        have hqb21 := Option.some.inj hb21
        cases b21 with
        | false =>
         replace hb22 := vA hb22 rfl
         have hqb22 := Option.some.inj hb22
         cases b22 with
         | false =>
          replace hb23 := vA hb23 rfl
          have hqb23 := Option.some.inj hb23
          cases b23 with
          | false =>
           replace hb24 := vA hb24 rfl
           have hqb24 := Option.some.inj hb24
           cases b24 with
           | false =>
            replace hb26 := vA hb26 rfl
            have hqb26 := Option.some.inj hb26
            cases b26 with
            | false =>
             replace hb29 := vA hb29 rfl
             have hqb29 := Option.some.inj hb29
             subst hqb29
             simp (maxSteps := 1000000) only [↓reduceIte, reduceCtorEq, Nat.reduceEqDiff, Nat.reduceLT, Nat.reduceLeDiff, Nat.reduceAdd, Nat.reduceMul, Int.reduceToNat, push_cast, ↓hg30, ↓hqb18, ↓hqb19, ↓hqb20]
             try simp only [↓hg30, ↓hqb18, ↓hqb19, ↓hqb20] at hK
             all_goals exact rU
            | true =>
             cases hqb26
           | true =>
            cases hqb24
          | true =>
           cases hqb23
         | true =>
          cases hqb22
        | true =>
         cases hqb21
       | true =>
        replace hb21 := iB hb21 rfl
        have hqb21 := Option.some.inj hb21
        cases b21 with
        | false =>
         replace hb22 := vA hb22 rfl
         have hqb22 := Option.some.inj hb22
         cases b22 with
         | false =>
          replace hb23 := vA hb23 rfl
          have hqb23 := Option.some.inj hb23
          cases b23 with
          | false =>
           replace hb24 := vA hb24 rfl
           have hqb24 := Option.some.inj hb24
           cases b24 with
           | false =>
            replace hb26 := vA hb26 rfl
            have hqb26 := Option.some.inj hb26
            cases b26 with
            | false =>
             replace hb29 := vA hb29 rfl
             have hqb29 := Option.some.inj hb29
             subst hqb29
             simp (maxSteps := 1000000) only [↓reduceIte, reduceCtorEq, Nat.reduceEqDiff, Nat.reduceLT, Nat.reduceLeDiff, Nat.reduceAdd, Nat.reduceMul, Int.reduceToNat, push_cast, ↓hg30, ↓hqb18, ↓hqb19, ↓hqb20, ↓hqb21]
             try simp only [↓hg30, ↓hqb18, ↓hqb19, ↓hqb20, ↓hqb21] at hK
             all_goals exact rU
            | true =>
             cases hqb26
           | true =>
            cases hqb24
          | true =>
           cases hqb23
         | true =>
          cases hqb22
        | true =>
         replace hb22 := iB hb22 rfl
         have hqb22 := Option.some.inj hb22
         cases b22 with
         | false =>
          replace hb23 := vA hb23 rfl
          have hqb23 := Option.some.inj hb23
          cases b23 with
          | false =>
           replace hb24 := vA hb24 rfl
           have hqb24 := Option.some.inj hb24
           cases b24 with
           | false =>
            replace hb26 := vA hb26 rfl
            have hqb26 := Option.some.inj hb26
            cases b26 with
            | false =>
             replace hb29 := vA hb29 rfl
             have hqb29 := Option.some.inj hb29
             subst hqb29
             simp (maxSteps := 1000000) only [↓reduceIte, reduceCtorEq, Nat.reduceEqDiff, Nat.reduceLT, Nat.reduceLeDiff, Nat.reduceAdd, Nat.reduceMul, Int.reduceToNat, push_cast, ↓hg30, ↓hqb18, ↓hqb19, ↓hqb20, ↓hqb21, ↓hqb22]
             try simp only [↓hg30, ↓hqb18, ↓hqb19, ↓hqb20, ↓hqb21, ↓hqb22] at hK
             all_goals exact rU
            | true =>
             cases hqb26
           | true =>
            cases hqb24
          | true =>
           cases hqb23
         | true =>
          replace hb23 := iB hb23 rfl
          have hqb23 := Option.some.inj hb23
          cases b23 with
          | false =>
           replace hb24 := vA hb24 rfl
           have hqb24 := Option.some.inj hb24
           cases b24 with
           | false =>
            replace hb26 := vA hb26 rfl
            have hqb26 := Option.some.inj hb26
            cases b26 with
            | false =>
             replace hb29 := vA hb29 rfl
             have hqb29 := Option.some.inj hb29
             subst hqb29
             simp (maxSteps := 1000000) only [↓reduceIte, reduceCtorEq, Nat.reduceEqDiff, Nat.reduceLT, Nat.reduceLeDiff, Nat.reduceAdd, Nat.reduceMul, Int.reduceToNat, push_cast, ↓hg30, ↓hqb18, ↓hqb19, ↓hqb20, ↓hqb21, ↓hqb22, ↓hqb23]
             try simp only [↓hg30, ↓hqb18, ↓hqb19, ↓hqb20, ↓hqb21, ↓hqb22, ↓hqb23] at hK
             all_goals exact rU
            | true =>
             cases hqb26
           | true =>
            cases hqb24
          | true =>
           replace hb24 := iB hb24 rfl
           have hqb24 := Option.some.inj hb24
           cases b24 with
           | false =>
            replace hb26 := vA hb26 rfl
            have hqb26 := Option.some.inj hb26
            cases b26 with
            | false =>
             replace hb29 := vA hb29 rfl
             have hqb29 := Option.some.inj hb29
             subst hqb29
             simp (maxSteps := 1000000) only [↓reduceIte, reduceCtorEq, Nat.reduceEqDiff, Nat.reduceLT, Nat.reduceLeDiff, Nat.reduceAdd, Nat.reduceMul, Int.reduceToNat, push_cast, ↓hg30, ↓hqb18, ↓hqb19, ↓hqb20, ↓hqb21, ↓hqb22, ↓hqb23, ↓hqb24]
             try simp only [↓hg30, ↓hqb18, ↓hqb19, ↓hqb20, ↓hqb21, ↓hqb22, ↓hqb23, ↓hqb24] at hK
             all_goals exact rU
            | true =>
             cases hqb26
           | true =>
            replace hb26 := iB hb26 rfl
            obtain ⟨e25, he25, hb26⟩ := eA hb26
            have he25b := (fB he25).2.1
            have he25c := (nH 0 he25 rfl).1
            have he25a := (nH 0 he25 rfl).2
            have hqb26 := Option.some.inj hb26
            cases b26 with
            | false =>
             replace hb29 := vA hb29 rfl
             have hqb29 := Option.some.inj hb29
             subst hqb29
             simp (maxSteps := 1000000) only [↓reduceIte, reduceCtorEq, Nat.reduceEqDiff, Nat.reduceLT, Nat.reduceLeDiff, Nat.reduceAdd, Nat.reduceMul, Int.reduceToNat, push_cast, ↓hg30, ↓hqb18, ↓hqb19, ↓hqb20, ↓hqb21, ↓hqb22, ↓hqb23, ↓hqb24, he25a, he25b, he25c, he25, ↓hqb26]
             try simp only [↓hg30, ↓hqb18, ↓hqb19, ↓hqb20, ↓hqb21, ↓hqb22, ↓hqb23, ↓hqb24, ↓hqb26] at hK
             all_goals exact rU
            | true =>
             replace hb29 := iB hb29 rfl
             obtain ⟨e27, he27, hb29⟩ := eA hb29
             have he27b := (fB he27).2.1
             have he27c := (nH 0 he27 rfl).1
             have he27a := (nH 0 he27 rfl).2
             obtain rfl := Option.some.inj (he25.symm.trans he27)
             obtain ⟨e28, he28, hb29⟩ := eA hb29
             have he28b := (fB he28).2.1
             have he28c := (nH 0 he28 rfl).1
             have he28a := (nH 0 he28 rfl).2
             have hqb29 := Option.some.inj hb29
             subst hqb29
             simp (maxSteps := 1000000) only [↓reduceIte, reduceCtorEq, Nat.reduceEqDiff, Nat.reduceLT, Nat.reduceLeDiff, Nat.reduceAdd, Nat.reduceMul, Int.reduceToNat, push_cast, ↓hg30, ↓hqb18, ↓hqb19, ↓hqb20, ↓hqb21, ↓hqb22, ↓hqb23, ↓hqb24, he25a, he25b, he25c, he25, ↓hqb26, he27a, he27b, he27c, he27, he28a, he28b, he28c, he28]
             try simp only [↓hg30, ↓hqb18, ↓hqb19, ↓hqb20, ↓hqb21, ↓hqb22, ↓hqb23, ↓hqb24, ↓hqb26] at hK
             all_goals exact rU) ?_
  refine jA ?_
  obtain rfl := Option.some.inj h0
  refine nA [] ?_
  exact rG
theorem zlQ {fu : Nat} {l1 : List aA} {r : Bool} (h0 : pW fu l1 = some r) : lB Try.prog 38 [.psl 4 (l1.map aA.enc)] (.bool r) [] := by
 refine sB Try.func38 rfl (by decide) rL ?_
 dsimp only [Try.f38]
 rw [pW] at h0
 refine (show pA _ _ _ _ ⟨kB 0 _, [], 0, []⟩ from ?_)
 refine xS 8 [0] ?_
 refine kA ?_
 refine xS 16 [0, 3] ?_
 obtain ⟨x17, hxx17, h0⟩ := eA h0
 refine lD (fun s' => ∃ o26 : Unit, x17 = .inl o26 ∧ s'.nx ≤ 80 ∧ LeN [] s' ⟨[(0, .psl 4 (List.map aA.enc l1))], [], 80, []⟩) ?_ ?_
 ·
  intro s' hs
  obtain ⟨o26, rfl, hn, hs⟩ := hs
  refine gA ?_
  refine zB [] hn hs ?_
  refine xS 112 [2] ?_
  refine jA ?_
  obtain rfl := Option.some.inj h0
  refine nA [] ?_
  exact rG
 ·
  refine kD (ι := { p : Nat × Int // rJ l1 p.1 p.2 = some x17 }) (fun p => ⟨[(0, .psl 4 (List.map aA.enc l1)), (3, .int .i64 p.1.2)], [], 16, []⟩) (fun p => p.1.1) ⟨(fu, 0), hxx17⟩ ⟨rF, rE, rfl, rfl, trivial, trivial⟩ (fun _ => Nat.le_refl _) ?_
  rintro ⟨⟨fu, i18⟩, h1⟩
  cases fu with
  | zero =>
   replace h1 : rJ l1 0 i18 = some x17 := h1
   rw [rJ] at h1; cases h1
  | succ fu =>
   replace h1 : rJ l1 (fu + 1) i18 = some x17 := h1
   rw [rJ] at h1
   refine (show pA _ _ _ _ ⟨[(0, .psl 4 (List.map aA.enc l1)), (3, .int .i64 i18)], [], 16, []⟩ from ?_)
   refine kA ?_
   obtain ⟨b19, hb19, h1⟩ := eA h1
   refine dD (fr' := [(0, .psl 4 (List.map aA.enc l1)), (3, .int .i64 i18), (11, .bool b19)]) (hp' := []) [] 80 [0, 3, 11] (fun _ => none) rfl (fun Kt hK => by
     cases hg20 : (decide (i18 < (l1.length : Int))) with
     | false =>
      replace hb19 := vA hb19 hg20
      have hqb19 := Option.some.inj hb19
      subst hqb19
      simp (maxSteps := 1000000) only [↓reduceIte, reduceCtorEq, Nat.reduceEqDiff, Nat.reduceLT, Nat.reduceLeDiff, Nat.reduceAdd, Nat.reduceMul, Int.reduceToNat, push_cast, ↓hg20]
      try simp only [↓hg20] at hK
      all_goals exact rU
     | true =>
      replace hb19 := iB hb19 hg20
      have hqb19 := Option.some.inj hb19
      subst hqb19
      simp (maxSteps := 1000000) only [↓reduceIte, reduceCtorEq, Nat.reduceEqDiff, Nat.reduceLT, Nat.reduceLeDiff, Nat.reduceAdd, Nat.reduceMul, Int.reduceToNat, push_cast, ↓hg20]
      try simp only [↓hg20] at hK
      all_goals exact rU) ?_
   refine xI h1 rfl (fun h1 hb21 => ?_) (fun h1 hb21 => ?_)
   ·
    refine qA (gA (kA (jC ?_)))
    obtain ⟨e22, he22, h1⟩ := eA h1
    obtain ⟨he22a, he22b, he22c⟩ := fB he22
    obtain ⟨b23, hb23, h1⟩ := eA h1
    refine dD (fr' := [(0, .psl 4 (List.map aA.enc l1)), (3, .int .i64 i18), (29, .bool b23)]) (hp' := []) [] 208 [0, 3, 29] (fun _ => none) rfl (fun Kt hK => by
      cases hg24 : (decide (100 < (e22.Key.length : Int))) with
      | false =>
       replace hb23 := vA hb23 hg24
       have hqb23 := Option.some.inj hb23
       subst hqb23
       simp (maxSteps := 1000000) only [↓reduceIte, reduceCtorEq, Nat.reduceEqDiff, Nat.reduceLT, Nat.reduceLeDiff, Nat.reduceAdd, Nat.reduceMul, Int.reduceToNat, push_cast, he22a, he22b, he22c, ↓hg24]
       try simp only [↓hg24] at hK
       all_goals exact rU
      | true =>
       replace hb23 := iB hb23 hg24
       have hqb23 := Option.some.inj hb23
       subst hqb23
       simp (maxSteps := 1000000) only [↓reduceIte, reduceCtorEq, Nat.reduceEqDiff, Nat.reduceLT, Nat.reduceLeDiff, Nat.reduceAdd, Nat.reduceMul, Int.reduceToNat, push_cast, he22a, he22b, he22c, ↓hg24]
       try simp only [↓hg24] at hK
       all_goals exact rU) ?_
    refine xI h1 rfl (fun h1 hb25 => ?_) (fun h1 hb25 => ?_)
    ·
     refine oA 216 [2] (fun _ => none) rfl (fun _ _ => rS (rA he22a (rA he22b he22c))) ?_
     refine jA ?_
     obtain rfl := Option.some.inj h1
     refine kC (mA (mA (uD (mA ?_))))
     obtain rfl := Option.some.inj h0
     refine nA [] ?_
     simp (maxSteps := 1000000) only [↓reduceIte, reduceCtorEq, Nat.reduceEqDiff, Nat.reduceLT, Nat.reduceLeDiff, Nat.reduceAdd, Nat.reduceMul, Int.reduceToNat, push_cast, lC, he22a, he22b, he22c]
     all_goals exact rH
    ·
     refine qA (cC (gA ?_))
     refine iC 232 [0, 3] (fun _ => none) rfl (fun _ _ => rS (rA he22a (rA he22b he22c))) ?_
     refine gA ?_
     exact ⟨⟨(fu, (IntKind.i64.wrap (i18 + 1))), h1⟩, ⟨rF, rE, rfl, rfl, trivial, trivial⟩, Nat.lt_succ_self _⟩
   ·
    refine vC (jB (jB (bD ?_)))
    obtain rfl := Option.some.inj h1
    exact ⟨_, rfl, rL, ⟨rF, rE, rfl, rfl, trivial, trivial⟩⟩
theorem zl4 {fu : Nat} {l1 : List eB} {r : Bool} (h0 : wU fu l1 = some r) : lB Try.prog 18 [.psl 2 (l1.map eB.enc)] (.bool r) [] := by
 refine sB Try.func18 rfl (by decide) rL ?_
 dsimp only [Try.f18]
 rw [wU] at h0
 refine (show pA _ _ _ _ ⟨kB 0 _, [], 0, []⟩ from ?_)
 refine xS 8 [0] ?_
 refine kA ?_
 refine xS 16 [0, 3] ?_
 obtain ⟨x15, hxx15, h0⟩ := eA h0
 refine lD (fun s' => ∃ o23 : Unit, x15 = .inl o23 ∧ s'.nx ≤ 80 ∧ LeN [] s' ⟨[(0, .psl 2 (List.map eB.enc l1))], [], 80, []⟩) ?_ ?_
 ·
  intro s' hs
  obtain ⟨o23, rfl, hn, hs⟩ := hs
  refine gA ?_
  refine zB [] hn hs ?_
  refine xS 112 [2] ?_
  refine jA ?_
  obtain rfl := Option.some.inj h0
  refine nA [] ?_
  exact rG
 ·
  refine kD (ι := { p : Nat × Int // iK l1 p.1 p.2 = some x15 }) (fun p => ⟨[(0, .psl 2 (List.map eB.enc l1)), (3, .int .i64 p.1.2)], [], 16, []⟩) (fun p => p.1.1) ⟨(fu, 0), hxx15⟩ ⟨rF, rE, rfl, rfl, trivial, trivial⟩ (fun _ => Nat.le_refl _) ?_
  rintro ⟨⟨fu, i16⟩, h1⟩
  cases fu with
  | zero =>
   replace h1 : iK l1 0 i16 = some x15 := h1
   rw [iK] at h1; cases h1
  | succ fu =>
   replace h1 : iK l1 (fu + 1) i16 = some x15 := h1
   rw [iK] at h1
   refine (show pA _ _ _ _ ⟨[(0, .psl 2 (List.map eB.enc l1)), (3, .int .i64 i16)], [], 16, []⟩ from ?_)
   refine kA ?_
   obtain ⟨b17, hb17, h1⟩ := eA h1
   refine dD (fr' := [(0, .psl 2 (List.map eB.enc l1)), (3, .int .i64 i16), (11, .bool b17)]) (hp' := []) [] 80 [0, 3, 11] (fun _ => none) rfl (fun Kt hK => by
     cases hg18 : (decide (i16 < (l1.length : Int))) with
     | false =>
      replace hb17 := vA hb17 hg18
      have hqb17 := Option.some.inj hb17
      subst hqb17
      simp (maxSteps := 1000000) only [↓reduceIte, reduceCtorEq, Nat.reduceEqDiff, Nat.reduceLT, Nat.reduceLeDiff, Nat.reduceAdd, Nat.reduceMul, Int.reduceToNat, push_cast, ↓hg18]
      try simp only [↓hg18] at hK
      all_goals exact rU
     | true =>
      replace hb17 := iB hb17 hg18
      have hqb17 := Option.some.inj hb17
      subst hqb17
      simp (maxSteps := 1000000) only [↓reduceIte, reduceCtorEq, Nat.reduceEqDiff, Nat.reduceLT, Nat.reduceLeDiff, Nat.reduceAdd, Nat.reduceMul, Int.reduceToNat, push_cast, ↓hg18]
      try simp only [↓hg18] at hK
      all_goals exact rU) ?_
   refine xI h1 rfl (fun h1 hb19 => ?_) (fun h1 hb19 => ?_)
   ·
    refine qA (gA (kA (jC ?_)))
    obtain ⟨e20, he20, h1⟩ := eA h1
    obtain ⟨he20a, he20b, he20c⟩ := fB he20
    obtain ⟨vr21, hvr21, h1⟩ := eA h1
    refine oA 128 [0, 3, 19] (fun | 5 => some (.bool vr21, []) | _ => none) rfl (fun _ _ => rB (rA he20a (rA he20b he20c)) (zlQ hvr21)) ?_
    refine xI h1 rfl (fun h1 hb22 => ?_) (fun h1 hb22 => ?_)
    ·
     refine oA 136 [2] (fun _ => none) rfl (fun _ _ => rS (rA he20a (rA he20b he20c))) ?_
     refine jA ?_
     obtain rfl := Option.some.inj h1
     refine kC (mA (mA (uD (mA ?_))))
     obtain rfl := Option.some.inj h0
     refine nA [] ?_
     simp (maxSteps := 1000000) only [↓reduceIte, reduceCtorEq, Nat.reduceEqDiff, Nat.reduceLT, Nat.reduceLeDiff, Nat.reduceAdd, Nat.reduceMul, Int.reduceToNat, push_cast, lC, he20a, he20b, he20c]
     all_goals exact rH
    ·
     refine qA (cC (gA ?_))
     refine iC 152 [0, 3] (fun _ => none) rfl (fun _ _ => rS (rA he20a (rA he20b he20c))) ?_
     refine gA ?_
     exact ⟨⟨(fu, (IntKind.i64.wrap (i16 + 1))), h1⟩, ⟨rF, rE, rfl, rfl, trivial, trivial⟩, Nat.lt_succ_self _⟩
   ·
    refine vC (jB (jB (bD ?_)))
    obtain rfl := Option.some.inj h1
    exact ⟨_, rfl, rL, ⟨rF, rE, rfl, rfl, trivial, trivial⟩⟩
theorem zdd {fu : Nat} {l1 : dB} {r : Bool} (h0 : dT fu l1 = some r) : lB Try.prog 6 [.agg (dB.enc l1)] (.bool r) [] := by
 refine sB Try.func6 rfl (by decide) rL ?_
 dsimp only [Try.f6]
 rw [dT] at h0
 refine (show pA _ _ _ _ ⟨kB 0 _, [], 0, []⟩ from ?_)
 refine xS 16 [1] ?_
 refine kA ?_
 refine xS 24 [1, 3] ?_
 obtain ⟨x15, hxx15, h0⟩ := eA h0
 refine lD (fun s' => ∃ o23 : Unit, x15 = .inl o23 ∧ s'.nx ≤ 96 ∧ LeN [] s' ⟨[(1, .ref 0 0 0 0)], [(0, ⟨0, true, true, 2, [[.int .i64 l1.B, .psl 1 (List.map sA.enc l1.Levels)]]⟩)], 96, []⟩) ?_ ?_
 ·
  intro s' hs
  obtain ⟨o23, rfl, hn, hs⟩ := hs
  refine gA ?_
  refine zB [] hn hs ?_
  refine xS 136 [2] ?_
  refine jA ?_
  obtain rfl := Option.some.inj h0
  refine nA [] ?_
  exact rG
 ·
  refine kD (ι := { p : Nat × Int // gK l1 p.1 p.2 = some x15 }) (fun p => ⟨[(1, .ref 0 0 0 0), (3, .int .i64 p.1.2)], [(0, ⟨0, true, true, 2, [[.int .i64 l1.B, .psl 1 (List.map sA.enc l1.Levels)]]⟩)], 24, []⟩) (fun p => p.1.1) ⟨(fu, 0), hxx15⟩ ⟨rF, rE, rfl, rfl, trivial, trivial⟩ (fun _ => Nat.le_refl _) ?_
  rintro ⟨⟨fu, i16⟩, h1⟩
  cases fu with
  | zero =>
   replace h1 : gK l1 0 i16 = some x15 := h1
   rw [gK] at h1; cases h1
  | succ fu =>
   replace h1 : gK l1 (fu + 1) i16 = some x15 := h1
   rw [gK] at h1
   refine (show pA _ _ _ _ ⟨[(1, .ref 0 0 0 0), (3, .int .i64 i16)], [(0, ⟨0, true, true, 2, [[.int .i64 l1.B, .psl 1 (List.map sA.enc l1.Levels)]]⟩)], 24, []⟩ from ?_)
   refine kA ?_
   obtain ⟨b17, hb17, h1⟩ := eA h1
   refine dD (fr' := [(1, .ref 0 0 0 0), (3, .int .i64 i16), (12, .bool b17)]) (hp' := [(0, ⟨0, true, true, 2, [[.int .i64 l1.B, .psl 1 (List.map sA.enc l1.Levels)]]⟩)]) [0] 96 [1, 3, 12] (fun _ => none) rfl (fun Kt hK => by
     cases hg18 : (decide (i16 < (l1.Levels.length : Int))) with
     | false =>
      replace hb17 := vA hb17 hg18
      have hqb17 := Option.some.inj hb17
      subst hqb17
      simp (maxSteps := 1000000) only [↓reduceIte, reduceCtorEq, Nat.reduceEqDiff, Nat.reduceLT, Nat.reduceLeDiff, Nat.reduceAdd, Nat.reduceMul, Int.reduceToNat, push_cast, ↓hg18]
      try simp only [↓hg18] at hK
      all_goals exact rU
     | true =>
      replace hb17 := iB hb17 hg18
      have hqb17 := Option.some.inj hb17
      subst hqb17
      simp (maxSteps := 1000000) only [↓reduceIte, reduceCtorEq, Nat.reduceEqDiff, Nat.reduceLT, Nat.reduceLeDiff, Nat.reduceAdd, Nat.reduceMul, Int.reduceToNat, push_cast, ↓hg18]
      try simp only [↓hg18] at hK
      all_goals exact rU) ?_
   refine xI h1 rfl (fun h1 hb19 => ?_) (fun h1 hb19 => ?_)
   ·
    refine qA (gA (kA (jC ?_)))
    obtain ⟨e20, he20, h1⟩ := eA h1
    obtain ⟨he20a, he20b, he20c⟩ := fB he20
    obtain ⟨vr21, hvr21, h1⟩ := eA h1
    refine oA 152 [1, 3, 21] (fun | 6 => some (.bool vr21, []) | _ => none) rfl (fun _ _ => rB (rA he20a (rA he20b he20c)) (zl4 hvr21)) ?_
    refine xI h1 rfl (fun h1 hb22 => ?_) (fun h1 hb22 => ?_)
    ·
     refine oA 160 [2] (fun _ => none) rfl (fun _ _ => rS (rA he20a (rA he20b he20c))) ?_
     refine jA ?_
     obtain rfl := Option.some.inj h1
     refine kC (mA (mA (uD (mA ?_))))
     obtain rfl := Option.some.inj h0
     refine nA [] ?_
     simp (maxSteps := 1000000) only [↓reduceIte, reduceCtorEq, Nat.reduceEqDiff, Nat.reduceLT, Nat.reduceLeDiff, Nat.reduceAdd, Nat.reduceMul, Int.reduceToNat, push_cast, lC, he20a, he20b, he20c]
     all_goals exact rH
    ·
     refine qA (cC (gA ?_))
     refine iC 176 [1, 3] (fun _ => none) rfl (fun _ _ => rS (rA he20a (rA he20b he20c))) ?_
     refine gA ?_
     exact ⟨⟨(fu, (IntKind.i64.wrap (i16 + 1))), h1⟩, ⟨rF, rE, rfl, rfl, trivial, trivial⟩, Nat.lt_succ_self _⟩
   ·
    refine vC (jB (jB (bD ?_)))
    obtain rfl := Option.some.inj h1
    exact ⟨_, rfl, rL, ⟨rF, rE, rfl, rfl, trivial, trivial⟩⟩
theorem oR {fu : Nat} {l1 : List aA} {r : Bool} (h0 : iT fu l1 = some r) : lB Try.prog 35 [.psl 4 (l1.map aA.enc)] (.bool r) [] := by
 refine sB Try.func35 rfl (by decide) rL ?_
 dsimp only [Try.f35]
 rw [iT] at h0
 refine (show pA _ _ _ _ ⟨kB 0 _, [], 0, []⟩ from ?_)
 refine xS 8 [0] ?_
 refine kA ?_
 refine xS 16 [0, 3] ?_
 obtain ⟨x17, hxx17, h0⟩ := eA h0
 refine lD (fun s' => ∃ o26 : Unit, x17 = .inl o26 ∧ s'.nx ≤ 80 ∧ LeN [] s' ⟨[(0, .psl 4 (List.map aA.enc l1))], [], 80, []⟩) ?_ ?_
 ·
  intro s' hs
  obtain ⟨o26, rfl, hn, hs⟩ := hs
  refine gA ?_
  refine zB [] hn hs ?_
  refine xS 112 [2] ?_
  refine jA ?_
  obtain rfl := Option.some.inj h0
  refine nA [] ?_
  exact rG
 ·
  refine kD (ι := { p : Nat × Int // uJ l1 p.1 p.2 = some x17 }) (fun p => ⟨[(0, .psl 4 (List.map aA.enc l1)), (3, .int .i64 p.1.2)], [], 16, []⟩) (fun p => p.1.1) ⟨(fu, 0), hxx17⟩ ⟨rF, rE, rfl, rfl, trivial, trivial⟩ (fun _ => Nat.le_refl _) ?_
  rintro ⟨⟨fu, i18⟩, h1⟩
  cases fu with
  | zero =>
   replace h1 : uJ l1 0 i18 = some x17 := h1
   rw [uJ] at h1; cases h1
  | succ fu =>
   replace h1 : uJ l1 (fu + 1) i18 = some x17 := h1
   rw [uJ] at h1
   refine (show pA _ _ _ _ ⟨[(0, .psl 4 (List.map aA.enc l1)), (3, .int .i64 i18)], [], 16, []⟩ from ?_)
   refine kA ?_
   obtain ⟨b19, hb19, h1⟩ := eA h1
   refine dD (fr' := [(0, .psl 4 (List.map aA.enc l1)), (3, .int .i64 i18), (11, .bool b19)]) (hp' := []) [] 80 [0, 3, 11] (fun _ => none) rfl (fun Kt hK => by
     cases hg20 : (decide (i18 < (l1.length : Int))) with
     | false =>
      replace hb19 := vA hb19 hg20
      have hqb19 := Option.some.inj hb19
      subst hqb19
      simp (maxSteps := 1000000) only [↓reduceIte, reduceCtorEq, Nat.reduceEqDiff, Nat.reduceLT, Nat.reduceLeDiff, Nat.reduceAdd, Nat.reduceMul, Int.reduceToNat, push_cast, ↓hg20]
      try simp only [↓hg20] at hK
      all_goals exact rU
     | true =>
      replace hb19 := iB hb19 hg20
      have hqb19 := Option.some.inj hb19
      subst hqb19
      simp (maxSteps := 1000000) only [↓reduceIte, reduceCtorEq, Nat.reduceEqDiff, Nat.reduceLT, Nat.reduceLeDiff, Nat.reduceAdd, Nat.reduceMul, Int.reduceToNat, push_cast, ↓hg20]
      try simp only [↓hg20] at hK
      all_goals exact rU) ?_
   refine xI h1 rfl (fun h1 hb21 => ?_) (fun h1 hb21 => ?_)
   ·
    refine qA (gA (kA (jC ?_)))
    obtain ⟨e22, he22, h1⟩ := eA h1
    obtain ⟨he22a, he22b, he22c⟩ := fB he22
    obtain ⟨b23, hb23, h1⟩ := eA h1
    refine dD (fr' := [(0, .psl 4 (List.map aA.enc l1)), (3, .int .i64 i18), (29, .bool b23)]) (hp' := []) [] 208 [0, 3, 29] (fun _ => none) rfl (fun Kt hK => by
      cases hg24 : (decide (100 < (e22.Key.length : Int))) with
      | false =>
       replace hb23 := vA hb23 hg24
       have hqb23 := Option.some.inj hb23
       subst hqb23
       simp (maxSteps := 1000000) only [↓reduceIte, reduceCtorEq, Nat.reduceEqDiff, Nat.reduceLT, Nat.reduceLeDiff, Nat.reduceAdd, Nat.reduceMul, Int.reduceToNat, push_cast, he22a, he22b, he22c, ↓hg24]
       try simp only [↓hg24] at hK
       all_goals exact rU
      | true =>
       replace hb23 := iB hb23 hg24
       have hqb23 := Option.some.inj hb23
       subst hqb23
       simp (maxSteps := 1000000) only [↓reduceIte, reduceCtorEq, Nat.reduceEqDiff, Nat.reduceLT, Nat.reduceLeDiff, Nat.reduceAdd, Nat.reduceMul, Int.reduceToNat, push_cast, he22a, he22b, he22c, ↓hg24]
       try simp only [↓hg24] at hK
       all_goals exact rU) ?_
    refine xI h1 rfl (fun h1 hb25 => ?_) (fun h1 hb25 => ?_)
    ·
     refine oA 216 [2] (fun _ => none) rfl (fun _ _ => rS (rA he22a (rA he22b he22c))) ?_
     refine jA ?_
     obtain rfl := Option.some.inj h1
     refine kC (mA (mA (uD (mA ?_))))
     obtain rfl := Option.some.inj h0
     refine nA [] ?_
     simp (maxSteps := 1000000) only [↓reduceIte, reduceCtorEq, Nat.reduceEqDiff, Nat.reduceLT, Nat.reduceLeDiff, Nat.reduceAdd, Nat.reduceMul, Int.reduceToNat, push_cast, lC, he22a, he22b, he22c]
     all_goals exact rH
    ·
     refine qA (cC (gA ?_))
     refine iC 232 [0, 3] (fun _ => none) rfl (fun _ _ => rS (rA he22a (rA he22b he22c))) ?_
     refine gA ?_
     exact ⟨⟨(fu, (IntKind.i64.wrap (i18 + 1))), h1⟩, ⟨rF, rE, rfl, rfl, trivial, trivial⟩, Nat.lt_succ_self _⟩
   ·
    refine vC (jB (jB (bD ?_)))
    obtain rfl := Option.some.inj h1
    exact ⟨_, rfl, rL, ⟨rF, rE, rfl, rfl, trivial, trivial⟩⟩
theorem zjJ {fu : Nat} {vs1 : bB} {r : Bool} (h0 : iV fu vs1 = some r) : lB Try.prog 15 [.agg (bB.enc vs1)] (.bool r) [] := by
 refine sB Try.func15 rfl (by decide) rL ?_
 dsimp only [Try.f15, List.append]
 rw [iV] at h0
 refine (show pA _ _ _ _ ⟨kB 0 _, [], 0, []⟩ from ?_)
 refine xS 16 [1] ?_
 refine kA ?_
 refine xS 24 [1, 3] ?_
 obtain ⟨x99, hxx99, h0⟩ := eA h0
 refine lD (fun s' => ∃ o149 : Unit, x99 = .inl o149 ∧ s'.nx ≤ 96 ∧ LeN [] s' ⟨[(1, .ref 0 0 0 0)], [(0, ⟨0, true, true, 4, [[.int .i64 vs1.Levels.B, .psl 1 (List.map sA.enc vs1.Levels.Levels), .psl 11 (List.map xA.enc vs1.Jobs), .int .i64 vs1.NextId]]⟩)], 96, []⟩) ?_ ?_
 ·
  intro s' hs
  obtain ⟨o149, rfl, hn, hs⟩ := hs
  refine gA ?_
  refine zB [] hn hs ?_
  obtain ⟨b151, hb151, h0⟩ := eA h0
  refine dD (fr' := [(2, .bool b151)]) (hp' := [(0, ⟨0, true, true, 4, [[.int .i64 vs1.Levels.B, .psl 1 (List.map sA.enc vs1.Levels.Levels), .psl 11 (List.map xA.enc vs1.Jobs), .int .i64 vs1.NextId]]⟩)]) [0] 176 [2] (fun | 7 => (dT fu vs1.Levels).bind fun vr150 => some (.bool vr150, []) | _ => none) rfl (fun Kt hK => by
    cases hg152 : (decide (14 < (vs1.Jobs.length : Int))) with
    | false =>
     replace hb151 := vA hb151 hg152
     obtain ⟨vr150, hvr150, hb151⟩ := eA hb151
     have hqb151 := Option.some.inj hb151
     subst hqb151
     simp (maxSteps := 1000000) only [↓reduceIte, reduceCtorEq, Nat.reduceEqDiff, Nat.reduceLT, Nat.reduceLeDiff, Nat.reduceAdd, Nat.reduceMul, Int.reduceToNat, push_cast, ↓hg152, hvr150]
     try simp only [↓hg152] at hK
     try have q0 := zdd hvr150
     all_goals exact rU
    | true =>
     replace hb151 := iB hb151 hg152
     have hqb151 := Option.some.inj hb151
     subst hqb151
     simp (maxSteps := 1000000) only [↓reduceIte, reduceCtorEq, Nat.reduceEqDiff, Nat.reduceLT, Nat.reduceLeDiff, Nat.reduceAdd, Nat.reduceMul, Int.reduceToNat, push_cast, ↓hg152]
     try simp only [↓hg152] at hK
     try have q0 := zdd hvr150
     all_goals exact rU) ?_
  refine jA ?_
  obtain rfl := Option.some.inj h0
  refine nA [] ?_
  exact rG
 ·
  refine kD (ι := { p : Nat × Int // nJ vs1 p.1 p.2 = some x99 }) (fun p => ⟨[(1, .ref 0 0 0 0), (3, .int .i64 p.1.2)], [(0, ⟨0, true, true, 4, [[.int .i64 vs1.Levels.B, .psl 1 (List.map sA.enc vs1.Levels.Levels), .psl 11 (List.map xA.enc vs1.Jobs), .int .i64 vs1.NextId]]⟩)], 24, []⟩) (fun p => p.1.1) ⟨(fu, 0), hxx99⟩ ⟨rF, rE, rfl, rfl, trivial, trivial⟩ (fun _ => Nat.le_refl _) ?_
  rintro ⟨⟨fu, i100⟩, h1⟩
  cases fu with
  | zero =>
   replace h1 : nJ vs1 0 i100 = some x99 := h1
   rw [nJ] at h1; cases h1
  | succ fu =>
   replace h1 : nJ vs1 (fu + 1) i100 = some x99 := h1
   rw [nJ] at h1
   refine (show pA _ _ _ _ ⟨[(1, .ref 0 0 0 0), (3, .int .i64 i100)], [(0, ⟨0, true, true, 4, [[.int .i64 vs1.Levels.B, .psl 1 (List.map sA.enc vs1.Levels.Levels), .psl 11 (List.map xA.enc vs1.Jobs), .int .i64 vs1.NextId]]⟩)], 24, []⟩ from ?_)
   refine kA ?_
   obtain ⟨b101, hb101, h1⟩ := eA h1
   refine dD (fr' := [(1, .ref 0 0 0 0), (3, .int .i64 i100), (14, .bool b101)]) (hp' := [(0, ⟨0, true, true, 4, [[.int .i64 vs1.Levels.B, .psl 1 (List.map sA.enc vs1.Levels.Levels), .psl 11 (List.map xA.enc vs1.Jobs), .int .i64 vs1.NextId]]⟩)]) [0] 96 [1, 3, 14] (fun _ => none) rfl (fun Kt hK => by
     cases hg102 : (decide (i100 < (vs1.Jobs.length : Int))) with
     | false =>
      replace hb101 := vA hb101 hg102
      have hqb101 := Option.some.inj hb101
      subst hqb101
      simp (maxSteps := 1000000) only [↓reduceIte, reduceCtorEq, Nat.reduceEqDiff, Nat.reduceLT, Nat.reduceLeDiff, Nat.reduceAdd, Nat.reduceMul, Int.reduceToNat, push_cast, ↓hg102]
      try simp only [↓hg102] at hK
      all_goals exact rU
     | true =>
      replace hb101 := iB hb101 hg102
      have hqb101 := Option.some.inj hb101
      subst hqb101
      simp (maxSteps := 1000000) only [↓reduceIte, reduceCtorEq, Nat.reduceEqDiff, Nat.reduceLT, Nat.reduceLeDiff, Nat.reduceAdd, Nat.reduceMul, Int.reduceToNat, push_cast, ↓hg102]
      try simp only [↓hg102] at hK
      all_goals exact rU) ?_
   refine xI h1 rfl (fun h1 hb103 => ?_) (fun h1 hb103 => ?_)
   ·
    refine qA (gA (kA (jC ?_)))
    obtain ⟨e104, he104, h1⟩ := eA h1
    obtain ⟨he104a, he104b, he104c⟩ := fB he104
    refine oA 160 [1, 3, 4] (fun _ => none) rfl (fun _ _ => rS (rA he104a (rA he104b he104c))) ?_
    refine kA ?_
    refine oA 168 [1, 3, 4, 5] (fun _ => none) rfl (fun _ _ => rS (rA he104a (rA he104b he104c))) ?_
    obtain ⟨x118, hxx118, h1⟩ := eA h1
    refine lD (fun s' => ∃ o126 : Unit, x118 = .inl o126 ∧ s'.nx ≤ 248 ∧ LeN [] s' ⟨[(1, .ref 0 0 0 0), (3, .int .i64 i100), (4, .ref 144 0 0 0)], [(0, ⟨0, true, true, 4, [[.int .i64 vs1.Levels.B, .psl 1 (List.map sA.enc vs1.Levels.Levels), .psl 11 (List.map xA.enc vs1.Jobs), .int .i64 vs1.NextId]]⟩), (144, ⟨0, true, true, 10, [[.psl 1 (List.map (wA 4 aA.enc) e104.Work.Merge.Runs), .psl 1 (List.map (iA .i64) e104.Work.Merge.At), .psl 2 (List.map cA.enc e104.Work.Merge.Tree.Keys), .psl 1 (List.map (iA .i64) e104.Work.Merge.Tree.Lose), .int .i64 e104.Work.Merge.Tree.Win, .bool e104.Work.Shadow.Some, .str e104.Work.Shadow.Last, .bool e104.Work.Shadow.Bottom, .psl 4 (List.map aA.enc e104.Work.Out), .int .i64 e104.Work.Steps]]⟩)], 248, []⟩) ?_ ?_
    ·
     intro s' hs
     obtain ⟨o126, rfl, hn, hs⟩ := hs
     refine gA ?_
     refine zB [] hn hs ?_
     obtain ⟨vr127, hvr127, h1⟩ := eA h1
     obtain ⟨b128, hb128, h1⟩ := eA h1
     obtain ⟨b129, hb129, h1⟩ := eA h1
     obtain ⟨b130, hb130, h1⟩ := eA h1
     obtain ⟨b131, hb131, h1⟩ := eA h1
     obtain ⟨b132, hb132, h1⟩ := eA h1
     refine dD (fr' := [(1, .ref 0 0 0 0), (3, .int .i64 i100), (81, .bool b132)]) (hp' := [(0, ⟨0, true, true, 4, [[.int .i64 vs1.Levels.B, .psl 1 (List.map sA.enc vs1.Levels.Levels), .psl 11 (List.map xA.enc vs1.Jobs), .int .i64 vs1.NextId]]⟩), (144, ⟨0, true, true, 10, [[.psl 1 (List.map (wA 4 aA.enc) e104.Work.Merge.Runs), .psl 1 (List.map (iA .i64) e104.Work.Merge.At), .psl 2 (List.map cA.enc e104.Work.Merge.Tree.Keys), .psl 1 (List.map (iA .i64) e104.Work.Merge.Tree.Lose), .int .i64 e104.Work.Merge.Tree.Win, .bool e104.Work.Shadow.Some, .str e104.Work.Shadow.Last, .bool e104.Work.Shadow.Bottom, .psl 4 (List.map aA.enc e104.Work.Out), .int .i64 e104.Work.Steps]]⟩)]) [0, 144] 568 [1, 3, 81] (fun | 2 => some (.bool vr127, []) | _ => none) rfl (fun Kt hK => by
       cases vr127 with
       | false =>
        replace hb128 := vA hb128 rfl
        have hqb128 := Option.some.inj hb128
        cases b128 with
        | false =>
         replace hb129 := vA hb129 rfl
         have hqb129 := Option.some.inj hb129
         cases b129 with
         | false =>
          replace hb130 := vA hb130 rfl
          have hqb130 := Option.some.inj hb130
          cases b130 with
          | false =>
           replace hb131 := vA hb131 rfl
           have hqb131 := Option.some.inj hb131
           cases b131 with
           | false =>
            replace hb132 := vA hb132 rfl
            have hqb132 := Option.some.inj hb132
            subst hqb132
            simp (maxSteps := 1000000) only [↓reduceIte, reduceCtorEq, Nat.reduceEqDiff, Nat.reduceLT, Nat.reduceLeDiff, Nat.reduceAdd, Nat.reduceMul, Int.reduceToNat, push_cast, he104a, he104b, he104c, ↓hqb128, ↓hqb129, ↓hqb130, ↓hqb131]
            try simp only [↓hqb128, ↓hqb129, ↓hqb130, ↓hqb131] at hK
            try have q0 := oR hvr127
            all_goals exact rU
           | true =>
            replace hb132 := iB hb132 rfl
            have hqb132 := Option.some.inj hb132
            subst hqb132
            simp (maxSteps := 1000000) only [↓reduceIte, reduceCtorEq, Nat.reduceEqDiff, Nat.reduceLT, Nat.reduceLeDiff, Nat.reduceAdd, Nat.reduceMul, Int.reduceToNat, push_cast, he104a, he104b, he104c, ↓hqb128, ↓hqb129, ↓hqb130, ↓hqb131]
            try simp only [↓hqb128, ↓hqb129, ↓hqb130, ↓hqb131] at hK
            try have q0 := oR hvr127
            all_goals exact rU
          | true =>
           replace hb131 := iB hb131 rfl
           have hqb131 := Option.some.inj hb131
           cases b131 with
           | false =>
            cases hqb131
           | true =>
            replace hb132 := iB hb132 rfl
            have hqb132 := Option.some.inj hb132
            subst hqb132
            simp (maxSteps := 1000000) only [↓reduceIte, reduceCtorEq, Nat.reduceEqDiff, Nat.reduceLT, Nat.reduceLeDiff, Nat.reduceAdd, Nat.reduceMul, Int.reduceToNat, push_cast, he104a, he104b, he104c, ↓hqb128, ↓hqb129, ↓hqb130]
            try simp only [↓hqb128, ↓hqb129, ↓hqb130] at hK
            try have q0 := oR hvr127
            all_goals exact rU
         | true =>
          replace hb130 := iB hb130 rfl
          have hqb130 := Option.some.inj hb130
          cases b130 with
          | false =>
           cases hqb130
          | true =>
           replace hb131 := iB hb131 rfl
           have hqb131 := Option.some.inj hb131
           cases b131 with
           | false =>
            cases hqb131
           | true =>
            replace hb132 := iB hb132 rfl
            have hqb132 := Option.some.inj hb132
            subst hqb132
            simp (maxSteps := 1000000) only [↓reduceIte, reduceCtorEq, Nat.reduceEqDiff, Nat.reduceLT, Nat.reduceLeDiff, Nat.reduceAdd, Nat.reduceMul, Int.reduceToNat, push_cast, he104a, he104b, he104c, ↓hqb128, ↓hqb129]
            try simp only [↓hqb128, ↓hqb129] at hK
            try have q0 := oR hvr127
            all_goals exact rU
        | true =>
         replace hb129 := iB hb129 rfl
         have hqb129 := Option.some.inj hb129
         cases b129 with
         | false =>
          cases hqb129
         | true =>
          replace hb130 := iB hb130 rfl
          have hqb130 := Option.some.inj hb130
          cases b130 with
          | false =>
           cases hqb130
          | true =>
           replace hb131 := iB hb131 rfl
           have hqb131 := Option.some.inj hb131
           cases b131 with
           | false =>
            cases hqb131
           | true =>
            replace hb132 := iB hb132 rfl
            have hqb132 := Option.some.inj hb132
            subst hqb132
            simp (maxSteps := 1000000) only [↓reduceIte, reduceCtorEq, Nat.reduceEqDiff, Nat.reduceLT, Nat.reduceLeDiff, Nat.reduceAdd, Nat.reduceMul, Int.reduceToNat, push_cast, he104a, he104b, he104c, ↓hqb128]
            try simp only [↓hqb128] at hK
            try have q0 := oR hvr127
            all_goals exact rU
       | true =>
        replace hb128 := iB hb128 rfl
        have hqb128 := Option.some.inj hb128
        cases b128 with
        | false =>
         cases hqb128
        | true =>
         replace hb129 := iB hb129 rfl
         have hqb129 := Option.some.inj hb129
         cases b129 with
         | false =>
          cases hqb129
         | true =>
          replace hb130 := iB hb130 rfl
          have hqb130 := Option.some.inj hb130
          cases b130 with
          | false =>
           cases hqb130
          | true =>
           replace hb131 := iB hb131 rfl
           have hqb131 := Option.some.inj hb131
           cases b131 with
           | false =>
            cases hqb131
           | true =>
            replace hb132 := iB hb132 rfl
            have hqb132 := Option.some.inj hb132
            subst hqb132
            try have q0 := oR hvr127
            exact rS (rA he104a (rA he104b he104c))) ?_
     refine xI h1 rfl (fun h1 hb148 => ?_) (fun h1 hb148 => ?_)
     ·
      refine oA 576 [2] (fun _ => none) rfl (fun _ _ => rS (rA he104a (rA he104b he104c))) ?_
      refine jA ?_
      obtain rfl := Option.some.inj h1
      refine kC (mA (mA (uD (mA ?_))))
      obtain rfl := Option.some.inj h0
      refine nA [] ?_
      simp (maxSteps := 1000000) only [↓reduceIte, reduceCtorEq, Nat.reduceEqDiff, Nat.reduceLT, Nat.reduceLeDiff, Nat.reduceAdd, Nat.reduceMul, Int.reduceToNat, push_cast, lC, he104a, he104b, he104c]
      all_goals exact rH
     ·
      refine qA (cC (gA ?_))
      refine iC 592 [1, 3] (fun _ => none) rfl (fun _ _ => rS (rA he104a (rA he104b he104c))) ?_
      refine gA ?_
      exact ⟨⟨(fu, (IntKind.i64.wrap (i100 + 1))), h1⟩, ⟨rF, rE, rfl, rfl, trivial, trivial⟩, Nat.lt_succ_self _⟩
    ·
     refine kD (ι := { p : Nat × Int // mJ e104 p.1 p.2 = some x118 }) (fun p => ⟨[(1, .ref 0 0 0 0), (3, .int .i64 i100), (4, .ref 144 0 0 0), (5, .int .i64 p.1.2)], [(0, ⟨0, true, true, 4, [[.int .i64 vs1.Levels.B, .psl 1 (List.map sA.enc vs1.Levels.Levels), .psl 11 (List.map xA.enc vs1.Jobs), .int .i64 vs1.NextId]]⟩), (144, ⟨0, true, true, 10, [[.psl 1 (List.map (wA 4 aA.enc) e104.Work.Merge.Runs), .psl 1 (List.map (iA .i64) e104.Work.Merge.At), .psl 2 (List.map cA.enc e104.Work.Merge.Tree.Keys), .psl 1 (List.map (iA .i64) e104.Work.Merge.Tree.Lose), .int .i64 e104.Work.Merge.Tree.Win, .bool e104.Work.Shadow.Some, .str e104.Work.Shadow.Last, .bool e104.Work.Shadow.Bottom, .psl 4 (List.map aA.enc e104.Work.Out), .int .i64 e104.Work.Steps]]⟩)], 168, []⟩) (fun p => p.1.1) ⟨(fu, 0), hxx118⟩ ⟨rF, rE, rfl, rfl, trivial, trivial⟩ (fun _ => Nat.le_refl _) ?_
     rintro ⟨⟨fu, k119⟩, h2⟩
     cases fu with
     | zero =>
   replace h2 : mJ e104 0 k119 = some x118 := h2
   rw [mJ] at h2; cases h2
     | succ fu =>
      replace h2 : mJ e104 (fu + 1) k119 = some x118 := h2
      rw [mJ] at h2
      refine (show pA _ _ _ _ ⟨[(1, .ref 0 0 0 0), (3, .int .i64 i100), (4, .ref 144 0 0 0), (5, .int .i64 k119)], [(0, ⟨0, true, true, 4, [[.int .i64 vs1.Levels.B, .psl 1 (List.map sA.enc vs1.Levels.Levels), .psl 11 (List.map xA.enc vs1.Jobs), .int .i64 vs1.NextId]]⟩), (144, ⟨0, true, true, 10, [[.psl 1 (List.map (wA 4 aA.enc) e104.Work.Merge.Runs), .psl 1 (List.map (iA .i64) e104.Work.Merge.At), .psl 2 (List.map cA.enc e104.Work.Merge.Tree.Keys), .psl 1 (List.map (iA .i64) e104.Work.Merge.Tree.Lose), .int .i64 e104.Work.Merge.Tree.Win, .bool e104.Work.Shadow.Some, .str e104.Work.Shadow.Last, .bool e104.Work.Shadow.Bottom, .psl 4 (List.map aA.enc e104.Work.Out), .int .i64 e104.Work.Steps]]⟩)], 168, []⟩ from ?_)
      refine kA ?_
      obtain ⟨b120, hb120, h2⟩ := eA h2
      refine dD (fr' := [(1, .ref 0 0 0 0), (3, .int .i64 i100), (4, .ref 144 0 0 0), (5, .int .i64 k119), (32, .bool b120)]) (hp' := [(0, ⟨0, true, true, 4, [[.int .i64 vs1.Levels.B, .psl 1 (List.map sA.enc vs1.Levels.Levels), .psl 11 (List.map xA.enc vs1.Jobs), .int .i64 vs1.NextId]]⟩), (144, ⟨0, true, true, 10, [[.psl 1 (List.map (wA 4 aA.enc) e104.Work.Merge.Runs), .psl 1 (List.map (iA .i64) e104.Work.Merge.At), .psl 2 (List.map cA.enc e104.Work.Merge.Tree.Keys), .psl 1 (List.map (iA .i64) e104.Work.Merge.Tree.Lose), .int .i64 e104.Work.Merge.Tree.Win, .bool e104.Work.Shadow.Some, .str e104.Work.Shadow.Last, .bool e104.Work.Shadow.Bottom, .psl 4 (List.map aA.enc e104.Work.Out), .int .i64 e104.Work.Steps]]⟩)]) [0, 144] 248 [1, 3, 4, 5, 32] (fun _ => none) rfl (fun Kt hK => by
        cases hg121 : (decide (k119 < (e104.Work.Merge.Runs.length : Int))) with
        | false =>
         replace hb120 := vA hb120 hg121
         have hqb120 := Option.some.inj hb120
         subst hqb120
         simp (maxSteps := 1000000) only [↓reduceIte, reduceCtorEq, Nat.reduceEqDiff, Nat.reduceLT, Nat.reduceLeDiff, Nat.reduceAdd, Nat.reduceMul, Int.reduceToNat, push_cast, he104a, he104b, he104c, ↓hg121]
         try simp only [↓hg121] at hK
         all_goals exact rU
        | true =>
         replace hb120 := iB hb120 hg121
         have hqb120 := Option.some.inj hb120
         subst hqb120
         simp (maxSteps := 1000000) only [↓reduceIte, reduceCtorEq, Nat.reduceEqDiff, Nat.reduceLT, Nat.reduceLeDiff, Nat.reduceAdd, Nat.reduceMul, Int.reduceToNat, push_cast, he104a, he104b, he104c, ↓hg121]
         try simp only [↓hg121] at hK
         all_goals exact rU) ?_
      refine xI h2 rfl (fun h2 hb122 => ?_) (fun h2 hb122 => ?_)
      ·
       refine qA (gA (kA (jC ?_)))
       obtain ⟨e123, he123, h2⟩ := eA h2
       obtain ⟨he123a, he123b, he123c⟩ := fB he123
       obtain ⟨vr124, hvr124, h2⟩ := eA h2
       refine oA 304 [1, 3, 4, 5, 41] (fun | 6 => some (.bool vr124, []) | _ => none) rfl (fun _ _ => rB (rA he104a (rA he104b (rA he104c (rA he123a (rA he123b he123c))))) (oR hvr124)) ?_
       refine xI h2 rfl (fun h2 hb125 => ?_) (fun h2 hb125 => ?_)
       ·
        refine oA 312 [2] (fun _ => none) rfl (fun _ _ => rS (rA he104a (rA he104b (rA he104c (rA he123a (rA he123b he123c)))))) ?_
        refine jA ?_
        obtain rfl := Option.some.inj h2
        obtain rfl := Option.some.inj h1
        refine kC (mA (mA (uD (mA (kC (mA (mA (uD (mA ?_)))))))))
        obtain rfl := Option.some.inj h0
        refine nA [] ?_
        simp (maxSteps := 1000000) only [↓reduceIte, reduceCtorEq, Nat.reduceEqDiff, Nat.reduceLT, Nat.reduceLeDiff, Nat.reduceAdd, Nat.reduceMul, Int.reduceToNat, push_cast, lC, he104a, he104b, he104c, he123a, he123b, he123c]
        all_goals exact rH
       ·
        refine qA (cC (gA ?_))
        refine iC 328 [1, 3, 4, 5] (fun _ => none) rfl (fun _ _ => rS (rA he104a (rA he104b (rA he104c (rA he123a (rA he123b he123c)))))) ?_
        refine gA ?_
        exact ⟨⟨(fu, (IntKind.i64.wrap (k119 + 1))), h2⟩, ⟨rF, rE, rfl, rfl, trivial, trivial⟩, Nat.lt_succ_self _⟩
      ·
       refine vC (jB (jB (bD ?_)))
       obtain rfl := Option.some.inj h2
       exact ⟨_, rfl, rL, ⟨rF, rE, rfl, rfl, trivial, trivial⟩⟩
   ·
    refine vC (jB (jB (bD ?_)))
    obtain rfl := Option.some.inj h1
    exact ⟨_, rfl, rL, ⟨rF, rE, rfl, rfl, trivial, trivial⟩⟩
theorem rW {fu : Nat} {a1 : List aA} {b2 : List aA} {r : Bool} (h0 : rO fu a1 b2 = some r) : lB Try.prog 54 [.psl 4 (a1.map aA.enc), .psl 4 (b2.map aA.enc)] (.bool r) [] := by
 refine sB Try.func54 rfl (by decide) rL ?_
 dsimp only [Try.f54]
 rw [rO] at h0
 refine (show pA _ _ _ _ ⟨kB 0 _, [], 0, []⟩ from ?_)
 refine xS 8 [0, 1] ?_
 refine kA ?_
 refine xS 48 [0, 1, 10] ?_
 refine xI h0 rfl (fun h0 hb3 => ?_) (fun h0 hb3 => ?_)
 ·
  refine xS 56 [4] ?_
  refine jA (mA ?_)
  obtain rfl := Option.some.inj h0
  refine nA [] ?_
  exact rG
 ·
  refine qA (gA (kA ?_))
  refine xS 56 [0, 1, 5] ?_
  obtain ⟨x13, hxx13, h0⟩ := eA h0
  refine lD (fun s' => ∃ o19 : Unit, x13 = .inl o19 ∧ s'.nx ≤ 88 ∧ LeN [] s' ⟨[], [], 88, []⟩) ?_ ?_
  ·
   intro s' hs
   obtain ⟨o19, rfl, hn, hs⟩ := hs
   refine gA ?_
   refine zB [] hn hs ?_
   refine xS 96 [4] ?_
   refine jA ?_
   obtain rfl := Option.some.inj h0
   refine nA [] ?_
   exact rG
  ·
   refine kD (ι := { p : Nat × Int // nM a1 b2 p.1 p.2 = some x13 }) (fun p => ⟨[(0, .psl 4 (List.map aA.enc a1)), (1, .psl 4 (List.map aA.enc b2)), (5, .int .i64 p.1.2)], [], 56, []⟩) (fun p => p.1.1) ⟨(fu, 0), hxx13⟩ ⟨rF, rE, rfl, rfl, trivial, trivial⟩ (fun _ => Nat.le_refl _) ?_
   rintro ⟨⟨fu, i14⟩, h1⟩
   cases fu with
   | zero =>
   replace h1 : nM a1 b2 0 i14 = some x13 := h1
   rw [nM] at h1; cases h1
   | succ fu =>
    replace h1 : nM a1 b2 (fu + 1) i14 = some x13 := h1
    rw [nM] at h1
    refine (show pA _ _ _ _ ⟨[(0, .psl 4 (List.map aA.enc a1)), (1, .psl 4 (List.map aA.enc b2)), (5, .int .i64 i14)], [], 56, []⟩ from ?_)
    refine kA ?_
    refine xS 88 [0, 1, 5, 14] ?_
    refine xI h1 rfl (fun h1 hb15 => ?_) (fun h1 hb15 => ?_)
    ·
     refine qA (gA (kA (jC ?_)))
     obtain ⟨e16, he16, h1⟩ := eA h1
     obtain ⟨he16a, he16b, he16c⟩ := fB he16
     obtain ⟨e17, he17, h1⟩ := eA h1
     obtain ⟨he17a, he17b, he17c⟩ := fB he17
     refine jD 160 [0, 1, 5, 25] (fun _ => none) rfl rfl rfl (fun _ _ => uE (rA he16a (rA he16b (rA he16c (rA he17a (rA he17b he17c)))))) ?_
     refine xI h1 rfl (fun h1 hb18 => ?_) (fun h1 hb18 => ?_)
     ·
      refine oA 168 [4] (fun _ => none) rfl (fun _ _ => rS (rA he16a (rA he16b (rA he16c (rA he17a (rA he17b he17c)))))) ?_
      refine jA ?_
      obtain rfl := Option.some.inj h1
      refine kC (mA (mA (uD (mA ?_))))
      obtain rfl := Option.some.inj h0
      refine nA [] ?_
      simp (maxSteps := 1000000) only [↓reduceIte, reduceCtorEq, Nat.reduceEqDiff, Nat.reduceLT, Nat.reduceLeDiff, Nat.reduceAdd, Nat.reduceMul, Int.reduceToNat, push_cast, lC, he16a, he16b, he16c, he17a, he17b, he17c]
      all_goals exact rH
     ·
      refine qA (cC (gA ?_))
      refine iC 184 [0, 1, 5] (fun _ => none) rfl (fun _ _ => rS (rA he16a (rA he16b (rA he16c (rA he17a (rA he17b he17c)))))) ?_
      refine gA ?_
      exact ⟨⟨(fu, (IntKind.i64.wrap (i14 + 1))), h1⟩, ⟨rF, rE, rfl, rfl, trivial, trivial⟩, Nat.lt_succ_self _⟩
    ·
     refine vC (jB (jB (bD ?_)))
     obtain rfl := Option.some.inj h1
     exact ⟨_, rfl, rL, ⟨rF, rE, rfl, rfl, trivial, trivial⟩⟩
theorem sT {fu : Nat} {a1 : List Int} {b2 : List Int} {r : Bool} (h0 : zP fu a1 b2 = some r) : lB Try.prog 71 [.psl 1 (a1.map (iA .i64)), .psl 1 (b2.map (iA .i64))] (.bool r) [] := by
 refine sB Try.func71 rfl (by decide) rL ?_
 dsimp only [Try.f71]
 rw [zP] at h0
 refine (show pA _ _ _ _ ⟨kB 0 _, [], 0, []⟩ from ?_)
 refine xS 8 [0, 1] ?_
 refine kA ?_
 refine xS 48 [0, 1, 10] ?_
 refine xI h0 rfl (fun h0 hb3 => ?_) (fun h0 hb3 => ?_)
 ·
  refine xS 56 [4] ?_
  refine jA (mA ?_)
  obtain rfl := Option.some.inj h0
  refine nA [] ?_
  exact rG
 ·
  refine qA (gA (kA ?_))
  refine xS 56 [0, 1, 5] ?_
  obtain ⟨x13, hxx13, h0⟩ := eA h0
  refine lD (fun s' => ∃ o19 : Unit, x13 = .inl o19 ∧ s'.nx ≤ 88 ∧ LeN [] s' ⟨[], [], 88, []⟩) ?_ ?_
  ·
   intro s' hs
   obtain ⟨o19, rfl, hn, hs⟩ := hs
   refine gA ?_
   refine zB [] hn hs ?_
   refine xS 96 [4] ?_
   refine jA ?_
   obtain rfl := Option.some.inj h0
   refine nA [] ?_
   exact rG
  ·
   refine kD (ι := { p : Nat × Int // qM a1 b2 p.1 p.2 = some x13 }) (fun p => ⟨[(0, .psl 1 (List.map (iA .i64) a1)), (1, .psl 1 (List.map (iA .i64) b2)), (5, .int .i64 p.1.2)], [], 56, []⟩) (fun p => p.1.1) ⟨(fu, 0), hxx13⟩ ⟨rF, rE, rfl, rfl, trivial, trivial⟩ (fun _ => Nat.le_refl _) ?_
   rintro ⟨⟨fu, i14⟩, h1⟩
   cases fu with
   | zero =>
   replace h1 : qM a1 b2 0 i14 = some x13 := h1
   rw [qM] at h1; cases h1
   | succ fu =>
    replace h1 : qM a1 b2 (fu + 1) i14 = some x13 := h1
    rw [qM] at h1
    refine (show pA _ _ _ _ ⟨[(0, .psl 1 (List.map (iA .i64) a1)), (1, .psl 1 (List.map (iA .i64) b2)), (5, .int .i64 i14)], [], 56, []⟩ from ?_)
    refine kA ?_
    refine xS 88 [0, 1, 5, 14] ?_
    refine xI h1 rfl (fun h1 hb15 => ?_) (fun h1 hb15 => ?_)
    ·
     refine qA (gA (kA (jC ?_)))
     obtain ⟨e16, he16, h1⟩ := eA h1
     obtain ⟨he16a, he16b, he16c⟩ := fB he16
     obtain ⟨e17, he17, h1⟩ := eA h1
     obtain ⟨he17a, he17b, he17c⟩ := fB he17
     refine jD 160 [0, 1, 5, 25] (fun _ => none) rfl rfl rfl (fun _ _ => uE (rA he16a (rA he16b (rA he16c (rA he17a (rA he17b he17c)))))) ?_
     refine xI h1 rfl (fun h1 hb18 => ?_) (fun h1 hb18 => ?_)
     ·
      refine oA 168 [4] (fun _ => none) rfl (fun _ _ => rS (rA he16a (rA he16b (rA he16c (rA he17a (rA he17b he17c)))))) ?_
      refine jA ?_
      obtain rfl := Option.some.inj h1
      refine kC (mA (mA (uD (mA ?_))))
      obtain rfl := Option.some.inj h0
      refine nA [] ?_
      simp (maxSteps := 1000000) only [↓reduceIte, reduceCtorEq, Nat.reduceEqDiff, Nat.reduceLT, Nat.reduceLeDiff, Nat.reduceAdd, Nat.reduceMul, Int.reduceToNat, push_cast, lC, he16a, he16b, he16c, he17a, he17b, he17c]
      all_goals exact rH
     ·
      refine qA (cC (gA ?_))
      refine iC 184 [0, 1, 5] (fun _ => none) rfl (fun _ _ => rS (rA he16a (rA he16b (rA he16c (rA he17a (rA he17b he17c)))))) ?_
      refine gA ?_
      exact ⟨⟨(fu, (IntKind.i64.wrap (i14 + 1))), h1⟩, ⟨rF, rE, rfl, rfl, trivial, trivial⟩, Nat.lt_succ_self _⟩
    ·
     refine vC (jB (jB (bD ?_)))
     obtain rfl := Option.some.inj h1
     exact ⟨_, rfl, rL, ⟨rF, rE, rfl, rfl, trivial, trivial⟩⟩
theorem zaG {fu : Nat} {a1 : zA} {b2 : zA} {r : Bool} (h0 : fR fu a1 b2 = some r) : lB Try.prog 72 [.agg (zA.enc a1), .agg (zA.enc b2)] (.bool r) [] := by
 refine sB Try.func72 rfl (by decide) rL ?_
 dsimp only [Try.f72]
 rw [fR] at h0
 refine (show pA _ _ _ _ ⟨kB 0 _, [], 0, []⟩ from ?_)
 refine xS 24 [2, 3] ?_
 refine kA ?_
 obtain ⟨b3, hb3, h0⟩ := eA h0
 obtain ⟨b5, hb5, h0⟩ := eA h0
 refine dD (fr' := [(2, .ref 0 0 0 0), (3, .ref 8 0 0 0), (27, .bool b5)]) (hp' := [(0, ⟨0, true, true, 3, [[.psl 2 (List.map cA.enc a1.Keys), .psl 1 (List.map (iA .i64) a1.Lose), .int .i64 a1.Win]]⟩), (8, ⟨0, true, true, 3, [[.psl 2 (List.map cA.enc b2.Keys), .psl 1 (List.map (iA .i64) b2.Lose), .int .i64 b2.Win]]⟩)]) [0, 8] 200 [2, 3, 27] (fun | 19 => (zP fu a1.Lose b2.Lose).bind fun vr4 => some (.bool vr4, []) | _ => none) rfl (fun Kt hK => by
   cases hg6 : (!(decide ((a1.Keys.length : Int) = (b2.Keys.length : Int)))) with
   | false =>
    replace hb3 := vA hb3 hg6
    have hqb3 := Option.some.inj hb3
    cases b3 with
    | false =>
     replace hb5 := vA hb5 rfl
     obtain ⟨vr4, hvr4, hb5⟩ := eA hb5
     have hqb5 := Option.some.inj hb5
     subst hqb5
     simp (maxSteps := 1000000) only [↓reduceIte, reduceCtorEq, Nat.reduceEqDiff, Nat.reduceLT, Nat.reduceLeDiff, Nat.reduceAdd, Nat.reduceMul, Int.reduceToNat, push_cast, ↓hg6, ↓hqb3, hvr4]
     try simp only [↓hg6, ↓hqb3] at hK
     try have q0 := sT hvr4
     all_goals exact rU
    | true =>
     replace hb5 := iB hb5 rfl
     have hqb5 := Option.some.inj hb5
     subst hqb5
     simp (maxSteps := 1000000) only [↓reduceIte, reduceCtorEq, Nat.reduceEqDiff, Nat.reduceLT, Nat.reduceLeDiff, Nat.reduceAdd, Nat.reduceMul, Int.reduceToNat, push_cast, ↓hg6, ↓hqb3]
     try simp only [↓hg6, ↓hqb3] at hK
     try have q0 := sT hvr4
     all_goals exact rU
   | true =>
    replace hb3 := iB hb3 hg6
    have hqb3 := Option.some.inj hb3
    cases b3 with
    | false =>
     cases hqb3
    | true =>
     replace hb5 := iB hb5 rfl
     have hqb5 := Option.some.inj hb5
     subst hqb5
     simp (maxSteps := 1000000) only [↓reduceIte, reduceCtorEq, Nat.reduceEqDiff, Nat.reduceLT, Nat.reduceLeDiff, Nat.reduceAdd, Nat.reduceMul, Int.reduceToNat, push_cast, ↓hg6]
     try simp only [↓hg6] at hK
     try have q0 := sT hvr4
     all_goals exact rU) ?_
 refine xI h0 rfl (fun h0 hb9 => ?_) (fun h0 hb9 => ?_)
 ·
  refine xS 208 [4] ?_
  refine jA (mA ?_)
  obtain rfl := Option.some.inj h0
  refine nA [] ?_
  exact rG
 ·
  refine qA (gA (kA ?_))
  refine xS 208 [2, 3, 5] ?_
  obtain ⟨x19, hxx19, h0⟩ := eA h0
  refine lD (fun s' => ∃ o25 : Unit, x19 = .inl o25 ∧ s'.nx ≤ 248 ∧ LeN [] s' ⟨[], [(0, ⟨0, true, true, 3, [[.psl 2 (List.map cA.enc a1.Keys), .psl 1 (List.map (iA .i64) a1.Lose), .int .i64 a1.Win]]⟩), (8, ⟨0, true, true, 3, [[.psl 2 (List.map cA.enc b2.Keys), .psl 1 (List.map (iA .i64) b2.Lose), .int .i64 b2.Win]]⟩)], 248, []⟩) ?_ ?_
  ·
   intro s' hs
   obtain ⟨o25, rfl, hn, hs⟩ := hs
   refine gA ?_
   refine zB [] hn hs ?_
   refine xS 256 [4] ?_
   refine jA ?_
   obtain rfl := Option.some.inj h0
   refine nA [] ?_
   exact rG
  ·
   refine kD (ι := { p : Nat × Int // yK a1 b2 p.1 p.2 = some x19 }) (fun p => ⟨[(2, .ref 0 0 0 0), (3, .ref 8 0 0 0), (5, .int .i64 p.1.2)], [(0, ⟨0, true, true, 3, [[.psl 2 (List.map cA.enc a1.Keys), .psl 1 (List.map (iA .i64) a1.Lose), .int .i64 a1.Win]]⟩), (8, ⟨0, true, true, 3, [[.psl 2 (List.map cA.enc b2.Keys), .psl 1 (List.map (iA .i64) b2.Lose), .int .i64 b2.Win]]⟩)], 208, []⟩) (fun p => p.1.1) ⟨(fu, 0), hxx19⟩ ⟨rF, rE, rfl, rfl, trivial, trivial⟩ (fun _ => Nat.le_refl _) ?_
   rintro ⟨⟨fu, i20⟩, h1⟩
   cases fu with
   | zero =>
   replace h1 : yK a1 b2 0 i20 = some x19 := h1
   rw [yK] at h1; cases h1
   | succ fu =>
    replace h1 : yK a1 b2 (fu + 1) i20 = some x19 := h1
    rw [yK] at h1
    refine (show pA _ _ _ _ ⟨[(2, .ref 0 0 0 0), (3, .ref 8 0 0 0), (5, .int .i64 i20)], [(0, ⟨0, true, true, 3, [[.psl 2 (List.map cA.enc a1.Keys), .psl 1 (List.map (iA .i64) a1.Lose), .int .i64 a1.Win]]⟩), (8, ⟨0, true, true, 3, [[.psl 2 (List.map cA.enc b2.Keys), .psl 1 (List.map (iA .i64) b2.Lose), .int .i64 b2.Win]]⟩)], 208, []⟩ from ?_)
    refine kA ?_
    refine xS 248 [2, 3, 5, 32] ?_
    refine xI h1 rfl (fun h1 hb21 => ?_) (fun h1 hb21 => ?_)
    ·
     refine qA (gA (kA (jC ?_)))
     obtain ⟨e22, he22, h1⟩ := eA h1
     obtain ⟨he22a, he22b, he22c⟩ := fB he22
     obtain ⟨e23, he23, h1⟩ := eA h1
     obtain ⟨he23a, he23b, he23c⟩ := fB he23
     refine jD 336 [2, 3, 5, 45] (fun _ => none) rfl rfl rfl (fun _ _ => uE (rA he22a (rA he22b (rA he22c (rA he23a (rA he23b he23c)))))) ?_
     refine xI h1 rfl (fun h1 hb24 => ?_) (fun h1 hb24 => ?_)
     ·
      refine oA 344 [4] (fun _ => none) rfl (fun _ _ => rS (rA he22a (rA he22b (rA he22c (rA he23a (rA he23b he23c)))))) ?_
      refine jA ?_
      obtain rfl := Option.some.inj h1
      refine kC (mA (mA (uD (mA ?_))))
      obtain rfl := Option.some.inj h0
      refine nA [] ?_
      simp (maxSteps := 1000000) only [↓reduceIte, reduceCtorEq, Nat.reduceEqDiff, Nat.reduceLT, Nat.reduceLeDiff, Nat.reduceAdd, Nat.reduceMul, Int.reduceToNat, push_cast, lC, he22a, he22b, he22c, he23a, he23b, he23c]
      all_goals exact rH
     ·
      refine qA (cC (gA ?_))
      refine iC 360 [2, 3, 5] (fun _ => none) rfl (fun _ _ => rS (rA he22a (rA he22b (rA he22c (rA he23a (rA he23b he23c)))))) ?_
      refine gA ?_
      exact ⟨⟨(fu, (IntKind.i64.wrap (i20 + 1))), h1⟩, ⟨rF, rE, rfl, rfl, trivial, trivial⟩, Nat.lt_succ_self _⟩
    ·
     refine vC (jB (jB (bD ?_)))
     obtain rfl := Option.some.inj h1
     exact ⟨_, rfl, rL, ⟨rF, rE, rfl, rfl, trivial, trivial⟩⟩
theorem gX {fu : Nat} {a1 : gB} {b2 : gB} {r : Bool} (h0 : sU fu a1 b2 = some r) : lB Try.prog 53 [.agg (gB.enc a1), .agg (gB.enc b2)] (.bool r) [] := by
 refine sB Try.func53 rfl (by decide) rL ?_
 dsimp only [Try.f53]
 rw [sU] at h0
 refine (show pA _ _ _ _ ⟨kB 0 _, [], 0, []⟩ from ?_)
 refine xS 24 [2, 3] ?_
 refine kA ?_
 obtain ⟨b4, hb4, h0⟩ := eA h0
 obtain ⟨b6, hb6, h0⟩ := eA h0
 refine dD (fr' := [(2, .ref 0 0 0 0), (3, .ref 8 0 0 0), (28, .bool b6)]) (hp' := [(0, ⟨0, true, true, 5, [[.psl 1 (List.map (wA 4 aA.enc) a1.Runs), .psl 1 (List.map (iA .i64) a1.At), .psl 2 (List.map cA.enc a1.Tree.Keys), .psl 1 (List.map (iA .i64) a1.Tree.Lose), .int .i64 a1.Tree.Win]]⟩), (8, ⟨0, true, true, 5, [[.psl 1 (List.map (wA 4 aA.enc) b2.Runs), .psl 1 (List.map (iA .i64) b2.At), .psl 2 (List.map cA.enc b2.Tree.Keys), .psl 1 (List.map (iA .i64) b2.Tree.Lose), .int .i64 b2.Tree.Win]]⟩)]) [0, 8] 208 [2, 3, 28] (fun | 12 => (zP fu a1.At b2.At).bind fun vr3 => some (.bool vr3, []) | 20 => (fR fu a1.Tree b2.Tree).bind fun vr5 => some (.bool vr5, []) | _ => none) rfl (fun Kt hK => by
   cases hg7 : (!(decide ((a1.Runs.length : Int) = (b2.Runs.length : Int)))) with
   | false =>
    replace hb4 := vA hb4 hg7
    obtain ⟨vr3, hvr3, hb4⟩ := eA hb4
    have hqb4 := Option.some.inj hb4
    cases b4 with
    | false =>
     replace hb6 := vA hb6 rfl
     obtain ⟨vr5, hvr5, hb6⟩ := eA hb6
     have hqb6 := Option.some.inj hb6
     subst hqb6
     simp (maxSteps := 1000000) only [↓reduceIte, reduceCtorEq, Nat.reduceEqDiff, Nat.reduceLT, Nat.reduceLeDiff, Nat.reduceAdd, Nat.reduceMul, Int.reduceToNat, push_cast, ↓hg7, hvr3, ↓hqb4, hvr5]
     try simp only [↓hg7, ↓hqb4] at hK
     try have q0 := sT hvr3
     try have q1 := zaG hvr5
     all_goals exact rU
    | true =>
     replace hb6 := iB hb6 rfl
     have hqb6 := Option.some.inj hb6
     subst hqb6
     simp (maxSteps := 1000000) only [↓reduceIte, reduceCtorEq, Nat.reduceEqDiff, Nat.reduceLT, Nat.reduceLeDiff, Nat.reduceAdd, Nat.reduceMul, Int.reduceToNat, push_cast, ↓hg7, hvr3, ↓hqb4]
     try simp only [↓hg7, ↓hqb4] at hK
     try have q0 := sT hvr3
     try have q1 := zaG hvr5
     all_goals exact rU
   | true =>
    replace hb4 := iB hb4 hg7
    have hqb4 := Option.some.inj hb4
    cases b4 with
    | false =>
     cases hqb4
    | true =>
     replace hb6 := iB hb6 rfl
     have hqb6 := Option.some.inj hb6
     subst hqb6
     simp (maxSteps := 1000000) only [↓reduceIte, reduceCtorEq, Nat.reduceEqDiff, Nat.reduceLT, Nat.reduceLeDiff, Nat.reduceAdd, Nat.reduceMul, Int.reduceToNat, push_cast, ↓hg7]
     try simp only [↓hg7] at hK
     try have q0 := sT hvr3
     try have q1 := zaG hvr5
     all_goals exact rU) ?_
 refine xI h0 rfl (fun h0 hb10 => ?_) (fun h0 hb10 => ?_)
 ·
  refine xS 216 [4] ?_
  refine jA (mA ?_)
  obtain rfl := Option.some.inj h0
  refine nA [] ?_
  exact rG
 ·
  refine qA (gA (kA ?_))
  refine xS 216 [2, 3, 5] ?_
  obtain ⟨x22, hxx22, h0⟩ := eA h0
  refine lD (fun s' => ∃ o29 : Unit, x22 = .inl o29 ∧ s'.nx ≤ 256 ∧ LeN [] s' ⟨[], [(0, ⟨0, true, true, 5, [[.psl 1 (List.map (wA 4 aA.enc) a1.Runs), .psl 1 (List.map (iA .i64) a1.At), .psl 2 (List.map cA.enc a1.Tree.Keys), .psl 1 (List.map (iA .i64) a1.Tree.Lose), .int .i64 a1.Tree.Win]]⟩), (8, ⟨0, true, true, 5, [[.psl 1 (List.map (wA 4 aA.enc) b2.Runs), .psl 1 (List.map (iA .i64) b2.At), .psl 2 (List.map cA.enc b2.Tree.Keys), .psl 1 (List.map (iA .i64) b2.Tree.Lose), .int .i64 b2.Tree.Win]]⟩)], 256, []⟩) ?_ ?_
  ·
   intro s' hs
   obtain ⟨o29, rfl, hn, hs⟩ := hs
   refine gA ?_
   refine zB [] hn hs ?_
   refine xS 264 [4] ?_
   refine jA ?_
   obtain rfl := Option.some.inj h0
   refine nA [] ?_
   exact rG
  ·
   refine kD (ι := { p : Nat × Int // wJ a1 b2 p.1 p.2 = some x22 }) (fun p => ⟨[(2, .ref 0 0 0 0), (3, .ref 8 0 0 0), (5, .int .i64 p.1.2)], [(0, ⟨0, true, true, 5, [[.psl 1 (List.map (wA 4 aA.enc) a1.Runs), .psl 1 (List.map (iA .i64) a1.At), .psl 2 (List.map cA.enc a1.Tree.Keys), .psl 1 (List.map (iA .i64) a1.Tree.Lose), .int .i64 a1.Tree.Win]]⟩), (8, ⟨0, true, true, 5, [[.psl 1 (List.map (wA 4 aA.enc) b2.Runs), .psl 1 (List.map (iA .i64) b2.At), .psl 2 (List.map cA.enc b2.Tree.Keys), .psl 1 (List.map (iA .i64) b2.Tree.Lose), .int .i64 b2.Tree.Win]]⟩)], 216, []⟩) (fun p => p.1.1) ⟨(fu, 0), hxx22⟩ ⟨rF, rE, rfl, rfl, trivial, trivial⟩ (fun _ => Nat.le_refl _) ?_
   rintro ⟨⟨fu, i23⟩, h1⟩
   cases fu with
   | zero =>
   replace h1 : wJ a1 b2 0 i23 = some x22 := h1
   rw [wJ] at h1; cases h1
   | succ fu =>
    replace h1 : wJ a1 b2 (fu + 1) i23 = some x22 := h1
    rw [wJ] at h1
    refine (show pA _ _ _ _ ⟨[(2, .ref 0 0 0 0), (3, .ref 8 0 0 0), (5, .int .i64 i23)], [(0, ⟨0, true, true, 5, [[.psl 1 (List.map (wA 4 aA.enc) a1.Runs), .psl 1 (List.map (iA .i64) a1.At), .psl 2 (List.map cA.enc a1.Tree.Keys), .psl 1 (List.map (iA .i64) a1.Tree.Lose), .int .i64 a1.Tree.Win]]⟩), (8, ⟨0, true, true, 5, [[.psl 1 (List.map (wA 4 aA.enc) b2.Runs), .psl 1 (List.map (iA .i64) b2.At), .psl 2 (List.map cA.enc b2.Tree.Keys), .psl 1 (List.map (iA .i64) b2.Tree.Lose), .int .i64 b2.Tree.Win]]⟩)], 216, []⟩ from ?_)
    refine kA ?_
    refine xS 256 [2, 3, 5, 33] ?_
    refine xI h1 rfl (fun h1 hb24 => ?_) (fun h1 hb24 => ?_)
    ·
     refine qA (gA (kA (jC ?_)))
     obtain ⟨e25, he25, h1⟩ := eA h1
     obtain ⟨he25a, he25b, he25c⟩ := fB he25
     obtain ⟨e26, he26, h1⟩ := eA h1
     obtain ⟨he26a, he26b, he26c⟩ := fB he26
     obtain ⟨vr27, hvr27, h1⟩ := eA h1
     refine jD 352 [2, 3, 5, 47] (fun | 10 => some (.bool vr27, []) | _ => none) rfl rfl rfl (fun _ _ => cQ (rA he25a (rA he25b (rA he25c (rA he26a (rA he26b he26c))))) (rW hvr27)) ?_
     refine xI h1 rfl (fun h1 hb28 => ?_) (fun h1 hb28 => ?_)
     ·
      refine oA 360 [4] (fun _ => none) rfl (fun _ _ => rS (rA he25a (rA he25b (rA he25c (rA he26a (rA he26b he26c)))))) ?_
      refine jA ?_
      obtain rfl := Option.some.inj h1
      refine kC (mA (mA (uD (mA ?_))))
      obtain rfl := Option.some.inj h0
      refine nA [] ?_
      simp (maxSteps := 1000000) only [↓reduceIte, reduceCtorEq, Nat.reduceEqDiff, Nat.reduceLT, Nat.reduceLeDiff, Nat.reduceAdd, Nat.reduceMul, Int.reduceToNat, push_cast, lC, he25a, he25b, he25c, he26a, he26b, he26c]
      all_goals exact rH
     ·
      refine qA (cC (gA ?_))
      refine iC 376 [2, 3, 5] (fun _ => none) rfl (fun _ _ => rS (rA he25a (rA he25b (rA he25c (rA he26a (rA he26b he26c)))))) ?_
      refine gA ?_
      exact ⟨⟨(fu, (IntKind.i64.wrap (i23 + 1))), h1⟩, ⟨rF, rE, rfl, rfl, trivial, trivial⟩, Nat.lt_succ_self _⟩
    ·
     refine vC (jB (jB (bD ?_)))
     obtain rfl := Option.some.inj h1
     exact ⟨_, rfl, rL, ⟨rF, rE, rfl, rfl, trivial, trivial⟩⟩
end Go.T
end
