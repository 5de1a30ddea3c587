/- Check, Pending, Find and Left return what the document says, of states that are not long; no other condition. -/
import Derived.Test.YtnlggkiekcpahaaGreatBGt
import Derived.Test.YtnlggkiekcpahaaGreatB2
set_option linter.unusedSimpArgs false
set_option linter.unusedVariables false
section
namespace Go.T
open Go Go.AM Go.Proofs
set_option maxRecDepth 100000
set_option maxHeartbeats 4000000
set_option linter.unusedVariables false
theorem zfE {fu : Nat} {l1 : List aA} {bottom2 : Bool} {r : List aA × Int × Int} (h0 : yQ fu l1 bottom2 = some r) : yA Tryz.prog 86 [.psl 4 (l1.map aA.enc), .bool bottom2] (.tup [.psl 4 (r.1.map aA.enc), .int .i64 r.2.1, .int .i64 r.2.2]) [] := by
 refine cB Tryz.func86 rfl (by decide) rL ?_
 dsimp only [Tryz.f86]
 rw [yQ] at h0
 refine xS 24 [0, 1, 4] ?_
 refine sH 9 rfl ?_
 refine lC (l' := List.range' 0 3 ++ (3 :: (List.range' 4 5 ++ []))) rfl ?_
 refine sC 0 3 48 (3 :: (List.range' 4 5 ++ [])) (fun _ => none) rfl rfl rfl (fun _ _ => rT) ?_
 refine xJ rfl rfl rfl rfl rfl Tryz.func114 rfl (by decide) rfl rL ?_
 dsimp only [Tryz.f114]
 refine xE ⟨[(0, .psl 4 (List.map aA.enc l1)), (1, .bool bottom2), (2, .fn 115 [] [.ref 0 0 0 0])], [(0, ⟨0, true, true, 1, [[.nils]]⟩)], 48, []⟩ ?_
 refine xS 64 [0, 1, 2] ?_
 refine iA ?_
 refine xS 88 [0, 1, 2, 16] ?_
 refine xI h0 rfl (fun h0 hb3 => ?_) (fun h0 hb3 => ?_)
 ·
  refine xS 104 [6, 7] ?_
  refine kA (mA ?_)
  refine oE (fun _ _ => rT) ?_
  refine xF ⟨[(0, .psl 4 (List.map aA.enc l1)), (1, .bool bottom2), (4, .ref 0 0 0 0), (8, .psl 4 (List.map aA.enc l1)), (9, .bool bottom2), (10, .fn 115 [] [.ref 0 0 0 0]), (11, .tup [.int .i64 (-1), .int .i64 3])], [(0, ⟨0, true, true, 1, [[.nils]]⟩)], 104, []⟩ ?_
  refine lC (l' := List.range' 4 5 ++ []) rfl ?_
  refine sC 4 5 144 [] (fun _ => none) rfl rfl rfl (fun _ _ => rT) ?_
  refine kD ?_
  refine dA ?_
  refine xE ⟨[(4, .ref 0 0 0 0), (5, .int .i64 (-1)), (6, .int .i64 3)], [(0, ⟨0, true, true, 1, [[.nils]]⟩)], 144, []⟩ ?_
  refine iA ?_
  refine xS 160 [4, 5, 6, 15] ?_
  refine kK rfl ?_
  refine xS 200 [4, 5, 6] ?_
  refine kA (mA ?_)
  obtain rfl := oI h0
  exact lA [] rG
 refine oA (dA ?_)
 obtain ⟨vr4, hvr4, h0⟩ := bA h0
 refine nA 120 [0, 2, 8] (fun | 1 => some (.agg (jB.enc vr4), []) | _ => none) rfl (fun _ _ => rC (zbV hvr4)) ?_
 refine iA ?_
 refine xS 144 [2, 8, 19, 20, 21] ?_
 refine oB (s2 := ⟨[(2, .fn 115 [] [.ref 0 0 0 0]), (8, .ref 104 0 0 0), (19, .psl 4 (List.map aA.enc l1)), (20, .int .i64 (l1.length : Int)), (21, .int .i64 0)], [(0, ⟨0, true, false, 1, [[.sl 144 0 4 0 0]]⟩), (104, ⟨0, true, true, 3, [[.bool vr4.Some, .str vr4.Last, .bool vr4.Bottom]]⟩), (144, ⟨0, true, true, 4, List.map aA.enc []⟩)], 145, []⟩) [(144, 4)] rL ⟨rF, rE, rfl, rfl, trivial, rN⟩ ?_
 obtain ⟨x59, hxx59, h0⟩ := bA h0
 refine oC (fun s' => ∃ o82 : Bool × List UInt8 × List aA, ∃ g83 : Nat, x59 = .inl o82 ∧ s'.nx ≤ 153 ∧ LeN [] s' ⟨[], [(0, ⟨0, true, false, 1, [[.sl 144 g83 4 0 o82.2.2.length]]⟩), (104, ⟨0, true, true, 3, [[.bool o82.1, .str o82.2.1, .bool vr4.Bottom]]⟩), (144, ⟨g83, true, true, 4, List.map aA.enc o82.2.2⟩)], 153, []⟩) ?_ ?_
 ·
  intro s' hs
  obtain ⟨o82, g83, rfl, hn, hs⟩ := hs
  refine dA ?_
  refine oB [] hn hs ?_
  refine xS 169 [6, 7] ?_
  refine kA ?_
  refine oE (fun _ _ => rT) ?_
  refine xF ⟨[(0, .psl 4 (List.map aA.enc l1)), (1, .bool bottom2), (4, .ref 0 0 0 0), (8, .psl 4 (List.map aA.enc l1)), (9, .bool bottom2), (10, .fn 115 [] [.ref 0 0 0 0]), (11, .tup [.int .i64 0, .int .i64 0])], [(0, ⟨0, true, false, 1, [[.sl 144 g83 4 0 o82.2.2.length]]⟩), (144, ⟨g83, true, true, 4, List.map aA.enc o82.2.2⟩)], 169, []⟩ ?_
  refine lC (l' := List.range' 4 5 ++ []) rfl ?_
  refine sC 4 5 209 [] (fun _ => none) rfl rfl rfl (fun _ _ => rT) ?_
  refine kD ?_
  refine dA ?_
  refine xE ⟨[(4, .ref 0 0 0 0), (5, .int .i64 0), (6, .int .i64 0)], [(0, ⟨0, true, false, 1, [[.sl 144 g83 4 0 o82.2.2.length]]⟩), (144, ⟨g83, true, true, 4, List.map aA.enc o82.2.2⟩)], 209, []⟩ ?_
  refine iA ?_
  refine xS 225 [4, 5, 6, 15] ?_
  refine qF rfl ?_
  refine oA (dA ?_)
  refine xS 257 [4, 5, 6] ?_
  refine kA ?_
  obtain rfl := oI h0
  exact lA [] rG
 refine nC (ι := { p : Nat × Int × Bool × List UInt8 × List aA × Nat // iH l1 vr4 p.1 p.2.1 p.2.2.1 p.2.2.2.1 p.2.2.2.2.1 = some x59 }) (fun p => ⟨[(2, .fn 115 [] [.ref 0 0 0 0]), (8, .ref 104 0 0 0), (19, .psl 4 (List.map aA.enc l1)), (20, .int .i64 (l1.length : Int)), (21, .int .i64 p.1.2.1)], [(0, ⟨0, true, false, 1, [[.sl 144 p.1.2.2.2.2.2 4 0 p.1.2.2.2.2.1.length]]⟩), (104, ⟨0, true, true, 3, [[.bool p.1.2.2.1, .str p.1.2.2.2.1, .bool vr4.Bottom]]⟩), (144, ⟨p.1.2.2.2.2.2, true, true, 4, List.map aA.enc p.1.2.2.2.2.1⟩)], 145, []⟩) (fun p => p.1.1) ⟨(fu, 0, vr4.Some, vr4.Last, [], 0), hxx59⟩ ⟨rF, rE, rfl, rfl, trivial, trivial⟩ (fun _ => Nat.le_refl _) ?_
 rintro ⟨⟨fu, v60, v61, v62, v63, g64⟩, h1⟩
 cases fu with
 | zero =>
  replace h1 : iH l1 vr4 0 v60 v61 v62 v63 = some x59 := h1
  rw [iH] at h1; cases h1
 | succ fu =>
  replace h1 : iH l1 vr4 (fu + 1) v60 v61 v62 v63 = some x59 := h1
  rw [iH] at h1
  dsimp only
  refine xS 153 [2, 8, 19, 20, 21, 22] ?_
  refine iA ?_
  refine xI h1 rfl (fun h1 hb65 => ?_) (fun h1 hb65 => ?_)
  ·
   refine oA (dA (iA (xB ?_)))
   obtain ⟨e66, he66, h1⟩ := bA h1
   obtain ⟨he66a, he66b, he66c⟩ := wA he66
   refine nA 201 [2, 8, 9, 10, 19, 20, 21] (fun _ => none) rfl (fun _ _ => rS (rA he66a (rA he66b he66c))) ?_
   refine sH 11 rfl ?_
   refine lC (l' := List.range' 0 2 ++ (2 :: (List.range' 3 8 ++ []))) rfl ?_
   refine sC 0 2 217 (2 :: (List.range' 3 8 ++ [])) (fun _ => none) rfl rfl rfl (fun _ _ => rS (rA he66a (rA he66b he66c))) ?_
   refine xJ rfl rfl rfl rfl rfl Tryz.func119 rfl (by decide) rfl rL ?_
   dsimp only [Tryz.f119]
   refine xE ⟨[(0, .agg [.bool v61, .str v62, .bool vr4.Bottom]), (1, .agg [.str e66.Key, .str e66.Val, .bool e66.Dead, .int .i64 e66.Seq])], [(0, ⟨0, true, false, 1, [[.sl 144 g64 4 0 v63.length]]⟩), (104, ⟨0, true, true, 3, [[.bool v61, .str v62, .bool vr4.Bottom]]⟩), (144, ⟨g64, true, true, 4, List.map aA.enc v63⟩), (177, ⟨0, true, true, 4, [[.str e66.Key, .str e66.Val, .bool e66.Dead, .int .i64 e66.Seq]]⟩)], 217, []⟩ ?_
   refine nA 257 [2, 3, 5] (fun _ => none) rfl (fun _ _ => rS (rA he66a (rA he66b he66c))) ?_
   refine iA ?_
   obtain ⟨vr67, hvr67, h1⟩ := bA h1
   refine nA 281 [2, 3, 5, 7] (fun | 1 => some (.int .i64 vr67, []) | _ => none) rfl (fun _ _ => rB (rA he66a (rA he66b he66c)) (zca hvr67)) ?_
   refine nA 297 [2, 3, 5, 7, 13] (fun _ => none) rfl (fun _ _ => rS (rA he66a (rA he66b he66c))) ?_
   refine xI h1 rfl (fun h1 hb68 => ?_) (fun h1 hb68 => ?_)
   ·
    refine nA 337 [4, 5, 6] (fun _ => none) rfl (fun _ _ => rS (rA he66a (rA he66b he66c))) ?_
    refine kA (mA ?_)
    refine oE (fun _ _ => rS (rA he66a (rA he66b he66c))) ?_
    refine xF ⟨[(2, .fn 115 [] [.ref 0 0 0 0]), (8, .ref 104 0 0 0), (9, .int .i64 v60), (10, .ref 177 0 0 0), (19, .psl 4 (List.map aA.enc l1)), (20, .int .i64 (l1.length : Int)), (21, .int .i64 v60), (27, .agg [.bool v61, .str v62, .bool vr4.Bottom]), (28, .agg [.str e66.Key, .str e66.Val, .bool e66.Dead, .int .i64 e66.Seq]), (29, .tup [.nili, .agg [.bool false, .str [], .bool false], .int .i64 vr67])], [(0, ⟨0, true, false, 1, [[.sl 144 g64 4 0 v63.length]]⟩), (104, ⟨0, true, true, 3, [[.bool v61, .str v62, .bool vr4.Bottom]]⟩), (144, ⟨g64, true, true, 4, List.map aA.enc v63⟩), (177, ⟨0, true, true, 4, [[.str e66.Key, .str e66.Val, .bool e66.Dead, .int .i64 e66.Seq]]⟩)], 337, []⟩ ?_
    refine lC (l' := List.range' 3 8 ++ []) rfl ?_
    refine sC 3 8 401 [] (fun _ => none) rfl rfl rfl (fun _ _ => rS (rA he66a (rA he66b he66c))) ?_
    refine kD ?_
    refine dA ?_
    refine xE ⟨[(2, .fn 115 [] [.ref 0 0 0 0]), (8, .ref 104 0 0 0), (9, .int .i64 v60), (11, .nili), (12, .ref 369 0 0 0), (13, .int .i64 vr67), (19, .psl 4 (List.map aA.enc l1)), (20, .int .i64 (l1.length : Int)), (21, .int .i64 v60)], [(0, ⟨0, true, false, 1, [[.sl 144 g64 4 0 v63.length]]⟩), (104, ⟨0, true, true, 3, [[.bool v61, .str v62, .bool vr4.Bottom]]⟩), (144, ⟨g64, true, true, 4, List.map aA.enc v63⟩), (369, ⟨0, true, true, 3, [[.bool false, .str [], .bool false]]⟩)], 401, []⟩ ?_
    refine iA ?_
    refine nA 417 [2, 8, 9, 11, 12, 13, 19, 20, 21, 34] (fun _ => none) rfl (fun _ _ => rS (rA he66a (rA he66b he66c))) ?_
    refine qO rfl hb68 ?_
    refine nA 449 [6, 7] (fun _ => none) rfl (fun _ _ => rS (rA he66a (rA he66b he66c))) ?_
    refine kA ?_
    obtain rfl := oI h1
    refine mA (cC (mA (mA (wC (mA ?_)))))
    refine oE (fun _ _ => rS (rA he66a (rA he66b he66c))) ?_
    refine xF ⟨[(0, .psl 4 (List.map aA.enc l1)), (1, .bool bottom2), (4, .ref 0 0 0 0), (8, .psl 4 (List.map aA.enc l1)), (9, .bool bottom2), (10, .fn 115 [] [.ref 0 0 0 0]), (11, .tup [.int .i64 v60, .int .i64 vr67])], [(0, ⟨0, true, false, 1, [[.sl 144 g64 4 0 v63.length]]⟩), (144, ⟨g64, true, true, 4, List.map aA.enc v63⟩)], 449, []⟩ ?_
    refine lC (l' := List.range' 4 5 ++ []) rfl ?_
    refine sC 4 5 489 [] (fun _ => none) rfl rfl rfl (fun _ _ => rS (rA he66a (rA he66b he66c))) ?_
    refine kD ?_
    refine dA ?_
    refine xE ⟨[(4, .ref 0 0 0 0), (5, .int .i64 v60), (6, .int .i64 vr67)], [(0, ⟨0, true, false, 1, [[.sl 144 g64 4 0 v63.length]]⟩), (144, ⟨g64, true, true, 4, List.map aA.enc v63⟩)], 489, []⟩ ?_
    refine iA ?_
    refine nA 505 [4, 5, 6, 15] (fun _ => none) rfl (fun _ _ => rS (rA he66a (rA he66b he66c))) ?_
    refine qO rfl hb68 ?_
    refine nA 545 [4, 5, 6] (fun _ => none) rfl (fun _ _ => rS (rA he66a (rA he66b he66c))) ?_
    refine kA (mA ?_)
    obtain rfl := oI h0
    refine lA [] ?_
    exact rJ (rA he66a (rA he66b he66c))
   refine oA (dA (iA ?_))
   obtain ⟨vr69, hvr69, h1⟩ := bA h1
   refine nA 321 [2, 3, 5, 8] (fun | 1 => some (.int .i64 vr69, []) | _ => none) rfl (fun _ _ => rB (rA he66a (rA he66b he66c)) (zbS hvr69)) ?_
   refine nA 337 [2, 3, 5, 8, 19] (fun _ => none) rfl (fun _ _ => rS (rA he66a (rA he66b he66c))) ?_
   refine xI h1 rfl (fun h1 hb70 => ?_) (fun h1 hb70 => ?_)
   ·
    refine nA 377 [4, 5, 6] (fun _ => none) rfl (fun _ _ => rS (rA he66a (rA he66b he66c))) ?_
    refine kA (mA ?_)
    refine oE (fun _ _ => rS (rA he66a (rA he66b he66c))) ?_
    refine xF ⟨[(2, .fn 115 [] [.ref 0 0 0 0]), (8, .ref 104 0 0 0), (9, .int .i64 v60), (10, .ref 177 0 0 0), (19, .psl 4 (List.map aA.enc l1)), (20, .int .i64 (l1.length : Int)), (21, .int .i64 v60), (27, .agg [.bool v61, .str v62, .bool vr4.Bottom]), (28, .agg [.str e66.Key, .str e66.Val, .bool e66.Dead, .int .i64 e66.Seq]), (29, .tup [.nili, .agg [.bool false, .str [], .bool false], .int .i64 vr69])], [(0, ⟨0, true, false, 1, [[.sl 144 g64 4 0 v63.length]]⟩), (104, ⟨0, true, true, 3, [[.bool v61, .str v62, .bool vr4.Bottom]]⟩), (144, ⟨g64, true, true, 4, List.map aA.enc v63⟩), (177, ⟨0, true, true, 4, [[.str e66.Key, .str e66.Val, .bool e66.Dead, .int .i64 e66.Seq]]⟩)], 377, []⟩ ?_
    refine lC (l' := List.range' 3 8 ++ []) rfl ?_
    refine sC 3 8 441 [] (fun _ => none) rfl rfl rfl (fun _ _ => rS (rA he66a (rA he66b he66c))) ?_
    refine kD ?_
    refine dA ?_
    refine xE ⟨[(2, .fn 115 [] [.ref 0 0 0 0]), (8, .ref 104 0 0 0), (9, .int .i64 v60), (11, .nili), (12, .ref 409 0 0 0), (13, .int .i64 vr69), (19, .psl 4 (List.map aA.enc l1)), (20, .int .i64 (l1.length : Int)), (21, .int .i64 v60)], [(0, ⟨0, true, false, 1, [[.sl 144 g64 4 0 v63.length]]⟩), (104, ⟨0, true, true, 3, [[.bool v61, .str v62, .bool vr4.Bottom]]⟩), (144, ⟨g64, true, true, 4, List.map aA.enc v63⟩), (409, ⟨0, true, true, 3, [[.bool false, .str [], .bool false]]⟩)], 441, []⟩ ?_
    refine iA ?_
    refine nA 457 [2, 8, 9, 11, 12, 13, 19, 20, 21, 34] (fun _ => none) rfl (fun _ _ => rS (rA he66a (rA he66b he66c))) ?_
    refine qO rfl hb70 ?_
    refine nA 489 [6, 7] (fun _ => none) rfl (fun _ _ => rS (rA he66a (rA he66b he66c))) ?_
    refine kA ?_
    obtain rfl := oI h1
    refine mA (cC (mA (mA (wC (mA ?_)))))
    refine oE (fun _ _ => rS (rA he66a (rA he66b he66c))) ?_
    refine xF ⟨[(0, .psl 4 (List.map aA.enc l1)), (1, .bool bottom2), (4, .ref 0 0 0 0), (8, .psl 4 (List.map aA.enc l1)), (9, .bool bottom2), (10, .fn 115 [] [.ref 0 0 0 0]), (11, .tup [.int .i64 v60, .int .i64 vr69])], [(0, ⟨0, true, false, 1, [[.sl 144 g64 4 0 v63.length]]⟩), (144, ⟨g64, true, true, 4, List.map aA.enc v63⟩)], 489, []⟩ ?_
    refine lC (l' := List.range' 4 5 ++ []) rfl ?_
    refine sC 4 5 529 [] (fun _ => none) rfl rfl rfl (fun _ _ => rS (rA he66a (rA he66b he66c))) ?_
    refine kD ?_
    refine dA ?_
    refine xE ⟨[(4, .ref 0 0 0 0), (5, .int .i64 v60), (6, .int .i64 vr69)], [(0, ⟨0, true, false, 1, [[.sl 144 g64 4 0 v63.length]]⟩), (144, ⟨g64, true, true, 4, List.map aA.enc v63⟩)], 529, []⟩ ?_
    refine iA ?_
    refine nA 545 [4, 5, 6, 15] (fun _ => none) rfl (fun _ _ => rS (rA he66a (rA he66b he66c))) ?_
    refine qO rfl hb70 ?_
    refine nA 585 [4, 5, 6] (fun _ => none) rfl (fun _ _ => rS (rA he66a (rA he66b he66c))) ?_
    refine kA (mA ?_)
    obtain rfl := oI h0
    refine lA [] ?_
    exact rJ (rA he66a (rA he66b he66c))
   refine oA (dA (iA ?_))
   obtain ⟨b71, hb71, h1⟩ := bA h1
   refine mC (fr' := [(2, .ref 217 0 0 0), (3, .ref 225 0 0 0), (5, .ref 241 0 0 0), (30, .bool b71)]) (hp' := [(0, ⟨0, true, false, 1, [[.sl 144 g64 4 0 v63.length]]⟩), (104, ⟨0, true, true, 3, [[.bool v61, .str v62, .bool vr4.Bottom]]⟩), (144, ⟨g64, true, true, 4, List.map aA.enc v63⟩), (177, ⟨0, true, true, 4, [[.str e66.Key, .str e66.Val, .bool e66.Dead, .int .i64 e66.Seq]]⟩), (217, ⟨0, true, true, 3, [[.bool v61, .str v62, .bool vr4.Bottom]]⟩), (225, ⟨0, true, true, 4, [[.str e66.Key, .str e66.Val, .bool e66.Dead, .int .i64 e66.Seq]]⟩), (241, ⟨0, true, true, 3, [[.bool false, .str [], .bool false]]⟩)]) [0, 104, 144, 177, 217, 225, 241] 409 [2, 3, 5, 30] (fun _ => none) rfl (fun Kt hK => by
     cases v61 with
     | false =>
      replace hb71 := qA hb71 rfl
      have hqb71 := oI hb71
      subst hqb71
      exact rS (rA he66a (rA he66b he66c))
     | true =>
      replace hb71 := aB hb71 rfl
      have hqb71 := oI hb71
      subst hqb71
      exact rS (rA he66a (rA he66b he66c))) ?_
   refine xI h1 rfl (fun h1 hb73 => ?_) (fun h1 hb73 => ?_)
   ·
    refine nA 441 [4, 5, 6] (fun _ => none) rfl (fun _ _ => rS (rA he66a (rA he66b he66c))) ?_
    refine kA (mA ?_)
    refine oE (fun _ _ => rS (rA he66a (rA he66b he66c))) ?_
    refine xF ⟨[(2, .fn 115 [] [.ref 0 0 0 0]), (8, .ref 104 0 0 0), (9, .int .i64 v60), (10, .ref 177 0 0 0), (19, .psl 4 (List.map aA.enc l1)), (20, .int .i64 (l1.length : Int)), (21, .int .i64 v60), (27, .agg [.bool v61, .str v62, .bool vr4.Bottom]), (28, .agg [.str e66.Key, .str e66.Val, .bool e66.Dead, .int .i64 e66.Seq]), (29, .tup [.nili, .agg [.bool false, .str [], .bool false], .int .i64 6])], [(0, ⟨0, true, false, 1, [[.sl 144 g64 4 0 v63.length]]⟩), (104, ⟨0, true, true, 3, [[.bool v61, .str v62, .bool vr4.Bottom]]⟩), (144, ⟨g64, true, true, 4, List.map aA.enc v63⟩), (177, ⟨0, true, true, 4, [[.str e66.Key, .str e66.Val, .bool e66.Dead, .int .i64 e66.Seq]]⟩)], 441, []⟩ ?_
    refine lC (l' := List.range' 3 8 ++ []) rfl ?_
    refine sC 3 8 505 [] (fun _ => none) rfl rfl rfl (fun _ _ => rS (rA he66a (rA he66b he66c))) ?_
    refine kD ?_
    refine dA ?_
    refine xE ⟨[(2, .fn 115 [] [.ref 0 0 0 0]), (8, .ref 104 0 0 0), (9, .int .i64 v60), (11, .nili), (12, .ref 473 0 0 0), (13, .int .i64 6), (19, .psl 4 (List.map aA.enc l1)), (20, .int .i64 (l1.length : Int)), (21, .int .i64 v60)], [(0, ⟨0, true, false, 1, [[.sl 144 g64 4 0 v63.length]]⟩), (104, ⟨0, true, true, 3, [[.bool v61, .str v62, .bool vr4.Bottom]]⟩), (144, ⟨g64, true, true, 4, List.map aA.enc v63⟩), (473, ⟨0, true, true, 3, [[.bool false, .str [], .bool false]]⟩)], 505, []⟩ ?_
    refine iA ?_
    refine nA 521 [2, 8, 9, 11, 12, 13, 19, 20, 21, 34] (fun _ => none) rfl (fun _ _ => rS (rA he66a (rA he66b he66c))) ?_
    refine kK rfl ?_
    refine nA 553 [6, 7] (fun _ => none) rfl (fun _ _ => rS (rA he66a (rA he66b he66c))) ?_
    refine kA ?_
    obtain rfl := oI h1
    refine mA (cC (mA (mA (wC (mA ?_)))))
    refine oE (fun _ _ => rS (rA he66a (rA he66b he66c))) ?_
    refine xF ⟨[(0, .psl 4 (List.map aA.enc l1)), (1, .bool bottom2), (4, .ref 0 0 0 0), (8, .psl 4 (List.map aA.enc l1)), (9, .bool bottom2), (10, .fn 115 [] [.ref 0 0 0 0]), (11, .tup [.int .i64 v60, .int .i64 6])], [(0, ⟨0, true, false, 1, [[.sl 144 g64 4 0 v63.length]]⟩), (144, ⟨g64, true, true, 4, List.map aA.enc v63⟩)], 553, []⟩ ?_
    refine lC (l' := List.range' 4 5 ++ []) rfl ?_
    refine sC 4 5 593 [] (fun _ => none) rfl rfl rfl (fun _ _ => rS (rA he66a (rA he66b he66c))) ?_
    refine kD ?_
    refine dA ?_
    refine xE ⟨[(4, .ref 0 0 0 0), (5, .int .i64 v60), (6, .int .i64 6)], [(0, ⟨0, true, false, 1, [[.sl 144 g64 4 0 v63.length]]⟩), (144, ⟨g64, true, true, 4, List.map aA.enc v63⟩)], 593, []⟩ ?_
    refine iA ?_
    refine nA 609 [4, 5, 6, 15] (fun _ => none) rfl (fun _ _ => rS (rA he66a (rA he66b he66c))) ?_
    refine kK rfl ?_
    refine nA 649 [4, 5, 6] (fun _ => none) rfl (fun _ _ => rS (rA he66a (rA he66b he66c))) ?_
    refine kA (mA ?_)
    obtain rfl := oI h0
    refine lA [] ?_
    exact rJ (rA he66a (rA he66b he66c))
   refine oA (dA ?_)
   refine nA 465 [2, 3, 5, 9] (fun _ => none) rfl (fun _ _ => rS (rA he66a (rA he66b he66c))) ?_
   refine iA (xB ?_)
   obtain ⟨b74, hb74, h1⟩ := bA h1
   refine mC (fr' := [(2, .ref 217 0 0 0), (3, .ref 225 0 0 0), (5, .ref 241 0 0 0), (9, .ref 449 0 0 0), (37, .bool b74)]) (hp' := [(0, ⟨0, true, false, 1, [[.sl 144 g64 4 0 v63.length]]⟩), (104, ⟨0, true, true, 3, [[.bool v61, .str v62, .bool vr4.Bottom]]⟩), (144, ⟨g64, true, true, 4, List.map aA.enc v63⟩), (177, ⟨0, true, true, 4, [[.str e66.Key, .str e66.Val, .bool e66.Dead, .int .i64 e66.Seq]]⟩), (217, ⟨0, true, true, 3, [[.bool v61, .str v62, .bool vr4.Bottom]]⟩), (225, ⟨0, true, true, 4, [[.str e66.Key, .str e66.Val, .bool e66.Dead, .int .i64 e66.Seq]]⟩), (241, ⟨0, true, true, 3, [[.bool false, .str [], .bool false]]⟩), (449, ⟨0, true, true, 3, [[.bool true, .str e66.Key, .bool vr4.Bottom]]⟩)]) [0, 104, 144, 177, 217, 225, 241, 449] 545 [2, 3, 5, 9, 37] (fun _ => none) rfl (fun Kt hK => by
     cases v61 with
     | false =>
      replace hb74 := qA hb74 rfl
      have hqb74 := oI hb74
      subst hqb74
      exact rS (rA he66a (rA he66b he66c))
     | true =>
      replace hb74 := aB hb74 rfl
      have hqb74 := oI hb74
      subst hqb74
      exact rS (rA he66a (rA he66b he66c))) ?_
   refine xI h1 rfl (fun h1 hb76 => ?_) (fun h1 hb76 => ?_)
   ·
    refine pC 593 [4, 5, 6] (fun _ => none) rfl rfl rfl (fun _ _ => aE (rA he66a (rA he66b he66c))) ?_
    refine kA (cC (mA ?_))
    refine oE (fun _ _ => rS (rA he66a (rA he66b he66c))) ?_
    refine xF ⟨[(2, .fn 115 [] [.ref 0 0 0 0]), (8, .ref 104 0 0 0), (9, .int .i64 v60), (10, .ref 177 0 0 0), (19, .psl 4 (List.map aA.enc l1)), (20, .int .i64 (l1.length : Int)), (21, .int .i64 v60), (27, .agg [.bool v61, .str v62, .bool vr4.Bottom]), (28, .agg [.str e66.Key, .str e66.Val, .bool e66.Dead, .int .i64 e66.Seq]), (29, .tup [.iface 181 (.agg [.str e66.Key, .str e66.Val, .bool e66.Dead, .int .i64 e66.Seq]), .agg [.bool true, .str e66.Key, .bool vr4.Bottom], .int .i64 0])], [(0, ⟨0, true, false, 1, [[.sl 144 g64 4 0 v63.length]]⟩), (104, ⟨0, true, true, 3, [[.bool v61, .str v62, .bool vr4.Bottom]]⟩), (144, ⟨g64, true, true, 4, List.map aA.enc v63⟩), (177, ⟨0, true, true, 4, [[.str e66.Key, .str e66.Val, .bool e66.Dead, .int .i64 e66.Seq]]⟩)], 593, []⟩ ?_
    refine lC (l' := List.range' 3 8 ++ []) rfl ?_
    refine sC 3 8 657 [] (fun _ => none) rfl rfl rfl (fun _ _ => rS (rA he66a (rA he66b he66c))) ?_
    refine kD ?_
    refine dA ?_
    refine xE ⟨[(2, .fn 115 [] [.ref 0 0 0 0]), (8, .ref 104 0 0 0), (9, .int .i64 v60), (11, .iface 181 (.agg [.str e66.Key, .str e66.Val, .bool e66.Dead, .int .i64 e66.Seq])), (12, .ref 625 0 0 0), (13, .int .i64 0), (19, .psl 4 (List.map aA.enc l1)), (20, .int .i64 (l1.length : Int)), (21, .int .i64 v60)], [(0, ⟨0, true, false, 1, [[.sl 144 g64 4 0 v63.length]]⟩), (104, ⟨0, true, true, 3, [[.bool v61, .str v62, .bool vr4.Bottom]]⟩), (144, ⟨g64, true, true, 4, List.map aA.enc v63⟩), (625, ⟨0, true, true, 3, [[.bool true, .str e66.Key, .bool vr4.Bottom]]⟩)], 657, []⟩ ?_
    refine iA ?_
    refine nA 673 [2, 8, 9, 11, 12, 13, 19, 20, 21, 34] (fun _ => none) rfl (fun _ _ => rS (rA he66a (rA he66b he66c))) ?_
    refine qF rfl ?_
    refine oA (dA ?_)
    refine sH 3 rfl ?_
    refine lC (l' := List.range' 0 2 ++ (2 :: (List.range' 3 0 ++ []))) rfl ?_
    refine sC 0 2 689 (2 :: (List.range' 3 0 ++ [])) (fun _ => none) rfl rfl rfl (fun _ _ => rS (rA he66a (rA he66b he66c))) ?_
    refine xJ rfl rfl rfl rfl rfl Tryz.func115 rfl (by decide) rfl rL ?_
    dsimp only [Tryz.f115]
    refine xE ⟨[(0, .iface 181 (.agg [.str e66.Key, .str e66.Val, .bool e66.Dead, .int .i64 e66.Seq])), (1, .ref 0 0 0 0)], [(0, ⟨0, true, false, 1, [[.sl 144 g64 4 0 v63.length]]⟩), (104, ⟨0, true, true, 3, [[.bool v61, .str v62, .bool vr4.Bottom]]⟩), (144, ⟨g64, true, true, 4, List.map aA.enc v63⟩), (625, ⟨0, true, true, 3, [[.bool true, .str e66.Key, .bool vr4.Bottom]]⟩)], 689, []⟩ ?_
    refine nA 753 [0, 1, 4] (fun _ => none) rfl (fun _ _ => rS (rA he66a (rA he66b he66c))) ?_
    refine nA 761 [0, 1, 10] (fun _ => none) rfl (fun _ _ => rS (rA he66a (rA he66b he66c))) ?_
    refine qF rfl ?_
    refine oA ?_
    refine uR (fun _ _ => rS (rA he66a (rA he66b he66c))) ?_
    refine xF ⟨[(2, .fn 115 [] [.ref 0 0 0 0]), (8, .ref 104 0 0 0), (9, .int .i64 v60), (11, .iface 181 (.agg [.str e66.Key, .str e66.Val, .bool e66.Dead, .int .i64 e66.Seq])), (12, .ref 625 0 0 0), (13, .int .i64 0), (19, .psl 4 (List.map aA.enc l1)), (20, .int .i64 (l1.length : Int)), (21, .int .i64 v60), (34, .bool false), (37, .fn 115 [] [.ref 0 0 0 0]), (38, .iface 181 (.agg [.str e66.Key, .str e66.Val, .bool e66.Dead, .int .i64 e66.Seq])), (39, .tup [])], [(0, ⟨0, true, false, 1, [[.sl 144 g64 4 0 v63.length]]⟩), (104, ⟨0, true, true, 3, [[.bool v61, .str v62, .bool vr4.Bottom]]⟩), (144, ⟨g64, true, true, 4, List.map aA.enc v63⟩), (625, ⟨0, true, true, 3, [[.bool true, .str e66.Key, .bool vr4.Bottom]]⟩)], 761, []⟩ ?_
    refine lC (l' := []) rfl ?_
    refine kD ?_
    refine dA ?_
    refine xE ⟨[(2, .fn 115 [] [.ref 0 0 0 0]), (8, .ref 104 0 0 0), (12, .ref 625 0 0 0), (19, .psl 4 (List.map aA.enc l1)), (20, .int .i64 (l1.length : Int)), (21, .int .i64 v60)], [(0, ⟨0, true, false, 1, [[.sl 144 g64 4 0 v63.length]]⟩), (104, ⟨0, true, true, 3, [[.bool v61, .str v62, .bool vr4.Bottom]]⟩), (144, ⟨g64, true, true, 4, List.map aA.enc v63⟩), (625, ⟨0, true, true, 3, [[.bool true, .str e66.Key, .bool vr4.Bottom]]⟩)], 761, []⟩ ?_
    refine nB 777 [2, 8, 19, 20, 21] (fun _ => none) rfl (fun _ _ => rS (rA he66a (rA he66b he66c))) ?_
    refine qB (dA ?_)
    refine nB 793 [2, 8, 19, 20, 21] (fun _ => none) rfl (fun _ _ => rS (rA he66a (rA he66b he66c))) ?_
    refine dA ?_
    exact ⟨⟨(fu, (IntKind.i64.wrap (v60 + 1)), true, e66.Key, v63, g64), h1⟩, ⟨rF, rE, rfl, rfl, trivial, trivial⟩, Nat.lt_succ_self _⟩
   obtain ⟨b77, hb77, h1⟩ := bA h1
   refine mC (fr' := [(3, .ref 225 0 0 0), (5, .ref 241 0 0 0), (9, .ref 449 0 0 0), (50, .bool b77)]) (hp' := [(0, ⟨0, true, false, 1, [[.sl 144 g64 4 0 v63.length]]⟩), (104, ⟨0, true, true, 3, [[.bool v61, .str v62, .bool vr4.Bottom]]⟩), (144, ⟨g64, true, true, 4, List.map aA.enc v63⟩), (177, ⟨0, true, true, 4, [[.str e66.Key, .str e66.Val, .bool e66.Dead, .int .i64 e66.Seq]]⟩), (217, ⟨0, true, true, 3, [[.bool v61, .str v62, .bool vr4.Bottom]]⟩), (225, ⟨0, true, true, 4, [[.str e66.Key, .str e66.Val, .bool e66.Dead, .int .i64 e66.Seq]]⟩), (241, ⟨0, true, true, 3, [[.bool false, .str [], .bool false]]⟩), (449, ⟨0, true, true, 3, [[.bool true, .str e66.Key, .bool vr4.Bottom]]⟩)]) [0, 104, 144, 177, 217, 225, 241, 449] 601 [3, 5, 9, 50] (fun _ => none) rfl (fun Kt hK => by
     cases hg78 : vr4.Bottom with
     | false =>
      replace hb77 := qA hb77 hg78
      have hqb77 := oI hb77
      subst hqb77
      exact sD hg78 (rA he66a (rA he66b he66c)) hK
     | true =>
      replace hb77 := aB hb77 hg78
      have hqb77 := oI hb77
      subst hqb77
      exact sD hg78 (rA he66a (rA he66b he66c)) hK) ?_
   refine xI h1 rfl (fun h1 hb79 => ?_) (fun h1 hb79 => ?_)
   ·
    refine pC 649 [4, 5, 6] (fun _ => none) rfl rfl rfl (fun _ _ => aE (rA he66a (rA he66b he66c))) ?_
    refine kA (cC (mA ?_))
    refine oE (fun _ _ => rS (rA he66a (rA he66b he66c))) ?_
    refine xF ⟨[(2, .fn 115 [] [.ref 0 0 0 0]), (8, .ref 104 0 0 0), (9, .int .i64 v60), (10, .ref 177 0 0 0), (19, .psl 4 (List.map aA.enc l1)), (20, .int .i64 (l1.length : Int)), (21, .int .i64 v60), (27, .agg [.bool v61, .str v62, .bool vr4.Bottom]), (28, .agg [.str e66.Key, .str e66.Val, .bool e66.Dead, .int .i64 e66.Seq]), (29, .tup [.iface 182 (.agg [.str e66.Key, .str e66.Val, .bool e66.Dead, .int .i64 e66.Seq]), .agg [.bool true, .str e66.Key, .bool vr4.Bottom], .int .i64 0])], [(0, ⟨0, true, false, 1, [[.sl 144 g64 4 0 v63.length]]⟩), (104, ⟨0, true, true, 3, [[.bool v61, .str v62, .bool vr4.Bottom]]⟩), (144, ⟨g64, true, true, 4, List.map aA.enc v63⟩), (177, ⟨0, true, true, 4, [[.str e66.Key, .str e66.Val, .bool e66.Dead, .int .i64 e66.Seq]]⟩)], 649, []⟩ ?_
    refine lC (l' := List.range' 3 8 ++ []) rfl ?_
    refine sC 3 8 713 [] (fun _ => none) rfl rfl rfl (fun _ _ => rS (rA he66a (rA he66b he66c))) ?_
    refine kD ?_
    refine dA ?_
    refine xE ⟨[(2, .fn 115 [] [.ref 0 0 0 0]), (8, .ref 104 0 0 0), (9, .int .i64 v60), (11, .iface 182 (.agg [.str e66.Key, .str e66.Val, .bool e66.Dead, .int .i64 e66.Seq])), (12, .ref 681 0 0 0), (13, .int .i64 0), (19, .psl 4 (List.map aA.enc l1)), (20, .int .i64 (l1.length : Int)), (21, .int .i64 v60)], [(0, ⟨0, true, false, 1, [[.sl 144 g64 4 0 v63.length]]⟩), (104, ⟨0, true, true, 3, [[.bool v61, .str v62, .bool vr4.Bottom]]⟩), (144, ⟨g64, true, true, 4, List.map aA.enc v63⟩), (681, ⟨0, true, true, 3, [[.bool true, .str e66.Key, .bool vr4.Bottom]]⟩)], 713, []⟩ ?_
    refine iA ?_
    refine nA 729 [2, 8, 9, 11, 12, 13, 19, 20, 21, 34] (fun _ => none) rfl (fun _ _ => rS (rA he66a (rA he66b he66c))) ?_
    refine qF rfl ?_
    refine oA (dA ?_)
    refine sH 3 rfl ?_
    refine lC (l' := List.range' 0 2 ++ (2 :: (List.range' 3 0 ++ []))) rfl ?_
    refine sC 0 2 745 (2 :: (List.range' 3 0 ++ [])) (fun _ => none) rfl rfl rfl (fun _ _ => rS (rA he66a (rA he66b he66c))) ?_
    refine xJ rfl rfl rfl rfl rfl Tryz.func115 rfl (by decide) rfl rL ?_
    dsimp only [Tryz.f115]
    refine xE ⟨[(0, .iface 182 (.agg [.str e66.Key, .str e66.Val, .bool e66.Dead, .int .i64 e66.Seq])), (1, .ref 0 0 0 0)], [(0, ⟨0, true, false, 1, [[.sl 144 g64 4 0 v63.length]]⟩), (104, ⟨0, true, true, 3, [[.bool v61, .str v62, .bool vr4.Bottom]]⟩), (144, ⟨g64, true, true, 4, List.map aA.enc v63⟩), (681, ⟨0, true, true, 3, [[.bool true, .str e66.Key, .bool vr4.Bottom]]⟩)], 745, []⟩ ?_
    refine nA 809 [0, 1, 4] (fun _ => none) rfl (fun _ _ => rS (rA he66a (rA he66b he66c))) ?_
    refine nA 817 [0, 1, 10] (fun _ => none) rfl (fun _ _ => rS (rA he66a (rA he66b he66c))) ?_
    refine qF rfl ?_
    refine oA ?_
    refine uR (fun _ _ => rS (rA he66a (rA he66b he66c))) ?_
    refine xF ⟨[(2, .fn 115 [] [.ref 0 0 0 0]), (8, .ref 104 0 0 0), (9, .int .i64 v60), (11, .iface 182 (.agg [.str e66.Key, .str e66.Val, .bool e66.Dead, .int .i64 e66.Seq])), (12, .ref 681 0 0 0), (13, .int .i64 0), (19, .psl 4 (List.map aA.enc l1)), (20, .int .i64 (l1.length : Int)), (21, .int .i64 v60), (34, .bool false), (37, .fn 115 [] [.ref 0 0 0 0]), (38, .iface 182 (.agg [.str e66.Key, .str e66.Val, .bool e66.Dead, .int .i64 e66.Seq])), (39, .tup [])], [(0, ⟨0, true, false, 1, [[.sl 144 g64 4 0 v63.length]]⟩), (104, ⟨0, true, true, 3, [[.bool v61, .str v62, .bool vr4.Bottom]]⟩), (144, ⟨g64, true, true, 4, List.map aA.enc v63⟩), (681, ⟨0, true, true, 3, [[.bool true, .str e66.Key, .bool vr4.Bottom]]⟩)], 817, []⟩ ?_
    refine lC (l' := []) rfl ?_
    refine kD ?_
    refine dA ?_
    refine xE ⟨[(2, .fn 115 [] [.ref 0 0 0 0]), (8, .ref 104 0 0 0), (12, .ref 681 0 0 0), (19, .psl 4 (List.map aA.enc l1)), (20, .int .i64 (l1.length : Int)), (21, .int .i64 v60)], [(0, ⟨0, true, false, 1, [[.sl 144 g64 4 0 v63.length]]⟩), (104, ⟨0, true, true, 3, [[.bool v61, .str v62, .bool vr4.Bottom]]⟩), (144, ⟨g64, true, true, 4, List.map aA.enc v63⟩), (681, ⟨0, true, true, 3, [[.bool true, .str e66.Key, .bool vr4.Bottom]]⟩)], 817, []⟩ ?_
    refine nB 833 [2, 8, 19, 20, 21] (fun _ => none) rfl (fun _ _ => rS (rA he66a (rA he66b he66c))) ?_
    refine qB (dA ?_)
    refine nB 849 [2, 8, 19, 20, 21] (fun _ => none) rfl (fun _ _ => rS (rA he66a (rA he66b he66c))) ?_
    refine dA ?_
    exact ⟨⟨(fu, (IntKind.i64.wrap (v60 + 1)), true, e66.Key, v63, g64), h1⟩, ⟨rF, rE, rfl, rfl, trivial, trivial⟩, Nat.lt_succ_self _⟩
   refine oA (qB (dA ?_))
   refine pC 649 [4, 5, 6] (fun _ => none) rfl rfl rfl (fun _ _ => aE (rA he66a (rA he66b he66c))) ?_
   refine kA ?_
   refine oE (fun _ _ => rS (rA he66a (rA he66b he66c))) ?_
   refine xF ⟨[(2, .fn 115 [] [.ref 0 0 0 0]), (8, .ref 104 0 0 0), (9, .int .i64 v60), (10, .ref 177 0 0 0), (19, .psl 4 (List.map aA.enc l1)), (20, .int .i64 (l1.length : Int)), (21, .int .i64 v60), (27, .agg [.bool v61, .str v62, .bool vr4.Bottom]), (28, .agg [.str e66.Key, .str e66.Val, .bool e66.Dead, .int .i64 e66.Seq]), (29, .tup [.iface 157 (.agg [.str e66.Key, .str e66.Val, .bool e66.Dead, .int .i64 e66.Seq]), .agg [.bool true, .str e66.Key, .bool vr4.Bottom], .int .i64 0])], [(0, ⟨0, true, false, 1, [[.sl 144 g64 4 0 v63.length]]⟩), (104, ⟨0, true, true, 3, [[.bool v61, .str v62, .bool vr4.Bottom]]⟩), (144, ⟨g64, true, true, 4, List.map aA.enc v63⟩), (177, ⟨0, true, true, 4, [[.str e66.Key, .str e66.Val, .bool e66.Dead, .int .i64 e66.Seq]]⟩)], 649, []⟩ ?_
   refine lC (l' := List.range' 3 8 ++ []) rfl ?_
   refine sC 3 8 713 [] (fun _ => none) rfl rfl rfl (fun _ _ => rS (rA he66a (rA he66b he66c))) ?_
   refine kD ?_
   refine dA ?_
   refine xE ⟨[(2, .fn 115 [] [.ref 0 0 0 0]), (8, .ref 104 0 0 0), (9, .int .i64 v60), (11, .iface 157 (.agg [.str e66.Key, .str e66.Val, .bool e66.Dead, .int .i64 e66.Seq])), (12, .ref 681 0 0 0), (13, .int .i64 0), (19, .psl 4 (List.map aA.enc l1)), (20, .int .i64 (l1.length : Int)), (21, .int .i64 v60)], [(0, ⟨0, true, false, 1, [[.sl 144 g64 4 0 v63.length]]⟩), (104, ⟨0, true, true, 3, [[.bool v61, .str v62, .bool vr4.Bottom]]⟩), (144, ⟨g64, true, true, 4, List.map aA.enc v63⟩), (681, ⟨0, true, true, 3, [[.bool true, .str e66.Key, .bool vr4.Bottom]]⟩)], 713, []⟩ ?_
   refine iA ?_
   refine nA 729 [2, 8, 9, 11, 12, 13, 19, 20, 21, 34] (fun _ => none) rfl (fun _ _ => rS (rA he66a (rA he66b he66c))) ?_
   refine qF rfl ?_
   refine oA (dA ?_)
   refine sH 3 rfl ?_
   refine lC (l' := List.range' 0 2 ++ (2 :: (List.range' 3 0 ++ []))) rfl ?_
   refine sC 0 2 745 (2 :: (List.range' 3 0 ++ [])) (fun _ => none) rfl rfl rfl (fun _ _ => rS (rA he66a (rA he66b he66c))) ?_
   refine xJ rfl rfl rfl rfl rfl Tryz.func115 rfl (by decide) rfl rL ?_
   dsimp only [Tryz.f115]
   refine xE ⟨[(0, .iface 157 (.agg [.str e66.Key, .str e66.Val, .bool e66.Dead, .int .i64 e66.Seq])), (1, .ref 0 0 0 0)], [(0, ⟨0, true, false, 1, [[.sl 144 g64 4 0 v63.length]]⟩), (104, ⟨0, true, true, 3, [[.bool v61, .str v62, .bool vr4.Bottom]]⟩), (144, ⟨g64, true, true, 4, List.map aA.enc v63⟩), (681, ⟨0, true, true, 3, [[.bool true, .str e66.Key, .bool vr4.Bottom]]⟩)], 745, []⟩ ?_
   refine nA 809 [0, 1, 4] (fun _ => none) rfl (fun _ _ => rS (rA he66a (rA he66b he66c))) ?_
   refine nA 817 [0, 1, 10] (fun _ => none) rfl (fun _ _ => rS (rA he66a (rA he66b he66c))) ?_
   refine kK rfl ?_
   obtain ⟨vr80, hvr80, h1⟩ := bA h1
   obtain ⟨hc81, h1⟩ := pD h1
   refine qG 865 [] (fun | 2 => some (.agg (aA.enc vr80), []) | _ => none) rfl rfl rfl (fun _ _ => pP (rA he66a (rA he66b he66c)) (zks hvr80)) ?_
   refine uR (fun _ _ => rS (rA he66a (rA he66b he66c))) ?_
   refine xF ⟨[(2, .fn 115 [] [.ref 0 0 0 0]), (8, .ref 104 0 0 0), (9, .int .i64 v60), (11, .iface 157 (.agg [.str e66.Key, .str e66.Val, .bool e66.Dead, .int .i64 e66.Seq])), (12, .ref 681 0 0 0), (13, .int .i64 0), (19, .psl 4 (List.map aA.enc l1)), (20, .int .i64 (l1.length : Int)), (21, .int .i64 v60), (34, .bool false), (37, .fn 115 [] [.ref 0 0 0 0]), (38, .iface 157 (.agg [.str e66.Key, .str e66.Val, .bool e66.Dead, .int .i64 e66.Seq])), (39, .tup [])], [(0, ⟨0, true, false, 1, [[.sl 144 (g64 + 1) 4 0 ((v63 ++ [vr80]).length)]]⟩), (104, ⟨0, true, true, 3, [[.bool v61, .str v62, .bool vr4.Bottom]]⟩), (144, ⟨(g64 + 1), true, true, 4, List.map aA.enc (v63 ++ [vr80])⟩), (681, ⟨0, true, true, 3, [[.bool true, .str e66.Key, .bool vr4.Bottom]]⟩)], 865, []⟩ ?_
   refine lC (l' := []) rfl ?_
   refine kD ?_
   refine dA ?_
   refine xE ⟨[(2, .fn 115 [] [.ref 0 0 0 0]), (8, .ref 104 0 0 0), (12, .ref 681 0 0 0), (19, .psl 4 (List.map aA.enc l1)), (20, .int .i64 (l1.length : Int)), (21, .int .i64 v60)], [(0, ⟨0, true, false, 1, [[.sl 144 (g64 + 1) 4 0 ((v63 ++ [vr80]).length)]]⟩), (104, ⟨0, true, true, 3, [[.bool v61, .str v62, .bool vr4.Bottom]]⟩), (144, ⟨(g64 + 1), true, true, 4, List.map aA.enc (v63 ++ [vr80])⟩), (681, ⟨0, true, true, 3, [[.bool true, .str e66.Key, .bool vr4.Bottom]]⟩)], 865, []⟩ ?_
   refine nB 881 [2, 8, 19, 20, 21] (fun _ => none) rfl (fun _ _ => rS (rA he66a (rA he66b he66c))) ?_
   refine qB (dA ?_)
   refine nB 897 [2, 8, 19, 20, 21] (fun _ => none) rfl (fun _ _ => rS (rA he66a (rA he66b he66c))) ?_
   refine dA ?_
   exact ⟨⟨(fu, (IntKind.i64.wrap (v60 + 1)), true, e66.Key, (v63 ++ [vr80]), (g64 + 1)), h1⟩, ⟨rF, rE, rfl, rfl, trivial, trivial⟩, Nat.lt_succ_self _⟩
  refine fC (xA (xA (iC ?_)))
  obtain rfl := oI h1
  exact ⟨_, g64, rfl, rL, ⟨rF, rE, rfl, rfl, trivial, trivial⟩⟩
theorem pY {fu : Nat} {a1 : List aA} {b2 : List aA} {r : Bool} (h0 : kP fu a1 b2 = some r) : yA Tryz.prog 88 [.psl 4 (a1.map aA.enc), .psl 4 (b2.map aA.enc)] (.bool r) [] := by
 refine cB Tryz.func88 rfl (by decide) rL ?_
 dsimp only [Tryz.f88]
 rw [kP] at h0
 refine xS 8 [0, 1] ?_
 refine iA ?_
 refine xS 48 [0, 1, 11] ?_
 refine xI h0 rfl (fun h0 hb3 => ?_) (fun h0 hb3 => ?_)
 ·
  refine xS 56 [4] ?_
  refine kA (mA ?_)
  obtain rfl := oI h0
  exact lA [] rG
 refine oA (dA (iA ?_))
 refine xS 72 [1, 12, 13, 14] ?_
 obtain ⟨x13, hxx13, h0⟩ := bA h0
 refine oC (fun s' => ∃ o19 : Unit, x13 = .inl o19 ∧ s'.nx ≤ 80 ∧ LeN [] s' ⟨[], [], 80, []⟩) ?_ ?_
 ·
  intro s' hs
  obtain ⟨o19, rfl, hn, hs⟩ := hs
  refine dA ?_
  refine oB [] hn hs ?_
  refine xS 88 [4] ?_
  refine kA ?_
  obtain rfl := oI h0
  exact lA [] rG
 refine nC (ι := { p : Nat × Int // mI a1 b2 p.1 p.2 = some x13 }) (fun p => ⟨[(1, .psl 4 (List.map aA.enc b2)), (12, .psl 4 (List.map aA.enc a1)), (13, .int .i64 (a1.length : Int)), (14, .int .i64 p.1.2)], [], 72, []⟩) (fun p => p.1.1) ⟨(fu, 0), hxx13⟩ ⟨rF, rE, rfl, rfl, trivial, trivial⟩ (fun _ => Nat.le_refl _) ?_
 rintro ⟨⟨fu, v14⟩, h1⟩
 cases fu with
 | zero =>
  replace h1 : mI a1 b2 0 v14 = some x13 := h1
  rw [mI] at h1; cases h1
 | succ fu =>
  replace h1 : mI a1 b2 (fu + 1) v14 = some x13 := h1
  rw [mI] at h1
  dsimp only
  refine xS 80 [1, 12, 13, 14, 15] ?_
  refine iA ?_
  refine xI h1 rfl (fun h1 hb15 => ?_) (fun h1 hb15 => ?_)
  ·
   refine oA (dA (iA (xB ?_)))
   obtain ⟨e16, he16, h1⟩ := bA h1
   obtain ⟨he16a, he16b, he16c⟩ := wA he16
   refine nA 128 [1, 5, 6, 12, 13, 14] (fun _ => none) rfl (fun _ _ => rS (rA he16a (rA he16b he16c))) ?_
   obtain ⟨e17, he17, h1⟩ := bA h1
   obtain ⟨he17a, he17b, he17c⟩ := wA he17
   refine pC 176 [1, 12, 13, 14, 24] (fun _ => none) rfl rfl rfl (fun _ _ => aE (rA he16a (rA he16b (rA he16c (rA he17a (rA he17b he17c)))))) ?_
   refine xI h1 rfl (fun h1 hb18 => ?_) (fun h1 hb18 => ?_)
   ·
    refine nA 184 [4] (fun _ => none) rfl (fun _ _ => rS (rA he16a (rA he16b (rA he16c (rA he17a (rA he17b he17c)))))) ?_
    refine kA ?_
    obtain rfl := oI h1
    refine cC (mA (mA (wC (mA ?_))))
    obtain rfl := oI h0
    refine lA [] ?_
    exact rJ (rA he16a (rA he16b (rA he16c (rA he17a (rA he17b he17c)))))
   refine oA (qB (dA ?_))
   refine nB 192 [1, 12, 13, 14] (fun _ => none) rfl (fun _ _ => rS (rA he16a (rA he16b (rA he16c (rA he17a (rA he17b he17c)))))) ?_
   refine dA ?_
   exact ⟨⟨(fu, (IntKind.i64.wrap (v14 + 1))), h1⟩, ⟨rF, rE, rfl, rfl, trivial, trivial⟩, Nat.lt_succ_self _⟩
  refine fC (xA (xA (iC ?_)))
  obtain rfl := oI h1
  exact ⟨_, rfl, rL, ⟨rF, rE, rfl, rfl, trivial, trivial⟩⟩
theorem ziq {fu : Nat} {vs1 : lB} {r : Int} (h0 : oP fu vs1 = some r) : yA Tryz.prog 56 [.agg (lB.enc vs1)] (.int .i64 r) [] := by
 refine cB Tryz.func56 rfl (by decide) rL ?_
 dsimp only [Tryz.f56]
 rw [oP] at h0
 refine xS 16 [1] ?_
 refine iA ?_
 obtain ⟨vr2, hvr2, h0⟩ := bA h0
 refine nA 80 [1, 4] (fun | 2 => some (.tup [.int .i64 vr2.1, .int .i64 vr2.2], []) | _ => none) rfl (fun _ _ => rC (zaB hvr2)) ?_
 refine xS 96 [1, 4, 21] ?_
 refine xI h0 rfl (fun h0 hb3 => ?_) (fun h0 hb3 => ?_)
 ·
  refine xS 112 [2] ?_
  refine kA (mA ?_)
  obtain rfl := oI h0
  exact lA [] rG
 refine oA (dA ?_)
 refine xS 104 [1, 5] ?_
 refine iA ?_
 refine xS 144 [1, 5, 25, 26, 27] ?_
 obtain ⟨x10, hxx10, h0⟩ := bA h0
 refine oC (fun s' => s'.nx ≤ 152 ∧ LeN [] s' ⟨[(1, .ref 0 0 0 0), (5, .int .i64 x10)], [(0, ⟨0, true, true, 10, [[.psl 1 (List.map (sA 4 aA.enc) vs1.Merge.Runs), .psl 1 (List.map (fA .i64) vs1.Merge.At), .psl 2 (List.map eA.enc vs1.Merge.Tree.Keys), .psl 1 (List.map (fA .i64) vs1.Merge.Tree.Lose), .int .i64 vs1.Merge.Tree.Win, .bool vs1.Shadow.Some, .str vs1.Shadow.Last, .bool vs1.Shadow.Bottom, .psl 4 (List.map aA.enc vs1.Out), .int .i64 vs1.Steps]]⟩)], 152, []⟩) ?_ ?_
 ·
  intro s' hs
  obtain ⟨hn, hs⟩ := hs
  refine dA ?_
  refine oB [] hn hs ?_
  refine iA (xB ?_)
  obtain ⟨b15, hb15, h0⟩ := bA h0
  refine mC (fr' := [(1, .ref 0 0 0 0), (5, .int .i64 x10), (35, .bool b15)]) (hp' := [(0, ⟨0, true, true, 10, [[.psl 1 (List.map (sA 4 aA.enc) vs1.Merge.Runs), .psl 1 (List.map (fA .i64) vs1.Merge.At), .psl 2 (List.map eA.enc vs1.Merge.Tree.Keys), .psl 1 (List.map (fA .i64) vs1.Merge.Tree.Lose), .int .i64 vs1.Merge.Tree.Win, .bool vs1.Shadow.Some, .str vs1.Shadow.Last, .bool vs1.Shadow.Bottom, .psl 4 (List.map aA.enc vs1.Out), .int .i64 vs1.Steps]]⟩)]) [0] 224 [1, 5, 35] (fun _ => none) rfl (fun Kt hK => by
    cases hg16 : (decide (20000 < (vs1.Out.length : Int))) with
    | false =>
     replace hb15 := qA hb15 hg16
     have hqb15 := oI hb15
     subst hqb15
     exact rW hg16 hK
    | true =>
     replace hb15 := aB hb15 hg16
     have hqb15 := oI hb15
     subst hqb15
     exact rW hg16 hK) ?_
  refine xI h0 rfl (fun h0 hb17 => ?_) (fun h0 hb17 => ?_)
  ·
   refine xS 232 [2] ?_
   refine kA (cC (mA ?_))
   obtain rfl := oI h0
   exact lA [] rG
  refine xS 264 [1, 5, 44] ?_
  refine xI h0 rfl (fun h0 hb18 => ?_) (fun h0 hb18 => ?_)
  ·
   refine xS 272 [2] ?_
   refine kA (cC (mA ?_))
   obtain rfl := oI h0
   exact lA [] rG
  refine oA (qB (dA ?_))
  obtain ⟨vr19, hvr19, h0⟩ := bA h0
  refine nA 352 [1, 5, 8, 10] (fun | 3 => some (.tup [.psl 4 (vr19.1.map aA.enc), .psl 1 (vr19.2.1.map (fA .i64)), .int .i64 vr19.2.2], []) | _ => none) rfl (fun _ _ => rC (zmd hvr19)) ?_
  refine iA ?_
  refine xS 368 [1, 5, 8, 10, 58] ?_
  refine xI h0 rfl (fun h0 hb20 => ?_) (fun h0 hb20 => ?_)
  ·
   refine xS 384 [2] ?_
   refine kA (mA ?_)
   obtain rfl := oI h0
   exact lA [] rG
  refine oA (dA ?_)
  obtain ⟨hc21, h0⟩ := pD h0
  obtain ⟨vr22, hvr22, h0⟩ := bA h0
  refine pC 480 [1, 5, 8, 10, 11] (fun | 6 => some (.tup [.psl 4 (vr22.1.map aA.enc), .int .i64 vr22.2.1, .int .i64 vr22.2.2], []) | _ => none) rfl rfl rfl (fun _ _ => aO (zfE hvr22)) ?_
  refine iA ?_
  refine xS 496 [1, 5, 8, 10, 11, 72] ?_
  refine xI h0 rfl (fun h0 hb23 => ?_) (fun h0 hb23 => ?_)
  ·
   refine xS 512 [2] ?_
   refine kA (mA ?_)
   obtain rfl := oI h0
   exact lA [] rG
  refine oA (dA ?_)
  obtain ⟨vr24, hvr24, h0⟩ := bA h0
  refine nA 544 [1, 5, 8, 11, 13] (fun | 3 => some (.agg (jB.enc vr24), []) | _ => none) rfl (fun _ _ => rC (zbV hvr24)) ?_
  refine iA ?_
  refine xS 560 [1, 5, 8, 11, 13, 79] ?_
  refine xI h0 rfl (fun h0 hb25 => ?_) (fun h0 hb25 => ?_)
  ·
   obtain ⟨e26, he26, h0⟩ := bA h0
   obtain ⟨he26a, he26b, he26c⟩ := wA he26
   refine qG 640 [1, 11, 13] (fun _ => none) rfl rfl rfl (fun _ _ => aE (rA he26a (rA he26b he26c))) ?_
   refine dA (iA ?_)
   obtain ⟨vr27, hvr27, h0⟩ := bA h0
   obtain ⟨b28, hb28, h0⟩ := bA h0
   refine mC (fr' := [(98, .bool b28)]) (hp' := [(0, ⟨0, true, true, 10, [[.psl 1 (List.map (sA 4 aA.enc) vs1.Merge.Runs), .psl 1 (List.map (fA .i64) vs1.Merge.At), .psl 2 (List.map eA.enc vs1.Merge.Tree.Keys), .psl 1 (List.map (fA .i64) vs1.Merge.Tree.Lose), .int .i64 vs1.Merge.Tree.Win, .bool vs1.Shadow.Some, .str vs1.Shadow.Last, .bool vs1.Shadow.Bottom, .psl 4 (List.map aA.enc vs1.Out), .int .i64 vs1.Steps]]⟩), (528, ⟨0, true, true, 3, [[.bool true, .str e26.Key, .bool vr24.Bottom]]⟩)]) [0, 528] 728 [98] (fun | 3 => some (.bool vr27, []) | _ => none) rfl (fun Kt hK => by
     cases hg29 : (!vr27) with
     | false =>
      replace hb28 := qA hb28 hg29
      have hqb28 := oI hb28
      subst hqb28
      first | exact yI hg29 (rA he26a (rA he26b he26c)) (pY hvr27) hK | exact sD hg29 (rA he26a (rA he26b he26c)) hK
     | true =>
      replace hb28 := aB hb28 hg29
      have hqb28 := oI hb28
      subst hqb28
      first | exact yI hg29 (rA he26a (rA he26b he26c)) (pY hvr27) hK | exact sD hg29 (rA he26a (rA he26b he26c)) hK) ?_
   refine xI h0 rfl (fun h0 hb30 => ?_) (fun h0 hb30 => ?_)
   ·
    refine nA 736 [2] (fun _ => none) rfl (fun _ _ => rS (rA he26a (rA he26b he26c))) ?_
    refine kA (mA ?_)
    obtain rfl := oI h0
    refine lA [] ?_
    exact rJ (rA he26a (rA he26b he26c))
   refine oA (dA ?_)
   refine nA 736 [2] (fun _ => none) rfl (fun _ _ => rS (rA he26a (rA he26b he26c))) ?_
   refine kA ?_
   obtain rfl := oI h0
   refine lA [] ?_
   exact rJ (rA he26a (rA he26b he26c))
  refine oA (dA (iA ?_))
  obtain ⟨vr31, hvr31, h0⟩ := bA h0
  obtain ⟨b32, hb32, h0⟩ := bA h0
  refine mC (fr' := [(98, .bool b32)]) (hp' := [(0, ⟨0, true, true, 10, [[.psl 1 (List.map (sA 4 aA.enc) vs1.Merge.Runs), .psl 1 (List.map (fA .i64) vs1.Merge.At), .psl 2 (List.map eA.enc vs1.Merge.Tree.Keys), .psl 1 (List.map (fA .i64) vs1.Merge.Tree.Lose), .int .i64 vs1.Merge.Tree.Win, .bool vs1.Shadow.Some, .str vs1.Shadow.Last, .bool vs1.Shadow.Bottom, .psl 4 (List.map aA.enc vs1.Out), .int .i64 vs1.Steps]]⟩), (528, ⟨0, true, true, 3, [[.bool vr24.Some, .str vr24.Last, .bool vr24.Bottom]]⟩)]) [0, 528] 648 [98] (fun | 3 => some (.bool vr31, []) | _ => none) rfl (fun Kt hK => by
    cases hg33 : (!vr31) with
    | false =>
     replace hb32 := qA hb32 hg33
     have hqb32 := oI hb32
     subst hqb32
     first | exact iI hg33 (pY hvr31) hK | exact rW hg33 hK
    | true =>
     replace hb32 := aB hb32 hg33
     have hqb32 := oI hb32
     subst hqb32
     first | exact iI hg33 (pY hvr31) hK | exact rW hg33 hK) ?_
  refine xI h0 rfl (fun h0 hb34 => ?_) (fun h0 hb34 => ?_)
  ·
   refine xS 656 [2] ?_
   refine kA (mA ?_)
   obtain rfl := oI h0
   exact lA [] rG
  refine oA (dA ?_)
  refine xS 656 [2] ?_
  refine kA ?_
  obtain rfl := oI h0
  exact lA [] rG
 refine nC (ι := { p : Nat × Int × Int // aI vs1 p.1 p.2.1 p.2.2 = some x10 }) (fun p => ⟨[(1, .ref 0 0 0 0), (5, .int .i64 p.1.2.1), (25, .psl 1 (List.map (fA .i64) vs1.Merge.At)), (26, .int .i64 (vs1.Merge.At.length : Int)), (27, .int .i64 p.1.2.2)], [(0, ⟨0, true, true, 10, [[.psl 1 (List.map (sA 4 aA.enc) vs1.Merge.Runs), .psl 1 (List.map (fA .i64) vs1.Merge.At), .psl 2 (List.map eA.enc vs1.Merge.Tree.Keys), .psl 1 (List.map (fA .i64) vs1.Merge.Tree.Lose), .int .i64 vs1.Merge.Tree.Win, .bool vs1.Shadow.Some, .str vs1.Shadow.Last, .bool vs1.Shadow.Bottom, .psl 4 (List.map aA.enc vs1.Out), .int .i64 vs1.Steps]]⟩)], 144, []⟩) (fun p => p.1.1) ⟨(fu, 0, 0), hxx10⟩ ⟨rF, rE, rfl, rfl, trivial, trivial⟩ (fun _ => Nat.le_refl _) ?_
 rintro ⟨⟨fu, n11, v12⟩, h1⟩
 cases fu with
 | zero =>
  replace h1 : aI vs1 0 n11 v12 = some x10 := h1
  rw [aI] at h1; cases h1
 | succ fu =>
  replace h1 : aI vs1 (fu + 1) n11 v12 = some x10 := h1
  rw [aI] at h1
  dsimp only
  refine xS 152 [1, 5, 25, 26, 27, 28] ?_
  refine iA ?_
  refine xI h1 rfl (fun h1 hb13 => ?_) (fun h1 hb13 => ?_)
  ·
   refine oA (dA (iA (xB ?_)))
   obtain ⟨e14, he14, h1⟩ := bA h1
   obtain ⟨he14a, he14b, he14c⟩ := wA he14
   refine nA 176 [1, 5, 7, 25, 26, 27] (fun _ => none) rfl (fun _ _ => rS (rA he14a (rA he14b he14c))) ?_
   refine nB 208 [1, 5, 25, 26, 27] (fun _ => none) rfl (fun _ _ => rS (rA he14a (rA he14b he14c))) ?_
   refine qB (dA ?_)
   refine nB 224 [1, 5, 25, 26, 27] (fun _ => none) rfl (fun _ _ => rS (rA he14a (rA he14b he14c))) ?_
   refine dA ?_
   exact ⟨⟨(fu, (IntKind.i64.wrap (n11 + e14)), (IntKind.i64.wrap (v12 + 1))), h1⟩, ⟨rF, rE, rfl, rfl, trivial, trivial⟩, Nat.lt_succ_self _⟩
  refine fC (xA (xA (iC ?_)))
  obtain rfl := oI h1
  exact ⟨rL, ⟨rF, rE, rfl, rfl, trivial, trivial⟩⟩
theorem zpa {fu : Nat} {vs1 : dB} {r : Int × Int} (h0 : mQ fu vs1 = some r) : yA Tryz.prog 57 [.agg (dB.enc vs1)] (.tup [.int .i64 r.1, .int .i64 r.2]) [] := by
 refine cB Tryz.func57 rfl (by decide) rL ?_
 dsimp only [Tryz.f57]
 rw [mQ] at h0
 refine xS 24 [1] ?_
 refine iA ?_
 obtain ⟨vr2, hvr2, h0⟩ := bA h0
 refine nA 80 [1, 5] (fun | 1 => some (.tup [.int .i64 vr2.1, .int .i64 vr2.2], []) | _ => none) rfl (fun _ _ => rC (zaB hvr2)) ?_
 refine xS 96 [1, 5, 15] ?_
 refine xI h0 rfl (fun h0 hb3 => ?_) (fun h0 hb3 => ?_)
 ·
  refine xS 120 [2, 3] ?_
  refine kA (mA ?_)
  obtain rfl := oI h0
  exact lA [] rG
 refine oA (dA ?_)
 refine xS 104 [1, 6] ?_
 refine iA ?_
 refine xS 136 [1, 6, 18, 19, 20] ?_
 obtain ⟨x12, hxx12, h0⟩ := bA h0
 refine oC (fun s' => s'.nx ≤ 144 ∧ LeN [] s' ⟨[(6, .int .i64 x12)], [(0, ⟨0, true, true, 5, [[.psl 1 (List.map (sA 4 aA.enc) vs1.Runs), .psl 1 (List.map (fA .i64) vs1.At), .psl 2 (List.map eA.enc vs1.Tree.Keys), .psl 1 (List.map (fA .i64) vs1.Tree.Lose), .int .i64 vs1.Tree.Win]]⟩)], 144, []⟩) ?_ ?_
 ·
  intro s' hs
  obtain ⟨hn, hs⟩ := hs
  refine dA ?_
  refine oB [] hn hs ?_
  refine xS 168 [2, 3] ?_
  refine kA ?_
  obtain rfl := oI h0
  exact lA [] rG
 refine nC (ι := { p : Nat × Int × Int // tI vs1 p.1 p.2.1 p.2.2 = some x12 }) (fun p => ⟨[(1, .ref 0 0 0 0), (6, .int .i64 p.1.2.1), (18, .psl 1 (List.map (sA 4 aA.enc) vs1.Runs)), (19, .int .i64 (vs1.Runs.length : Int)), (20, .int .i64 p.1.2.2)], [(0, ⟨0, true, true, 5, [[.psl 1 (List.map (sA 4 aA.enc) vs1.Runs), .psl 1 (List.map (fA .i64) vs1.At), .psl 2 (List.map eA.enc vs1.Tree.Keys), .psl 1 (List.map (fA .i64) vs1.Tree.Lose), .int .i64 vs1.Tree.Win]]⟩)], 136, []⟩) (fun p => p.1.1) ⟨(fu, 0, 0), hxx12⟩ ⟨rF, rE, rfl, rfl, trivial, trivial⟩ (fun _ => Nat.le_refl _) ?_
 rintro ⟨⟨fu, n13, v14⟩, h1⟩
 cases fu with
 | zero =>
  replace h1 : tI vs1 0 n13 v14 = some x12 := h1
  rw [tI] at h1; cases h1
 | succ fu =>
  replace h1 : tI vs1 (fu + 1) n13 v14 = some x12 := h1
  rw [tI] at h1
  dsimp only
  refine xS 144 [1, 6, 18, 19, 20, 21] ?_
  refine iA ?_
  refine xI h1 rfl (fun h1 hb15 => ?_) (fun h1 hb15 => ?_)
  ·
   refine oA (dA (iA (xB ?_)))
   obtain ⟨e16, he16, h1⟩ := bA h1
   obtain ⟨he16a, he16b, he16c⟩ := wA he16
   refine nA 184 [1, 6, 7, 8, 18, 19, 20] (fun _ => none) rfl (fun _ _ => rS (rA he16a (rA he16b he16c))) ?_
   obtain ⟨e17, he17, h1⟩ := bA h1
   obtain ⟨he17a, he17b, he17c⟩ := wA he17
   refine nB 272 [1, 6, 18, 19, 20] (fun _ => none) rfl (fun _ _ => rS (rA he16a (rA he16b (rA he16c (rA he17a (rA he17b he17c)))))) ?_
   refine qB (dA ?_)
   refine nB 288 [1, 6, 18, 19, 20] (fun _ => none) rfl (fun _ _ => rS (rA he16a (rA he16b (rA he16c (rA he17a (rA he17b he17c)))))) ?_
   refine dA ?_
   exact ⟨⟨(fu, (IntKind.i64.wrap (n13 + (IntKind.i64.wrap ((e16.length : Int) - e17)))), (IntKind.i64.wrap (v14 + 1))), h1⟩, ⟨rF, rE, rfl, rfl, trivial, trivial⟩, Nat.lt_succ_self _⟩
  refine fC (xA (xA (iC ?_)))
  obtain rfl := oI h1
  exact ⟨rL, ⟨rF, rE, rfl, rfl, trivial, trivial⟩⟩
theorem aY {fu : Nat} {vs1 : lB} {r : Int × Int} (h0 : fM fu vs1 = some r) : yA Tryz.prog 30 [.agg (lB.enc vs1)] (.tup [.int .i64 r.1, .int .i64 r.2]) [] := by
 refine cB Tryz.func30 rfl (by decide) rL ?_
 dsimp only [Tryz.f30]
 rw [fM] at h0
 refine xS 24 [1] ?_
 refine iA ?_
 obtain ⟨vr2, hvr2, h0⟩ := bA h0
 refine nA 48 [1, 4] (fun | 1 => some (.int .i64 vr2, []) | _ => none) rfl (fun _ _ => rC (ziq hvr2)) ?_
 refine xS 64 [1, 4, 8] ?_
 refine xI h0 rfl (fun h0 hb3 => ?_) (fun h0 hb3 => ?_)
 ·
  refine xS 88 [2, 3] ?_
  refine kA (mA ?_)
  obtain rfl := oI h0
  exact lA [] rG
 refine oA (dA ?_)
 obtain ⟨vr4, hvr4, h0⟩ := bA h0
 refine nA 120 [2, 3] (fun | 2 => some (.tup [.int .i64 vr4.1, .int .i64 vr4.2], []) | _ => none) rfl (fun _ _ => rC (zpa hvr4)) ?_
 refine kA ?_
 obtain rfl := oI h0
 exact lA [] rG
theorem znZ {fu : Nat} {vs1 : dB} {r : aA × Int × dB × Int} (h0 : vP fu vs1 = some r) : yA Tryz.prog 89 [.agg (dB.enc vs1)] (.tup [.agg (aA.enc r.1), .int .i64 r.2.1, .agg (dB.enc r.2.2.1), .int .i64 r.2.2.2]) [] := by
 refine cB Tryz.func89 rfl (by decide) rL ?_
 dsimp only [Tryz.f89]
 rw [vP] at h0
 refine xS 40 [1, 2, 4] ?_
 refine sH 7 rfl ?_
 refine lC (l' := List.range' 0 1 ++ (1 :: (List.range' 2 5 ++ []))) rfl ?_
 refine sC 0 1 48 (1 :: (List.range' 2 5 ++ [])) (fun _ => none) rfl rfl rfl (fun _ _ => rT) ?_
 refine xJ rfl rfl rfl rfl rfl Tryz.func116 rfl (by decide) rfl rL ?_
 dsimp only [Tryz.f116]
 refine xE ⟨[(0, .agg [.psl 1 (List.map (sA 4 aA.enc) vs1.Runs), .psl 1 (List.map (fA .i64) vs1.At), .psl 2 (List.map eA.enc vs1.Tree.Keys), .psl 1 (List.map (fA .i64) vs1.Tree.Lose), .int .i64 vs1.Tree.Win])], [(0, ⟨0, true, true, 5, [[.psl 1 (List.map (sA 4 aA.enc) vs1.Runs), .psl 1 (List.map (fA .i64) vs1.At), .psl 2 (List.map eA.enc vs1.Tree.Keys), .psl 1 (List.map (fA .i64) vs1.Tree.Lose), .int .i64 vs1.Tree.Win]]⟩), (8, ⟨0, true, true, 4, [[.str [], .str [], .bool false, .int .i64 0]]⟩), (24, ⟨0, true, true, 5, [[.nils, .nils, .nils, .nils, .int .i64 0]]⟩)], 48, []⟩ ?_
 refine xS 72 [1] ?_
 refine iA ?_
 obtain ⟨vr2, hvr2, h0⟩ := bA h0
 refine nA 128 [1, 5] (fun | 1 => some (.tup [.int .i64 vr2.1, .int .i64 vr2.2], []) | _ => none) rfl (fun _ _ => rC (zaB hvr2)) ?_
 refine xS 144 [1, 5, 12] ?_
 refine xI h0 rfl (fun h0 hb3 => ?_) (fun h0 hb3 => ?_)
 ·
  refine xS 168 [2, 3] ?_
  refine kA (mA ?_)
  refine oE (fun _ _ => rT) ?_
  refine xF ⟨[(1, .ref 0 0 0 0), (2, .ref 8 0 0 0), (4, .ref 24 0 0 0), (8, .agg [.psl 1 (List.map (sA 4 aA.enc) vs1.Runs), .psl 1 (List.map (fA .i64) vs1.At), .psl 2 (List.map eA.enc vs1.Tree.Keys), .psl 1 (List.map (fA .i64) vs1.Tree.Lose), .int .i64 vs1.Tree.Win]), (9, .tup [.nilp, .int .i64 vr2.2])], [(0, ⟨0, true, true, 5, [[.psl 1 (List.map (sA 4 aA.enc) vs1.Runs), .psl 1 (List.map (fA .i64) vs1.At), .psl 2 (List.map eA.enc vs1.Tree.Keys), .psl 1 (List.map (fA .i64) vs1.Tree.Lose), .int .i64 vs1.Tree.Win]]⟩), (8, ⟨0, true, true, 4, [[.str [], .str [], .bool false, .int .i64 0]]⟩), (24, ⟨0, true, true, 5, [[.nils, .nils, .nils, .nils, .int .i64 0]]⟩)], 168, []⟩ ?_
  refine lC (l' := List.range' 2 5 ++ []) rfl ?_
  refine sC 2 5 208 [] (fun _ => none) rfl rfl rfl (fun _ _ => rT) ?_
  refine kD ?_
  refine dA ?_
  refine xE ⟨[(2, .ref 8 0 0 0), (4, .ref 24 0 0 0), (5, .int .i64 vr2.2), (6, .nilp)], [(8, ⟨0, true, true, 4, [[.str [], .str [], .bool false, .int .i64 0]]⟩), (24, ⟨0, true, true, 5, [[.nils, .nils, .nils, .nils, .int .i64 0]]⟩)], 208, []⟩ ?_
  refine iA ?_
  refine xS 224 [2, 4, 5, 6, 13] ?_
  refine qO rfl hb3 ?_
  refine xS 280 [2, 3, 4, 5] ?_
  refine kA (mA ?_)
  obtain rfl := oI h0
  exact lA [] rG
 refine oA (dA ?_)
 obtain ⟨vr4, hvr4, h0⟩ := bA h0
 obtain ⟨vr5, hvr5, h0⟩ := bA h0
 refine pC 248 [2, 3] (fun | 2 => some (.psl 1 (vr4.map (sA 4 aA.enc)), []) | 5 => some (.sl 0 0 1 0 vr5.length, [⟨0, true, true, 1, vr5.map (fA .i64)⟩]) | _ => none) rfl rfl rfl (fun Kt hK => by
   try have q0 := za0 hvr4
   try have q1 := zc4 hvr5
   exact nF) ?_
 refine kA ?_
 refine oE (fun _ _ => rT) ?_
 refine xF ⟨[(1, .ref 0 0 0 0), (2, .ref 8 0 0 0), (4, .ref 24 0 0 0), (8, .agg [.psl 1 (List.map (sA 4 aA.enc) vs1.Runs), .psl 1 (List.map (fA .i64) vs1.At), .psl 2 (List.map eA.enc vs1.Tree.Keys), .psl 1 (List.map (fA .i64) vs1.Tree.Lose), .int .i64 vs1.Tree.Win]), (9, .tup [.ref 224 0 0 0, .int .i64 0])], [(0, ⟨0, true, true, 5, [[.psl 1 (List.map (sA 4 aA.enc) vs1.Runs), .psl 1 (List.map (fA .i64) vs1.At), .psl 2 (List.map eA.enc vs1.Tree.Keys), .psl 1 (List.map (fA .i64) vs1.Tree.Lose), .int .i64 vs1.Tree.Win]]⟩), (8, ⟨0, true, true, 4, [[.str [], .str [], .bool false, .int .i64 0]]⟩), (24, ⟨0, true, true, 5, [[.nils, .nils, .nils, .nils, .int .i64 0]]⟩), (184, ⟨0, true, true, 1, List.map (fA .i64) vr5⟩), (224, ⟨0, true, false, 5, [[.psl 1 (List.map (sA 4 aA.enc) vr4), .sl 184 0 1 0 vr5.length, .psl 2 (List.map eA.enc vs1.Tree.Keys), .psl 1 (List.map (fA .i64) vs1.Tree.Lose), .int .i64 vs1.Tree.Win]]⟩)], 248, []⟩ ?_
 refine lC (l' := List.range' 2 5 ++ []) rfl ?_
 refine sC 2 5 288 [] (fun _ => none) rfl rfl rfl (fun _ _ => rT) ?_
 refine kD ?_
 refine dA ?_
 refine xE ⟨[(2, .ref 8 0 0 0), (4, .ref 24 0 0 0), (5, .int .i64 0), (6, .ref 224 0 0 0)], [(8, ⟨0, true, true, 4, [[.str [], .str [], .bool false, .int .i64 0]]⟩), (24, ⟨0, true, true, 5, [[.nils, .nils, .nils, .nils, .int .i64 0]]⟩), (184, ⟨0, true, true, 1, List.map (fA .i64) vr5⟩), (224, ⟨0, true, false, 5, [[.psl 1 (List.map (sA 4 aA.enc) vr4), .sl 184 0 1 0 vr5.length, .psl 2 (List.map eA.enc vs1.Tree.Keys), .psl 1 (List.map (fA .i64) vs1.Tree.Lose), .int .i64 vs1.Tree.Win]]⟩)], 288, []⟩ ?_
 refine iA ?_
 refine xS 304 [2, 4, 5, 6, 13] ?_
 refine qF rfl ?_
 refine oA (dA ?_)
 obtain ⟨vr6, hvr6, h0⟩ := bA h0
 refine nA 376 [2, 3, 4, 5, 6] (fun | 1 => some (.tup [.agg (aA.enc vr6.1), .int .i64 vr6.2.1, .int .i64 vr6.2.2], []) | _ => none) rfl (fun _ _ => rC (zcl hvr6)) ?_
 refine iA ?_
 refine xS 392 [2, 3, 4, 5, 6, 24] ?_
 refine xI h0 rfl (fun h0 hb7 => ?_) (fun h0 hb7 => ?_)
 ·
  refine xS 448 [2, 3, 4, 5] ?_
  refine kA (mA ?_)
  obtain rfl := oI h0
  exact lA [] rG
 refine oA (dA ?_)
 refine sH 3 rfl ?_
 refine lC (l' := List.range' 0 2 ++ (2 :: (List.range' 3 0 ++ []))) rfl ?_
 refine sC 0 2 408 (2 :: (List.range' 3 0 ++ [])) (fun _ => none) rfl rfl rfl (fun _ _ => rT) ?_
 refine xJ rfl rfl rfl rfl rfl Tryz.func118 rfl (by decide) rfl rL ?_
 dsimp only [Tryz.f118]
 refine xE ⟨[(0, .ref 224 0 0 0), (1, .int .i64 vr6.2.1)], [(8, ⟨0, true, true, 4, [[.str vr6.1.Key, .str vr6.1.Val, .bool vr6.1.Dead, .int .i64 vr6.1.Seq]]⟩), (24, ⟨0, true, true, 5, [[.nils, .nils, .nils, .nils, .int .i64 0]]⟩), (184, ⟨0, true, true, 1, List.map (fA .i64) vr5⟩), (224, ⟨0, true, false, 5, [[.psl 1 (List.map (sA 4 aA.enc) vr4), .sl 184 0 1 0 vr5.length, .psl 2 (List.map eA.enc vs1.Tree.Keys), .psl 1 (List.map (fA .i64) vs1.Tree.Lose), .int .i64 vs1.Tree.Win]]⟩)], 408, []⟩ ?_
 obtain ⟨e8, he8, h0⟩ := bA h0
 obtain ⟨he8a, he8b, he8c⟩ := wA he8
 refine nA 496 [0, 1] (fun _ => none) rfl (fun _ _ => rS (rA he8a (rA he8b he8c))) ?_
 refine xE ⟨[(0, .ref 224 0 0 0), (1, .int .i64 vr6.2.1)], [(8, ⟨0, true, true, 4, [[.str vr6.1.Key, .str vr6.1.Val, .bool vr6.1.Dead, .int .i64 vr6.1.Seq]]⟩), (24, ⟨0, true, true, 5, [[.nils, .nils, .nils, .nils, .int .i64 0]]⟩), (184, ⟨0, true, true, 1, List.map (fA .i64) (vr5.set vr6.2.1.toNat (IntKind.i64.wrap (e8 + 1)))⟩), (224, ⟨0, true, false, 5, [[.psl 1 (List.map (sA 4 aA.enc) vr4), .sl 184 0 1 0 ((vr5.set vr6.2.1.toNat (IntKind.i64.wrap (e8 + 1))).length), .psl 2 (List.map eA.enc vs1.Tree.Keys), .psl 1 (List.map (fA .i64) vs1.Tree.Lose), .int .i64 vs1.Tree.Win]]⟩)], 496, []⟩ ?_
 obtain ⟨e9, he9, h0⟩ := bA h0
 obtain ⟨he9a, he9b, he9c⟩ := wA he9
 obtain ⟨e10, he10, h0⟩ := bA h0
 obtain ⟨he10a, he10b, he10c⟩ := wA he10
 obtain ⟨vr11, hvr11, h0⟩ := bA h0
 obtain ⟨vr12, hvr12, h0⟩ := bA h0
 refine qG 752 [] (fun | 22 => some (.agg (eA.enc vr11), []) | 23 => some (.tup [.agg (bB.enc vr12.1), .int .i64 vr12.2.1, .int .i64 vr12.2.2], []) | _ => none) rfl rfl rfl (fun Kt hK => by
   try have q0 := hZ hvr11
   try have q1 := zeL hvr12
   exact aE (rA he8a (rA he8b (rA he8c (rA he9a (rA he9b (rA he9c (rA he10a (rA he10b he10c))))))))) ?_
 refine uR (fun _ _ => rS (rA he8a (rA he8b (rA he8c (rA he9a (rA he9b (rA he9c (rA he10a (rA he10b he10c))))))))) ?_
 refine xF ⟨[(2, .ref 8 0 0 0), (3, .int .i64 vr6.2.1), (4, .ref 24 0 0 0), (5, .int .i64 vr6.2.2), (6, .ref 224 0 0 0), (24, .bool (!(decide (vr6.2.2 = 0)))), (28, .ref 224 0 0 0), (29, .int .i64 vr6.2.1), (30, .tup [])], [(8, ⟨0, true, true, 4, [[.str vr6.1.Key, .str vr6.1.Val, .bool vr6.1.Dead, .int .i64 vr6.1.Seq]]⟩), (24, ⟨0, true, true, 5, [[.nils, .nils, .nils, .nils, .int .i64 0]]⟩), (184, ⟨0, true, true, 1, List.map (fA .i64) (vr5.set vr6.2.1.toNat (IntKind.i64.wrap (e8 + 1)))⟩), (224, ⟨0, true, false, 5, [[.psl 1 (List.map (sA 4 aA.enc) vr4), .sl 184 0 1 0 ((vr5.set vr6.2.1.toNat (IntKind.i64.wrap (e8 + 1))).length), .psl 2 (List.map eA.enc vr12.1.Keys), .psl 1 (List.map (fA .i64) vr12.1.Lose), .int .i64 vr12.1.Win]]⟩)], 752, []⟩ ?_
 refine lC (l' := []) rfl ?_
 refine kD ?_
 refine dA ?_
 refine xE ⟨[(2, .ref 8 0 0 0), (3, .int .i64 vr6.2.1), (4, .ref 24 0 0 0), (6, .ref 224 0 0 0)], [(8, ⟨0, true, true, 4, [[.str vr6.1.Key, .str vr6.1.Val, .bool vr6.1.Dead, .int .i64 vr6.1.Seq]]⟩), (24, ⟨0, true, true, 5, [[.nils, .nils, .nils, .nils, .int .i64 0]]⟩), (184, ⟨0, true, true, 1, List.map (fA .i64) (vr5.set vr6.2.1.toNat (IntKind.i64.wrap (e8 + 1)))⟩), (224, ⟨0, true, false, 5, [[.psl 1 (List.map (sA 4 aA.enc) vr4), .sl 184 0 1 0 ((vr5.set vr6.2.1.toNat (IntKind.i64.wrap (e8 + 1))).length), .psl 2 (List.map eA.enc vr12.1.Keys), .psl 1 (List.map (fA .i64) vr12.1.Lose), .int .i64 vr12.1.Win]]⟩)], 752, []⟩ ?_
 refine pC 832 [2, 3, 4, 5] (fun _ => none) rfl rfl rfl (fun _ _ => aE (rA he8a (rA he8b (rA he8c (rA he9a (rA he9b (rA he9c (rA he10a (rA he10b he10c))))))))) ?_
 refine kA ?_
 obtain rfl := oI h0
 refine lA [] ?_
 exact rJ (rA he8a (rA he8b (rA he8c (rA he9a (rA he9b (rA he9c (rA he10a (rA he10b he10c))))))))
theorem zgY {fu : Nat} {vs1 : jB} {vx2 : aA} {r : Bool × jB × Int} (h0 : fN fu vs1 vx2 = some r) : yA Tryz.prog 90 [.agg (jB.enc vs1), .agg (aA.enc vx2)] (.tup [.bool r.1, .agg (jB.enc r.2.1), .int .i64 r.2.2]) [] := by
 refine cB Tryz.func90 rfl (by decide) rL ?_
 dsimp only [Tryz.f90]
 rw [fN] at h0
 refine xS 40 [2, 3, 5] ?_
 refine sH 10 rfl ?_
 refine lC (l' := List.range' 0 2 ++ (2 :: (List.range' 3 7 ++ []))) rfl ?_
 refine sC 0 2 56 (2 :: (List.range' 3 7 ++ [])) (fun _ => none) rfl rfl rfl (fun _ _ => rT) ?_
 refine xJ rfl rfl rfl rfl rfl Tryz.func119 rfl (by decide) rfl rL ?_
 dsimp only [Tryz.f119]
 refine xE ⟨[(0, .agg [.bool vs1.Some, .str vs1.Last, .bool vs1.Bottom]), (1, .agg [.str vx2.Key, .str vx2.Val, .bool vx2.Dead, .int .i64 vx2.Seq])], [(0, ⟨0, true, true, 3, [[.bool vs1.Some, .str vs1.Last, .bool vs1.Bottom]]⟩), (8, ⟨0, true, true, 4, [[.str vx2.Key, .str vx2.Val, .bool vx2.Dead, .int .i64 vx2.Seq]]⟩), (24, ⟨0, true, true, 3, [[.bool false, .str [], .bool false]]⟩)], 56, []⟩ ?_
 refine xS 96 [2, 3, 5] ?_
 refine iA ?_
 obtain ⟨vr3, hvr3, h0⟩ := bA h0
 refine nA 120 [2, 3, 5, 7] (fun | 1 => some (.int .i64 vr3, []) | _ => none) rfl (fun _ _ => rC (zca hvr3)) ?_
 refine xS 136 [2, 3, 5, 7, 13] ?_
 refine xI h0 rfl (fun h0 hb4 => ?_) (fun h0 hb4 => ?_)
 ·
  refine xS 176 [4, 5, 6] ?_
  refine kA (mA ?_)
  refine oE (fun _ _ => rT) ?_
  refine xF ⟨[(2, .ref 0 0 0 0), (3, .ref 8 0 0 0), (5, .ref 24 0 0 0), (9, .agg [.bool vs1.Some, .str vs1.Last, .bool vs1.Bottom]), (10, .agg [.str vx2.Key, .str vx2.Val, .bool vx2.Dead, .int .i64 vx2.Seq]), (11, .tup [.nili, .agg [.bool false, .str [], .bool false], .int .i64 vr3])], [(0, ⟨0, true, true, 3, [[.bool vs1.Some, .str vs1.Last, .bool vs1.Bottom]]⟩), (8, ⟨0, true, true, 4, [[.str vx2.Key, .str vx2.Val, .bool vx2.Dead, .int .i64 vx2.Seq]]⟩), (24, ⟨0, true, true, 3, [[.bool false, .str [], .bool false]]⟩)], 176, []⟩ ?_
  refine lC (l' := List.range' 3 7 ++ []) rfl ?_
  refine sC 3 7 232 [] (fun _ => none) rfl rfl rfl (fun _ _ => rT) ?_
  refine kD ?_
  refine dA ?_
  refine xE ⟨[(5, .ref 24 0 0 0), (6, .int .i64 vr3), (7, .nili)], [(24, ⟨0, true, true, 3, [[.bool false, .str [], .bool false]]⟩)], 232, []⟩ ?_
  refine xS 280 [4, 5, 6] ?_
  refine pC 328 [4, 5, 6] (fun _ => none) rfl rfl rfl (fun _ _ => nF) ?_
  refine kA ?_
  obtain rfl := oI h0
  exact lA [] rG
 refine oA (dA (iA ?_))
 obtain ⟨vr5, hvr5, h0⟩ := bA h0
 refine nA 160 [2, 3, 5, 8] (fun | 1 => some (.int .i64 vr5, []) | _ => none) rfl (fun _ _ => rC (zbS hvr5)) ?_
 refine xS 176 [2, 3, 5, 8, 19] ?_
 refine xI h0 rfl (fun h0 hb6 => ?_) (fun h0 hb6 => ?_)
 ·
  refine xS 216 [4, 5, 6] ?_
  refine kA (mA ?_)
  refine oE (fun _ _ => rT) ?_
  refine xF ⟨[(2, .ref 0 0 0 0), (3, .ref 8 0 0 0), (5, .ref 24 0 0 0), (9, .agg [.bool vs1.Some, .str vs1.Last, .bool vs1.Bottom]), (10, .agg [.str vx2.Key, .str vx2.Val, .bool vx2.Dead, .int .i64 vx2.Seq]), (11, .tup [.nili, .agg [.bool false, .str [], .bool false], .int .i64 vr5])], [(0, ⟨0, true, true, 3, [[.bool vs1.Some, .str vs1.Last, .bool vs1.Bottom]]⟩), (8, ⟨0, true, true, 4, [[.str vx2.Key, .str vx2.Val, .bool vx2.Dead, .int .i64 vx2.Seq]]⟩), (24, ⟨0, true, true, 3, [[.bool false, .str [], .bool false]]⟩)], 216, []⟩ ?_
  refine lC (l' := List.range' 3 7 ++ []) rfl ?_
  refine sC 3 7 272 [] (fun _ => none) rfl rfl rfl (fun _ _ => rT) ?_
  refine kD ?_
  refine dA ?_
  refine xE ⟨[(5, .ref 24 0 0 0), (6, .int .i64 vr5), (7, .nili)], [(24, ⟨0, true, true, 3, [[.bool false, .str [], .bool false]]⟩)], 272, []⟩ ?_
  refine xS 320 [4, 5, 6] ?_
  refine pC 368 [4, 5, 6] (fun _ => none) rfl rfl rfl (fun _ _ => nF) ?_
  refine kA ?_
  obtain rfl := oI h0
  exact lA [] rG
 refine oA (dA (iA ?_))
 obtain ⟨b7, hb7, h0⟩ := bA h0
 refine mC (fr' := [(2, .ref 56 0 0 0), (3, .ref 64 0 0 0), (5, .ref 80 0 0 0), (30, .bool b7)]) (hp' := [(0, ⟨0, true, true, 3, [[.bool vs1.Some, .str vs1.Last, .bool vs1.Bottom]]⟩), (8, ⟨0, true, true, 4, [[.str vx2.Key, .str vx2.Val, .bool vx2.Dead, .int .i64 vx2.Seq]]⟩), (24, ⟨0, true, true, 3, [[.bool false, .str [], .bool false]]⟩), (56, ⟨0, true, true, 3, [[.bool vs1.Some, .str vs1.Last, .bool vs1.Bottom]]⟩), (64, ⟨0, true, true, 4, [[.str vx2.Key, .str vx2.Val, .bool vx2.Dead, .int .i64 vx2.Seq]]⟩), (80, ⟨0, true, true, 3, [[.bool false, .str [], .bool false]]⟩)]) [0, 8, 24, 56, 64, 80] 248 [2, 3, 5, 30] (fun _ => none) rfl (fun Kt hK => by
   cases hg8 : vs1.Some with
   | false =>
    replace hb7 := qA hb7 hg8
    have hqb7 := oI hb7
    subst hqb7
    exact rW hg8 hK
   | true =>
    replace hb7 := aB hb7 hg8
    have hqb7 := oI hb7
    subst hqb7
    exact rW hg8 hK) ?_
 refine xI h0 rfl (fun h0 hb9 => ?_) (fun h0 hb9 => ?_)
 ·
  refine xS 280 [4, 5, 6] ?_
  refine kA (mA ?_)
  refine oE (fun _ _ => rT) ?_
  refine xF ⟨[(2, .ref 0 0 0 0), (3, .ref 8 0 0 0), (5, .ref 24 0 0 0), (9, .agg [.bool vs1.Some, .str vs1.Last, .bool vs1.Bottom]), (10, .agg [.str vx2.Key, .str vx2.Val, .bool vx2.Dead, .int .i64 vx2.Seq]), (11, .tup [.nili, .agg [.bool false, .str [], .bool false], .int .i64 6])], [(0, ⟨0, true, true, 3, [[.bool vs1.Some, .str vs1.Last, .bool vs1.Bottom]]⟩), (8, ⟨0, true, true, 4, [[.str vx2.Key, .str vx2.Val, .bool vx2.Dead, .int .i64 vx2.Seq]]⟩), (24, ⟨0, true, true, 3, [[.bool false, .str [], .bool false]]⟩)], 280, []⟩ ?_
  refine lC (l' := List.range' 3 7 ++ []) rfl ?_
  refine sC 3 7 336 [] (fun _ => none) rfl rfl rfl (fun _ _ => rT) ?_
  refine kD ?_
  refine dA ?_
  refine xE ⟨[(5, .ref 24 0 0 0), (6, .int .i64 6), (7, .nili)], [(24, ⟨0, true, true, 3, [[.bool false, .str [], .bool false]]⟩)], 336, []⟩ ?_
  refine xS 384 [4, 5, 6] ?_
  refine pC 432 [4, 5, 6] (fun _ => none) rfl rfl rfl (fun _ _ => nF) ?_
  refine kA ?_
  obtain rfl := oI h0
  exact lA [] rG
 refine oA (dA ?_)
 refine xS 304 [2, 3, 5, 9] ?_
 refine iA (xB ?_)
 obtain ⟨b10, hb10, h0⟩ := bA h0
 refine mC (fr' := [(2, .ref 56 0 0 0), (3, .ref 64 0 0 0), (5, .ref 80 0 0 0), (9, .ref 288 0 0 0), (37, .bool b10)]) (hp' := [(0, ⟨0, true, true, 3, [[.bool vs1.Some, .str vs1.Last, .bool vs1.Bottom]]⟩), (8, ⟨0, true, true, 4, [[.str vx2.Key, .str vx2.Val, .bool vx2.Dead, .int .i64 vx2.Seq]]⟩), (24, ⟨0, true, true, 3, [[.bool false, .str [], .bool false]]⟩), (56, ⟨0, true, true, 3, [[.bool vs1.Some, .str vs1.Last, .bool vs1.Bottom]]⟩), (64, ⟨0, true, true, 4, [[.str vx2.Key, .str vx2.Val, .bool vx2.Dead, .int .i64 vx2.Seq]]⟩), (80, ⟨0, true, true, 3, [[.bool false, .str [], .bool false]]⟩), (288, ⟨0, true, true, 3, [[.bool true, .str vx2.Key, .bool vs1.Bottom]]⟩)]) [0, 8, 24, 56, 64, 80, 288] 384 [2, 3, 5, 9, 37] (fun _ => none) rfl (fun Kt hK => by
   cases hg11 : vs1.Some with
   | false =>
    replace hb10 := qA hb10 hg11
    have hqb10 := oI hb10
    subst hqb10
    exact rW hg11 hK
   | true =>
    replace hb10 := aB hb10 hg11
    have hqb10 := oI hb10
    subst hqb10
    exact rW hg11 hK) ?_
 refine xI h0 rfl (fun h0 hb12 => ?_) (fun h0 hb12 => ?_)
 ·
  refine pC 432 [4, 5, 6] (fun _ => none) rfl rfl rfl (fun _ _ => nF) ?_
  refine kA (cC (mA ?_))
  refine oE (fun _ _ => rT) ?_
  refine xF ⟨[(2, .ref 0 0 0 0), (3, .ref 8 0 0 0), (5, .ref 24 0 0 0), (9, .agg [.bool vs1.Some, .str vs1.Last, .bool vs1.Bottom]), (10, .agg [.str vx2.Key, .str vx2.Val, .bool vx2.Dead, .int .i64 vx2.Seq]), (11, .tup [.iface 181 (.agg [.str vx2.Key, .str vx2.Val, .bool vx2.Dead, .int .i64 vx2.Seq]), .agg [.bool true, .str vx2.Key, .bool vs1.Bottom], .int .i64 0])], [(0, ⟨0, true, true, 3, [[.bool vs1.Some, .str vs1.Last, .bool vs1.Bottom]]⟩), (8, ⟨0, true, true, 4, [[.str vx2.Key, .str vx2.Val, .bool vx2.Dead, .int .i64 vx2.Seq]]⟩), (24, ⟨0, true, true, 3, [[.bool false, .str [], .bool false]]⟩)], 432, []⟩ ?_
  refine lC (l' := List.range' 3 7 ++ []) rfl ?_
  refine sC 3 7 488 [] (fun _ => none) rfl rfl rfl (fun _ _ => rT) ?_
  refine kD ?_
  refine dA ?_
  refine xE ⟨[(5, .ref 24 0 0 0), (6, .int .i64 0), (7, .iface 181 (.agg [.str vx2.Key, .str vx2.Val, .bool vx2.Dead, .int .i64 vx2.Seq]))], [(24, ⟨0, true, true, 3, [[.bool true, .str vx2.Key, .bool vs1.Bottom]]⟩)], 488, []⟩ ?_
  refine xS 536 [4, 5, 6] ?_
  refine pC 584 [4, 5, 6] (fun _ => none) rfl rfl rfl (fun _ _ => nF) ?_
  refine kA ?_
  obtain rfl := oI h0
  exact lA [] rG
 obtain ⟨b13, hb13, h0⟩ := bA h0
 refine mC (fr' := [(3, .ref 64 0 0 0), (5, .ref 80 0 0 0), (9, .ref 288 0 0 0), (50, .bool b13)]) (hp' := [(0, ⟨0, true, true, 3, [[.bool vs1.Some, .str vs1.Last, .bool vs1.Bottom]]⟩), (8, ⟨0, true, true, 4, [[.str vx2.Key, .str vx2.Val, .bool vx2.Dead, .int .i64 vx2.Seq]]⟩), (24, ⟨0, true, true, 3, [[.bool false, .str [], .bool false]]⟩), (56, ⟨0, true, true, 3, [[.bool vs1.Some, .str vs1.Last, .bool vs1.Bottom]]⟩), (64, ⟨0, true, true, 4, [[.str vx2.Key, .str vx2.Val, .bool vx2.Dead, .int .i64 vx2.Seq]]⟩), (80, ⟨0, true, true, 3, [[.bool false, .str [], .bool false]]⟩), (288, ⟨0, true, true, 3, [[.bool true, .str vx2.Key, .bool vs1.Bottom]]⟩)]) [0, 8, 24, 56, 64, 80, 288] 440 [3, 5, 9, 50] (fun _ => none) rfl (fun Kt hK => by
   cases hg14 : vs1.Bottom with
   | false =>
    replace hb13 := qA hb13 hg14
    have hqb13 := oI hb13
    subst hqb13
    exact rW hg14 hK
   | true =>
    replace hb13 := aB hb13 hg14
    have hqb13 := oI hb13
    subst hqb13
    exact rW hg14 hK) ?_
 refine xI h0 rfl (fun h0 hb15 => ?_) (fun h0 hb15 => ?_)
 ·
  refine pC 488 [4, 5, 6] (fun _ => none) rfl rfl rfl (fun _ _ => nF) ?_
  refine kA (cC (mA ?_))
  refine oE (fun _ _ => rT) ?_
  refine xF ⟨[(2, .ref 0 0 0 0), (3, .ref 8 0 0 0), (5, .ref 24 0 0 0), (9, .agg [.bool vs1.Some, .str vs1.Last, .bool vs1.Bottom]), (10, .agg [.str vx2.Key, .str vx2.Val, .bool vx2.Dead, .int .i64 vx2.Seq]), (11, .tup [.iface 182 (.agg [.str vx2.Key, .str vx2.Val, .bool vx2.Dead, .int .i64 vx2.Seq]), .agg [.bool true, .str vx2.Key, .bool vs1.Bottom], .int .i64 0])], [(0, ⟨0, true, true, 3, [[.bool vs1.Some, .str vs1.Last, .bool vs1.Bottom]]⟩), (8, ⟨0, true, true, 4, [[.str vx2.Key, .str vx2.Val, .bool vx2.Dead, .int .i64 vx2.Seq]]⟩), (24, ⟨0, true, true, 3, [[.bool false, .str [], .bool false]]⟩)], 488, []⟩ ?_
  refine lC (l' := List.range' 3 7 ++ []) rfl ?_
  refine sC 3 7 544 [] (fun _ => none) rfl rfl rfl (fun _ _ => rT) ?_
  refine kD ?_
  refine dA ?_
  refine xE ⟨[(5, .ref 24 0 0 0), (6, .int .i64 0), (7, .iface 182 (.agg [.str vx2.Key, .str vx2.Val, .bool vx2.Dead, .int .i64 vx2.Seq]))], [(24, ⟨0, true, true, 3, [[.bool true, .str vx2.Key, .bool vs1.Bottom]]⟩)], 544, []⟩ ?_
  refine xS 592 [4, 5, 6] ?_
  refine pC 640 [4, 5, 6] (fun _ => none) rfl rfl rfl (fun _ _ => nF) ?_
  refine kA ?_
  obtain rfl := oI h0
  exact lA [] rG
 refine oA (qB (dA ?_))
 refine pC 488 [4, 5, 6] (fun _ => none) rfl rfl rfl (fun _ _ => nF) ?_
 refine kA ?_
 refine oE (fun _ _ => rT) ?_
 refine xF ⟨[(2, .ref 0 0 0 0), (3, .ref 8 0 0 0), (5, .ref 24 0 0 0), (9, .agg [.bool vs1.Some, .str vs1.Last, .bool vs1.Bottom]), (10, .agg [.str vx2.Key, .str vx2.Val, .bool vx2.Dead, .int .i64 vx2.Seq]), (11, .tup [.iface 157 (.agg [.str vx2.Key, .str vx2.Val, .bool vx2.Dead, .int .i64 vx2.Seq]), .agg [.bool true, .str vx2.Key, .bool vs1.Bottom], .int .i64 0])], [(0, ⟨0, true, true, 3, [[.bool vs1.Some, .str vs1.Last, .bool vs1.Bottom]]⟩), (8, ⟨0, true, true, 4, [[.str vx2.Key, .str vx2.Val, .bool vx2.Dead, .int .i64 vx2.Seq]]⟩), (24, ⟨0, true, true, 3, [[.bool false, .str [], .bool false]]⟩)], 488, []⟩ ?_
 refine lC (l' := List.range' 3 7 ++ []) rfl ?_
 refine sC 3 7 544 [] (fun _ => none) rfl rfl rfl (fun _ _ => rT) ?_
 refine kD ?_
 refine dA ?_
 refine xE ⟨[(5, .ref 24 0 0 0), (6, .int .i64 0), (7, .iface 157 (.agg [.str vx2.Key, .str vx2.Val, .bool vx2.Dead, .int .i64 vx2.Seq]))], [(24, ⟨0, true, true, 3, [[.bool true, .str vx2.Key, .bool vs1.Bottom]]⟩)], 544, []⟩ ?_
 refine xS 592 [4, 5, 6] ?_
 refine pC 640 [4, 5, 6] (fun _ => none) rfl rfl rfl (fun _ _ => nF) ?_
 refine kA ?_
 obtain rfl := oI h0
 exact lA [] rG
theorem zcW {fu : Nat} {vs1 : lB} {n2 : Int} {r : lB × Int × Int} (h0 : uO fu vs1 n2 = some r) : yA Tryz.prog 31 [.agg (lB.enc vs1), .int .i64 n2] (.tup [.agg (lB.enc r.1), .int .i64 r.2.1, .int .i64 r.2.2]) [] := by
 refine cB Tryz.func31 rfl (by decide) rL ?_
 dsimp only [Tryz.f31]
 rw [uO] at h0
 refine xS 32 [1, 2, 4] ?_
 obtain ⟨vr3, hvr3, h0⟩ := bA h0
 refine nA 88 [1, 2, 4, 6, 7] (fun | 1 => some (.tup [.int .i64 vr3.1, .int .i64 vr3.2], []) | _ => none) rfl (fun _ _ => rC (aY hvr3)) ?_
 refine iA (xB ?_)
 refine xS 112 [1, 2, 4, 6, 7, 15] ?_
 refine xI h0 rfl (fun h0 hb4 => ?_) (fun h0 hb4 => ?_)
 ·
  refine xS 152 [4, 5, 6] ?_
  refine kA (cC (mA ?_))
  obtain rfl := oI h0
  exact lA [] rG
 refine xS 136 [1, 2, 4, 7, 20] ?_
 refine xI h0 rfl (fun h0 hb5 => ?_) (fun h0 hb5 => ?_)
 ·
  refine xS 168 [4, 5, 6] ?_
  refine kA (cC (mA ?_))
  obtain rfl := oI h0
  exact lA [] rG
 refine oA (qB (dA ?_))
 refine xS 168 [2, 4, 5] ?_
 refine iA ?_
 refine xS 208 [2, 4, 5, 31] ?_
 refine xI h0 rfl (fun h0 hb6 => ?_) (fun h0 hb6 => ?_)
 ·
  refine xS 240 [4, 5, 6] ?_
  refine kA (mA ?_)
  obtain rfl := oI h0
  exact lA [] rG
 refine oA (dA ?_)
 refine xS 240 [2, 4, 5, 8] ?_
 obtain ⟨hc7, h0⟩ := pD h0
 refine xS 288 [2, 4, 5, 8] ?_
 refine xE ⟨[(2, .ref 0 0 0 0), (4, .ref 8 0 0 0), (5, .int .i64 (if vr3.1 < n2 then vr3.1 else n2)), (8, .ref 224 0 0 0)], [(0, ⟨0, true, true, 10, [[.psl 1 (List.map (sA 4 aA.enc) vs1.Merge.Runs), .psl 1 (List.map (fA .i64) vs1.Merge.At), .psl 2 (List.map eA.enc vs1.Merge.Tree.Keys), .psl 1 (List.map (fA .i64) vs1.Merge.Tree.Lose), .int .i64 vs1.Merge.Tree.Win, .bool vs1.Shadow.Some, .str vs1.Shadow.Last, .bool vs1.Shadow.Bottom, .psl 4 (List.map aA.enc vs1.Out), .int .i64 vs1.Steps]]⟩), (8, ⟨0, true, true, 10, [[.nils, .nils, .nils, .nils, .int .i64 0, .bool false, .str [], .bool false, .nils, .int .i64 0]]⟩), (224, ⟨0, true, false, 10, [[.psl 1 (List.map (sA 4 aA.enc) vs1.Merge.Runs), .psl 1 (List.map (fA .i64) vs1.Merge.At), .psl 2 (List.map eA.enc vs1.Merge.Tree.Keys), .psl 1 (List.map (fA .i64) vs1.Merge.Tree.Lose), .int .i64 vs1.Merge.Tree.Win, .bool vs1.Shadow.Some, .str vs1.Shadow.Last, .bool vs1.Shadow.Bottom, .sl 256 0 4 0 vs1.Out.length, .int .i64 vs1.Steps]]⟩), (256, ⟨0, true, true, 4, List.map aA.enc vs1.Out⟩)], 288, []⟩ ?_
 obtain ⟨hc8, h0⟩ := pD h0
 refine xS 352 [4, 5, 8] ?_
 refine xE ⟨[(4, .ref 8 0 0 0), (5, .int .i64 (if vr3.1 < n2 then vr3.1 else n2)), (8, .ref 224 0 0 0)], [(8, ⟨0, true, true, 10, [[.nils, .nils, .nils, .nils, .int .i64 0, .bool false, .str [], .bool false, .nils, .int .i64 0]]⟩), (224, ⟨0, true, false, 10, [[.psl 1 (List.map (sA 4 aA.enc) vs1.Merge.Runs), .sl 312 0 1 0 vs1.Merge.At.length, .psl 2 (List.map eA.enc vs1.Merge.Tree.Keys), .psl 1 (List.map (fA .i64) vs1.Merge.Tree.Lose), .int .i64 vs1.Merge.Tree.Win, .bool vs1.Shadow.Some, .str vs1.Shadow.Last, .bool vs1.Shadow.Bottom, .sl 256 0 4 0 vs1.Out.length, .int .i64 vs1.Steps]]⟩), (256, ⟨0, true, true, 4, List.map aA.enc vs1.Out⟩), (312, ⟨0, true, true, 1, List.map (fA .i64) vs1.Merge.At⟩)], 352, []⟩ ?_
 refine iA ?_
 refine sH 4 rfl ?_
 refine lC (l' := List.range' 0 2 ++ (2 :: (List.range' 3 1 ++ []))) rfl ?_
 refine sC 0 2 368 (2 :: (List.range' 3 1 ++ [])) (fun _ => none) rfl rfl rfl (fun _ _ => rT) ?_
 refine xJ rfl rfl rfl rfl rfl Tryz.func58 rfl (by decide) rfl rL ?_
 dsimp only [Tryz.f58]
 refine xE ⟨[(0, .int .i64 (if vr3.1 < n2 then vr3.1 else n2)), (1, .fn 59 [.ref 224 0 0 0] [])], [(8, ⟨0, true, true, 10, [[.nils, .nils, .nils, .nils, .int .i64 0, .bool false, .str [], .bool false, .nils, .int .i64 0]]⟩), (224, ⟨0, true, false, 10, [[.psl 1 (List.map (sA 4 aA.enc) vs1.Merge.Runs), .sl 312 0 1 0 vs1.Merge.At.length, .psl 2 (List.map eA.enc vs1.Merge.Tree.Keys), .psl 1 (List.map (fA .i64) vs1.Merge.Tree.Lose), .int .i64 vs1.Merge.Tree.Win, .bool vs1.Shadow.Some, .str vs1.Shadow.Last, .bool vs1.Shadow.Bottom, .sl 256 0 4 0 vs1.Out.length, .int .i64 vs1.Steps]]⟩), (256, ⟨0, true, true, 4, List.map aA.enc vs1.Out⟩), (312, ⟨0, true, true, 1, List.map (fA .i64) vs1.Merge.At⟩)], 368, []⟩ ?_
 refine xS 376 [0, 1] ?_
 refine iA ?_
 refine xS 392 [1, 6, 7] ?_
 refine zet [312] (fun Kt hK => by simp only [↓reduceIte, reduceCtorEq, Nat.reduceEqDiff, Nat.reduceLT, Nat.reduceLeDiff, Nat.reduceAdd, Nat.reduceMul, Int.reduceToNat, Nat.reduceBEq, push_cast]; exact hK) ?_
 refine xE ⟨[(1, .fn 59 [.ref 224 0 0 0] []), (6, .int .i64 (if vr3.1 < n2 then vr3.1 else n2)), (7, .int .i64 0)], [(8, ⟨0, true, true, 10, [[.nils, .nils, .nils, .nils, .int .i64 0, .bool false, .str [], .bool false, .nils, .int .i64 0]]⟩), (224, ⟨0, true, false, 10, [[.psl 1 (List.map (sA 4 aA.enc) vs1.Merge.Runs), .psl 1 (List.map (fA .i64) vs1.Merge.At), .psl 2 (List.map eA.enc vs1.Merge.Tree.Keys), .psl 1 (List.map (fA .i64) vs1.Merge.Tree.Lose), .int .i64 vs1.Merge.Tree.Win, .bool vs1.Shadow.Some, .str vs1.Shadow.Last, .bool vs1.Shadow.Bottom, .sl 256 0 4 0 vs1.Out.length, .int .i64 vs1.Steps]]⟩), (256, ⟨0, true, true, 4, List.map aA.enc vs1.Out⟩), (312, ⟨0, false, true, 1, List.map (fA .i64) vs1.Merge.At⟩)], 392, []⟩ ?_
 obtain ⟨x42, hxx42, h0⟩ := bA h0
 refine oC (fun s' => ∃ o62 : List (List aA) × List Int × List eA × List Int × Int × Bool × List UInt8 × Bool × Int × List aA, ∃ g63 : Nat, x42 = .inl o62 ∧ s'.nx ≤ 400 ∧ LeN [] s' ⟨[], [(8, ⟨0, true, true, 10, [[.nils, .nils, .nils, .nils, .int .i64 0, .bool false, .str [], .bool false, .nils, .int .i64 0]]⟩), (224, ⟨0, true, false, 10, [[.psl 1 (List.map (sA 4 aA.enc) o62.1), .psl 1 (List.map (fA .i64) o62.2.1), .psl 2 (List.map eA.enc o62.2.2.1), .psl 1 (List.map (fA .i64) o62.2.2.2.1), .int .i64 o62.2.2.2.2.1, .bool o62.2.2.2.2.2.1, .str o62.2.2.2.2.2.2.1, .bool o62.2.2.2.2.2.2.2.1, .sl 256 g63 4 0 o62.2.2.2.2.2.2.2.2.2.length, .int .i64 o62.2.2.2.2.2.2.2.2.1]]⟩), (256, ⟨g63, true, true, 4, List.map aA.enc o62.2.2.2.2.2.2.2.2.2⟩), (312, ⟨0, false, true, 1, List.map (fA .i64) vs1.Merge.At⟩)], 400, []⟩) ?_ ?_
 ·
  intro s' hs
  obtain ⟨o62, g63, rfl, hn, hs⟩ := hs
  refine dA ?_
  refine oB [] hn hs ?_
  refine xS 408 [4] ?_
  refine kA ?_
  refine oE (fun _ _ => rT) ?_
  refine xF ⟨[(4, .ref 8 0 0 0), (5, .int .i64 (if vr3.1 < n2 then vr3.1 else n2)), (8, .ref 224 0 0 0), (47, .int .i64 (if vr3.1 < n2 then vr3.1 else n2)), (48, .fn 59 [.ref 224 0 0 0] []), (49, .int .i64 0)], [(8, ⟨0, true, true, 10, [[.nils, .nils, .nils, .nils, .int .i64 0, .bool false, .str [], .bool false, .nils, .int .i64 0]]⟩), (224, ⟨0, true, false, 10, [[.psl 1 (List.map (sA 4 aA.enc) o62.1), .psl 1 (List.map (fA .i64) o62.2.1), .psl 2 (List.map eA.enc o62.2.2.1), .psl 1 (List.map (fA .i64) o62.2.2.2.1), .int .i64 o62.2.2.2.2.1, .bool o62.2.2.2.2.2.1, .str o62.2.2.2.2.2.2.1, .bool o62.2.2.2.2.2.2.2.1, .sl 256 g63 4 0 o62.2.2.2.2.2.2.2.2.2.length, .int .i64 o62.2.2.2.2.2.2.2.2.1]]⟩), (256, ⟨g63, true, true, 4, List.map aA.enc o62.2.2.2.2.2.2.2.2.2⟩)], 408, []⟩ ?_
  refine lC (l' := List.range' 3 1 ++ []) rfl ?_
  refine sC 3 1 416 [] (fun _ => none) rfl rfl rfl (fun _ _ => rT) ?_
  refine kD ?_
  refine dA ?_
  refine xE ⟨[(4, .ref 8 0 0 0), (5, .int .i64 (if vr3.1 < n2 then vr3.1 else n2)), (8, .ref 224 0 0 0), (9, .int .i64 0)], [(8, ⟨0, true, true, 10, [[.nils, .nils, .nils, .nils, .int .i64 0, .bool false, .str [], .bool false, .nils, .int .i64 0]]⟩), (224, ⟨0, true, false, 10, [[.psl 1 (List.map (sA 4 aA.enc) o62.1), .psl 1 (List.map (fA .i64) o62.2.1), .psl 2 (List.map eA.enc o62.2.2.1), .psl 1 (List.map (fA .i64) o62.2.2.2.1), .int .i64 o62.2.2.2.2.1, .bool o62.2.2.2.2.2.1, .str o62.2.2.2.2.2.2.1, .bool o62.2.2.2.2.2.2.2.1, .sl 256 g63 4 0 o62.2.2.2.2.2.2.2.2.2.length, .int .i64 o62.2.2.2.2.2.2.2.2.1]]⟩), (256, ⟨g63, true, true, 4, List.map aA.enc o62.2.2.2.2.2.2.2.2.2⟩)], 416, []⟩ ?_
  refine xS 432 [4, 5, 8, 9, 51] ?_
  refine qF rfl ?_
  refine oA (dA ?_)
  refine xS 480 [4, 5, 6] ?_
  refine kA ?_
  obtain rfl := oI h0
  exact lA [] rG
 refine nC (ι := { p : Nat × Int × List (List aA) × List Int × List eA × List Int × Int × Bool × List UInt8 × Bool × Int × List aA × Nat // tH vr3 n2 p.1 p.2.1 p.2.2.1 p.2.2.2.1 p.2.2.2.2.1 p.2.2.2.2.2.1 p.2.2.2.2.2.2.1 p.2.2.2.2.2.2.2.1 p.2.2.2.2.2.2.2.2.1 p.2.2.2.2.2.2.2.2.2.1 p.2.2.2.2.2.2.2.2.2.2.1 p.2.2.2.2.2.2.2.2.2.2.2.1 = some x42 }) (fun p => ⟨[(1, .fn 59 [.ref 224 0 0 0] []), (6, .int .i64 (if vr3.1 < n2 then vr3.1 else n2)), (7, .int .i64 p.1.2.1)], [(8, ⟨0, true, true, 10, [[.nils, .nils, .nils, .nils, .int .i64 0, .bool false, .str [], .bool false, .nils, .int .i64 0]]⟩), (224, ⟨0, true, false, 10, [[.psl 1 (List.map (sA 4 aA.enc) p.1.2.2.1), .psl 1 (List.map (fA .i64) p.1.2.2.2.1), .psl 2 (List.map eA.enc p.1.2.2.2.2.1), .psl 1 (List.map (fA .i64) p.1.2.2.2.2.2.1), .int .i64 p.1.2.2.2.2.2.2.1, .bool p.1.2.2.2.2.2.2.2.1, .str p.1.2.2.2.2.2.2.2.2.1, .bool p.1.2.2.2.2.2.2.2.2.2.1, .sl 256 p.1.2.2.2.2.2.2.2.2.2.2.2.2 4 0 p.1.2.2.2.2.2.2.2.2.2.2.2.1.length, .int .i64 p.1.2.2.2.2.2.2.2.2.2.2.1]]⟩), (256, ⟨p.1.2.2.2.2.2.2.2.2.2.2.2.2, true, true, 4, List.map aA.enc p.1.2.2.2.2.2.2.2.2.2.2.2.1⟩), (312, ⟨0, false, true, 1, List.map (fA .i64) vs1.Merge.At⟩)], 392, []⟩) (fun p => p.1.1) ⟨(fu, 0, vs1.Merge.Runs, vs1.Merge.At, vs1.Merge.Tree.Keys, vs1.Merge.Tree.Lose, vs1.Merge.Tree.Win, vs1.Shadow.Some, vs1.Shadow.Last, vs1.Shadow.Bottom, vs1.Steps, vs1.Out, 0), hxx42⟩ ⟨rF, rE, rfl, rfl, trivial, trivial⟩ (fun _ => Nat.le_refl _) ?_
 rintro ⟨⟨fu, left43, v44, v45, v46, v47, v48, v49, v50, v51, v52, v53, g54⟩, h1⟩
 cases fu with
 | zero =>
  replace h1 : tH vr3 n2 0 left43 v44 v45 v46 v47 v48 v49 v50 v51 v52 v53 = some x42 := h1
  rw [tH] at h1; cases h1
 | succ fu =>
  replace h1 : tH vr3 n2 (fu + 1) left43 v44 v45 v46 v47 v48 v49 v50 v51 v52 v53 = some x42 := h1
  rw [tH] at h1
  dsimp only
  refine xS 400 [1, 6, 7, 8] ?_
  refine iA ?_
  refine xI h1 rfl (fun h1 hb55 => ?_) (fun h1 hb55 => ?_)
  ·
   refine oA (dA (iA (xB ?_)))
   refine sH 3 rfl ?_
   refine lC (l' := List.range' 0 1 ++ (1 :: (List.range' 2 1 ++ []))) rfl ?_
   refine sC 0 1 408 (1 :: (List.range' 2 1 ++ [])) (fun _ => none) rfl rfl rfl (fun _ _ => rT) ?_
   refine xJ rfl rfl rfl rfl rfl Tryz.func59 rfl (by decide) rfl rL ?_
   dsimp only [Tryz.f59]
   refine xE ⟨[(0, .ref 224 0 0 0)], [(8, ⟨0, true, true, 10, [[.nils, .nils, .nils, .nils, .int .i64 0, .bool false, .str [], .bool false, .nils, .int .i64 0]]⟩), (224, ⟨0, true, false, 10, [[.psl 1 (List.map (sA 4 aA.enc) v44), .psl 1 (List.map (fA .i64) v45), .psl 2 (List.map eA.enc v46), .psl 1 (List.map (fA .i64) v47), .int .i64 v48, .bool v49, .str v50, .bool v51, .sl 256 g54 4 0 v53.length, .int .i64 v52]]⟩), (256, ⟨g54, true, true, 4, List.map aA.enc v53⟩), (312, ⟨0, false, true, 1, List.map (fA .i64) vs1.Merge.At⟩)], 408, []⟩ ?_
   refine xS 416 [0] ?_
   obtain ⟨vr56, hvr56, h1⟩ := bA h1
   refine nA 552 [0, 3, 5, 6] (fun | 5 => some (.tup [.agg (aA.enc vr56.1), .int .i64 vr56.2.1, .agg (dB.enc vr56.2.2.1), .int .i64 vr56.2.2.2], []) | _ => none) rfl (fun _ _ => rC (znZ hvr56)) ?_
   refine iA ?_
   refine xS 568 [0, 3, 5, 6, 21] ?_
   refine xI h1 rfl (fun h1 hb57 => ?_) (fun h1 hb57 => ?_)
   ·
    refine xS 584 [2] ?_
    refine kA (mA ?_)
    refine oE (fun _ _ => rT) ?_
    refine xF ⟨[(1, .fn 59 [.ref 224 0 0 0] []), (6, .int .i64 (if vr3.1 < n2 then vr3.1 else n2)), (7, .int .i64 left43), (8, .bool (decide (left43 < (if vr3.1 < n2 then vr3.1 else n2)))), (9, .fn 59 [.ref 224 0 0 0] []), (10, .int .i64 vr56.2.2.2)], [(8, ⟨0, true, true, 10, [[.nils, .nils, .nils, .nils, .int .i64 0, .bool false, .str [], .bool false, .nils, .int .i64 0]]⟩), (224, ⟨0, true, false, 10, [[.psl 1 (List.map (sA 4 aA.enc) v44), .psl 1 (List.map (fA .i64) v45), .psl 2 (List.map eA.enc v46), .psl 1 (List.map (fA .i64) v47), .int .i64 v48, .bool v49, .str v50, .bool v51, .sl 256 g54 4 0 v53.length, .int .i64 v52]]⟩), (256, ⟨g54, true, true, 4, List.map aA.enc v53⟩), (312, ⟨0, false, true, 1, List.map (fA .i64) vs1.Merge.At⟩)], 584, []⟩ ?_
    refine lC (l' := List.range' 2 1 ++ []) rfl ?_
    refine sC 2 1 592 [] (fun _ => none) rfl rfl rfl (fun _ _ => rT) ?_
    refine kD ?_
    refine dA ?_
    refine xE ⟨[(1, .fn 59 [.ref 224 0 0 0] []), (5, .int .i64 vr56.2.2.2), (6, .int .i64 (if vr3.1 < n2 then vr3.1 else n2)), (7, .int .i64 left43)], [(8, ⟨0, true, true, 10, [[.nils, .nils, .nils, .nils, .int .i64 0, .bool false, .str [], .bool false, .nils, .int .i64 0]]⟩), (224, ⟨0, true, false, 10, [[.psl 1 (List.map (sA 4 aA.enc) v44), .psl 1 (List.map (fA .i64) v45), .psl 2 (List.map eA.enc v46), .psl 1 (List.map (fA .i64) v47), .int .i64 v48, .bool v49, .str v50, .bool v51, .sl 256 g54 4 0 v53.length, .int .i64 v52]]⟩), (256, ⟨g54, true, true, 4, List.map aA.enc v53⟩), (312, ⟨0, false, true, 1, List.map (fA .i64) vs1.Merge.At⟩)], 592, []⟩ ?_
    refine xS 608 [1, 5, 6, 7, 12] ?_
    refine qO rfl hb57 ?_
    refine xS 624 [4] ?_
    refine kA ?_
    obtain rfl := oI h1
    refine cC (mA (mA (wC (mA ?_))))
    refine oE (fun _ _ => rT) ?_
    refine xF ⟨[(4, .ref 8 0 0 0), (5, .int .i64 (if vr3.1 < n2 then vr3.1 else n2)), (8, .ref 224 0 0 0), (47, .int .i64 (if vr3.1 < n2 then vr3.1 else n2)), (48, .fn 59 [.ref 224 0 0 0] []), (49, .int .i64 vr56.2.2.2)], [(8, ⟨0, true, true, 10, [[.nils, .nils, .nils, .nils, .int .i64 0, .bool false, .str [], .bool false, .nils, .int .i64 0]]⟩), (224, ⟨0, true, false, 10, [[.psl 1 (List.map (sA 4 aA.enc) v44), .psl 1 (List.map (fA .i64) v45), .psl 2 (List.map eA.enc v46), .psl 1 (List.map (fA .i64) v47), .int .i64 v48, .bool v49, .str v50, .bool v51, .sl 256 g54 4 0 v53.length, .int .i64 v52]]⟩), (256, ⟨g54, true, true, 4, List.map aA.enc v53⟩)], 624, []⟩ ?_
    refine lC (l' := List.range' 3 1 ++ []) rfl ?_
    refine sC 3 1 632 [] (fun _ => none) rfl rfl rfl (fun _ _ => rT) ?_
    refine kD ?_
    refine dA ?_
    refine xE ⟨[(4, .ref 8 0 0 0), (5, .int .i64 (if vr3.1 < n2 then vr3.1 else n2)), (8, .ref 224 0 0 0), (9, .int .i64 vr56.2.2.2)], [(8, ⟨0, true, true, 10, [[.nils, .nils, .nils, .nils, .int .i64 0, .bool false, .str [], .bool false, .nils, .int .i64 0]]⟩), (224, ⟨0, true, false, 10, [[.psl 1 (List.map (sA 4 aA.enc) v44), .psl 1 (List.map (fA .i64) v45), .psl 2 (List.map eA.enc v46), .psl 1 (List.map (fA .i64) v47), .int .i64 v48, .bool v49, .str v50, .bool v51, .sl 256 g54 4 0 v53.length, .int .i64 v52]]⟩), (256, ⟨g54, true, true, 4, List.map aA.enc v53⟩)], 632, []⟩ ?_
    refine xS 648 [4, 5, 8, 9, 51] ?_
    refine qO rfl hb57 ?_
    refine xS 688 [4, 5, 6] ?_
    refine kA (mA ?_)
    obtain rfl := oI h0
    exact lA [] rG
   refine oA (dA ?_)
   obtain ⟨vr58, hvr58, h1⟩ := bA h1
   refine pC 688 [0, 3, 5, 6, 7, 8] (fun | 6 => some (.tup [.bool vr58.1, .agg (jB.enc vr58.2.1), .int .i64 vr58.2.2], []) | _ => none) rfl rfl rfl (fun _ _ => aO (zgY hvr58)) ?_
   refine iA ?_
   refine xS 704 [0, 3, 5, 6, 7, 8, 35] ?_
   refine xI h1 rfl (fun h1 hb59 => ?_) (fun h1 hb59 => ?_)
   ·
    refine xS 720 [2] ?_
    refine kA (mA ?_)
    refine oE (fun _ _ => rT) ?_
    refine xF ⟨[(1, .fn 59 [.ref 224 0 0 0] []), (6, .int .i64 (if vr3.1 < n2 then vr3.1 else n2)), (7, .int .i64 left43), (8, .bool (decide (left43 < (if vr3.1 < n2 then vr3.1 else n2)))), (9, .fn 59 [.ref 224 0 0 0] []), (10, .int .i64 vr58.2.2)], [(8, ⟨0, true, true, 10, [[.nils, .nils, .nils, .nils, .int .i64 0, .bool false, .str [], .bool false, .nils, .int .i64 0]]⟩), (224, ⟨0, true, false, 10, [[.psl 1 (List.map (sA 4 aA.enc) v44), .psl 1 (List.map (fA .i64) v45), .psl 2 (List.map eA.enc v46), .psl 1 (List.map (fA .i64) v47), .int .i64 v48, .bool v49, .str v50, .bool v51, .sl 256 g54 4 0 v53.length, .int .i64 v52]]⟩), (256, ⟨g54, true, true, 4, List.map aA.enc v53⟩), (312, ⟨0, false, true, 1, List.map (fA .i64) vs1.Merge.At⟩)], 720, []⟩ ?_
    refine lC (l' := List.range' 2 1 ++ []) rfl ?_
    refine sC 2 1 728 [] (fun _ => none) rfl rfl rfl (fun _ _ => rT) ?_
    refine kD ?_
    refine dA ?_
    refine xE ⟨[(1, .fn 59 [.ref 224 0 0 0] []), (5, .int .i64 vr58.2.2), (6, .int .i64 (if vr3.1 < n2 then vr3.1 else n2)), (7, .int .i64 left43)], [(8, ⟨0, true, true, 10, [[.nils, .nils, .nils, .nils, .int .i64 0, .bool false, .str [], .bool false, .nils, .int .i64 0]]⟩), (224, ⟨0, true, false, 10, [[.psl 1 (List.map (sA 4 aA.enc) v44), .psl 1 (List.map (fA .i64) v45), .psl 2 (List.map eA.enc v46), .psl 1 (List.map (fA .i64) v47), .int .i64 v48, .bool v49, .str v50, .bool v51, .sl 256 g54 4 0 v53.length, .int .i64 v52]]⟩), (256, ⟨g54, true, true, 4, List.map aA.enc v53⟩), (312, ⟨0, false, true, 1, List.map (fA .i64) vs1.Merge.At⟩)], 728, []⟩ ?_
    refine xS 744 [1, 5, 6, 7, 12] ?_
    refine qO rfl hb59 ?_
    refine xS 760 [4] ?_
    refine kA ?_
    obtain rfl := oI h1
    refine cC (mA (mA (wC (mA ?_))))
    refine oE (fun _ _ => rT) ?_
    refine xF ⟨[(4, .ref 8 0 0 0), (5, .int .i64 (if vr3.1 < n2 then vr3.1 else n2)), (8, .ref 224 0 0 0), (47, .int .i64 (if vr3.1 < n2 then vr3.1 else n2)), (48, .fn 59 [.ref 224 0 0 0] []), (49, .int .i64 vr58.2.2)], [(8, ⟨0, true, true, 10, [[.nils, .nils, .nils, .nils, .int .i64 0, .bool false, .str [], .bool false, .nils, .int .i64 0]]⟩), (224, ⟨0, true, false, 10, [[.psl 1 (List.map (sA 4 aA.enc) v44), .psl 1 (List.map (fA .i64) v45), .psl 2 (List.map eA.enc v46), .psl 1 (List.map (fA .i64) v47), .int .i64 v48, .bool v49, .str v50, .bool v51, .sl 256 g54 4 0 v53.length, .int .i64 v52]]⟩), (256, ⟨g54, true, true, 4, List.map aA.enc v53⟩)], 760, []⟩ ?_
    refine lC (l' := List.range' 3 1 ++ []) rfl ?_
    refine sC 3 1 768 [] (fun _ => none) rfl rfl rfl (fun _ _ => rT) ?_
    refine kD ?_
    refine dA ?_
    refine xE ⟨[(4, .ref 8 0 0 0), (5, .int .i64 (if vr3.1 < n2 then vr3.1 else n2)), (8, .ref 224 0 0 0), (9, .int .i64 vr58.2.2)], [(8, ⟨0, true, true, 10, [[.nils, .nils, .nils, .nils, .int .i64 0, .bool false, .str [], .bool false, .nils, .int .i64 0]]⟩), (224, ⟨0, true, false, 10, [[.psl 1 (List.map (sA 4 aA.enc) v44), .psl 1 (List.map (fA .i64) v45), .psl 2 (List.map eA.enc v46), .psl 1 (List.map (fA .i64) v47), .int .i64 v48, .bool v49, .str v50, .bool v51, .sl 256 g54 4 0 v53.length, .int .i64 v52]]⟩), (256, ⟨g54, true, true, 4, List.map aA.enc v53⟩)], 768, []⟩ ?_
    refine xS 784 [4, 5, 8, 9, 51] ?_
    refine qO rfl hb59 ?_
    refine xS 824 [4, 5, 6] ?_
    refine kA (mA ?_)
    obtain rfl := oI h0
    exact lA [] rG
   refine oA (dA ?_)
   refine pC 800 [0, 3, 7] (fun _ => none) rfl rfl rfl (fun _ _ => nF) ?_
   refine xS 880 [0, 3, 7] ?_
   refine iA ?_
   refine xS 888 [0, 3, 56] ?_
   refine xI h1 rfl (fun h1 hb60 => ?_) (fun h1 hb60 => ?_)
   ·
    obtain ⟨hc61, h1⟩ := pD h1
    refine qG 992 [] (fun _ => none) rfl rfl rfl (fun _ _ => nF) ?_
    refine dA ?_
    refine xE ⟨[], [(8, ⟨0, true, true, 10, [[.nils, .nils, .nils, .nils, .int .i64 0, .bool false, .str [], .bool false, .nils, .int .i64 0]]⟩), (224, ⟨0, true, false, 10, [[.psl 1 (List.map (sA 4 aA.enc) vr56.2.2.1.Runs), .psl 1 (List.map (fA .i64) vr56.2.2.1.At), .psl 2 (List.map eA.enc vr56.2.2.1.Tree.Keys), .psl 1 (List.map (fA .i64) vr56.2.2.1.Tree.Lose), .int .i64 vr56.2.2.1.Tree.Win, .bool vr58.2.1.Some, .str vr58.2.1.Last, .bool vr58.2.1.Bottom, .sl 256 (g54 + 1) 4 0 ((v53 ++ [vr56.1]).length), .int .i64 (IntKind.i64.wrap (v52 + 1))]]⟩), (256, ⟨(g54 + 1), true, true, 4, List.map aA.enc (v53 ++ [vr56.1])⟩), (312, ⟨0, false, true, 1, List.map (fA .i64) vs1.Merge.At⟩)], 992, []⟩ ?_
    refine xS 1000 [2] ?_
    refine kA ?_
    refine oE (fun _ _ => rT) ?_
    refine xF ⟨[(1, .fn 59 [.ref 224 0 0 0] []), (6, .int .i64 (if vr3.1 < n2 then vr3.1 else n2)), (7, .int .i64 left43), (8, .bool (decide (left43 < (if vr3.1 < n2 then vr3.1 else n2)))), (9, .fn 59 [.ref 224 0 0 0] []), (10, .int .i64 0)], [(8, ⟨0, true, true, 10, [[.nils, .nils, .nils, .nils, .int .i64 0, .bool false, .str [], .bool false, .nils, .int .i64 0]]⟩), (224, ⟨0, true, false, 10, [[.psl 1 (List.map (sA 4 aA.enc) vr56.2.2.1.Runs), .psl 1 (List.map (fA .i64) vr56.2.2.1.At), .psl 2 (List.map eA.enc vr56.2.2.1.Tree.Keys), .psl 1 (List.map (fA .i64) vr56.2.2.1.Tree.Lose), .int .i64 vr56.2.2.1.Tree.Win, .bool vr58.2.1.Some, .str vr58.2.1.Last, .bool vr58.2.1.Bottom, .sl 256 (g54 + 1) 4 0 ((v53 ++ [vr56.1]).length), .int .i64 (IntKind.i64.wrap (v52 + 1))]]⟩), (256, ⟨(g54 + 1), true, true, 4, List.map aA.enc (v53 ++ [vr56.1])⟩), (312, ⟨0, false, true, 1, List.map (fA .i64) vs1.Merge.At⟩)], 1000, []⟩ ?_
    refine lC (l' := List.range' 2 1 ++ []) rfl ?_
    refine sC 2 1 1008 [] (fun _ => none) rfl rfl rfl (fun _ _ => rT) ?_
    refine kD ?_
    refine dA ?_
    refine xE ⟨[(1, .fn 59 [.ref 224 0 0 0] []), (5, .int .i64 0), (6, .int .i64 (if vr3.1 < n2 then vr3.1 else n2)), (7, .int .i64 left43)], [(8, ⟨0, true, true, 10, [[.nils, .nils, .nils, .nils, .int .i64 0, .bool false, .str [], .bool false, .nils, .int .i64 0]]⟩), (224, ⟨0, true, false, 10, [[.psl 1 (List.map (sA 4 aA.enc) vr56.2.2.1.Runs), .psl 1 (List.map (fA .i64) vr56.2.2.1.At), .psl 2 (List.map eA.enc vr56.2.2.1.Tree.Keys), .psl 1 (List.map (fA .i64) vr56.2.2.1.Tree.Lose), .int .i64 vr56.2.2.1.Tree.Win, .bool vr58.2.1.Some, .str vr58.2.1.Last, .bool vr58.2.1.Bottom, .sl 256 (g54 + 1) 4 0 ((v53 ++ [vr56.1]).length), .int .i64 (IntKind.i64.wrap (v52 + 1))]]⟩), (256, ⟨(g54 + 1), true, true, 4, List.map aA.enc (v53 ++ [vr56.1])⟩), (312, ⟨0, false, true, 1, List.map (fA .i64) vs1.Merge.At⟩)], 1008, []⟩ ?_
    refine xS 1024 [1, 5, 6, 7, 12] ?_
    refine qF rfl ?_
    refine oA (qB (dA ?_))
    refine xR 1040 [1, 6, 7] ?_
    refine dA ?_
    exact ⟨⟨(fu, (IntKind.i64.wrap (left43 + 1)), vr56.2.2.1.Runs, vr56.2.2.1.At, vr56.2.2.1.Tree.Keys, vr56.2.2.1.Tree.Lose, vr56.2.2.1.Tree.Win, vr58.2.1.Some, vr58.2.1.Last, vr58.2.1.Bottom, (IntKind.i64.wrap (v52 + 1)), (v53 ++ [vr56.1]), (g54 + 1)), h1⟩, ⟨rF, rE, rfl, rfl, trivial, trivial⟩, Nat.lt_succ_self _⟩
   refine oA (dA ?_)
   refine xS 896 [2] ?_
   refine kA ?_
   refine oE (fun _ _ => rT) ?_
   refine xF ⟨[(1, .fn 59 [.ref 224 0 0 0] []), (6, .int .i64 (if vr3.1 < n2 then vr3.1 else n2)), (7, .int .i64 left43), (8, .bool (decide (left43 < (if vr3.1 < n2 then vr3.1 else n2)))), (9, .fn 59 [.ref 224 0 0 0] []), (10, .int .i64 0)], [(8, ⟨0, true, true, 10, [[.nils, .nils, .nils, .nils, .int .i64 0, .bool false, .str [], .bool false, .nils, .int .i64 0]]⟩), (224, ⟨0, true, false, 10, [[.psl 1 (List.map (sA 4 aA.enc) vr56.2.2.1.Runs), .psl 1 (List.map (fA .i64) vr56.2.2.1.At), .psl 2 (List.map eA.enc vr56.2.2.1.Tree.Keys), .psl 1 (List.map (fA .i64) vr56.2.2.1.Tree.Lose), .int .i64 vr56.2.2.1.Tree.Win, .bool vr58.2.1.Some, .str vr58.2.1.Last, .bool vr58.2.1.Bottom, .sl 256 g54 4 0 v53.length, .int .i64 (IntKind.i64.wrap (v52 + 1))]]⟩), (256, ⟨g54, true, true, 4, List.map aA.enc v53⟩), (312, ⟨0, false, true, 1, List.map (fA .i64) vs1.Merge.At⟩)], 896, []⟩ ?_
   refine lC (l' := List.range' 2 1 ++ []) rfl ?_
   refine sC 2 1 904 [] (fun _ => none) rfl rfl rfl (fun _ _ => rT) ?_
   refine kD ?_
   refine dA ?_
   refine xE ⟨[(1, .fn 59 [.ref 224 0 0 0] []), (5, .int .i64 0), (6, .int .i64 (if vr3.1 < n2 then vr3.1 else n2)), (7, .int .i64 left43)], [(8, ⟨0, true, true, 10, [[.nils, .nils, .nils, .nils, .int .i64 0, .bool false, .str [], .bool false, .nils, .int .i64 0]]⟩), (224, ⟨0, true, false, 10, [[.psl 1 (List.map (sA 4 aA.enc) vr56.2.2.1.Runs), .psl 1 (List.map (fA .i64) vr56.2.2.1.At), .psl 2 (List.map eA.enc vr56.2.2.1.Tree.Keys), .psl 1 (List.map (fA .i64) vr56.2.2.1.Tree.Lose), .int .i64 vr56.2.2.1.Tree.Win, .bool vr58.2.1.Some, .str vr58.2.1.Last, .bool vr58.2.1.Bottom, .sl 256 g54 4 0 v53.length, .int .i64 (IntKind.i64.wrap (v52 + 1))]]⟩), (256, ⟨g54, true, true, 4, List.map aA.enc v53⟩), (312, ⟨0, false, true, 1, List.map (fA .i64) vs1.Merge.At⟩)], 904, []⟩ ?_
   refine xS 920 [1, 5, 6, 7, 12] ?_
   refine qF rfl ?_
   refine oA (qB (dA ?_))
   refine xR 936 [1, 6, 7] ?_
   refine dA ?_
   exact ⟨⟨(fu, (IntKind.i64.wrap (left43 + 1)), vr56.2.2.1.Runs, vr56.2.2.1.At, vr56.2.2.1.Tree.Keys, vr56.2.2.1.Tree.Lose, vr56.2.2.1.Tree.Win, vr58.2.1.Some, vr58.2.1.Last, vr58.2.1.Bottom, (IntKind.i64.wrap (v52 + 1)), v53, g54), h1⟩, ⟨rF, rE, rfl, rfl, trivial, trivial⟩, Nat.lt_succ_self _⟩
  refine fC (xA (xA (iC ?_)))
  obtain rfl := oI h1
  exact ⟨_, g54, rfl, rL, ⟨rF, rE, rfl, rfl, trivial, trivial⟩⟩
theorem zjs {fu : Nat} {s11 : List aA} {s22 : List aA} {r : Bool} (h0 : vR fu s11 s22 = some r) : yA Tryz.prog 100 [.psl 4 (s11.map aA.enc), .psl 4 (s22.map aA.enc)] (.bool r) [] := by
 refine cB Tryz.func100 rfl (by decide) rL ?_
 dsimp only [Tryz.f100]
 rw [vR] at h0
 refine xS 8 [0, 1] ?_
 refine iA ?_
 refine xS 48 [0, 1, 10] ?_
 refine xI h0 rfl (fun h0 hb3 => ?_) (fun h0 hb3 => ?_)
 ·
  refine xS 56 [4] ?_
  refine kA (mA ?_)
  obtain rfl := oI h0
  exact lA [] rG
 refine oA (dA (iA ?_))
 refine xS 72 [0, 1, 12, 13] ?_
 obtain ⟨x13, hxx13, h0⟩ := bA h0
 refine oC (fun s' => ∃ o19 : Unit, x13 = .inl o19 ∧ s'.nx ≤ 80 ∧ LeN [] s' ⟨[], [], 80, []⟩) ?_ ?_
 ·
  intro s' hs
  obtain ⟨o19, rfl, hn, hs⟩ := hs
  refine dA ?_
  refine oB [] hn hs ?_
  refine xS 88 [4] ?_
  refine kA ?_
  obtain rfl := oI h0
  exact lA [] rG
 refine nC (ι := { p : Nat × Int // cI s11 s22 p.1 p.2 = some x13 }) (fun p => ⟨[(0, .psl 4 (List.map aA.enc s11)), (1, .psl 4 (List.map aA.enc s22)), (12, .int .i64 (s11.length : Int)), (13, .int .i64 p.1.2)], [], 72, []⟩) (fun p => p.1.1) ⟨(fu, 0), hxx13⟩ ⟨rF, rE, rfl, rfl, trivial, trivial⟩ (fun _ => Nat.le_refl _) ?_
 rintro ⟨⟨fu, v14⟩, h1⟩
 cases fu with
 | zero =>
  replace h1 : cI s11 s22 0 v14 = some x13 := h1
  rw [cI] at h1; cases h1
 | succ fu =>
  replace h1 : cI s11 s22 (fu + 1) v14 = some x13 := h1
  rw [cI] at h1
  dsimp only
  refine xS 80 [0, 1, 12, 13, 14] ?_
  refine iA ?_
  refine xI h1 rfl (fun h1 hb15 => ?_) (fun h1 hb15 => ?_)
  ·
   refine oA (dA (iA (xB ?_)))
   refine xS 96 [0, 1, 5, 12, 13] ?_
   obtain ⟨e16, he16, h1⟩ := bA h1
   obtain ⟨he16a, he16b, he16c⟩ := wA he16
   obtain ⟨e17, he17, h1⟩ := bA h1
   obtain ⟨he17a, he17b, he17c⟩ := wA he17
   refine pC 168 [0, 1, 12, 13, 24] (fun _ => none) rfl rfl rfl (fun _ _ => aE (rA he16a (rA he16b (rA he16c (rA he17a (rA he17b he17c)))))) ?_
   refine xI h1 rfl (fun h1 hb18 => ?_) (fun h1 hb18 => ?_)
   ·
    refine nA 176 [4] (fun _ => none) rfl (fun _ _ => rS (rA he16a (rA he16b (rA he16c (rA he17a (rA he17b he17c)))))) ?_
    refine kA ?_
    obtain rfl := oI h1
    refine cC (mA (mA (wC (mA ?_))))
    obtain rfl := oI h0
    refine lA [] ?_
    exact rJ (rA he16a (rA he16b (rA he16c (rA he17a (rA he17b he17c)))))
   refine oA (qB (dA ?_))
   refine nB 184 [0, 1, 12, 13] (fun _ => none) rfl (fun _ _ => rS (rA he16a (rA he16b (rA he16c (rA he17a (rA he17b he17c)))))) ?_
   refine dA ?_
   exact ⟨⟨(fu, (IntKind.i64.wrap (v14 + 1))), h1⟩, ⟨rF, rE, rfl, rfl, trivial, trivial⟩, Nat.lt_succ_self _⟩
  refine fC (xA (xA (iC ?_)))
  obtain rfl := oI h1
  exact ⟨_, rfl, rL, ⟨rF, rE, rfl, rfl, trivial, trivial⟩⟩
theorem hP {fu : Nat} {a1 : List aA} {b2 : List aA} {r : Bool} (h0 : vM fu a1 b2 = some r) : yA Tryz.prog 70 [.psl 4 (a1.map aA.enc), .psl 4 (b2.map aA.enc)] (.bool r) [] := by
 refine cB Tryz.func70 rfl (by decide) rL ?_
 dsimp only [Tryz.f70]
 rw [vM] at h0
 refine xS 8 [0, 1] ?_
 obtain ⟨vr3, hvr3, h0⟩ := bA h0
 refine nA 40 [4] (fun | 2 => some (.bool vr3, []) | _ => none) rfl (fun _ _ => rC (zjs hvr3)) ?_
 refine kA ?_
 obtain rfl := oI h0
 exact lA [] rG
theorem cQ {fu : Nat} {s11 : List (List aA)} {s22 : List (List aA)} {r : Bool} (h0 : iQ fu s11 s22 = some r) : yA Tryz.prog 69 [.psl 1 (s11.map (sA 4 aA.enc)), .psl 1 (s22.map (sA 4 aA.enc)), .fn 70 [] []] (.bool r) [] := by
 refine cB Tryz.func69 rfl (by decide) rL ?_
 dsimp only [Tryz.f69]
 rw [iQ] at h0
 refine xS 8 [0, 1, 2] ?_
 refine iA ?_
 refine xS 48 [0, 1, 2, 14] ?_
 refine xI h0 rfl (fun h0 hb3 => ?_) (fun h0 hb3 => ?_)
 ·
  refine xS 56 [6] ?_
  refine kA (mA ?_)
  obtain rfl := oI h0
  exact lA [] rG
 refine oA (dA (iA ?_))
 refine xS 72 [1, 2, 15, 16, 17] ?_
 obtain ⟨x15, hxx15, h0⟩ := bA h0
 refine oC (fun s' => ∃ o22 : Unit, x15 = .inl o22 ∧ s'.nx ≤ 80 ∧ LeN [] s' ⟨[], [], 80, []⟩) ?_ ?_
 ·
  intro s' hs
  obtain ⟨o22, rfl, hn, hs⟩ := hs
  refine dA ?_
  refine oB [] hn hs ?_
  refine xS 88 [6] ?_
  refine kA ?_
  obtain rfl := oI h0
  exact lA [] rG
 refine nC (ι := { p : Nat × Int // uH s11 s22 p.1 p.2 = some x15 }) (fun p => ⟨[(1, .psl 1 (List.map (sA 4 aA.enc) s22)), (2, .fn 70 [] []), (15, .psl 1 (List.map (sA 4 aA.enc) s11)), (16, .int .i64 (s11.length : Int)), (17, .int .i64 p.1.2)], [], 72, []⟩) (fun p => p.1.1) ⟨(fu, 0), hxx15⟩ ⟨rF, rE, rfl, rfl, trivial, trivial⟩ (fun _ => Nat.le_refl _) ?_
 rintro ⟨⟨fu, v16⟩, h1⟩
 cases fu with
 | zero =>
  replace h1 : uH s11 s22 0 v16 = some x15 := h1
  rw [uH] at h1; cases h1
 | succ fu =>
  replace h1 : uH s11 s22 (fu + 1) v16 = some x15 := h1
  rw [uH] at h1
  dsimp only
  refine xS 80 [1, 2, 15, 16, 17, 18] ?_
  refine iA ?_
  refine xI h1 rfl (fun h1 hb17 => ?_) (fun h1 hb17 => ?_)
  ·
   refine oA (dA (iA (xB ?_)))
   obtain ⟨e18, he18, h1⟩ := bA h1
   obtain ⟨he18a, he18b, he18c⟩ := wA he18
   refine nA 120 [1, 2, 7, 8, 15, 16, 17] (fun _ => none) rfl (fun _ _ => rS (rA he18a (rA he18b he18c))) ?_
   obtain ⟨e19, he19, h1⟩ := bA h1
   obtain ⟨he19a, he19b, he19c⟩ := wA he19
   refine nA 160 [1, 2, 8, 9, 15, 16, 17] (fun _ => none) rfl (fun _ _ => rS (rA he18a (rA he18b (rA he18c (rA he19a (rA he19b he19c)))))) ?_
   obtain ⟨vr20, hvr20, h1⟩ := bA h1
   refine nA 200 [1, 2, 15, 16, 17, 30] (fun | 3 => some (.bool vr20, []) | _ => none) rfl (fun _ _ => rB (rA he18a (rA he18b (rA he18c (rA he19a (rA he19b he19c))))) (hP hvr20)) ?_
   refine xI h1 rfl (fun h1 hb21 => ?_) (fun h1 hb21 => ?_)
   ·
    refine nA 208 [6] (fun _ => none) rfl (fun _ _ => rS (rA he18a (rA he18b (rA he18c (rA he19a (rA he19b he19c)))))) ?_
    refine kA ?_
    obtain rfl := oI h1
    refine cC (mA (mA (wC (mA ?_))))
    obtain rfl := oI h0
    refine lA [] ?_
    exact rJ (rA he18a (rA he18b (rA he18c (rA he19a (rA he19b he19c)))))
   refine oA (qB (dA ?_))
   refine nB 216 [1, 2, 15, 16, 17] (fun _ => none) rfl (fun _ _ => rS (rA he18a (rA he18b (rA he18c (rA he19a (rA he19b he19c)))))) ?_
   refine dA ?_
   exact ⟨⟨(fu, (IntKind.i64.wrap (v16 + 1))), h1⟩, ⟨rF, rE, rfl, rfl, trivial, trivial⟩, Nat.lt_succ_self _⟩
  refine fC (xA (xA (iC ?_)))
  obtain rfl := oI h1
  exact ⟨_, rfl, rL, ⟨rF, rE, rfl, rfl, trivial, trivial⟩⟩
theorem zi3 {fu : Nat} {a1 : lB} {b2 : lB} {r : Bool} (h0 : aQ fu a1 b2 = some r) : yA Tryz.prog 41 [.agg (lB.enc a1), .agg (lB.enc b2)] (.bool r) [] := by
 refine cB Tryz.func41 rfl (by decide) rL ?_
 dsimp only [Tryz.f41, List.append]
 rw [aQ] at h0
 refine xS 24 [2, 3] ?_
 refine pC 88 [2, 3, 5, 6] (fun _ => none) rfl rfl rfl (fun _ _ => nF) ?_
 obtain ⟨vr3, hvr3, h0⟩ := bA h0
 obtain ⟨b5, hb5, h0⟩ := bA h0
 obtain ⟨b7, hb7, h0⟩ := bA h0
 obtain ⟨b9, hb9, h0⟩ := bA h0
 obtain ⟨b10, hb10, h0⟩ := bA h0
 obtain ⟨b11, hb11, h0⟩ := bA h0
 obtain ⟨b13, hb13, h0⟩ := bA h0
 obtain ⟨b14, hb14, h0⟩ := bA h0
 refine mC (fr' := [(4, .bool b14)]) (hp' := [(0, ⟨0, true, true, 10, [[.psl 1 (List.map (sA 4 aA.enc) a1.Merge.Runs), .psl 1 (List.map (fA .i64) a1.Merge.At), .psl 2 (List.map eA.enc a1.Merge.Tree.Keys), .psl 1 (List.map (fA .i64) a1.Merge.Tree.Lose), .int .i64 a1.Merge.Tree.Win, .bool a1.Shadow.Some, .str a1.Shadow.Last, .bool a1.Shadow.Bottom, .psl 4 (List.map aA.enc a1.Out), .int .i64 a1.Steps]]⟩), (8, ⟨0, true, true, 10, [[.psl 1 (List.map (sA 4 aA.enc) b2.Merge.Runs), .psl 1 (List.map (fA .i64) b2.Merge.At), .psl 2 (List.map eA.enc b2.Merge.Tree.Keys), .psl 1 (List.map (fA .i64) b2.Merge.Tree.Lose), .int .i64 b2.Merge.Tree.Win, .bool b2.Shadow.Some, .str b2.Shadow.Last, .bool b2.Shadow.Bottom, .psl 4 (List.map aA.enc b2.Out), .int .i64 b2.Steps]]⟩), (56, ⟨0, true, true, 5, [[.psl 1 (List.map (sA 4 aA.enc) a1.Merge.Runs), .psl 1 (List.map (fA .i64) a1.Merge.At), .psl 2 (List.map eA.enc a1.Merge.Tree.Keys), .psl 1 (List.map (fA .i64) a1.Merge.Tree.Lose), .int .i64 a1.Merge.Tree.Win]]⟩), (64, ⟨0, true, true, 5, [[.psl 1 (List.map (sA 4 aA.enc) b2.Merge.Runs), .psl 1 (List.map (fA .i64) b2.Merge.At), .psl 2 (List.map eA.enc b2.Merge.Tree.Keys), .psl 1 (List.map (fA .i64) b2.Merge.Tree.Lose), .int .i64 b2.Merge.Tree.Win]]⟩)]) [0, 8, 56, 64] 576 [4] (fun | 4 => some (.bool vr3, []) | 10 => (nJ fu a1.Merge.At b2.Merge.At).bind fun vr4 => some (.bool vr4, []) | 19 => (cM fu a1.Merge.Tree.Keys b2.Merge.Tree.Keys).bind fun vr6 => some (.bool vr6, []) | 28 => (nJ fu a1.Merge.Tree.Lose b2.Merge.Tree.Lose).bind fun vr8 => some (.bool vr8, []) | 51 => (vM fu a1.Out b2.Out).bind fun vr12 => some (.bool vr12, []) | _ => none) rfl (fun Kt hK => by
   cases vr3 with
   | false =>
    replace hb5 := qA hb5 rfl
    have hqb5 := oI hb5
    cases b5 with
    | false =>
     replace hb7 := qA hb7 rfl
     have hqb7 := oI hb7
     cases b7 with
     | false =>
      replace hb9 := qA hb9 rfl
      have hqb9 := oI hb9
      cases b9 with
      | false =>
       replace hb10 := qA hb10 rfl
       have hqb10 := oI hb10
       cases b10 with
       | false =>
        replace hb11 := qA hb11 rfl
        have hqb11 := oI hb11
        cases b11 with
        | false =>
         replace hb13 := qA hb13 rfl
         have hqb13 := oI hb13
         cases b13 with
         | false =>
          replace hb14 := qA hb14 rfl
          have hqb14 := oI hb14
          subst hqb14
          try have q0 := cQ hvr3
          try have q1 := oG hvr4
          try have q2 := xL hvr6
          try have q3 := oG hvr8
          try have q4 := hP hvr12
          exact rT
         | true =>
          cases hqb13
        | true =>
         cases hqb11
       | true =>
        cases hqb10
      | true =>
       cases hqb9
     | true =>
      cases hqb7
    | true =>
     cases hqb5
   | true =>
    replace hb5 := aB hb5 rfl
    obtain ⟨vr4, hvr4, hb5⟩ := bA hb5
    have hqb5 := oI hb5
    cases b5 with
    | false =>
     subst hqb5
     replace hb7 := qA hb7 rfl
     have hqb7 := oI hb7
     cases b7 with
     | false =>
      replace hb9 := qA hb9 rfl
      have hqb9 := oI hb9
      cases b9 with
      | false =>
       replace hb10 := qA hb10 rfl
       have hqb10 := oI hb10
       cases b10 with
       | false =>
        replace hb11 := qA hb11 rfl
        have hqb11 := oI hb11
        cases b11 with
        | false =>
         replace hb13 := qA hb13 rfl
         have hqb13 := oI hb13
         cases b13 with
         | false =>
          replace hb14 := qA hb14 rfl
          have hqb14 := oI hb14
          subst hqb14
          try have q0 := cQ hvr3
          try have q1 := oG hvr4
          try have q2 := xL hvr6
          try have q3 := oG hvr8
          try have q4 := hP hvr12
          exact rS hvr4
         | true =>
          cases hqb13
        | true =>
         cases hqb11
       | true =>
        cases hqb10
      | true =>
       cases hqb9
     | true =>
      cases hqb7
    | true =>
     subst hqb5
     replace hb7 := aB hb7 rfl
     obtain ⟨vr6, hvr6, hb7⟩ := bA hb7
     have hqb7 := oI hb7
     cases b7 with
     | false =>
      subst hqb7
      replace hb9 := qA hb9 rfl
      have hqb9 := oI hb9
      cases b9 with
      | false =>
       replace hb10 := qA hb10 rfl
       have hqb10 := oI hb10
       cases b10 with
       | false =>
        replace hb11 := qA hb11 rfl
        have hqb11 := oI hb11
        cases b11 with
        | false =>
         replace hb13 := qA hb13 rfl
         have hqb13 := oI hb13
         cases b13 with
         | false =>
          replace hb14 := qA hb14 rfl
          have hqb14 := oI hb14
          subst hqb14
          try have q0 := cQ hvr3
          try have q1 := oG hvr4
          try have q2 := xL hvr6
          try have q3 := oG hvr8
          try have q4 := hP hvr12
          exact rS (rA hvr4 hvr6)
         | true =>
          cases hqb13
        | true =>
         cases hqb11
       | true =>
        cases hqb10
      | true =>
       cases hqb9
     | true =>
      subst hqb7
      replace hb9 := aB hb9 rfl
      obtain ⟨vr8, hvr8, hb9⟩ := bA hb9
      have hqb9 := oI hb9
      cases b9 with
      | false =>
       subst hqb9
       replace hb10 := qA hb10 rfl
       have hqb10 := oI hb10
       cases b10 with
       | false =>
        replace hb11 := qA hb11 rfl
        have hqb11 := oI hb11
        cases b11 with
        | false =>
         replace hb13 := qA hb13 rfl
         have hqb13 := oI hb13
         cases b13 with
         | false =>
          replace hb14 := qA hb14 rfl
          have hqb14 := oI hb14
          subst hqb14
          try have q0 := cQ hvr3
          try have q1 := oG hvr4
          try have q2 := xL hvr6
          try have q3 := oG hvr8
          try have q4 := hP hvr12
          exact rS (rA hvr4 (rA hvr6 hvr8))
         | true =>
          cases hqb13
        | true =>
         cases hqb11
       | true =>
        cases hqb10
      | true =>
       subst hqb9
       replace hb10 := aB hb10 rfl
       have hqb10 := oI hb10
       cases b10 with
       | false =>
        replace hb11 := qA hb11 rfl
        have hqb11 := oI hb11
        cases b11 with
        | false =>
         replace hb13 := qA hb13 rfl
         have hqb13 := oI hb13
         cases b13 with
         | false =>
          replace hb14 := qA hb14 rfl
          have hqb14 := oI hb14
          subst hqb14
          simp (maxSteps := 1000000) only [↓reduceIte, reduceCtorEq, Nat.reduceEqDiff, Nat.reduceLT, Nat.reduceLeDiff, Nat.reduceAdd, Nat.reduceMul, Int.reduceToNat, push_cast, hvr4, hvr6, hvr8, ↓hqb10]
          try simp only [↓hqb10] at hK
          try have q0 := cQ hvr3
          try have q1 := oG hvr4
          try have q2 := xL hvr6
          try have q3 := oG hvr8
          try have q4 := hP hvr12
          all_goals exact rU
         | true =>
          cases hqb13
        | true =>
         cases hqb11
       | true =>
        replace hb11 := aB hb11 rfl
        have hqb11 := oI hb11
        cases b11 with
        | false =>
         replace hb13 := qA hb13 rfl
         have hqb13 := oI hb13
         cases b13 with
         | false =>
          replace hb14 := qA hb14 rfl
          have hqb14 := oI hb14
          subst hqb14
          simp (maxSteps := 1000000) only [↓reduceIte, reduceCtorEq, Nat.reduceEqDiff, Nat.reduceLT, Nat.reduceLeDiff, Nat.reduceAdd, Nat.reduceMul, Int.reduceToNat, push_cast, hvr4, hvr6, hvr8, ↓hqb10, ↓hqb11]
          try simp only [↓hqb10, ↓hqb11] at hK
          try have q0 := cQ hvr3
          try have q1 := oG hvr4
          try have q2 := xL hvr6
          try have q3 := oG hvr8
          try have q4 := hP hvr12
          all_goals exact rU
         | true =>
          cases hqb13
        | true =>
         replace hb13 := aB hb13 rfl
         obtain ⟨vr12, hvr12, hb13⟩ := bA hb13
         have hqb13 := oI hb13
         cases b13 with
         | false =>
          subst hqb13
          replace hb14 := qA hb14 rfl
          have hqb14 := oI hb14
          subst hqb14
          simp (maxSteps := 1000000) only [↓reduceIte, reduceCtorEq, Nat.reduceEqDiff, Nat.reduceLT, Nat.reduceLeDiff, Nat.reduceAdd, Nat.reduceMul, Int.reduceToNat, push_cast, hvr4, hvr6, hvr8, ↓hqb10, ↓hqb11, hvr12]
          try simp only [↓hqb10, ↓hqb11] at hK
          try have q0 := cQ hvr3
          try have q1 := oG hvr4
          try have q2 := xL hvr6
          try have q3 := oG hvr8
          try have q4 := hP hvr12
          all_goals exact rU
         | true =>
          subst hqb13
          replace hb14 := aB hb14 rfl
          have hqb14 := oI hb14
          subst hqb14
          simp (maxSteps := 1000000) only [↓reduceIte, reduceCtorEq, Nat.reduceEqDiff, Nat.reduceLT, Nat.reduceLeDiff, Nat.reduceAdd, Nat.reduceMul, Int.reduceToNat, push_cast, hvr4, hvr6, hvr8, ↓hqb10, ↓hqb11, hvr12]
          try simp only [↓hqb10, ↓hqb11] at hK
          try have q0 := cQ hvr3
          try have q1 := oG hvr4
          try have q2 := xL hvr6
          try have q3 := oG hvr8
          try have q4 := hP hvr12
          all_goals exact rU) ?_
 refine kA ?_
 obtain rfl := oI h0
 exact lA [] rG
theorem nZ {fu : Nat} {vs1 : mB} {r : Int × Int} (h0 : uI fu vs1 = some r) : yA Tryz.prog 11 [.agg (mB.enc vs1)] (.tup [.int .i64 r.1, .int .i64 r.2]) [] := by
 refine cB Tryz.func11 rfl (by decide) rL ?_
 dsimp only [Tryz.f11]
 rw [uI] at h0
 refine xS 24 [1] ?_
 obtain ⟨vr2, hvr2, h0⟩ := bA h0
 refine nA 88 [1, 3] (fun | 2 => some (.tup [.int .i64 vr2.1, .int .i64 vr2.2.1, .int .i64 vr2.2.2], []) | _ => none) rfl (fun _ _ => rC (zcb hvr2)) ?_
 refine iA (xB ?_)
 refine xS 112 [1, 3, 21] ?_
 refine xI h0 rfl (fun h0 hb3 => ?_) (fun h0 hb3 => ?_)
 ·
  refine xS 136 [2, 3] ?_
  refine kA (cC (mA ?_))
  obtain rfl := oI h0
  exact lA [] rG
 obtain ⟨b4, hb4, h0⟩ := bA h0
 refine mC (fr' := [(1, .ref 0 0 0 0), (25, .bool b4)]) (hp' := [(0, ⟨0, true, true, 4, [[.int .i64 vs1.Levels.B, .psl 1 (List.map tA.enc vs1.Levels.Levels), .psl 11 (List.map fB.enc vs1.Jobs), .int .i64 vs1.NextId]]⟩)]) [0] 184 [1, 25] (fun _ => none) rfl (fun Kt hK => by
   cases hg5 : (decide (vs1.NextId < 1)) with
   | false =>
    replace hb4 := qA hb4 hg5
    have hqb4 := oI hb4
    subst hqb4
    exact rW hg5 hK
   | true =>
    replace hb4 := aB hb4 hg5
    have hqb4 := oI hb4
    subst hqb4
    exact rW hg5 hK) ?_
 refine xI h0 rfl (fun h0 hb6 => ?_) (fun h0 hb6 => ?_)
 ·
  refine xS 200 [2, 3] ?_
  refine kA (cC (mA ?_))
  obtain rfl := oI h0
  exact lA [] rG
 obtain ⟨vr7, hvr7, h0⟩ := bA h0
 refine pC 240 [1, 34] (fun | 4 => some (.int .i64 vr7, []) | _ => none) rfl rfl rfl (fun _ _ => aO (zcm hvr7)) ?_
 refine xI h0 rfl (fun h0 hb8 => ?_) (fun h0 hb8 => ?_)
 ·
  refine xS 256 [2, 3] ?_
  refine kA (cC (mA ?_))
  obtain rfl := oI h0
  exact lA [] rG
 refine oA (qB (dA ?_))
 obtain ⟨vr9, hvr9, h0⟩ := bA h0
 obtain ⟨vr10, hvr10, h0⟩ := bA h0
 refine nA 280 [1, 4] (fun | 2 => some (.fn 67 [] [.pp [.int .i64 vr9.1, .psl 1 (vr9.2.map tA.enc)]], []) | 3 => some (.psl 1 (vr10.map (fA .i64)), []) | _ => none) rfl (fun Kt hK => by
   try have q0 := zah hvr9
   try have q1 := zdm hvr10
   exact rT) ?_
 refine iA ?_
 refine xS 312 [1, 4, 46, 47, 48] ?_
 obtain ⟨x48, hxx48, h0⟩ := bA h0
 refine oC (fun s' => ∃ o68 : Unit, x48 = .inl o68 ∧ s'.nx ≤ 320 ∧ LeN [] s' ⟨[(1, .ref 0 0 0 0), (4, .psl 1 (List.map (fA .i64) vr10))], [(0, ⟨0, true, true, 4, [[.int .i64 vs1.Levels.B, .psl 1 (List.map tA.enc vs1.Levels.Levels), .psl 11 (List.map fB.enc vs1.Jobs), .int .i64 vs1.NextId]]⟩)], 320, []⟩) ?_ ?_
 ·
  intro s' hs
  obtain ⟨o68, rfl, hn, hs⟩ := hs
  refine dA ?_
  refine oB [] hn hs ?_
  refine iA ?_
  refine xS 368 [126] ?_
  refine xI h0 rfl (fun h0 hb69 => ?_) (fun h0 hb69 => ?_)
  ·
   refine xS 384 [2, 3] ?_
   refine kA (mA ?_)
   obtain rfl := oI h0
   exact lA [] rG
  refine oA (dA ?_)
  refine xS 384 [2, 3] ?_
  refine kA ?_
  obtain rfl := oI h0
  exact lA [] rG
 refine nC (ι := { p : Nat × Int // fF vs1 vr10 p.1 p.2 = some x48 }) (fun p => ⟨[(1, .ref 0 0 0 0), (4, .psl 1 (List.map (fA .i64) vr10)), (46, .psl 11 (List.map fB.enc vs1.Jobs)), (47, .int .i64 (vs1.Jobs.length : Int)), (48, .int .i64 p.1.2)], [(0, ⟨0, true, true, 4, [[.int .i64 vs1.Levels.B, .psl 1 (List.map tA.enc vs1.Levels.Levels), .psl 11 (List.map fB.enc vs1.Jobs), .int .i64 vs1.NextId]]⟩)], 312, []⟩) (fun p => p.1.1) ⟨(fu, 0), hxx48⟩ ⟨rF, rE, rfl, rfl, trivial, trivial⟩ (fun _ => Nat.le_refl _) ?_
 rintro ⟨⟨fu, v49⟩, h1⟩
 cases fu with
 | zero =>
  replace h1 : fF vs1 vr10 0 v49 = some x48 := h1
  rw [fF] at h1; cases h1
 | succ fu =>
  replace h1 : fF vs1 vr10 (fu + 1) v49 = some x48 := h1
  rw [fF] at h1
  dsimp only
  refine xS 320 [1, 4, 46, 47, 48, 49] ?_
  refine iA ?_
  refine xI h1 rfl (fun h1 hb50 => ?_) (fun h1 hb50 => ?_)
  ·
   refine oA (dA (iA (xB ?_)))
   obtain ⟨e51, he51, h1⟩ := bA h1
   obtain ⟨he51a, he51b, he51c⟩ := wA he51
   refine nA 368 [1, 4, 5, 6, 46, 47, 48] (fun _ => none) rfl (fun _ _ => rS (rA he51a (rA he51b he51c))) ?_
   refine iA ?_
   obtain ⟨b53, hb53, h1⟩ := bA h1
   refine bL (fr' := [(1, .ref 0 0 0 0), (4, .psl 1 (List.map (fA .i64) vr10)), (5, .int .i64 v49), (6, .ref 344 0 0 0), (46, .psl 11 (List.map fB.enc vs1.Jobs)), (47, .int .i64 (vs1.Jobs.length : Int)), (48, .int .i64 v49), (65, .bool b53)]) (hp' := [(0, ⟨0, true, true, 4, [[.int .i64 vs1.Levels.B, .psl 1 (List.map tA.enc vs1.Levels.Levels), .psl 11 (List.map fB.enc vs1.Jobs), .int .i64 vs1.NextId]]⟩), (344, ⟨0, true, true, 11, [[.int .i64 e51.Level, .psl 1 (List.map (sA 4 aA.enc) e51.Work.Merge.Runs), .psl 1 (List.map (fA .i64) e51.Work.Merge.At), .psl 2 (List.map eA.enc e51.Work.Merge.Tree.Keys), .psl 1 (List.map (fA .i64) e51.Work.Merge.Tree.Lose), .int .i64 e51.Work.Merge.Tree.Win, .bool e51.Work.Shadow.Some, .str e51.Work.Shadow.Last, .bool e51.Work.Shadow.Bottom, .psl 4 (List.map aA.enc e51.Work.Out), .int .i64 e51.Work.Steps]]⟩)]) [0, 344] 472 [1, 4, 5, 6, 46, 47, 48, 65] (fun _ => none) rfl rfl rfl (fun Kt hK => by
     cases hg54 : (decide ((vr10.length : Int) ≤ v49)) with
     | false =>
      replace hb53 := qA hb53 hg54
      obtain ⟨e52, he52, hb53⟩ := bA hb53
      obtain ⟨he52a, he52b, he52c⟩ := wA he52
      have hqb53 := oI hb53
      subst hqb53
      exact tG hg54 (rA he51a (rA he51b (rA he51c (rA he52a (rA he52b (rA he52c he52)))))) hK
     | true =>
      replace hb53 := aB hb53 hg54
      have hqb53 := oI hb53
      subst hqb53
      exact tG hg54 (rA he51a (rA he51b he51c)) hK) ?_
   refine xI h1 rfl (fun h1 hb55 => ?_) (fun h1 hb55 => ?_)
   ·
    refine nA 496 [2, 3] (fun _ => none) rfl (fun _ _ => rS (rA he51a (rA he51b he51c))) ?_
    refine kA ?_
    obtain rfl := oI h1
    refine mA (cC (mA (mA (wC (mA ?_)))))
    obtain rfl := oI h0
    refine lA [] ?_
    exact rJ (rA he51a (rA he51b he51c))
   refine oA (dA ?_)
   refine nA 512 [1, 4, 5, 6, 7, 46, 47, 48] (fun _ => none) rfl (fun _ _ => rS (rA he51a (rA he51b he51c))) ?_
   refine iA ?_
   obtain ⟨b57, hb57, h1⟩ := bA h1
   refine mC (fr' := [(1, .ref 0 0 0 0), (4, .psl 1 (List.map (fA .i64) vr10)), (5, .int .i64 v49), (6, .ref 344 0 0 0), (7, .bool e51.Work.Shadow.Bottom), (46, .psl 11 (List.map fB.enc vs1.Jobs)), (47, .int .i64 (vs1.Jobs.length : Int)), (48, .int .i64 v49), (79, .bool b57)]) (hp' := [(0, ⟨0, true, true, 4, [[.int .i64 vs1.Levels.B, .psl 1 (List.map tA.enc vs1.Levels.Levels), .psl 11 (List.map fB.enc vs1.Jobs), .int .i64 vs1.NextId]]⟩), (344, ⟨0, true, true, 11, [[.int .i64 e51.Level, .psl 1 (List.map (sA 4 aA.enc) e51.Work.Merge.Runs), .psl 1 (List.map (fA .i64) e51.Work.Merge.At), .psl 2 (List.map eA.enc e51.Work.Merge.Tree.Keys), .psl 1 (List.map (fA .i64) e51.Work.Merge.Tree.Lose), .int .i64 e51.Work.Merge.Tree.Win, .bool e51.Work.Shadow.Some, .str e51.Work.Shadow.Last, .bool e51.Work.Shadow.Bottom, .psl 4 (List.map aA.enc e51.Work.Out), .int .i64 e51.Work.Steps]]⟩)]) [0, 344] 584 [1, 4, 5, 6, 7, 46, 47, 48, 79] (fun | 6 => (iL fu vs1.Levels e51.Level).bind fun vr56 => some (.bool vr56, []) | _ => none) rfl (fun Kt hK => by
     cases hg58 : e51.Work.Shadow.Bottom with
     | false =>
      replace hb57 := qA hb57 hg58
      have hqb57 := oI hb57
      subst hqb57
      first | exact yI hg58 (rA he51a (rA he51b he51c)) (zbK hvr56) hK | exact sD hg58 (rA he51a (rA he51b he51c)) hK
     | true =>
      replace hb57 := aB hb57 hg58
      obtain ⟨vr56, hvr56, hb57⟩ := bA hb57
      have hqb57 := oI hb57
      subst hqb57
      first | exact yI hg58 (rA he51a (rA he51b (rA he51c hvr56))) (zbK hvr56) hK | exact sD hg58 (rA he51a (rA he51b (rA he51c hvr56))) hK) ?_
   refine xI h1 rfl (fun h1 hb59 => ?_) (fun h1 hb59 => ?_)
   ·
    refine nA 608 [2, 3] (fun _ => none) rfl (fun _ _ => rS (rA he51a (rA he51b he51c))) ?_
    refine kA ?_
    obtain rfl := oI h1
    refine mA (cC (mA (mA (wC (mA ?_)))))
    obtain rfl := oI h0
    refine lA [] ?_
    exact rJ (rA he51a (rA he51b he51c))
   refine oA (dA ?_)
   obtain ⟨vr60, hvr60, h1⟩ := bA h1
   refine nA 656 [1, 4, 5, 6, 8, 46, 47, 48] (fun | 5 => some (.agg (fB.enc vr60), []) | _ => none) rfl (fun _ _ => rB (rA he51a (rA he51b he51c)) (zdw hvr60)) ?_
   obtain ⟨vr61, hvr61, h1⟩ := bA h1
   refine nA 712 [1, 4, 5, 6, 8, 9, 46, 47, 48] (fun | 1 => some (.tup [.int .i64 vr61.1, .int .i64 vr61.2], []) | _ => none) rfl (fun _ _ => rB (rA he51a (rA he51b he51c)) (aY hvr61)) ?_
   refine iA ?_
   obtain ⟨b62, hb62, h1⟩ := bA h1
   refine mC (fr' := [(1, .ref 0 0 0 0), (4, .psl 1 (List.map (fA .i64) vr10)), (5, .int .i64 v49), (6, .ref 344 0 0 0), (8, .ref 640 0 0 0), (46, .psl 11 (List.map fB.enc vs1.Jobs)), (47, .int .i64 (vs1.Jobs.length : Int)), (48, .int .i64 v49), (103, .bool b62)]) (hp' := [(0, ⟨0, true, true, 4, [[.int .i64 vs1.Levels.B, .psl 1 (List.map tA.enc vs1.Levels.Levels), .psl 11 (List.map fB.enc vs1.Jobs), .int .i64 vs1.NextId]]⟩), (344, ⟨0, true, true, 11, [[.int .i64 e51.Level, .psl 1 (List.map (sA 4 aA.enc) e51.Work.Merge.Runs), .psl 1 (List.map (fA .i64) e51.Work.Merge.At), .psl 2 (List.map eA.enc e51.Work.Merge.Tree.Keys), .psl 1 (List.map (fA .i64) e51.Work.Merge.Tree.Lose), .int .i64 e51.Work.Merge.Tree.Win, .bool e51.Work.Shadow.Some, .str e51.Work.Shadow.Last, .bool e51.Work.Shadow.Bottom, .psl 4 (List.map aA.enc e51.Work.Out), .int .i64 e51.Work.Steps]]⟩), (640, ⟨0, true, true, 10, [[.psl 1 (List.map (sA 4 aA.enc) vr60.Work.Merge.Runs), .psl 1 (List.map (fA .i64) vr60.Work.Merge.At), .psl 2 (List.map eA.enc vr60.Work.Merge.Tree.Keys), .psl 1 (List.map (fA .i64) vr60.Work.Merge.Tree.Lose), .int .i64 vr60.Work.Merge.Tree.Win, .bool vr60.Work.Shadow.Some, .str vr60.Work.Shadow.Last, .bool vr60.Work.Shadow.Bottom, .psl 4 (List.map aA.enc vr60.Work.Out), .int .i64 vr60.Work.Steps]]⟩)]) [0, 344, 640] 800 [1, 4, 5, 6, 8, 46, 47, 48, 103] (fun _ => none) rfl (fun Kt hK => by
     cases hg63 : (decide (e51.Work.Steps < 0)) with
     | false =>
      replace hb62 := qA hb62 hg63
      have hqb62 := oI hb62
      subst hqb62
      exact sD hg63 (rA he51a (rA he51b he51c)) hK
     | true =>
      replace hb62 := aB hb62 hg63
      have hqb62 := oI hb62
      subst hqb62
      exact sD hg63 (rA he51a (rA he51b he51c)) hK) ?_
   refine xI h1 rfl (fun h1 hb64 => ?_) (fun h1 hb64 => ?_)
   ·
    refine nA 824 [2, 3] (fun _ => none) rfl (fun _ _ => rS (rA he51a (rA he51b he51c))) ?_
    refine kA ?_
    obtain rfl := oI h1
    refine mA (cC (mA (mA (wC (mA ?_)))))
    obtain rfl := oI h0
    refine lA [] ?_
    exact rJ (rA he51a (rA he51b he51c))
   refine oA (dA ?_)
   obtain ⟨vr65, hvr65, h1⟩ := bA h1
   refine nA 904 [1, 4, 5, 6, 11, 46, 47, 48] (fun | 4 => some (.tup [.agg (lB.enc vr65.1), .int .i64 vr65.2.1, .int .i64 vr65.2.2], []) | _ => none) rfl (fun _ _ => rB (rA he51a (rA he51b he51c)) (zcW hvr65)) ?_
   obtain ⟨vr66, hvr66, h1⟩ := bA h1
   refine nA 944 [1, 4, 5, 46, 47, 48, 118] (fun | 3 => some (.bool vr66, []) | _ => none) rfl (fun _ _ => rB (rA he51a (rA he51b he51c)) (zi3 hvr66)) ?_
   refine xI h1 rfl (fun h1 hb67 => ?_) (fun h1 hb67 => ?_)
   ·
    refine nA 968 [2, 3] (fun _ => none) rfl (fun _ _ => rS (rA he51a (rA he51b he51c))) ?_
    refine kA ?_
    obtain rfl := oI h1
    refine cC (mA (mA (wC (mA ?_))))
    obtain rfl := oI h0
    refine lA [] ?_
    exact rJ (rA he51a (rA he51b he51c))
   refine oA (qB (dA ?_))
   refine nB 960 [1, 4, 46, 47, 48] (fun _ => none) rfl (fun _ _ => rS (rA he51a (rA he51b he51c))) ?_
   refine dA ?_
   exact ⟨⟨(fu, (IntKind.i64.wrap (v49 + 1))), h1⟩, ⟨rF, rE, rfl, rfl, trivial, trivial⟩, Nat.lt_succ_self _⟩
  refine fC (xA (xA (iC ?_)))
  obtain rfl := oI h1
  exact ⟨_, rfl, rL, ⟨rF, rE, rfl, rfl, trivial, trivial⟩⟩
theorem zn6 {fu : Nat} {j1 : fB} {p2 : Int} {r : Bool} (h0 : tN fu j1 p2 = some r) : yA Tryz.prog 50 [.agg (fB.enc j1), .pp [.int .i64 p2]] (.bool r) [] := by
 refine cB Tryz.func50 rfl (by decide) rL ?_
 dsimp only [Tryz.f50]
 rw [tN] at h0
 refine xS 16 [1, 2] ?_
 refine xS 56 [3] ?_
 refine kA ?_
 obtain rfl := oI h0
 exact lA [] rG
theorem zoy {fu : Nat} {vs1 : List fB} {f2 : Int} {r : Int} (h0 : yM fu vs1 f2 = some r) : yA Tryz.prog 82 [.psl 11 (vs1.map fB.enc), .fn 50 [] [.pp [.int .i64 f2]]] (.int .i64 r) [] := by
 refine cB Tryz.func82 rfl (by decide) rL ?_
 dsimp only [Tryz.f82]
 rw [yM] at h0
 refine xS 8 [0, 1] ?_
 refine iA ?_
 refine xS 32 [0, 1, 7, 8] ?_
 obtain ⟨x12, hxx12, h0⟩ := bA h0
 refine oC (fun s' => ∃ o18 : Unit, x12 = .inl o18 ∧ s'.nx ≤ 40 ∧ LeN [] s' ⟨[], [], 40, []⟩) ?_ ?_
 ·
  intro s' hs
  obtain ⟨o18, rfl, hn, hs⟩ := hs
  refine dA ?_
  refine oB [] hn hs ?_
  refine xS 48 [4] ?_
  refine kA ?_
  obtain rfl := oI h0
  exact lA [] rG
 refine nC (ι := { p : Nat × Int // iG vs1 f2 p.1 p.2 = some x12 }) (fun p => ⟨[(0, .psl 11 (List.map fB.enc vs1)), (1, .fn 50 [] [.pp [.int .i64 f2]]), (7, .int .i64 (vs1.length : Int)), (8, .int .i64 p.1.2)], [], 32, []⟩) (fun p => p.1.1) ⟨(fu, 0), hxx12⟩ ⟨rF, rE, rfl, rfl, trivial, trivial⟩ (fun _ => Nat.le_refl _) ?_
 rintro ⟨⟨fu, v13⟩, h1⟩
 cases fu with
 | zero =>
  replace h1 : iG vs1 f2 0 v13 = some x12 := h1
  rw [iG] at h1; cases h1
 | succ fu =>
  replace h1 : iG vs1 f2 (fu + 1) v13 = some x12 := h1
  rw [iG] at h1
  dsimp only
  refine xS 40 [0, 1, 7, 8, 9] ?_
  refine iA ?_
  refine xI h1 rfl (fun h1 hb14 => ?_) (fun h1 hb14 => ?_)
  ·
   refine oA (dA (iA (xB ?_)))
   refine xS 56 [0, 1, 5, 7, 8] ?_
   obtain ⟨e15, he15, h1⟩ := bA h1
   obtain ⟨he15a, he15b, he15c⟩ := wA he15
   obtain ⟨vr16, hvr16, h1⟩ := bA h1
   refine nA 104 [0, 1, 5, 7, 8, 16] (fun | 5 => some (.bool vr16, []) | _ => none) rfl (fun _ _ => rB (rA he15a (rA he15b he15c)) (zn6 hvr16)) ?_
   refine xI h1 rfl (fun h1 hb17 => ?_) (fun h1 hb17 => ?_)
   ·
    refine nA 120 [4] (fun _ => none) rfl (fun _ _ => rS (rA he15a (rA he15b he15c))) ?_
    refine kA ?_
    obtain rfl := oI h1
    refine cC (mA (mA (wC (mA ?_))))
    obtain rfl := oI h0
    refine lA [] ?_
    exact rJ (rA he15a (rA he15b he15c))
   refine oA (qB (dA ?_))
   refine nB 120 [0, 1, 7, 8] (fun _ => none) rfl (fun _ _ => rS (rA he15a (rA he15b he15c))) ?_
   refine dA ?_
   exact ⟨⟨(fu, (IntKind.i64.wrap (v13 + 1))), h1⟩, ⟨rF, rE, rfl, rfl, trivial, trivial⟩, Nat.lt_succ_self _⟩
  refine fC (xA (xA (iC ?_)))
  obtain rfl := oI h1
  exact ⟨_, rfl, rL, ⟨rF, rE, rfl, rfl, trivial, trivial⟩⟩
theorem zh1 {fu : Nat} {l1 : List fB} {is2 : Int} {r : Int × Int} (h0 : pO fu l1 is2 = some r) : yA Tryz.prog 49 [.psl 11 (l1.map fB.enc), .fn 50 [] [.pp [.int .i64 is2]]] (.tup [.int .i64 r.1, .int .i64 r.2]) [] := by
 refine cB Tryz.func49 rfl (by decide) rL ?_
 dsimp only [Tryz.f49]
 rw [pO] at h0
 refine xS 16 [0, 1] ?_
 obtain ⟨vr3, hvr3, h0⟩ := bA h0
 refine nA 48 [6] (fun | 2 => some (.int .i64 vr3, []) | _ => none) rfl (fun _ _ => rC (zoy hvr3)) ?_
 refine iA ?_
 refine xS 64 [6, 11] ?_
 refine xI h0 rfl (fun h0 hb4 => ?_) (fun h0 hb4 => ?_)
 ·
  refine xS 80 [4, 5] ?_
  refine kA (mA ?_)
  obtain rfl := oI h0
  exact lA [] rG
 refine oA (dA ?_)
 refine xS 88 [4, 5] ?_
 refine kA ?_
 obtain rfl := oI h0
 exact lA [] rG
theorem zat {fu : Nat} {vs1 : mB} {level2 : Int} {r : Int × Int} (h0 : lG fu vs1 level2 = some r) : yA Tryz.prog 16 [.agg (mB.enc vs1), .int .i64 level2] (.tup [.int .i64 r.1, .int .i64 r.2]) [] := by
 refine cB Tryz.func16 rfl (by decide) rL ?_
 dsimp only [Tryz.f16]
 rw [lG] at h0
 refine xS 32 [2, 3] ?_
 refine iA ?_
 obtain ⟨vr3, hvr3, h0⟩ := bA h0
 refine nA 88 [2, 3, 7] (fun | 1 => some (.tup [.int .i64 vr3.1, .int .i64 vr3.2], []) | _ => none) rfl (fun _ _ => rC (nZ hvr3)) ?_
 refine xS 104 [2, 3, 7, 14] ?_
 refine xI h0 rfl (fun h0 hb4 => ?_) (fun h0 hb4 => ?_)
 ·
  refine xS 128 [4, 5] ?_
  refine kA (mA ?_)
  obtain rfl := oI h0
  exact lA [] rG
 refine oA (dA ?_)
 obtain ⟨vr5, hvr5, h0⟩ := bA h0
 refine nA 168 [4, 5] (fun | 3 => some (.tup [.int .i64 vr5.1, .int .i64 vr5.2], []) | _ => none) rfl (fun _ _ => rC (zh1 hvr5)) ?_
 refine kA ?_
 obtain rfl := oI h0
 exact lA [] rG
theorem zbg {fu : Nat} {vs1 : mB} {level2 : Int} {r : Int × Int} (h0 : gK fu vs1 level2 = some r) : yA Tryz.prog 18 [.agg (mB.enc vs1), .int .i64 level2] (.tup [.int .i64 r.1, .int .i64 r.2]) [] := by
 refine cB Tryz.func18 rfl (by decide) rL ?_
 dsimp only [Tryz.f18]
 rw [gK] at h0
 refine xS 24 [1, 2] ?_
 obtain ⟨vr3, hvr3, h0⟩ := bA h0
 refine nA 88 [2, 5, 6] (fun | 2 => some (.tup [.int .i64 vr3.1, .int .i64 vr3.2], []) | _ => none) rfl (fun _ _ => rC (zat hvr3)) ?_
 refine iA ?_
 refine xS 104 [2, 5, 6, 14] ?_
 refine xI h0 rfl (fun h0 hb4 => ?_) (fun h0 hb4 => ?_)
 ·
  refine xS 128 [4, 5] ?_
  refine kA (mA ?_)
  obtain rfl := oI h0
  exact lA [] rG
 refine oA (dA ?_)
 obtain ⟨e5, he5, h0⟩ := bA h0
 obtain ⟨he5a, he5b, he5c⟩ := wA he5
 obtain ⟨vr6, hvr6, h0⟩ := bA h0
 refine nA 192 [4, 5] (fun | 6 => some (.tup [.int .i64 vr6.1, .int .i64 vr6.2], []) | _ => none) rfl (fun _ _ => rB (rA he5a (rA he5b he5c)) (aY hvr6)) ?_
 refine kA ?_
 obtain rfl := oI h0
 refine lA [] ?_
 exact rJ (rA he5a (rA he5b he5c))
theorem zen {fu : Nat} {id1 : Int} {dead2 : Bool} {keys3 : List UInt8} {r : kB} (h0 : bT fu id1 dead2 keys3 = some r) : yA Tryz.prog 55 [.int .i64 id1, .bool dead2, .str keys3] (.agg (kB.enc r)) [] := by
 refine cB Tryz.func55 rfl (by decide) rL ?_
 dsimp only [Tryz.f55]
 rw [bT] at h0
 refine xS 8 [0, 1, 2, 6] ?_
 refine xS 40 [0, 1, 2, 6, 7] ?_
 refine iA ?_
 refine xS 48 [0, 1, 2, 6, 7, 8] ?_
 refine oB (s2 := ⟨[(0, .int .i64 id1), (1, .bool dead2), (2, .str keys3), (6, .ref 0 0 0 0), (7, .ref 24 0 0 0), (8, .int .i64 0)], [(0, ⟨0, true, true, 2, [[.int .i64 0, .nils]]⟩), (24, ⟨0, true, false, 2, [[.int .i64 id1, .sl 48 0 4 0 0]]⟩), (48, ⟨0, true, true, 4, List.map aA.enc []⟩)], 49, []⟩) [(48, 4)] rL ⟨rF, rE, rfl, rfl, trivial, rN⟩ ?_
 obtain ⟨x14, hxx14, h0⟩ := bA h0
 refine oC (fun s' => ∃ g21 : Nat, s'.nx ≤ 81 ∧ LeN [] s' ⟨[(6, .ref 0 0 0 0), (7, .ref 24 0 0 0)], [(0, ⟨0, true, true, 2, [[.int .i64 0, .nils]]⟩), (24, ⟨0, true, false, 2, [[.int .i64 id1, .sl 48 g21 4 0 x14.length]]⟩), (48, ⟨g21, true, true, 4, List.map aA.enc x14⟩)], 81, []⟩) ?_ ?_
 ·
  intro s' hs
  obtain ⟨g21, hn, hs⟩ := hs
  refine dA ?_
  refine oB [] hn hs ?_
  refine xS 97 [6] ?_
  refine kA ?_
  obtain rfl := oI h0
  exact lA [] rG
 refine nC (ι := { p : Nat × Int × List aA × Nat // cL keys3 dead2 id1 p.1 p.2.1 p.2.2.1 = some x14 }) (fun p => ⟨[(0, .int .i64 id1), (1, .bool dead2), (2, .str keys3), (6, .ref 0 0 0 0), (7, .ref 24 0 0 0), (8, .int .i64 p.1.2.1)], [(0, ⟨0, true, true, 2, [[.int .i64 0, .nils]]⟩), (24, ⟨0, true, false, 2, [[.int .i64 id1, .sl 48 p.1.2.2.2 4 0 p.1.2.2.1.length]]⟩), (48, ⟨p.1.2.2.2, true, true, 4, List.map aA.enc p.1.2.2.1⟩)], 49, []⟩) (fun p => p.1.1) ⟨(fu, 0, [], 0), hxx14⟩ ⟨rF, rE, rfl, rfl, trivial, trivial⟩ (fun _ => Nat.le_refl _) ?_
 rintro ⟨⟨fu, i15, v16, g17⟩, h1⟩
 cases fu with
 | zero =>
  replace h1 : cL keys3 dead2 id1 0 i15 v16 = some x14 := h1
  rw [cL] at h1; cases h1
 | succ fu =>
  replace h1 : cL keys3 dead2 id1 (fu + 1) i15 v16 = some x14 := h1
  rw [cL] at h1
  dsimp only
  refine iA ?_
  refine xS 81 [0, 1, 2, 6, 7, 8, 14] ?_
  refine xI h1 rfl (fun h1 hb18 => ?_) (fun h1 hb18 => ?_)
  ·
   refine oA (dA (iA (xB ?_)))
   obtain ⟨hc19, h1⟩ := pD h1
   obtain ⟨hc20, h1⟩ := pD h1
   refine qG 225 [0, 1, 2, 6, 7, 8] (fun _ => none) rfl rfl rfl (fun _ _ => nF) ?_
   refine qB (dA ?_)
   refine xE ⟨[(0, .int .i64 id1), (1, .bool dead2), (2, .str keys3), (6, .ref 0 0 0 0), (7, .ref 24 0 0 0), (8, .int .i64 i15)], [(0, ⟨0, true, true, 2, [[.int .i64 0, .nils]]⟩), (24, ⟨0, true, false, 2, [[.int .i64 id1, .sl 48 (g17 + 1) 4 0 ((v16 ++ [(aA.mk ((keys3.drop i15.toNat).take ((IntKind.i64.wrap (i15 + 1)).toNat - i15.toNat)) [] dead2 (IntKind.i64.wrap ((IntKind.i64.wrap ((IntKind.i64.wrap (10 * id1)) + i15)) + 1)))]).length)]]⟩), (48, ⟨(g17 + 1), true, true, 4, List.map aA.enc (v16 ++ [(aA.mk ((keys3.drop i15.toNat).take ((IntKind.i64.wrap (i15 + 1)).toNat - i15.toNat)) [] dead2 (IntKind.i64.wrap ((IntKind.i64.wrap ((IntKind.i64.wrap (10 * id1)) + i15)) + 1)))])⟩)], 225, []⟩ ?_
   refine xR 249 [0, 1, 2, 6, 7, 8] ?_
   refine dA ?_
   exact ⟨⟨(fu, (IntKind.i64.wrap (i15 + 1)), (v16 ++ [(aA.mk ((keys3.drop i15.toNat).take ((IntKind.i64.wrap (i15 + 1)).toNat - i15.toNat)) [] dead2 (IntKind.i64.wrap ((IntKind.i64.wrap ((IntKind.i64.wrap (10 * id1)) + i15)) + 1)))]), (g17 + 1)), h1⟩, ⟨rF, rE, rfl, rfl, trivial, trivial⟩, Nat.lt_succ_self _⟩
  refine fC (xA (xA (iC ?_)))
  obtain rfl := oI h1
  exact ⟨g17, rL, ⟨rF, rE, rfl, rfl, trivial, trivial⟩⟩
theorem zkR {fu : Nat} {r : iB} (h0 : fV fu = some r) : yA Tryz.prog 29 [] (.agg (iB.enc r)) [] := by
 refine cB Tryz.func29 rfl (by decide) rL ?_
 dsimp only [Tryz.f29]
 rw [fV] at h0
 refine xS 8 [0] ?_
 obtain ⟨vr1, hvr1, h0⟩ := bA h0
 obtain ⟨vr2, hvr2, h0⟩ := bA h0
 refine nA 64 [0] (fun | 0 => some (.agg (kB.enc vr1), []) | 1 => some (.agg (kB.enc vr2), []) | _ => none) rfl (fun Kt hK => by
   try have q0 := zen hvr1
   try have q1 := zen hvr2
   exact rT) ?_
 refine zet [24] (fun Kt hK => by simp only [↓reduceIte, reduceCtorEq, Nat.reduceEqDiff, Nat.reduceLT, Nat.reduceLeDiff, Nat.reduceAdd, Nat.reduceMul, Int.reduceToNat, Nat.reduceBEq, push_cast]; exact hK) ?_
 refine xE ⟨[(0, .ref 0 0 0 0)], [(0, ⟨0, true, false, 2, [[.int .i64 2, .sl 40 0 1 0 1]]⟩), (40, ⟨0, true, true, 1, List.map tA.enc [(tA.mk [vr1, vr2])]⟩)], 64, []⟩ ?_
 refine kA ?_
 obtain rfl := oI h0
 exact lA [] rG
theorem zke {fu : Nat} {l1 : iB} {r : mB × Int} (h0 : aV fu l1 = some r) : yA Tryz.prog 23 [.agg (iB.enc l1)] (.tup [.agg (mB.enc r.1), .int .i64 r.2]) [] := by
 refine cB Tryz.func23 rfl (by decide) rL ?_
 dsimp only [Tryz.f23]
 rw [aV] at h0
 refine xS 24 [1, 2, 3] ?_
 refine iA ?_
 obtain ⟨vr2, hvr2, h0⟩ := bA h0
 refine nA 96 [1, 2, 3, 6] (fun | 1 => some (.tup [.int .i64 vr2.1, .int .i64 vr2.2.1, .int .i64 vr2.2.2], []) | _ => none) rfl (fun _ _ => rC (zcb hvr2)) ?_
 refine xS 112 [1, 2, 3, 6, 16] ?_
 refine xI h0 rfl (fun h0 hb3 => ?_) (fun h0 hb3 => ?_)
 ·
  refine xS 144 [2, 3] ?_
  refine kA (mA ?_)
  obtain rfl := oI h0
  exact lA [] rG
 refine oA (dA ?_)
 obtain ⟨vr4, hvr4, h0⟩ := bA h0
 refine pC 168 [1, 2, 3, 7] (fun | 2 => some (.int .i64 vr4, []) | _ => none) rfl rfl rfl (fun _ _ => aO (zcm hvr4)) ?_
 refine iA ?_
 obtain ⟨vr5, hvr5, h0⟩ := bA h0
 refine nA 184 [1, 2, 3, 7, 25] (fun | 1 => some (.fn 67 [] [.pp [.int .i64 vr5.1, .psl 1 (vr5.2.map tA.enc)]], []) | _ => none) rfl (fun _ _ => rC (zah hvr5)) ?_
 refine xB ?_
 refine zbG rfl Tryz.func67 rfl (by decide) rL ?_
 intro RC6 hRC6
 have stRC6 : RC6.st = .ready ∧ RC6.pend = none := by rw [hRC6]; exact ⟨rfl, rfl⟩
 have okRC6 : jY 184 RC6 := by rw [hRC6]; exact And.intro (rR) rfl
 dsimp only [Tryz.f67]
 refine oB (s2 := ⟨[(0, .yld 184), (1, .pp [.int .i64 vr5.1, .psl 1 (List.map tA.enc vr5.2)])], [(0, ⟨0, true, true, 2, [[.int .i64 l1.B, .psl 1 (List.map tA.enc l1.Levels)]]⟩), (8, ⟨0, true, true, 4, [[.int .i64 0, .nils, .nils, .int .i64 0]]⟩), (152, ⟨0, true, true, 4, [[.int .i64 l1.B, .psl 1 (List.map tA.enc l1.Levels), .nils, .int .i64 (IntKind.i64.wrap (vr4 + 1))]]⟩)], 185, [(184, RC6)]⟩) [] rL ⟨rF, rE, rfl, rfl, (gC.consR rL rfl okRC6 rL trivial), trivial⟩ ?_
 refine xS 217 [0, 6, 7, 8] ?_
 refine zaz ?_
 refine oB (s2 := ⟨[(0, .yld 184), (6, .psl 1 (List.map tA.enc vr5.2)), (7, .int .i64 (vr5.2.length : Int)), (8, .int .i64 0)], [(0, ⟨0, true, true, 2, [[.int .i64 l1.B, .psl 1 (List.map tA.enc l1.Levels)]]⟩), (8, ⟨0, true, true, 4, [[.int .i64 0, .nils, .nils, .int .i64 0]]⟩), (152, ⟨0, true, false, 4, [[.int .i64 l1.B, .psl 1 (List.map tA.enc l1.Levels), .sl 217 0 11 0 0, .int .i64 (IntKind.i64.wrap (vr4 + 1))]]⟩), (217, ⟨0, true, true, 11, List.map fB.enc []⟩)], 218, [(184, RC6)]⟩) [(217, 11)] rL ⟨rF, rE, rfl, rfl, (gC.consR rL rfl okRC6 rL trivial), rN⟩ ?_
 obtain ⟨x26, hxx26, h0⟩ := bA h0
 refine oC (fun s' => ∃ g36 : Nat, s'.nx ≤ 226 ∧ LeN [] s' ⟨[], [(0, ⟨0, true, true, 2, [[.int .i64 l1.B, .psl 1 (List.map tA.enc l1.Levels)]]⟩), (8, ⟨0, true, true, 4, [[.int .i64 0, .nils, .nils, .int .i64 0]]⟩), (152, ⟨0, true, false, 4, [[.int .i64 l1.B, .psl 1 (List.map tA.enc l1.Levels), .sl 217 g36 11 0 x26.length, .int .i64 (IntKind.i64.wrap (vr4 + 1))]]⟩), (217, ⟨g36, true, true, 11, List.map fB.enc x26⟩)], 226, [(184, RC6)]⟩) ?_ ?_
 ·
  intro s' hs
  obtain ⟨g36, hn, hs⟩ := hs
  refine ⟨_, hn, hs, ?_⟩
  refine uR (fun _ _ => rT) ?_
  refine zal stRC6 rfl ?_
  refine qB (dA ?_)
  refine xE ⟨[(1, .ref 0 0 0 0), (2, .ref 8 0 0 0), (3, .int .i64 0), (7, .ref 152 0 0 0), (25, .fn 67 [] [.pp [.int .i64 vr5.1, .psl 1 (List.map tA.enc vr5.2)]])], [(0, ⟨0, true, true, 2, [[.int .i64 l1.B, .psl 1 (List.map tA.enc l1.Levels)]]⟩), (8, ⟨0, true, true, 4, [[.int .i64 0, .nils, .nils, .int .i64 0]]⟩), (152, ⟨0, true, false, 4, [[.int .i64 l1.B, .psl 1 (List.map tA.enc l1.Levels), .sl 217 g36 11 0 x26.length, .int .i64 (IntKind.i64.wrap (vr4 + 1))]]⟩), (217, ⟨g36, true, true, 11, List.map fB.enc x26⟩)], 226, []⟩ ?_
  refine xS 250 [2, 3] ?_
  refine kA ?_
  obtain rfl := oI h0
  exact lA [] rG
 refine nC (ι := { p : Nat × Int × List fB × Nat // lK vr5 l1 p.1 p.2.1 p.2.2.1 = some x26 }) (fun p => ⟨[(0, .yld 184), (6, .psl 1 (List.map tA.enc vr5.2)), (7, .int .i64 (vr5.2.length : Int)), (8, .int .i64 p.1.2.1)], [(0, ⟨0, true, true, 2, [[.int .i64 l1.B, .psl 1 (List.map tA.enc l1.Levels)]]⟩), (8, ⟨0, true, true, 4, [[.int .i64 0, .nils, .nils, .int .i64 0]]⟩), (152, ⟨0, true, false, 4, [[.int .i64 l1.B, .psl 1 (List.map tA.enc l1.Levels), .sl 217 p.1.2.2.2 11 0 p.1.2.2.1.length, .int .i64 (IntKind.i64.wrap (vr4 + 1))]]⟩), (217, ⟨p.1.2.2.2, true, true, 11, List.map fB.enc p.1.2.2.1⟩)], 218, [(184, RC6)]⟩) (fun p => p.1.1) ⟨(fu, 0, [], 0), hxx26⟩ ⟨rF, rE, rfl, rfl, (gC.consR rL rfl okRC6 rL trivial), trivial⟩ (fun _ => Nat.le_refl _) ?_
 rintro ⟨⟨fu, level27, v28, g29⟩, h1⟩
 cases fu with
 | zero =>
  replace h1 : lK vr5 l1 0 level27 v28 = some x26 := h1
  rw [lK] at h1; cases h1
 | succ fu =>
  replace h1 : lK vr5 l1 (fu + 1) level27 v28 = some x26 := h1
  rw [lK] at h1
  dsimp only
  refine xS 226 [0, 6, 7, 8, 9] ?_
  refine iA ?_
  refine xI h1 rfl (fun h1 hb30 => ?_) (fun h1 hb30 => ?_)
  ·
   refine oA (dA (iA (xB ?_)))
   obtain ⟨e31, he31, h1⟩ := bA h1
   obtain ⟨he31a, he31b, he31c⟩ := wA he31
   refine nA 274 [0, 3, 4, 6, 7, 8] (fun _ => none) rfl (fun _ _ => rS (rA he31a (rA he31b he31c))) ?_
   refine sH 10 rfl ?_
   refine lC (l' := List.range' 0 5 ++ (List.range' 5 5 ++ [])) rfl ?_
   refine sC 0 5 314 (List.range' 5 5 ++ []) (fun _ => none) rfl rfl rfl (fun _ _ => rS (rA he31a (rA he31b he31c))) ?_
   refine iK (s2 := ⟨[(0, .yld 184), (3, .int .i64 level27), (4, .ref 250 0 0 0), (6, .psl 1 (List.map tA.enc vr5.2)), (7, .int .i64 (vr5.2.length : Int)), (8, .int .i64 level27), (13, .ref 250 0 0 0), (14, .psl 2 (List.map kB.enc e31.Runs)), (15, .int .i64 (e31.Runs.length : Int)), (16, .bool (decide ((e31.Runs.length : Int) = 2))), (17, .bool (decide ((e31.Runs.length : Int) = 2)))], [(0, ⟨0, true, true, 2, [[.int .i64 l1.B, .psl 1 (List.map tA.enc l1.Levels)]]⟩), (8, ⟨0, true, true, 4, [[.int .i64 0, .nils, .nils, .int .i64 0]]⟩), (152, ⟨0, true, false, 4, [[.int .i64 l1.B, .psl 1 (List.map tA.enc l1.Levels), .sl 217 g29 11 0 v28.length, .int .i64 (IntKind.i64.wrap (vr4 + 1))]]⟩), (217, ⟨g29, true, true, 11, List.map fB.enc v28⟩), (250, ⟨0, true, true, 1, [[.psl 2 (List.map kB.enc e31.Runs)]]⟩)], 314, [(184, RC6)]⟩) [] rL ⟨rF, rE, rfl, rfl, (gC.consR rL rfl okRC6 rL trivial), trivial⟩ ?_
   generalize hg32 : (decide ((e31.Runs.length : Int) = 2)) = b32
   cases b32 with
   | true =>
    replace h1 := aB h1 hg32
    refine lC (l' := List.range' 5 2 ++ (7 :: (List.range' 8 2 ++ []))) rfl ?_
    refine sC 5 2 330 (7 :: (List.range' 8 2 ++ [])) (fun _ => none) rfl rfl rfl (fun _ _ => rS (rA he31a (rA he31b he31c))) ?_
    refine zbr hRC6 rfl rfl rfl rfl rfl rfl rfl rfl rfl ?_
    refine oB (s2 := ⟨[(1, .ref 0 0 0 0), (2, .ref 8 0 0 0), (3, .int .i64 0), (7, .ref 152 0 0 0), (25, .fn 67 [] [.pp [.int .i64 vr5.1, .psl 1 (List.map tA.enc vr5.2)]]), (26, .int .i64 level27)], [(0, ⟨0, true, true, 2, [[.int .i64 l1.B, .psl 1 (List.map tA.enc l1.Levels)]]⟩), (8, ⟨0, true, true, 4, [[.int .i64 0, .nils, .nils, .int .i64 0]]⟩), (152, ⟨0, true, false, 4, [[.int .i64 l1.B, .psl 1 (List.map tA.enc l1.Levels), .sl 217 g29 11 0 v28.length, .int .i64 (IntKind.i64.wrap (vr4 + 1))]]⟩), (217, ⟨g29, true, true, 11, List.map fB.enc v28⟩), (250, ⟨0, true, true, 1, [[.psl 2 (List.map kB.enc e31.Runs)]]⟩)], 330, [(184, RC6)]⟩) [] rL ⟨rF, rE, rfl, rfl, (gC.consR rL rfl okRC6 rL trivial), trivial⟩ ?_
    refine nB 338 [1, 2, 3, 7, 8] (fun _ => none) rfl (fun _ _ => rS (rA he31a (rA he31b he31c))) ?_
    refine dA ?_
    refine ⟨RC6, rfl, stRC6.1, ?_⟩
    refine oB (s2 := ⟨[(1, .ref 0 0 0 0), (2, .ref 8 0 0 0), (3, .int .i64 0), (7, .ref 152 0 0 0), (8, .int .i64 level27)], [(0, ⟨0, true, true, 2, [[.int .i64 l1.B, .psl 1 (List.map tA.enc l1.Levels)]]⟩), (8, ⟨0, true, true, 4, [[.int .i64 0, .nils, .nils, .int .i64 0]]⟩), (152, ⟨0, true, false, 4, [[.int .i64 l1.B, .psl 1 (List.map tA.enc l1.Levels), .sl 217 g29 11 0 v28.length, .int .i64 (IntKind.i64.wrap (vr4 + 1))]]⟩), (217, ⟨g29, true, true, 11, List.map fB.enc v28⟩), (250, ⟨0, true, true, 1, [[.psl 2 (List.map kB.enc e31.Runs)]]⟩)], 338, [(184, { RC6 with st := .busy, pend := RC6.pend })]⟩) [] rL ⟨rF, rE, rfl, rfl, (gC.consR rL rfl okRC6 rL trivial), trivial⟩ ?_
    refine xB ?_
    obtain ⟨vr33, hvr33, h1⟩ := bA h1
    obtain ⟨vr34, hvr34, h1⟩ := bA h1
    obtain ⟨hc35, h1⟩ := pD h1
    refine qG 434 [2, 3, 7] (fun | 6 => some (.bool vr33, []) | 7 => some (.agg (fB.enc vr34), []) | _ => none) rfl rfl rfl (fun Kt hK => by
      try have q0 := zbK hvr33
      try have q1 := zdw hvr34
      exact aE (rA he31a (rA he31b he31c))) ?_
    refine qB ?_
    refine zba stRC6 rfl ?_
    refine iK (s2 := ⟨[(0, .yld 184), (3, .int .i64 level27), (4, .ref 250 0 0 0), (6, .psl 1 (List.map tA.enc vr5.2)), (7, .int .i64 (vr5.2.length : Int)), (8, .int .i64 level27), (13, .ref 250 0 0 0), (14, .psl 2 (List.map kB.enc e31.Runs)), (15, .int .i64 (e31.Runs.length : Int)), (16, .bool true), (17, .bool true), (18, .yld 184), (19, .int .i64 level27), (20, .bool true)], [(0, ⟨0, true, true, 2, [[.int .i64 l1.B, .psl 1 (List.map tA.enc l1.Levels)]]⟩), (8, ⟨0, true, true, 4, [[.int .i64 0, .nils, .nils, .int .i64 0]]⟩), (152, ⟨0, true, false, 4, [[.int .i64 l1.B, .psl 1 (List.map tA.enc l1.Levels), .sl 217 (g29 + 1) 11 0 ((v28 ++ [vr34]).length), .int .i64 (IntKind.i64.wrap (vr4 + 1))]]⟩), (217, ⟨(g29 + 1), true, true, 11, List.map fB.enc (v28 ++ [vr34])⟩), (250, ⟨0, true, true, 1, [[.psl 2 (List.map kB.enc e31.Runs)]]⟩)], 434, [(184, RC6)]⟩) [] rL ⟨rF, rE, rfl, rfl, (gC.consR rL rfl okRC6 rL trivial), trivial⟩ ?_
    refine lC (l' := List.range' 8 2 ++ []) rfl ?_
    refine sC 8 2 450 [] (fun _ => none) rfl rfl rfl (fun _ _ => rS (rA he31a (rA he31b he31c))) ?_
    refine kD ?_
    refine dA ?_
    refine oB (s2 := ⟨[(0, .yld 184), (6, .psl 1 (List.map tA.enc vr5.2)), (7, .int .i64 (vr5.2.length : Int)), (8, .int .i64 level27), (18, .yld 184), (19, .int .i64 level27), (20, .bool true), (21, .bool false), (22, .bool false)], [(0, ⟨0, true, true, 2, [[.int .i64 l1.B, .psl 1 (List.map tA.enc l1.Levels)]]⟩), (8, ⟨0, true, true, 4, [[.int .i64 0, .nils, .nils, .int .i64 0]]⟩), (152, ⟨0, true, false, 4, [[.int .i64 l1.B, .psl 1 (List.map tA.enc l1.Levels), .sl 217 (g29 + 1) 11 0 ((v28 ++ [vr34]).length), .int .i64 (IntKind.i64.wrap (vr4 + 1))]]⟩), (217, ⟨(g29 + 1), true, true, 11, List.map fB.enc (v28 ++ [vr34])⟩)], 450, [(184, RC6)]⟩) [] rL ⟨rF, rE, rfl, rfl, (gC.consR rL rfl okRC6 rL trivial), trivial⟩ ?_
    refine qF rfl ?_
    refine oA (qB (dA ?_))
    refine nB 466 [0, 6, 7, 8, 18, 19, 20, 21] (fun _ => none) rfl (fun _ _ => rS (rA he31a (rA he31b he31c))) ?_
    refine dA ?_
    exact ⟨⟨(fu, (IntKind.i64.wrap (level27 + 1)), (v28 ++ [vr34]), (g29 + 1)), h1⟩, ⟨rF, rE, rfl, rfl, (gC.consR rL rfl okRC6 rL trivial), trivial⟩, Nat.lt_succ_self _⟩
   | false =>
    replace h1 := qA h1 hg32
    refine lC (l' := List.range' 5 5 ++ []) rfl ?_
    refine sC 5 5 354 [] (fun _ => none) rfl rfl rfl (fun _ _ => rS (rA he31a (rA he31b he31c))) ?_
    refine kD ?_
    refine dA ?_
    refine oB (s2 := ⟨[(0, .yld 184), (6, .psl 1 (List.map tA.enc vr5.2)), (7, .int .i64 (vr5.2.length : Int)), (8, .int .i64 level27), (22, .bool false)], [(0, ⟨0, true, true, 2, [[.int .i64 l1.B, .psl 1 (List.map tA.enc l1.Levels)]]⟩), (8, ⟨0, true, true, 4, [[.int .i64 0, .nils, .nils, .int .i64 0]]⟩), (152, ⟨0, true, false, 4, [[.int .i64 l1.B, .psl 1 (List.map tA.enc l1.Levels), .sl 217 g29 11 0 v28.length, .int .i64 (IntKind.i64.wrap (vr4 + 1))]]⟩), (217, ⟨g29, true, true, 11, List.map fB.enc v28⟩)], 354, [(184, RC6)]⟩) [] rL ⟨rF, rE, rfl, rfl, (gC.consR rL rfl okRC6 rL trivial), trivial⟩ ?_
    refine qF rfl ?_
    refine oA (qB (dA ?_))
    refine nB 370 [0, 6, 7, 8] (fun _ => none) rfl (fun _ _ => rS (rA he31a (rA he31b he31c))) ?_
    refine dA ?_
    exact ⟨⟨(fu, (IntKind.i64.wrap (level27 + 1)), v28, g29), h1⟩, ⟨rF, rE, rfl, rfl, (gC.consR rL rfl okRC6 rL trivial), trivial⟩, Nat.lt_succ_self _⟩
  refine fC (xA (xA (iC ?_)))
  obtain rfl := oI h1
  exact ⟨g29, rL, ⟨rF, rE, rfl, rfl, (gC.consR rL rfl okRC6 rL trivial), trivial⟩⟩
theorem zie {fu : Nat} {vs1 : List fB} {r : List fB} (h0 : gV fu vs1 = some r) : yA Tryz.prog 32 [.psl 11 (vs1.map fB.enc)] (.sl 0 0 11 0 r.length) [⟨0, true, true, 11, r.map fB.enc⟩] := by
 refine cB Tryz.func32 rfl (by decide) rL ?_
 dsimp only [Tryz.f32]
 rw [gV] at h0
 refine xS 8 [0] ?_
 refine iA ?_
 cases hb2 : vs1.isEmpty with
 | true =>
  replace h0 := aB h0 hb2
  obtain rfl : vs1 = [] := List.isEmpty_iff.1 hb2
  refine xS 24 [0, 4] ?_
  refine sW rfl ?_ ?_
  ·
   skip
   refine xS 32 [2] ?_
   refine oB (s2 := ⟨[(2, .sl 32 0 11 0 0)], [(32, ⟨0, true, true, 11, List.map fB.enc []⟩)], 33, []⟩) [(32, 11)] rL ⟨rF, rE, rfl, rfl, trivial, rN⟩ ?_
   refine kA (mA ?_)
   obtain rfl := oI h0
   exact lA [32] rG
  ·
   skip
   refine oA (dA ?_)
   refine xS 56 [2] ?_
   refine xE ⟨[(2, .sl 24 1 11 0 0)], [(24, ⟨1, true, true, 11, List.map fB.enc []⟩)], 56, []⟩ ?_
   refine kA ?_
   obtain rfl := oI h0
   exact lA [24] rG
 | false =>
  replace h0 := qA h0 hb2
  refine nA 24 [0, 4] (fun _ => none) rfl (fun _ _ => rS hb2) ?_
  refine qF rfl ?_
  refine oA (dA ?_)
  obtain ⟨hc3, h0⟩ := pD h0
  refine nA 56 [2] (fun _ => none) rfl (fun _ _ => rS hb2) ?_
  refine xE ⟨[(2, .sl 24 1 11 0 vs1.length)], [(24, ⟨1, true, true, 11, List.map fB.enc vs1⟩)], 56, []⟩ ?_
  refine kA ?_
  obtain rfl := oI h0
  refine lA [24] ?_
  exact rJ hb2
theorem zcd {fu : Nat} {vs1 : mB} {level2 : Int} {most3 : Int} {r : mB × Int × Int} (h0 : uS fu vs1 level2 most3 = some r) : yA Tryz.prog 8 [.agg (mB.enc vs1), .int .i64 level2, .int .i64 most3] (.tup [.agg (mB.enc r.1), .int .i64 r.2.1, .int .i64 r.2.2]) [] := by
 refine cB Tryz.func8 rfl (by decide) rL ?_
 dsimp only [Tryz.f8]
 rw [uS] at h0
 refine xS 32 [1, 2, 3, 6] ?_
 refine iA ?_
 obtain ⟨vr4, hvr4, h0⟩ := bA h0
 refine nA 88 [1, 2, 3, 6, 10] (fun | 1 => some (.tup [.int .i64 vr4.1, .int .i64 vr4.2], []) | _ => none) rfl (fun _ _ => rC (nZ hvr4)) ?_
 refine xS 104 [1, 2, 3, 6, 10, 21] ?_
 refine xI h0 rfl (fun h0 hb5 => ?_) (fun h0 hb5 => ?_)
 ·
  refine xS 144 [6, 7, 8] ?_
  refine kA (mA ?_)
  obtain rfl := oI h0
  exact lA [] rG
 refine oA (dA (iA ?_))
 refine xS 120 [1, 2, 3, 6, 25] ?_
 refine xI h0 rfl (fun h0 hb6 => ?_) (fun h0 hb6 => ?_)
 ·
  refine xS 152 [6, 7, 8] ?_
  refine kA (mA ?_)
  obtain rfl := oI h0
  exact lA [] rG
 refine oA (dA ?_)
 obtain ⟨vr7, hvr7, h0⟩ := bA h0
 refine nA 184 [2, 3, 6, 8, 11] (fun | 2 => some (.tup [.int .i64 vr7.1, .int .i64 vr7.2], []) | _ => none) rfl (fun _ _ => rC (zat hvr7)) ?_
 refine iA ?_
 refine xS 200 [2, 3, 6, 8, 11, 34] ?_
 refine xI h0 rfl (fun h0 hb8 => ?_) (fun h0 hb8 => ?_)
 ·
  refine xS 240 [6, 7, 8] ?_
  refine kA (mA ?_)
  obtain rfl := oI h0
  exact lA [] rG
 refine oA (dA (iA ?_))
 obtain ⟨e9, he9, h0⟩ := bA h0
 obtain ⟨he9a, he9b, he9c⟩ := wA he9
 obtain ⟨vr10, hvr10, h0⟩ := bA h0
 refine nA 296 [2, 3, 6, 11, 12] (fun | 6 => some (.tup [.int .i64 vr10.1, .int .i64 vr10.2], []) | _ => none) rfl (fun _ _ => rB (rA he9a (rA he9b he9c)) (aY hvr10)) ?_
 refine nA 312 [2, 3, 6, 11, 48] (fun _ => none) rfl (fun _ _ => rS (rA he9a (rA he9b he9c))) ?_
 refine xI h0 rfl (fun h0 hb11 => ?_) (fun h0 hb11 => ?_)
 ·
  refine nA 344 [6, 7, 8] (fun _ => none) rfl (fun _ _ => rS (rA he9a (rA he9b he9c))) ?_
  refine kA (mA ?_)
  obtain rfl := oI h0
  refine lA [] ?_
  exact rJ (rA he9a (rA he9b he9c))
 refine oA (dA ?_)
 obtain ⟨vr12, hvr12, h0⟩ := bA h0
 refine nA 440 [3, 6, 7, 8, 11, 14] (fun | 7 => some (.tup [.agg (lB.enc vr12.1), .int .i64 vr12.2.1, .int .i64 vr12.2.2], []) | _ => none) rfl (fun _ _ => rB (rA he9a (rA he9b he9c)) (zcW hvr12)) ?_
 refine iA ?_
 refine nA 456 [3, 6, 7, 8, 11, 14, 63] (fun _ => none) rfl (fun _ _ => rS (rA he9a (rA he9b he9c))) ?_
 refine xI h0 rfl (fun h0 hb13 => ?_) (fun h0 hb13 => ?_)
 ·
  refine nA 496 [6, 7, 8] (fun _ => none) rfl (fun _ _ => rS (rA he9a (rA he9b he9c))) ?_
  refine kA (mA ?_)
  obtain rfl := oI h0
  refine lA [] ?_
  exact rJ (rA he9a (rA he9b he9c))
 refine oA (dA ?_)
 refine nA 472 [3, 6, 7, 11, 14] (fun _ => none) rfl (fun _ _ => rS (rA he9a (rA he9b he9c))) ?_
 obtain ⟨vr14, hvr14, h0⟩ := bA h0
 refine nA 512 [6, 7, 11, 14] (fun | 2 => some (.sl 0 0 11 0 vr14.length, [⟨0, true, true, 11, vr14.map fB.enc⟩]) | _ => none) rfl (fun _ _ => rB (rA he9a (rA he9b he9c)) (zie hvr14)) ?_
 obtain ⟨e15, he15, h0⟩ := bA h0
 obtain ⟨he15a, he15b, he15c⟩ := wA he15
 refine nA 568 [6, 7] (fun _ => none) rfl (fun _ _ => rS (rA he9a (rA he9b (rA he9c (rA he15a (rA he15b he15c)))))) ?_
 refine xE ⟨[(6, .ref 8 0 0 0), (7, .int .i64 vr12.2.1)], [(8, ⟨0, true, false, 4, [[.int .i64 vs1.Levels.B, .psl 1 (List.map tA.enc vs1.Levels.Levels), .sl 488 0 11 0 ((vr14.set vr7.1.toNat (fB.mk e15.Level vr12.1)).length), .int .i64 vs1.NextId]]⟩), (488, ⟨0, true, true, 11, List.map fB.enc (vr14.set vr7.1.toNat (fB.mk e15.Level vr12.1))⟩)], 568, []⟩ ?_
 refine nA 608 [6, 7, 8] (fun _ => none) rfl (fun _ _ => rS (rA he9a (rA he9b (rA he9c (rA he15a (rA he15b he15c)))))) ?_
 refine kA ?_
 obtain rfl := oI h0
 refine lA [] ?_
 exact rJ (rA he9a (rA he9b (rA he9c (rA he15a (rA he15b he15c)))))
theorem xT {fu : Nat} {r : Bool} (h0 : rM fu = some r) : yA Tryz.prog 7 [] (.bool r) [] := by
 refine cB Tryz.func7 rfl (by decide) rL ?_
 dsimp only [Tryz.f7, List.append]
 rw [rM] at h0
 refine xS 8 [] ?_
 obtain ⟨vr1, hvr1, h0⟩ := bA h0
 obtain ⟨vr2, hvr2, h0⟩ := bA h0
 refine nA 72 [1, 2] (fun | 0 => some (.agg (iB.enc vr1), []) | 1 => some (.tup [.agg (mB.enc vr2.1), .int .i64 vr2.2], []) | _ => none) rfl (fun Kt hK => by
   try have q0 := zkR hvr1
   try have q1 := zke hvr2
   exact rT) ?_
 refine iA ?_
 obtain ⟨b3, hb3, h0⟩ := bA h0
 obtain ⟨b4, hb4, h0⟩ := bA h0
 obtain ⟨b6, hb6, h0⟩ := bA h0
 refine mC (fr' := [(1, .ref 48 0 0 0), (37, .bool b6)]) (hp' := [(48, ⟨0, true, true, 4, [[.int .i64 vr2.1.Levels.B, .psl 1 (List.map tA.enc vr2.1.Levels.Levels), .psl 11 (List.map fB.enc vr2.1.Jobs), .int .i64 vr2.1.NextId]]⟩)]) [48] 240 [1, 37] (fun _ => none) rfl (fun Kt hK => by
   cases hg7 : (!(decide (vr2.2 = 0))) with
   | false =>
    replace hb3 := qA hb3 hg7
    have hqb3 := oI hb3
    cases b3 with
    | false =>
     replace hb4 := qA hb4 rfl
     have hqb4 := oI hb4
     cases b4 with
     | false =>
      replace hb6 := qA hb6 rfl
      obtain ⟨e5, he5, hb6⟩ := bA hb6
      have he5b := (wA he5).2.1
      have he5c := (cG 0 he5 rfl).1
      have he5a := (cG 0 he5 rfl).2
      have hqb6 := oI hb6
      subst hqb6
      exact sD (rA hg7 (rA hqb3 hqb4)) (rA he5a (rA he5b (rA he5c he5))) hK
     | true =>
      replace hb6 := aB hb6 rfl
      have hqb6 := oI hb6
      subst hqb6
      exact rW (rA hg7 (rA hqb3 hqb4)) hK
    | true =>
     replace hb4 := aB hb4 rfl
     have hqb4 := oI hb4
     cases b4 with
     | false =>
      cases hqb4
     | true =>
      replace hb6 := aB hb6 rfl
      have hqb6 := oI hb6
      subst hqb6
      exact rW (rA hg7 hqb3) hK
   | true =>
    replace hb3 := aB hb3 hg7
    have hqb3 := oI hb3
    cases b3 with
    | false =>
     cases hqb3
    | true =>
     replace hb4 := aB hb4 rfl
     have hqb4 := oI hb4
     cases b4 with
     | false =>
      cases hqb4
     | true =>
      replace hb6 := aB hb6 rfl
      have hqb6 := oI hb6
      subst hqb6
      exact rW hg7 hK) ?_
 refine xI h0 rfl (fun h0 hb13 => ?_) (fun h0 hb13 => ?_)
 ·
  refine xS 248 [0] ?_
  refine kA (mA ?_)
  obtain rfl := oI h0
  exact lA [] rG
 refine oA (dA ?_)
 obtain ⟨vr14, hvr14, h0⟩ := bA h0
 refine nA 296 [1, 2, 3] (fun | 1 => some (.tup [.int .i64 vr14.1, .int .i64 vr14.2], []) | _ => none) rfl (fun _ _ => rC (zbg hvr14)) ?_
 obtain ⟨vr15, hvr15, h0⟩ := bA h0
 refine nA 376 [2, 3, 4, 5, 6] (fun | 1 => some (.tup [.agg (mB.enc vr15.1), .int .i64 vr15.2.1, .int .i64 vr15.2.2], []) | _ => none) rfl (fun _ _ => rC (zcd hvr15)) ?_
 obtain ⟨vr16, hvr16, h0⟩ := bA h0
 refine nA 432 [2, 3, 4, 5, 6, 7, 8] (fun | 1 => some (.tup [.int .i64 vr16.1, .int .i64 vr16.2], []) | _ => none) rfl (fun _ _ => rC (zbg hvr16)) ?_
 obtain ⟨vr17, hvr17, h0⟩ := bA h0
 refine nA 512 [2, 3, 4, 5, 6, 7, 8, 11] (fun | 1 => some (.tup [.agg (mB.enc vr17.1), .int .i64 vr17.2.1, .int .i64 vr17.2.2], []) | _ => none) rfl (fun _ _ => rC (zcd hvr17)) ?_
 obtain ⟨b18, hb18, h0⟩ := bA h0
 obtain ⟨b19, hb19, h0⟩ := bA h0
 obtain ⟨b20, hb20, h0⟩ := bA h0
 obtain ⟨b21, hb21, h0⟩ := bA h0
 obtain ⟨b22, hb22, h0⟩ := bA h0
 obtain ⟨b23, hb23, h0⟩ := bA h0
 obtain ⟨b24, hb24, h0⟩ := bA h0
 obtain ⟨b26, hb26, h0⟩ := bA h0
 obtain ⟨b29, hb29, h0⟩ := bA h0
 refine mC (fr' := [(0, .bool b29)]) (hp' := [(48, ⟨0, true, true, 4, [[.int .i64 vr2.1.Levels.B, .psl 1 (List.map tA.enc vr2.1.Levels.Levels), .psl 11 (List.map fB.enc vr2.1.Jobs), .int .i64 vr2.1.NextId]]⟩), (344, ⟨0, true, true, 4, [[.int .i64 vr15.1.Levels.B, .psl 1 (List.map tA.enc vr15.1.Levels.Levels), .psl 11 (List.map fB.enc vr15.1.Jobs), .int .i64 vr15.1.NextId]]⟩), (480, ⟨0, true, true, 4, [[.int .i64 vr17.1.Levels.B, .psl 1 (List.map tA.enc vr17.1.Levels.Levels), .psl 11 (List.map fB.enc vr17.1.Jobs), .int .i64 vr17.1.NextId]]⟩)]) [48, 344, 480] 952 [0] (fun _ => none) rfl (fun Kt hK => by
   cases hg30 : (decide (vr14.1 = 3)) with
   | false =>
    replace hb18 := qA hb18 hg30
    have hqb18 := oI hb18
    cases b18 with
    | false =>
     replace hb19 := qA hb19 rfl
     have hqb19 := oI hb19
     cases b19 with
     | false =>
      replace hb20 := qA hb20 rfl
      have hqb20 := oI hb20
      cases b20 with
      | false =>
       replace hb21 := qA hb21 rfl
       have hqb21 := oI hb21
       cases b21 with
       | false =>
        replace hb22 := qA hb22 rfl
        have hqb22 := oI hb22
        cases b22 with
        | false =>
         replace hb23 := qA hb23 rfl
         have hqb23 := oI hb23
         cases b23 with
         | false =>
          replace hb24 := qA hb24 rfl
          have hqb24 := oI hb24
          cases b24 with
          | false =>
           replace hb26 := qA hb26 rfl
           have hqb26 := oI hb26
           cases b26 with
           | false =>
            replace hb29 := qA hb29 rfl
            have hqb29 := oI hb29
            subst hqb29
            exact rW hg30 hK
           | true =>
            cases hqb26
          | true =>
           cases hqb24
         | true =>
          cases hqb23
        | true =>
         cases hqb22
       | true =>
        cases hqb21
      | true =>
       cases hqb20
     | true =>
      cases hqb19
    | true =>
     cases hqb18
   | true =>
    replace hb18 := aB hb18 hg30
    have hqb18 := oI hb18
    cases b18 with
    | false =>
     replace hb19 := qA hb19 rfl
     have hqb19 := oI hb19
     cases b19 with
     | false =>
      replace hb20 := qA hb20 rfl
      have hqb20 := oI hb20
      cases b20 with
      | false =>
       replace hb21 := qA hb21 rfl
       have hqb21 := oI hb21
       cases b21 with
       | false =>
        replace hb22 := qA hb22 rfl
        have hqb22 := oI hb22
        cases b22 with
        | false =>
         replace hb23 := qA hb23 rfl
         have hqb23 := oI hb23
         cases b23 with
         | false =>
          replace hb24 := qA hb24 rfl
          have hqb24 := oI hb24
          cases b24 with
          | false =>
           replace hb26 := qA hb26 rfl
           have hqb26 := oI hb26
           cases b26 with
           | false =>
            replace hb29 := qA hb29 rfl
            have hqb29 := oI hb29
            subst hqb29
            exact rW (rA hg30 hqb18) hK
           | true =>
            cases hqb26
          | true =>
           cases hqb24
         | true =>
          cases hqb23
        | true =>
         cases hqb22
       | true =>
        cases hqb21
      | true =>
       cases hqb20
     | true =>
      cases hqb19
    | true =>
     replace hb19 := aB hb19 rfl
     have hqb19 := oI hb19
     cases b19 with
     | false =>
      replace hb20 := qA hb20 rfl
      have hqb20 := oI hb20
      cases b20 with
      | false =>
       replace hb21 := qA hb21 rfl
       have hqb21 := oI hb21
       cases b21 with
       | false =>
        replace hb22 := qA hb22 rfl
        have hqb22 := oI hb22
        cases b22 with
        | false =>
         replace hb23 := qA hb23 rfl
         have hqb23 := oI hb23
         cases b23 with
         | false =>
          replace hb24 := qA hb24 rfl
          have hqb24 := oI hb24
          cases b24 with
          | false =>
           replace hb26 := qA hb26 rfl
           have hqb26 := oI hb26
           cases b26 with
           | false =>
            replace hb29 := qA hb29 rfl
            have hqb29 := oI hb29
            subst hqb29
            exact rW (rA hg30 (rA hqb18 hqb19)) hK
           | true =>
            cases hqb26
          | true =>
           cases hqb24
         | true =>
          cases hqb23
        | true =>
         cases hqb22
       | true =>
        cases hqb21
      | true =>
       cases hqb20
     | true =>
      replace hb20 := aB hb20 rfl
      have hqb20 := oI hb20
      cases b20 with
      | false =>
       replace hb21 := qA hb21 rfl
       have hqb21 := oI hb21
       cases b21 with
       | false =>
        replace hb22 := qA hb22 rfl
        have hqb22 := oI hb22
        cases b22 with
        | false =>
         replace hb23 := qA hb23 rfl
         have hqb23 := oI hb23
         cases b23 with
         | false =>
          replace hb24 := qA hb24 rfl
          have hqb24 := oI hb24
          cases b24 with
          | false =>
           replace hb26 := qA hb26 rfl
           have hqb26 := oI hb26
           cases b26 with
           | false =>
            replace hb29 := qA hb29 rfl
            have hqb29 := oI hb29
            subst hqb29
            exact rW (rA hg30 (rA hqb18 (rA hqb19 hqb20))) hK
           | true =>
            cases hqb26
          | true =>
           cases hqb24
         | true =>
          cases hqb23
        | true =>
         cases hqb22
       | true =>
        cases hqb21
      | true =>
       replace hb21 := aB hb21 rfl
       have hqb21 := oI hb21
       cases b21 with
       | false =>
        replace hb22 := qA hb22 rfl
        have hqb22 := oI hb22
        cases b22 with
        | false =>
         replace hb23 := qA hb23 rfl
         have hqb23 := oI hb23
         cases b23 with
         | false =>
          replace hb24 := qA hb24 rfl
          have hqb24 := oI hb24
          cases b24 with
          | false =>
           replace hb26 := qA hb26 rfl
           have hqb26 := oI hb26
           cases b26 with
           | false =>
            replace hb29 := qA hb29 rfl
            have hqb29 := oI hb29
            subst hqb29
            exact rW (rA hg30 (rA hqb18 (rA hqb19 (rA hqb20 hqb21)))) hK
           | true =>
            cases hqb26
          | true =>
           cases hqb24
         | true =>
          cases hqb23
        | true =>
         cases hqb22
       | true =>
        replace hb22 := aB hb22 rfl
        have hqb22 := oI hb22
        cases b22 with
        | false =>
         replace hb23 := qA hb23 rfl
         have hqb23 := oI hb23
         cases b23 with
         | false =>
          replace hb24 := qA hb24 rfl
          have hqb24 := oI hb24
          cases b24 with
          | false =>
           replace hb26 := qA hb26 rfl
           have hqb26 := oI hb26
           cases b26 with
           | false =>
            replace hb29 := qA hb29 rfl
            have hqb29 := oI hb29
            subst hqb29
            exact rW (rA hg30 (rA hqb18 (rA hqb19 (rA hqb20 (rA hqb21 hqb22))))) hK
           | true =>
            cases hqb26
          | true =>
           cases hqb24
         | true =>
          cases hqb23
        | true =>
         replace hb23 := aB hb23 rfl
         have hqb23 := oI hb23
         cases b23 with
         | false =>
          replace hb24 := qA hb24 rfl
          have hqb24 := oI hb24
          cases b24 with
          | false =>
           replace hb26 := qA hb26 rfl
           have hqb26 := oI hb26
           cases b26 with
           | false =>
            replace hb29 := qA hb29 rfl
            have hqb29 := oI hb29
            subst hqb29
            exact rW (rA hg30 (rA hqb18 (rA hqb19 (rA hqb20 (rA hqb21 (rA hqb22 hqb23)))))) hK
           | true =>
            cases hqb26
          | true =>
           cases hqb24
         | true =>
          replace hb24 := aB hb24 rfl
          have hqb24 := oI hb24
          cases b24 with
          | false =>
           replace hb26 := qA hb26 rfl
           have hqb26 := oI hb26
           cases b26 with
           | false =>
            replace hb29 := qA hb29 rfl
            have hqb29 := oI hb29
            subst hqb29
            exact rW (rA hg30 (rA hqb18 (rA hqb19 (rA hqb20 (rA hqb21 (rA hqb22 (rA hqb23 hqb24))))))) hK
           | true =>
            cases hqb26
          | true =>
           replace hb26 := aB hb26 rfl
           obtain ⟨e25, he25, hb26⟩ := bA hb26
           have he25b := (wA he25).2.1
           have he25c := (cG 0 he25 rfl).1
           have he25a := (cG 0 he25 rfl).2
           have hqb26 := oI hb26
           cases b26 with
           | false =>
            replace hb29 := qA hb29 rfl
            have hqb29 := oI hb29
            subst hqb29
            exact sD (rA hg30 (rA hqb18 (rA hqb19 (rA hqb20 (rA hqb21 (rA hqb22 (rA hqb23 (rA hqb24 hqb26)))))))) (rA he25a (rA he25b (rA he25c he25))) hK
           | true =>
            replace hb29 := aB hb29 rfl
            obtain ⟨e27, he27, hb29⟩ := bA hb29
            have he27b := (wA he27).2.1
            have he27c := (cG 0 he27 rfl).1
            have he27a := (cG 0 he27 rfl).2
            obtain rfl := oI (he25.symm.trans he27)
            obtain ⟨e28, he28, hb29⟩ := bA hb29
            have he28b := (wA he28).2.1
            have he28c := (cG 0 he28 rfl).1
            have he28a := (cG 0 he28 rfl).2
            have hqb29 := oI hb29
            subst hqb29
            exact sD (rA hg30 (rA hqb18 (rA hqb19 (rA hqb20 (rA hqb21 (rA hqb22 (rA hqb23 (rA hqb24 hqb26)))))))) (rA he25a (rA he25b (rA he25c (rA he25 (rA he27a (rA he27b (rA he27c (rA he27 (rA he28a (rA he28b (rA he28c he28))))))))))) hK) ?_
 refine kA ?_
 obtain rfl := oI h0
 exact lA [] rG
theorem zfu {fu : Nat} {b1 : Int} {level2 : Int} {r : Int} (h0 : nX fu b1 level2 = some r) : yA Tryz.prog 74 [.int .i64 b1, .int .i64 level2] (.int .i64 r) [] := by
 refine cB Tryz.func74 rfl (by decide) rL ?_
 dsimp only [Tryz.f74]
 rw [nX] at h0
 refine xS 8 [0, 1] ?_
 refine iA ?_
 refine xS 16 [0, 1, 5] ?_
 obtain ⟨x7, hxx7, h0⟩ := bA h0
 refine oC (fun s' => s'.nx ≤ 40 ∧ LeN [] s' ⟨[(0, .int .i64 x7)], [], 40, []⟩) ?_ ?_
 ·
  intro s' hs
  obtain ⟨hn, hs⟩ := hs
  refine dA ?_
  refine oB [] hn hs ?_
  refine xS 56 [4] ?_
  refine kA ?_
  obtain rfl := oI h0
  exact lA [] rG
 refine nC (ι := { p : Nat × Int × Int // cO level2 p.1 p.2.1 p.2.2 = some x7 }) (fun p => ⟨[(0, .int .i64 p.1.2.1), (1, .int .i64 level2), (5, .int .i64 p.1.2.2)], [], 16, []⟩) (fun p => p.1.1) ⟨(fu, b1, 0), hxx7⟩ ⟨rF, rE, rfl, rfl, trivial, trivial⟩ (fun _ => Nat.le_refl _) ?_
 rintro ⟨⟨fu, b8, i9⟩, h1⟩
 cases fu with
 | zero =>
  replace h1 : cO level2 0 b8 i9 = some x7 := h1
  rw [cO] at h1; cases h1
 | succ fu =>
  replace h1 : cO level2 (fu + 1) b8 i9 = some x7 := h1
  rw [cO] at h1
  dsimp only
  refine iA ?_
  refine xS 40 [0, 1, 5, 8] ?_
  refine xI h1 rfl (fun h1 hb10 => ?_) (fun h1 hb10 => ?_)
  ·
   refine oA (dA (iA (xB ?_)))
   refine xR 64 [0, 1, 5] ?_
   refine qB (dA ?_)
   refine xR 88 [0, 1, 5] ?_
   refine dA ?_
   exact ⟨⟨(fu, (IntKind.i64.wrap (2 * b8)), (IntKind.i64.wrap (i9 + 1))), h1⟩, ⟨rF, rE, rfl, rfl, trivial, trivial⟩, Nat.lt_succ_self _⟩
  refine fC (xA (xA (iC ?_)))
  obtain rfl := oI h1
  exact ⟨rL, ⟨rF, rE, rfl, rfl, trivial, trivial⟩⟩
theorem zfa {fu : Nat} {vx1 : aA} {r : Int} (h0 : eU fu vx1 = some r) : yA Tryz.prog 138 [.agg (aA.enc vx1)] (.int .i64 r) [] := by
 refine cB Tryz.func138 rfl (by decide) rL ?_
 dsimp only [Tryz.f138]
 rw [eU] at h0
 refine xS 16 [1] ?_
 refine iA ?_
 obtain ⟨b2, hb2, h0⟩ := bA h0
 refine mC (fr' := [(1, .ref 0 0 0 0), (12, .bool b2)]) (hp' := [(0, ⟨0, true, true, 4, [[.str vx1.Key, .str vx1.Val, .bool vx1.Dead, .int .i64 vx1.Seq]]⟩)]) [0] 96 [1, 12] (fun _ => none) rfl (fun Kt hK => by
   cases hg3 : (decide (32 < (vx1.Key.length : Int))) with
   | false =>
    replace hb2 := qA hb2 hg3
    have hqb2 := oI hb2
    subst hqb2
    exact rW hg3 hK
   | true =>
    replace hb2 := aB hb2 hg3
    have hqb2 := oI hb2
    subst hqb2
    exact rW hg3 hK) ?_
 refine xI h0 rfl (fun h0 hb4 => ?_) (fun h0 hb4 => ?_)
 ·
  refine xS 104 [2] ?_
  refine kA (mA ?_)
  obtain rfl := oI h0
  exact lA [] rG
 refine oA (dA (iA ?_))
 obtain ⟨b5, hb5, h0⟩ := bA h0
 refine mC (fr' := [(1, .ref 0 0 0 0), (19, .bool b5)]) (hp' := [(0, ⟨0, true, true, 4, [[.str vx1.Key, .str vx1.Val, .bool vx1.Dead, .int .i64 vx1.Seq]]⟩)]) [0] 152 [1, 19] (fun _ => none) rfl (fun Kt hK => by
   cases hg6 : vx1.Dead with
   | false =>
    replace hb5 := qA hb5 hg6
    have hqb5 := oI hb5
    subst hqb5
    exact rW hg6 hK
   | true =>
    replace hb5 := aB hb5 hg6
    have hqb5 := oI hb5
    subst hqb5
    exact rW hg6 hK) ?_
 refine xI h0 rfl (fun h0 hb7 => ?_) (fun h0 hb7 => ?_)
 ·
  refine xS 160 [2] ?_
  refine kA (mA ?_)
  obtain rfl := oI h0
  exact lA [] rG
 refine oA (dA (iA ?_))
 obtain ⟨b8, hb8, h0⟩ := bA h0
 refine mC (fr' := [(27, .bool b8)]) (hp' := [(0, ⟨0, true, true, 4, [[.str vx1.Key, .str vx1.Val, .bool vx1.Dead, .int .i64 vx1.Seq]]⟩)]) [0] 216 [27] (fun _ => none) rfl (fun Kt hK => by
   cases hg9 : (decide (vx1.Seq < 1)) with
   | false =>
    replace hb8 := qA hb8 hg9
    have hqb8 := oI hb8
    subst hqb8
    exact rW hg9 hK
   | true =>
    replace hb8 := aB hb8 hg9
    have hqb8 := oI hb8
    subst hqb8
    exact rW hg9 hK) ?_
 refine xI h0 rfl (fun h0 hb10 => ?_) (fun h0 hb10 => ?_)
 ·
  refine xS 224 [2] ?_
  refine kA (mA ?_)
  obtain rfl := oI h0
  exact lA [] rG
 refine oA (dA ?_)
 refine xS 224 [2] ?_
 refine kA ?_
 obtain rfl := oI h0
 exact lA [] rG
theorem zny {fu : Nat} {a1 : List UInt8} {b2 : List UInt8} {r : Int} (h0 : dX fu a1 b2 = some r) : yA Tryz.prog 148 [.str a1, .str b2] (.int .i64 r) [] := by
 refine cB Tryz.func148 rfl (by decide) rL ?_
 dsimp only [Tryz.f148]
 rw [dX] at h0
 refine xS 8 [0, 1] ?_
 refine xS 16 [0, 1, 5] ?_
 obtain ⟨x20, hxx20, h0⟩ := bA h0
 refine zdI (fun s' => s'.nx ≤ 168 ∧ LeN [] s' ⟨[(5, .int .i64 x20)], [], 168, []⟩) ?_ ?_
 ·
  intro s' hs
  obtain ⟨hn, hs⟩ := hs
  refine oB [] hn hs ?_
  refine xS 184 [4] ?_
  refine kA ?_
  obtain rfl := oI h0
  exact lA [] rG
 refine nC (ι := { p : Nat × Int // nK a1 b2 p.1 p.2 = some x20 }) (fun p => ⟨[(0, .str a1), (1, .str b2), (5, .int .i64 p.1.2)], [], 16, []⟩) (fun p => p.1.1) ⟨(fu, 0), hxx20⟩ ⟨rF, rE, rfl, rfl, trivial, trivial⟩ (fun _ => Nat.le_refl _) ?_
 rintro ⟨⟨fu, n21⟩, h1⟩
 cases fu with
 | zero =>
  replace h1 : nK a1 b2 0 n21 = some x20 := h1
  rw [nK] at h1; cases h1
 | succ fu =>
  replace h1 : nK a1 b2 (fu + 1) n21 = some x20 := h1
  rw [nK] at h1
  dsimp only
  refine iA ?_
  obtain ⟨b22, hb22, h1⟩ := bA h1
  obtain ⟨b25, hb25, h1⟩ := bA h1
  refine bL (fr' := [(0, .str a1), (1, .str b2), (5, .int .i64 n21), (24, .bool b25)]) (hp' := []) [] 168 [0, 1, 5, 24] (fun _ => none) rfl rfl rfl (fun Kt hK => by
    cases hg26 : (decide (n21 < (a1.length : Int))) with
    | false =>
     replace hb22 := qA hb22 hg26
     have hqb22 := oI hb22
     cases b22 with
     | false =>
      replace hb25 := qA hb25 rfl
      have hqb25 := oI hb25
      subst hqb25
      exact hO hg26 hK
     | true =>
      cases hqb22
    | true =>
     replace hb22 := aB hb22 hg26
     have hqb22 := oI hb22
     cases b22 with
     | false =>
      replace hb25 := qA hb25 rfl
      have hqb25 := oI hb25
      subst hqb25
      exact hO (rA hg26 hqb22) hK
     | true =>
      replace hb25 := aB hb25 rfl
      obtain ⟨e23, he23, hb25⟩ := bA hb25
      obtain ⟨he23a, he23b, he23c⟩ := wA he23
      obtain ⟨e24, he24, hb25⟩ := bA hb25
      obtain ⟨he24a, he24b, he24c⟩ := wA he24
      have hqb25 := oI hb25
      subst hqb25
      exact tG (rA hg26 hqb22) (rA he23a (rA he23b (rA he23c (rA he23 (rA he24a (rA he24b (rA he24c he24))))))) hK) ?_
  refine xI h1 rfl (fun h1 hb29 => ?_) (fun h1 hb29 => ?_)
  ·
   refine oA (dA (xB ?_))
   refine xR 192 [0, 1, 5] ?_
   refine qB (dA ?_)
   exact ⟨⟨(fu, (IntKind.i64.wrap (n21 + 1))), h1⟩, ⟨rF, rE, rfl, rfl, trivial, trivial⟩, Nat.lt_succ_self _⟩
  refine fC (xA (xA (iC ?_)))
  obtain rfl := oI h1
  exact ⟨rL, ⟨rF, rE, rfl, rfl, trivial, trivial⟩⟩
theorem zbM {fu : Nat} {a1 : List UInt8} {b2 : List UInt8} {r : Int} (h0 : iN fu a1 b2 = some r) : yA Tryz.prog 139 [.str a1, .str b2] (.int .i64 r) [] := by
 refine cB Tryz.func139 rfl (by decide) rL ?_
 dsimp only [Tryz.f139]
 rw [iN] at h0
 refine xS 8 [0, 1] ?_
 obtain ⟨vr3, hvr3, h0⟩ := bA h0
 refine nA 40 [0, 1, 5] (fun | 2 => some (.int .i64 vr3, []) | _ => none) rfl (fun _ _ => rC (zny hvr3)) ?_
 refine iA ?_
 obtain ⟨b4, hb4, h0⟩ := bA h0
 refine mC (fr' := [(0, .str a1), (1, .str b2), (5, .int .i64 vr3), (18, .bool b4)]) (hp' := []) [] 120 [0, 1, 5, 18] (fun _ => none) rfl (fun Kt hK => by
   cases hg5 : (decide (vr3 = (a1.length : Int))) with
   | false =>
    replace hb4 := qA hb4 hg5
    have hqb4 := oI hb4
    subst hqb4
    exact rW hg5 hK
   | true =>
    replace hb4 := aB hb4 hg5
    have hqb4 := oI hb4
    subst hqb4
    exact rW hg5 hK) ?_
 refine xI h0 rfl (fun h0 hb6 => ?_) (fun h0 hb6 => ?_)
 ·
  refine xS 128 [4] ?_
  refine kA (mA ?_)
  obtain rfl := oI h0
  exact lA [] rG
 refine oA (dA (iA ?_))
 obtain ⟨b10, hb10, h0⟩ := bA h0
 refine bL (fr' := [(37, .bool b10)]) (hp' := []) [] 272 [37] (fun _ => none) rfl rfl rfl (fun Kt hK => by
   cases hg11 : (decide (vr3 = (a1.length : Int))) with
   | false =>
    replace hb10 := qA hb10 hg11
    obtain ⟨b9, hb9, hb10⟩ := bA hb10
    have hqb10 := oI hb10
    cases hg12 : (decide (vr3 < (b2.length : Int))) with
    | false =>
     replace hb9 := qA hb9 hg12
     have hqb9 := oI hb9
     subst hqb10
     subst hqb9
     exact hO (rA hg11 hg12) hK
    | true =>
     replace hb9 := aB hb9 hg12
     obtain ⟨e7, he7, hb9⟩ := bA hb9
     obtain ⟨he7a, he7b, he7c⟩ := wA he7
     obtain ⟨e8, he8, hb9⟩ := bA hb9
     obtain ⟨he8a, he8b, he8c⟩ := wA he8
     have hqb9 := oI hb9
     subst hqb10
     subst hqb9
     exact tG (rA hg11 hg12) (rA he7a (rA he7b (rA he7c (rA he7 (rA he8a (rA he8b (rA he8c he8))))))) hK
   | true =>
    replace hb10 := aB hb10 hg11
    have hqb10 := oI hb10
    subst hqb10
    exact hO hg11 hK) ?_
 refine xI h0 rfl (fun h0 hb13 => ?_) (fun h0 hb13 => ?_)
 ·
  refine xS 280 [4] ?_
  refine kA (mA ?_)
  obtain rfl := oI h0
  exact lA [] rG
 refine oA (dA ?_)
 refine xS 280 [4] ?_
 refine kA ?_
 obtain rfl := oI h0
 exact lA [] rG
theorem zcZ {fu : Nat} {l1 : List aA} {r : Int × Int} (h0 : nS fu l1 = some r) : yA Tryz.prog 121 [.psl 4 (l1.map aA.enc)] (.tup [.int .i64 r.1, .int .i64 r.2]) [] := by
 refine cB Tryz.func121 rfl (by decide) rL ?_
 dsimp only [Tryz.f121]
 rw [nS] at h0
 refine xS 16 [0] ?_
 refine iA ?_
 refine xS 40 [0, 8] ?_
 refine xI h0 rfl (fun h0 hb2 => ?_) (fun h0 hb2 => ?_)
 ·
  refine xS 56 [2, 3] ?_
  refine kA (mA ?_)
  obtain rfl := oI h0
  exact lA [] rG
 refine oA (dA (iA ?_))
 refine xS 48 [0, 4] ?_
 obtain ⟨x28, hxx28, h0⟩ := bA h0
 refine oC (fun s' => ∃ o42 : Unit, x28 = .inl o42 ∧ s'.nx ≤ 80 ∧ LeN [] s' ⟨[], [], 80, []⟩) ?_ ?_
 ·
  intro s' hs
  obtain ⟨o42, rfl, hn, hs⟩ := hs
  refine dA ?_
  refine oB [] hn hs ?_
  refine xS 96 [2, 3] ?_
  refine kA ?_
  obtain rfl := oI h0
  exact lA [] rG
 refine nC (ι := { p : Nat × Int // qI l1 p.1 p.2 = some x28 }) (fun p => ⟨[(0, .psl 4 (List.map aA.enc l1)), (4, .int .i64 p.1.2)], [], 48, []⟩) (fun p => p.1.1) ⟨(fu, 0), hxx28⟩ ⟨rF, rE, rfl, rfl, trivial, trivial⟩ (fun _ => Nat.le_refl _) ?_
 rintro ⟨⟨fu, i29⟩, h1⟩
 cases fu with
 | zero =>
  replace h1 : qI l1 0 i29 = some x28 := h1
  rw [qI] at h1; cases h1
 | succ fu =>
  replace h1 : qI l1 (fu + 1) i29 = some x28 := h1
  rw [qI] at h1
  dsimp only
  refine iA ?_
  refine xS 80 [0, 4, 12] ?_
  refine xI h1 rfl (fun h1 hb30 => ?_) (fun h1 hb30 => ?_)
  ·
   refine oA (dA (iA (xB ?_)))
   obtain ⟨e31, he31, h1⟩ := bA h1
   obtain ⟨he31a, he31b, he31c⟩ := wA he31
   obtain ⟨vr32, hvr32, h1⟩ := bA h1
   refine nA 128 [0, 4, 5] (fun | 4 => some (.int .i64 vr32, []) | _ => none) rfl (fun _ _ => rB (rA he31a (rA he31b he31c)) (zfa hvr32)) ?_
   refine iA ?_
   obtain ⟨b33, hb33, h1⟩ := bA h1
   obtain ⟨b36, hb36, h1⟩ := bA h1
   refine bL (fr' := [(0, .psl 4 (List.map aA.enc l1)), (4, .int .i64 i29), (5, .int .i64 vr32), (40, .bool b36)]) (hp' := []) [] 296 [0, 4, 5, 40] (fun | 18 => (ix l1 (IntKind.i64.wrap (i29 - 1))).bind fun e34 => (iN fu e34.Key e31.Key).bind fun vr35 => some (.int .i64 vr35, []) | _ => none) rfl rfl rfl (fun Kt hK => by
     cases hg37 : (decide (vr32 = 0)) with
     | false =>
      replace hb33 := qA hb33 hg37
      have hqb33 := oI hb33
      cases b33 with
      | false =>
       replace hb36 := qA hb36 rfl
       have hqb36 := oI hb36
       subst hqb36
       first | exact gY hg37 (rA he31a (rA he31b he31c)) (zbM hvr35) hK | exact tG hg37 (rA he31a (rA he31b he31c)) hK
      | true =>
       cases hqb33
     | true =>
      replace hb33 := aB hb33 hg37
      have hqb33 := oI hb33
      cases b33 with
      | false =>
       replace hb36 := qA hb36 rfl
       have hqb36 := oI hb36
       subst hqb36
       first | exact gY (rA hg37 hqb33) (rA he31a (rA he31b he31c)) (zbM hvr35) hK | exact tG (rA hg37 hqb33) (rA he31a (rA he31b he31c)) hK
      | true =>
       replace hb36 := aB hb36 rfl
       obtain ⟨e34, he34, hb36⟩ := bA hb36
       obtain ⟨he34a, he34b, he34c⟩ := wA he34
       obtain ⟨vr35, hvr35, hb36⟩ := bA hb36
       have hqb36 := oI hb36
       subst hqb36
       first | exact gY (rA hg37 hqb33) (rA he31a (rA he31b (rA he31c (rA he34a (rA he34b (rA he34c (rA he34 hvr35))))))) (zbM hvr35) hK | exact tG (rA hg37 hqb33) (rA he31a (rA he31b (rA he31c (rA he34a (rA he34b (rA he34c (rA he34 hvr35))))))) hK) ?_
   refine xI h1 rfl (fun h1 hb40 => ?_) (fun h1 hb40 => ?_)
   ·
    refine nB 304 [0, 4, 5] (fun _ => none) rfl (fun _ _ => rS (rA he31a (rA he31b he31c))) ?_
    refine dA ?_
    refine nA 320 [0, 4, 5, 42] (fun _ => none) rfl (fun _ _ => rS (rA he31a (rA he31b he31c))) ?_
    refine kK rfl ?_
    refine nA 352 [2, 3] (fun _ => none) rfl (fun _ _ => rS (rA he31a (rA he31b he31c))) ?_
    refine kA ?_
    obtain rfl := oI h1
    refine cC (mA (mA (wC (mA ?_))))
    obtain rfl := oI h0
    refine lA [] ?_
    exact rJ (rA he31a (rA he31b he31c))
   refine oA (dA ?_)
   refine nA 312 [0, 4, 5, 42] (fun _ => none) rfl (fun _ _ => rS (rA he31a (rA he31b he31c))) ?_
   refine xI h1 rfl (fun h1 hb41 => ?_) (fun h1 hb41 => ?_)
   ·
    refine nA 344 [2, 3] (fun _ => none) rfl (fun _ _ => rS (rA he31a (rA he31b he31c))) ?_
    refine kA ?_
    obtain rfl := oI h1
    refine cC (mA (mA (wC (mA ?_))))
    obtain rfl := oI h0
    refine lA [] ?_
    exact rJ (rA he31a (rA he31b he31c))
   refine oA (qB (dA ?_))
   refine nB 336 [0, 4] (fun _ => none) rfl (fun _ _ => rS (rA he31a (rA he31b he31c))) ?_
   refine dA ?_
   exact ⟨⟨(fu, (IntKind.i64.wrap (i29 + 1))), h1⟩, ⟨rF, rE, rfl, rfl, trivial, trivial⟩, Nat.lt_succ_self _⟩
  refine fC (xA (xA (iC ?_)))
  obtain rfl := oI h1
  exact ⟨_, rfl, rL, ⟨rF, rE, rfl, rfl, trivial, trivial⟩⟩
theorem zhl {fu : Nat} {vr1 : kB} {r : Int × Int} (h0 : tZ fu vr1 = some r) : yA Tryz.prog 101 [.agg (kB.enc vr1)] (.tup [.int .i64 r.1, .int .i64 r.2]) [] := by
 refine cB Tryz.func101 rfl (by decide) rL ?_
 dsimp only [Tryz.f101]
 rw [tZ] at h0
 refine xS 24 [1] ?_
 refine iA ?_
 obtain ⟨b2, hb2, h0⟩ := bA h0
 refine mC (fr' := [(1, .ref 0 0 0 0), (11, .bool b2)]) (hp' := [(0, ⟨0, true, true, 2, [[.int .i64 vr1.Id, .psl 4 (List.map aA.enc vr1.Entries)]]⟩)]) [0] 88 [1, 11] (fun _ => none) rfl (fun Kt hK => by
   cases hg3 : (decide (vr1.Id < 1)) with
   | false =>
    replace hb2 := qA hb2 hg3
    have hqb2 := oI hb2
    subst hqb2
    exact rW hg3 hK
   | true =>
    replace hb2 := aB hb2 hg3
    have hqb2 := oI hb2
    subst hqb2
    exact rW hg3 hK) ?_
 refine xI h0 rfl (fun h0 hb4 => ?_) (fun h0 hb4 => ?_)
 ·
  refine xS 104 [2, 3] ?_
  refine kA (mA ?_)
  obtain rfl := oI h0
  exact lA [] rG
 refine oA (dA ?_)
 obtain ⟨vr5, hvr5, h0⟩ := bA h0
 refine nA 144 [2, 3] (fun | 2 => some (.tup [.int .i64 vr5.1, .int .i64 vr5.2], []) | _ => none) rfl (fun _ _ => rC (zcZ hvr5)) ?_
 refine kA ?_
 obtain rfl := oI h0
 exact lA [] rG
theorem zfk {fu : Nat} {vr1 : kB} {most2 : Int} {ids3 : List Int} {r : Int} (h0 : vW fu vr1 most2 ids3 = some r) : yA Tryz.prog 73 [.agg (kB.enc vr1), .int .i64 most2, .psl 1 (ids3.map (fA .i64))] (.int .i64 r) [] := by
 refine cB Tryz.func73 rfl (by decide) rL ?_
 dsimp only [Tryz.f73]
 rw [vW] at h0
 refine xS 16 [1, 2, 3] ?_
 obtain ⟨vr4, hvr4, h0⟩ := bA h0
 refine nA 72 [1, 2, 3, 8] (fun | 1 => some (.tup [.int .i64 vr4.1, .int .i64 vr4.2], []) | _ => none) rfl (fun _ _ => rC (zhl hvr4)) ?_
 refine iA ?_
 refine xS 88 [1, 2, 3, 8, 16] ?_
 refine xI h0 rfl (fun h0 hb5 => ?_) (fun h0 hb5 => ?_)
 ·
  refine xS 104 [6] ?_
  refine kA (mA ?_)
  obtain rfl := oI h0
  exact lA [] rG
 refine oA (dA (iA ?_))
 refine xS 120 [1, 2, 3, 21] ?_
 refine xI h0 rfl (fun h0 hb6 => ?_) (fun h0 hb6 => ?_)
 ·
  refine xS 128 [6] ?_
  refine kA (mA ?_)
  obtain rfl := oI h0
  exact lA [] rG
 refine oA (dA (iA ?_))
 refine xS 160 [2, 3, 26] ?_
 refine xI h0 rfl (fun h0 hb7 => ?_) (fun h0 hb7 => ?_)
 ·
  refine xS 168 [6] ?_
  refine kA (mA ?_)
  obtain rfl := oI h0
  exact lA [] rG
 refine oA (dA (iA ?_))
 refine xS 168 [2, 3, 9] ?_
 obtain ⟨x15, hxx15, h0⟩ := bA h0
 refine oC (fun s' => ∃ o20 : Unit, x15 = .inl o20 ∧ s'.nx ≤ 200 ∧ LeN [] s' ⟨[], [(0, ⟨0, true, true, 2, [[.int .i64 vr1.Id, .psl 4 (List.map aA.enc vr1.Entries)]]⟩)], 200, []⟩) ?_ ?_
 ·
  intro s' hs
  obtain ⟨o20, rfl, hn, hs⟩ := hs
  refine dA ?_
  refine oB [] hn hs ?_
  refine xS 208 [6] ?_
  refine kA ?_
  obtain rfl := oI h0
  exact lA [] rG
 refine nC (ι := { p : Nat × Int // dL ids3 vr1 p.1 p.2 = some x15 }) (fun p => ⟨[(2, .psl 1 (List.map (fA .i64) ids3)), (3, .ref 0 0 0 0), (9, .int .i64 p.1.2)], [(0, ⟨0, true, true, 2, [[.int .i64 vr1.Id, .psl 4 (List.map aA.enc vr1.Entries)]]⟩)], 168, []⟩) (fun p => p.1.1) ⟨(fu, 0), hxx15⟩ ⟨rF, rE, rfl, rfl, trivial, trivial⟩ (fun _ => Nat.le_refl _) ?_
 rintro ⟨⟨fu, i16⟩, h1⟩
 cases fu with
 | zero =>
  replace h1 : dL ids3 vr1 0 i16 = some x15 := h1
  rw [dL] at h1; cases h1
 | succ fu =>
  replace h1 : dL ids3 vr1 (fu + 1) i16 = some x15 := h1
  rw [dL] at h1
  dsimp only
  refine iA ?_
  refine xS 200 [2, 3, 9, 30] ?_
  refine xI h1 rfl (fun h1 hb17 => ?_) (fun h1 hb17 => ?_)
  ·
   refine oA (dA (iA (xB ?_)))
   obtain ⟨e18, he18, h1⟩ := bA h1
   obtain ⟨he18a, he18b, he18c⟩ := wA he18
   refine pC 256 [2, 3, 9, 39] (fun _ => none) rfl rfl rfl (fun _ _ => aE (rA he18a (rA he18b he18c))) ?_
   refine xI h1 rfl (fun h1 hb19 => ?_) (fun h1 hb19 => ?_)
   ·
    refine nA 264 [6] (fun _ => none) rfl (fun _ _ => rS (rA he18a (rA he18b he18c))) ?_
    refine kA ?_
    obtain rfl := oI h1
    refine cC (mA (mA (wC (mA ?_))))
    obtain rfl := oI h0
    refine lA [] ?_
    exact rJ (rA he18a (rA he18b he18c))
   refine oA (qB (dA ?_))
   refine nB 280 [2, 3, 9] (fun _ => none) rfl (fun _ _ => rS (rA he18a (rA he18b he18c))) ?_
   refine dA ?_
   exact ⟨⟨(fu, (IntKind.i64.wrap (i16 + 1))), h1⟩, ⟨rF, rE, rfl, rfl, trivial, trivial⟩, Nat.lt_succ_self _⟩
  refine fC (xA (xA (iC ?_)))
  obtain rfl := oI h1
  exact ⟨_, rfl, rL, ⟨rF, rE, rfl, rfl, trivial, trivial⟩⟩
theorem zb4 {fu : Nat} {l1 : iB} {r : Int × Int × Int} (h0 : aK fu l1 = some r) : yA Tryz.prog 42 [.agg (iB.enc l1)] (.tup [.int .i64 r.1, .int .i64 r.2.1, .int .i64 r.2.2]) [] := by
 refine cB Tryz.func42 rfl (by decide) rL ?_
 dsimp only [Tryz.f42]
 rw [aK] at h0
 refine xS 32 [1] ?_
 refine iA ?_
 obtain ⟨b2, hb2, h0⟩ := bA h0
 refine mC (fr' := [(1, .ref 0 0 0 0), (17, .bool b2)]) (hp' := [(0, ⟨0, true, true, 2, [[.int .i64 l1.B, .psl 1 (List.map tA.enc l1.Levels)]]⟩)]) [0] 96 [1, 17] (fun _ => none) rfl (fun Kt hK => by
   cases hg3 : (decide (l1.B < 1)) with
   | false =>
    replace hb2 := qA hb2 hg3
    have hqb2 := oI hb2
    subst hqb2
    exact rW hg3 hK
   | true =>
    replace hb2 := aB hb2 hg3
    have hqb2 := oI hb2
    subst hqb2
    exact rW hg3 hK) ?_
 refine xI h0 rfl (fun h0 hb4 => ?_) (fun h0 hb4 => ?_)
 ·
  refine xS 120 [2, 3, 4] ?_
  refine kA (mA ?_)
  obtain rfl := oI h0
  exact lA [] rG
 refine oA (dA (iA ?_))
 refine xS 128 [1, 21] ?_
 refine xI h0 rfl (fun h0 hb5 => ?_) (fun h0 hb5 => ?_)
 ·
  refine xS 152 [2, 3, 4] ?_
  refine kA (mA ?_)
  obtain rfl := oI h0
  exact lA [] rG
 refine oA (dA ?_)
 refine xS 136 [1, 5] ?_
 refine iA ?_
 refine xS 144 [1, 5, 6] ?_
 refine oB (s2 := ⟨[(1, .ref 0 0 0 0), (5, .sl 144 0 1 0 0), (6, .int .i64 0)], [(0, ⟨0, true, true, 2, [[.int .i64 l1.B, .psl 1 (List.map tA.enc l1.Levels)]]⟩), (144, ⟨0, true, true, 1, List.map (fA .i64) []⟩)], 145, []⟩) [(144, 1)] rL ⟨rF, rE, rfl, rfl, trivial, rN⟩ ?_
 obtain ⟨x102, hxx102, h0⟩ := bA h0
 refine oC (fun s' => ∃ o136 : List Int, ∃ g137 : Nat, x102 = .inl o136 ∧ s'.nx ≤ 185 ∧ LeN [] s' ⟨[(1, .ref 0 0 0 0)], [(0, ⟨0, true, true, 2, [[.int .i64 l1.B, .psl 1 (List.map tA.enc l1.Levels)]]⟩), (144, ⟨g137, true, true, 1, List.map (fA .i64) o136⟩)], 185, []⟩) ?_ ?_
 ·
  intro s' hs
  obtain ⟨o136, g137, rfl, hn, hs⟩ := hs
  refine dA ?_
  refine oB [] hn hs ?_
  refine iA ?_
  obtain ⟨b139, hb139, h0⟩ := bA h0
  refine mC (fr' := [(1, .ref 0 0 0 0), (84, .bool b139)]) (hp' := [(0, ⟨0, true, true, 2, [[.int .i64 l1.B, .psl 1 (List.map tA.enc l1.Levels)]]⟩), (144, ⟨g137, true, true, 1, List.map (fA .i64) o136⟩)]) [0, 144] 321 [1, 84] (fun _ => none) rfl (fun Kt hK => by
    cases hg140 : (decide (0 < (l1.Levels.length : Int))) with
    | false =>
     replace hb139 := qA hb139 hg140
     have hqb139 := oI hb139
     subst hqb139
     exact rW hg140 hK
    | true =>
     replace hb139 := aB hb139 hg140
     obtain ⟨e138, he138, hb139⟩ := bA hb139
     obtain ⟨he138a, he138b, he138c⟩ := wA he138
     have hqb139 := oI hb139
     subst hqb139
     exact sD hg140 (rA he138a (rA he138b (rA he138c he138))) hK) ?_
  refine xI h0 rfl (fun h0 hb141 => ?_) (fun h0 hb141 => ?_)
  ·
   refine xS 377 [2, 3, 4] ?_
   refine kA (mA ?_)
   obtain rfl := oI h0
   exact lA [] rG
  refine oA (dA ?_)
  refine xS 345 [2, 3, 4] ?_
  refine kA ?_
  obtain rfl := oI h0
  exact lA [] rG
 refine nC (ι := { p : Nat × Int × List Int × Nat // bI l1 p.1 p.2.1 p.2.2.1 = some x102 }) (fun p => ⟨[(1, .ref 0 0 0 0), (5, .sl 144 p.1.2.2.2 1 0 p.1.2.2.1.length), (6, .int .i64 p.1.2.1)], [(0, ⟨0, true, true, 2, [[.int .i64 l1.B, .psl 1 (List.map tA.enc l1.Levels)]]⟩), (144, ⟨p.1.2.2.2, true, true, 1, List.map (fA .i64) p.1.2.2.1⟩)], 145, []⟩) (fun p => p.1.1) ⟨(fu, 0, [], 0), hxx102⟩ ⟨rF, rE, rfl, rfl, trivial, trivial⟩ (fun _ => Nat.le_refl _) ?_
 rintro ⟨⟨fu, i103, ids104, g105⟩, h1⟩
 cases fu with
 | zero =>
  replace h1 : bI l1 0 i103 ids104 = some x102 := h1
  rw [bI] at h1; cases h1
 | succ fu =>
  replace h1 : bI l1 (fu + 1) i103 ids104 = some x102 := h1
  rw [bI] at h1
  dsimp only
  refine iA ?_
  refine xS 185 [1, 5, 6, 26] ?_
  refine xI h1 rfl (fun h1 hb106 => ?_) (fun h1 hb106 => ?_)
  ·
   refine oA (dA (iA (xB ?_)))
   obtain ⟨e107, he107, h1⟩ := bA h1
   obtain ⟨he107a, he107b, he107c⟩ := wA he107
   refine nA 241 [1, 5, 6, 7] (fun _ => none) rfl (fun _ _ => rS (rA he107a (rA he107b he107c))) ?_
   refine iA ?_
   refine nA 265 [1, 5, 6, 7, 37] (fun _ => none) rfl (fun _ _ => rS (rA he107a (rA he107b he107c))) ?_
   refine xI h1 rfl (fun h1 hb108 => ?_) (fun h1 hb108 => ?_)
   ·
    refine nA 297 [2, 3, 4] (fun _ => none) rfl (fun _ _ => rS (rA he107a (rA he107b he107c))) ?_
    refine kA ?_
    obtain rfl := oI h1
    refine mA (cC (mA (mA (wC (mA ?_)))))
    obtain rfl := oI h0
    refine lA [] ?_
    exact rJ (rA he107a (rA he107b he107c))
   refine oA (dA ?_)
   refine nA 273 [1, 5, 6, 7, 8] (fun _ => none) rfl (fun _ _ => rS (rA he107a (rA he107b he107c))) ?_
   obtain ⟨x124, hxx124, h1⟩ := bA h1
   refine oC (fun s' => ∃ o134 : List Int, ∃ g135 : Nat, x124 = .inl o134 ∧ s'.nx ≤ 305 ∧ LeN [] s' ⟨[(1, .ref 0 0 0 0), (5, .sl 144 g135 1 0 o134.length), (6, .int .i64 i103)], [(0, ⟨0, true, true, 2, [[.int .i64 l1.B, .psl 1 (List.map tA.enc l1.Levels)]]⟩), (144, ⟨g135, true, true, 1, List.map (fA .i64) o134⟩)], 305, []⟩) ?_ ?_
   ·
    intro s' hs
    obtain ⟨o134, g135, rfl, hn, hs⟩ := hs
    refine qB (dA ?_)
    refine oB [] hn hs ?_
    refine nB 329 [1, 5, 6] (fun _ => none) rfl (fun _ _ => rS (rA he107a (rA he107b he107c))) ?_
    refine dA ?_
    exact ⟨⟨(fu, (IntKind.i64.wrap (i103 + 1)), o134, g135), h1⟩, ⟨rF, rE, rfl, rfl, trivial, trivial⟩, Nat.lt_succ_self _⟩
   refine nC (ι := { p : Nat × Int × List Int × Nat // hI e107 l1 i103 p.1 p.2.1 p.2.2.1 = some x124 }) (fun p => ⟨[(1, .ref 0 0 0 0), (5, .sl 144 p.1.2.2.2 1 0 p.1.2.2.1.length), (6, .int .i64 i103), (7, .psl 2 (List.map kB.enc e107.Runs)), (8, .int .i64 p.1.2.1)], [(0, ⟨0, true, true, 2, [[.int .i64 l1.B, .psl 1 (List.map tA.enc l1.Levels)]]⟩), (144, ⟨p.1.2.2.2, true, true, 1, List.map (fA .i64) p.1.2.2.1⟩)], 273, []⟩) (fun p => p.1.1) ⟨(fu, 0, ids104, g105), hxx124⟩ ⟨rF, rE, rfl, rfl, trivial, trivial⟩ (fun _ => Nat.le_refl _) ?_
   rintro ⟨⟨fu, k125, ids126, g127⟩, h2⟩
   cases fu with
   | zero =>
  replace h2 : hI e107 l1 i103 0 k125 ids126 = some x124 := h2
  rw [hI] at h2; cases h2
   | succ fu =>
    replace h2 : hI e107 l1 i103 (fu + 1) k125 ids126 = some x124 := h2
    rw [hI] at h2
    dsimp only
    refine iA ?_
    refine nA 305 [1, 5, 6, 7, 8, 42] (fun _ => none) rfl (fun _ _ => rS (rA he107a (rA he107b he107c))) ?_
    refine xI h2 rfl (fun h2 hb128 => ?_) (fun h2 hb128 => ?_)
    ·
     refine oA (dA (iA (xB ?_)))
     obtain ⟨e129, he129, h2⟩ := bA h2
     obtain ⟨he129a, he129b, he129c⟩ := wA he129
     obtain ⟨vr130, hvr130, h2⟩ := bA h2
     obtain ⟨vr131, hvr131, h2⟩ := bA h2
     refine pC 393 [1, 5, 6, 7, 8, 9] (fun | 7 => some (.int .i64 vr130, []) | 9 => some (.int .i64 vr131, []) | _ => none) rfl rfl rfl (fun Kt hK => by
       try have q0 := zfu hvr130
       try have q1 := zfk hvr131
       exact aE (rA he107a (rA he107b (rA he107c (rA he129a (rA he129b he129c)))))) ?_
     refine iA ?_
     refine nA 409 [1, 5, 6, 7, 8, 9, 56] (fun _ => none) rfl (fun _ _ => rS (rA he107a (rA he107b (rA he107c (rA he129a (rA he129b he129c)))))) ?_
     refine xI h2 rfl (fun h2 hb132 => ?_) (fun h2 hb132 => ?_)
     ·
      refine nA 457 [2, 3, 4] (fun _ => none) rfl (fun _ _ => rS (rA he107a (rA he107b (rA he107c (rA he129a (rA he129b he129c)))))) ?_
      refine kA ?_
      obtain rfl := oI h2
      obtain rfl := oI h1
      refine mA (cC (mA (mA (wC (cC (mA (mA (wC (mA ?_)))))))))
      obtain rfl := oI h0
      refine lA [] ?_
      exact rJ (rA he107a (rA he107b (rA he107c (rA he129a (rA he129b he129c)))))
     refine oA (dA ?_)
     obtain ⟨hc133, h2⟩ := pD h2
     refine nB 481 [1, 5, 6, 7, 8] (fun _ => none) rfl (fun _ _ => rS (rA he107a (rA he107b (rA he107c (rA he129a (rA he129b he129c)))))) ?_
     refine qB (dA ?_)
     refine xE ⟨[(1, .ref 0 0 0 0), (5, .sl 144 (g127 + 1) 1 0 ((ids126 ++ [e129.Id]).length)), (6, .int .i64 i103), (7, .psl 2 (List.map kB.enc e107.Runs)), (8, .int .i64 k125)], [(0, ⟨0, true, true, 2, [[.int .i64 l1.B, .psl 1 (List.map tA.enc l1.Levels)]]⟩), (144, ⟨(g127 + 1), true, true, 1, List.map (fA .i64) (ids126 ++ [e129.Id])⟩)], 481, []⟩ ?_
     refine nB 505 [1, 5, 6, 7, 8] (fun _ => none) rfl (fun _ _ => rS (rA he107a (rA he107b (rA he107c (rA he129a (rA he129b he129c)))))) ?_
     refine dA ?_
     exact ⟨⟨(fu, (IntKind.i64.wrap (k125 + 1)), (ids126 ++ [e129.Id]), (g127 + 1)), h2⟩, ⟨rF, rE, rfl, rfl, trivial, trivial⟩, Nat.lt_succ_self _⟩
    refine fC (xA (xA (iC ?_)))
    obtain rfl := oI h2
    exact ⟨_, g127, rfl, rL, ⟨rF, rE, rfl, rfl, trivial, trivial⟩⟩
  refine fC (xA (xA (iC ?_)))
  obtain rfl := oI h1
  exact ⟨_, g105, rfl, rL, ⟨rF, rE, rfl, rfl, trivial, trivial⟩⟩
theorem zo6 {fu : Nat} {l1 : iB} {r : List kB × Int} (h0 : fX fu l1 = some r) : yA Tryz.prog 75 [.agg (iB.enc l1)] (.tup [.psl 2 (r.1.map kB.enc), .int .i64 r.2]) [] := by
 refine cB Tryz.func75 rfl (by decide) rL ?_
 dsimp only [Tryz.f75]
 rw [fX] at h0
 refine xS 24 [1] ?_
 obtain ⟨vr2, hvr2, h0⟩ := bA h0
 refine nA 96 [1, 6] (fun | 1 => some (.tup [.int .i64 vr2.1, .int .i64 vr2.2.1, .int .i64 vr2.2.2], []) | _ => none) rfl (fun _ _ => rC (zb4 hvr2)) ?_
 refine iA ?_
 refine xS 112 [1, 6, 17] ?_
 refine xI h0 rfl (fun h0 hb3 => ?_) (fun h0 hb3 => ?_)
 ·
  refine xS 136 [2, 3] ?_
  refine kA (mA ?_)
  obtain rfl := oI h0
  exact lA [] rG
 refine oA (dA ?_)
 refine xS 120 [1, 7] ?_
 refine iA ?_
 refine xS 128 [1, 7, 8] ?_
 refine oB (s2 := ⟨[(1, .ref 0 0 0 0), (7, .sl 128 0 2 0 0), (8, .int .i64 0)], [(0, ⟨0, true, true, 2, [[.int .i64 l1.B, .psl 1 (List.map tA.enc l1.Levels)]]⟩), (128, ⟨0, true, true, 2, List.map kB.enc []⟩)], 129, []⟩) [(128, 2)] rL ⟨rF, rE, rfl, rfl, trivial, rN⟩ ?_
 obtain ⟨x64, hxx64, h0⟩ := bA h0
 refine oC (fun s' => ∃ g87 : Nat, s'.nx ≤ 169 ∧ LeN [] s' ⟨[(7, .sl 128 g87 2 0 x64.length)], [(0, ⟨0, true, true, 2, [[.int .i64 l1.B, .psl 1 (List.map tA.enc l1.Levels)]]⟩), (128, ⟨g87, true, true, 2, List.map kB.enc x64⟩)], 169, []⟩) ?_ ?_
 ·
  intro s' hs
  obtain ⟨g87, hn, hs⟩ := hs
  refine dA ?_
  refine oB [] hn hs ?_
  refine xS 193 [2, 3] ?_
  refine kA ?_
  obtain rfl := oI h0
  exact lA [] rG
 refine nC (ι := { p : Nat × Int × List kB × Nat // zN l1 p.1 p.2.1 p.2.2.1 = some x64 }) (fun p => ⟨[(1, .ref 0 0 0 0), (7, .sl 128 p.1.2.2.2 2 0 p.1.2.2.1.length), (8, .int .i64 p.1.2.1)], [(0, ⟨0, true, true, 2, [[.int .i64 l1.B, .psl 1 (List.map tA.enc l1.Levels)]]⟩), (128, ⟨p.1.2.2.2, true, true, 2, List.map kB.enc p.1.2.2.1⟩)], 129, []⟩) (fun p => p.1.1) ⟨(fu, 0, [], 0), hxx64⟩ ⟨rF, rE, rfl, rfl, trivial, trivial⟩ (fun _ => Nat.le_refl _) ?_
 rintro ⟨⟨fu, i65, out66, g67⟩, h1⟩
 cases fu with
 | zero =>
  replace h1 : zN l1 0 i65 out66 = some x64 := h1
  rw [zN] at h1; cases h1
 | succ fu =>
  replace h1 : zN l1 (fu + 1) i65 out66 = some x64 := h1
  rw [zN] at h1
  dsimp only
  refine iA ?_
  refine xS 169 [1, 7, 8, 23] ?_
  refine xI h1 rfl (fun h1 hb68 => ?_) (fun h1 hb68 => ?_)
  ·
   refine oA (dA (iA (xB ?_)))
   obtain ⟨e69, he69, h1⟩ := bA h1
   obtain ⟨he69a, he69b, he69c⟩ := wA he69
   refine nA 241 [1, 7, 8, 9] (fun _ => none) rfl (fun _ _ => rS (rA he69a (rA he69b he69c))) ?_
   obtain ⟨x79, hxx79, h1⟩ := bA h1
   refine oC (fun s' => ∃ g86 : Nat, s'.nx ≤ 257 ∧ LeN [] s' ⟨[(1, .ref 0 0 0 0), (7, .sl 128 g86 2 0 x79.length), (8, .int .i64 i65)], [(0, ⟨0, true, true, 2, [[.int .i64 l1.B, .psl 1 (List.map tA.enc l1.Levels)]]⟩), (128, ⟨g86, true, true, 2, List.map kB.enc x79⟩)], 257, []⟩) ?_ ?_
   ·
    intro s' hs
    obtain ⟨g86, hn, hs⟩ := hs
    refine qB (dA ?_)
    refine oB [] hn hs ?_
    refine nB 281 [1, 7, 8] (fun _ => none) rfl (fun _ _ => rS (rA he69a (rA he69b he69c))) ?_
    refine dA ?_
    exact ⟨⟨(fu, (IntKind.i64.wrap (i65 + 1)), x79, g86), h1⟩, ⟨rF, rE, rfl, rfl, trivial, trivial⟩, Nat.lt_succ_self _⟩
   refine nC (ι := { p : Nat × Int × List kB × Nat // eK e69 p.1 p.2.1 p.2.2.1 = some x79 }) (fun p => ⟨[(1, .ref 0 0 0 0), (7, .sl 128 p.1.2.2.2 2 0 p.1.2.2.1.length), (8, .int .i64 i65), (9, .int .i64 p.1.2.1)], [(0, ⟨0, true, true, 2, [[.int .i64 l1.B, .psl 1 (List.map tA.enc l1.Levels)]]⟩), (128, ⟨p.1.2.2.2, true, true, 2, List.map kB.enc p.1.2.2.1⟩)], 241, []⟩) (fun p => p.1.1) ⟨(fu, (IntKind.i64.wrap ((e69.Runs.length : Int) - 1)), out66, g67), hxx79⟩ ⟨rF, rE, rfl, rfl, trivial, trivial⟩ (fun _ => Nat.le_refl _) ?_
   rintro ⟨⟨fu, k80, out81, g82⟩, h2⟩
   cases fu with
   | zero =>
  replace h2 : eK e69 0 k80 out81 = some x79 := h2
  rw [eK] at h2; cases h2
   | succ fu =>
    replace h2 : eK e69 (fu + 1) k80 out81 = some x79 := h2
    rw [eK] at h2
    dsimp only
    refine iA ?_
    refine nA 257 [1, 7, 8, 9, 35] (fun _ => none) rfl (fun _ _ => rS (rA he69a (rA he69b he69c))) ?_
    refine xI h2 rfl (fun h2 hb83 => ?_) (fun h2 hb83 => ?_)
    ·
     refine oA (dA (iA (xB ?_)))
     obtain ⟨e84, he84, h2⟩ := bA h2
     obtain ⟨he84a, he84b, he84c⟩ := wA he84
     obtain ⟨hc85, h2⟩ := pD h2
     refine nB 361 [1, 7, 8, 9] (fun _ => none) rfl (fun _ _ => rS (rA he69a (rA he69b (rA he69c (rA he84a (rA he84b he84c)))))) ?_
     refine qB (dA ?_)
     refine xE ⟨[(1, .ref 0 0 0 0), (7, .sl 128 (g82 + 1) 2 0 ((out81 ++ [e84]).length)), (8, .int .i64 i65), (9, .int .i64 k80)], [(0, ⟨0, true, true, 2, [[.int .i64 l1.B, .psl 1 (List.map tA.enc l1.Levels)]]⟩), (128, ⟨(g82 + 1), true, true, 2, List.map kB.enc (out81 ++ [e84])⟩)], 361, []⟩ ?_
     refine nB 385 [1, 7, 8, 9] (fun _ => none) rfl (fun _ _ => rS (rA he69a (rA he69b (rA he69c (rA he84a (rA he84b he84c)))))) ?_
     refine dA ?_
     exact ⟨⟨(fu, (IntKind.i64.wrap (k80 - 1)), (out81 ++ [e84]), (g82 + 1)), h2⟩, ⟨rF, rE, rfl, rfl, trivial, trivial⟩, Nat.lt_succ_self _⟩
    refine fC (xA (xA (iC ?_)))
    obtain rfl := oI h2
    exact ⟨g82, rL, ⟨rF, rE, rfl, rfl, trivial, trivial⟩⟩
  refine fC (xA (xA (iC ?_)))
  obtain rfl := oI h1
  exact ⟨g67, rL, ⟨rF, rE, rfl, rfl, trivial, trivial⟩⟩
theorem zfc {fu : Nat} {l1 : iB} {r : Int} (h0 : bU fu l1 = some r) : yA Tryz.prog 43 [.agg (iB.enc l1)] (.int .i64 r) [] := by
 refine cB Tryz.func43 rfl (by decide) rL ?_
 dsimp only [Tryz.f43]
 rw [bU] at h0
 refine xS 16 [1] ?_
 obtain ⟨vr2, hvr2, h0⟩ := bA h0
 refine nA 72 [3] (fun | 1 => some (.tup [.psl 2 (vr2.1.map kB.enc), .int .i64 vr2.2], []) | _ => none) rfl (fun _ _ => rC (zo6 hvr2)) ?_
 refine xS 80 [3, 5] ?_
 refine iA ?_
 refine xS 88 [3, 5, 6] ?_
 obtain ⟨x9, hxx9, h0⟩ := bA h0
 refine oC (fun s' => s'.nx ≤ 120 ∧ LeN [] s' ⟨[(5, .int .i64 x9)], [], 120, []⟩) ?_ ?_
 ·
  intro s' hs
  obtain ⟨hn, hs⟩ := hs
  refine dA ?_
  refine oB [] hn hs ?_
  refine xS 136 [2] ?_
  refine kA ?_
  obtain rfl := oI h0
  exact lA [] rG
 refine nC (ι := { p : Nat × Int × Int // lN vr2 p.1 p.2.1 p.2.2 = some x9 }) (fun p => ⟨[(3, .psl 2 (List.map kB.enc vr2.1)), (5, .int .i64 p.1.2.1), (6, .int .i64 p.1.2.2)], [], 88, []⟩) (fun p => p.1.1) ⟨(fu, 0, 0), hxx9⟩ ⟨rF, rE, rfl, rfl, trivial, trivial⟩ (fun _ => Nat.le_refl _) ?_
 rintro ⟨⟨fu, best10, i11⟩, h1⟩
 cases fu with
 | zero =>
  replace h1 : lN vr2 0 best10 i11 = some x9 := h1
  rw [lN] at h1; cases h1
 | succ fu =>
  replace h1 : lN vr2 (fu + 1) best10 i11 = some x9 := h1
  rw [lN] at h1
  dsimp only
  refine iA ?_
  refine xS 120 [3, 5, 6, 15] ?_
  refine xI h1 rfl (fun h1 hb12 => ?_) (fun h1 hb12 => ?_)
  ·
   refine oA (dA (iA (xB ?_)))
   obtain ⟨e13, he13, h1⟩ := bA h1
   obtain ⟨he13a, he13b, he13c⟩ := wA he13
   refine nB 184 [3, 5, 6] (fun _ => none) rfl (fun _ _ => rS (rA he13a (rA he13b he13c))) ?_
   refine qB (dA ?_)
   refine nB 208 [3, 5, 6] (fun _ => none) rfl (fun _ _ => rS (rA he13a (rA he13b he13c))) ?_
   refine dA ?_
   exact ⟨⟨(fu, (if best10 < e13.Id then e13.Id else best10), (IntKind.i64.wrap (i11 + 1))), h1⟩, ⟨rF, rE, rfl, rfl, trivial, trivial⟩, Nat.lt_succ_self _⟩
  refine fC (xA (xA (iC ?_)))
  obtain rfl := oI h1
  exact ⟨rL, ⟨rF, rE, rfl, rfl, trivial, trivial⟩⟩
theorem zdu {fu : Nat} {l1 : iB} {r : List Int} (h0 : yU fu l1 = some r) : yA Tryz.prog 44 [.agg (iB.enc l1)] (.psl 1 (r.map (fA .i64))) [] := by
 refine cB Tryz.func44 rfl (by decide) rL ?_
 dsimp only [Tryz.f44]
 rw [yU] at h0
 refine xS 16 [1] ?_
 refine xS 24 [1, 3] ?_
 refine iA ?_
 refine xS 32 [1, 3, 4] ?_
 refine oB (s2 := ⟨[(1, .ref 0 0 0 0), (3, .sl 32 0 1 0 0), (4, .int .i64 0)], [(0, ⟨0, true, true, 2, [[.int .i64 l1.B, .psl 1 (List.map tA.enc l1.Levels)]]⟩), (32, ⟨0, true, true, 1, List.map (fA .i64) []⟩)], 33, []⟩) [(32, 1)] rL ⟨rF, rE, rfl, rfl, trivial, rN⟩ ?_
 obtain ⟨x15, hxx15, h0⟩ := bA h0
 refine oC (fun s' => ∃ g23 : Nat, s'.nx ≤ 73 ∧ LeN [] s' ⟨[(3, .sl 32 g23 1 0 x15.length)], [(0, ⟨0, true, true, 2, [[.int .i64 l1.B, .psl 1 (List.map tA.enc l1.Levels)]]⟩), (32, ⟨g23, true, true, 1, List.map (fA .i64) x15⟩)], 73, []⟩) ?_ ?_
 ·
  intro s' hs
  obtain ⟨g23, hn, hs⟩ := hs
  refine dA ?_
  refine oB [] hn hs ?_
  refine xS 89 [2] ?_
  refine kA ?_
  obtain rfl := oI h0
  exact lA [] rG
 refine nC (ι := { p : Nat × Int × List Int × Nat // vK l1 p.1 p.2.1 p.2.2.1 = some x15 }) (fun p => ⟨[(1, .ref 0 0 0 0), (3, .sl 32 p.1.2.2.2 1 0 p.1.2.2.1.length), (4, .int .i64 p.1.2.1)], [(0, ⟨0, true, true, 2, [[.int .i64 l1.B, .psl 1 (List.map tA.enc l1.Levels)]]⟩), (32, ⟨p.1.2.2.2, true, true, 1, List.map (fA .i64) p.1.2.2.1⟩)], 33, []⟩) (fun p => p.1.1) ⟨(fu, 0, [], 0), hxx15⟩ ⟨rF, rE, rfl, rfl, trivial, trivial⟩ (fun _ => Nat.le_refl _) ?_
 rintro ⟨⟨fu, i16, out17, g18⟩, h1⟩
 cases fu with
 | zero =>
  replace h1 : vK l1 0 i16 out17 = some x15 := h1
  rw [vK] at h1; cases h1
 | succ fu =>
  replace h1 : vK l1 (fu + 1) i16 out17 = some x15 := h1
  rw [vK] at h1
  dsimp only
  refine iA ?_
  refine xS 73 [1, 3, 4, 9] ?_
  refine xI h1 rfl (fun h1 hb19 => ?_) (fun h1 hb19 => ?_)
  ·
   refine oA (dA (iA (xB ?_)))
   obtain ⟨e20, he20, h1⟩ := bA h1
   obtain ⟨he20a, he20b, he20c⟩ := wA he20
   refine nA 137 [1, 3, 4, 19] (fun _ => none) rfl (fun _ _ => rS (rA he20a (rA he20b he20c))) ?_
   refine xI h1 rfl (fun h1 hb21 => ?_) (fun h1 hb21 => ?_)
   ·
    obtain ⟨hc22, h1⟩ := pD h1
    refine nB 177 [1, 3, 4] (fun _ => none) rfl (fun _ _ => rS (rA he20a (rA he20b he20c))) ?_
    refine qB (dA ?_)
    refine xE ⟨[(1, .ref 0 0 0 0), (3, .sl 32 (g18 + 1) 1 0 ((out17 ++ [i16]).length)), (4, .int .i64 i16)], [(0, ⟨0, true, true, 2, [[.int .i64 l1.B, .psl 1 (List.map tA.enc l1.Levels)]]⟩), (32, ⟨(g18 + 1), true, true, 1, List.map (fA .i64) (out17 ++ [i16])⟩)], 177, []⟩ ?_
    refine nB 201 [1, 3, 4] (fun _ => none) rfl (fun _ _ => rS (rA he20a (rA he20b he20c))) ?_
    refine dA ?_
    exact ⟨⟨(fu, (IntKind.i64.wrap (i16 + 1)), (out17 ++ [i16]), (g18 + 1)), h1⟩, ⟨rF, rE, rfl, rfl, trivial, trivial⟩, Nat.lt_succ_self _⟩
   refine oA (qB (dA ?_))
   refine nB 161 [1, 3, 4] (fun _ => none) rfl (fun _ _ => rS (rA he20a (rA he20b he20c))) ?_
   refine dA ?_
   exact ⟨⟨(fu, (IntKind.i64.wrap (i16 + 1)), out17, g18), h1⟩, ⟨rF, rE, rfl, rfl, trivial, trivial⟩, Nat.lt_succ_self _⟩
  refine fC (xA (xA (iC ?_)))
  obtain rfl := oI h1
  exact ⟨g18, rL, ⟨rF, rE, rfl, rfl, trivial, trivial⟩⟩
theorem znO {fu : Nat} {l1 : iB} {level2 : Int} {r : Int} (h0 : qY fu l1 level2 = some r) : yA Tryz.prog 102 [.agg (iB.enc l1), .int .i64 level2] (.int .i64 r) [] := by
 refine cB Tryz.func102 rfl (by decide) rL ?_
 dsimp only [Tryz.f102]
 rw [qY] at h0
 refine xS 16 [1, 2] ?_
 obtain ⟨vr3, hvr3, h0⟩ := bA h0
 refine nA 88 [1, 7] (fun | 1 => some (.tup [.int .i64 vr3.1, .int .i64 vr3.2.1, .int .i64 vr3.2.2], []) | _ => none) rfl (fun _ _ => rC (zb4 hvr3)) ?_
 refine iA ?_
 obtain ⟨b5, hb5, h0⟩ := bA h0
 refine mC (fr' := [(7, .int .i64 vr3.2.2), (23, .bool b5)]) (hp' := [(0, ⟨0, true, true, 2, [[.int .i64 l1.B, .psl 1 (List.map tA.enc l1.Levels)]]⟩)]) [0] 168 [7, 23] (fun _ => none) rfl (fun Kt hK => by
   cases hg6 : (decide (vr3.2.2 = 0)) with
   | false =>
    replace hb5 := qA hb5 hg6
    have hqb5 := oI hb5
    subst hqb5
    exact rW hg6 hK
   | true =>
    replace hb5 := aB hb5 hg6
    obtain ⟨b4, hb4, hb5⟩ := bA hb5
    have hqb5 := oI hb5
    cases hg7 : (decide (level2 < 0)) with
    | false =>
     replace hb4 := qA hb4 hg7
     have hqb4 := oI hb4
     subst hqb5
     subst hqb4
     exact rW (rA hg6 hg7) hK
    | true =>
     replace hb4 := aB hb4 hg7
     have hqb4 := oI hb4
     subst hqb5
     subst hqb4
     exact rW (rA hg6 hg7) hK) ?_
 refine xI h0 rfl (fun h0 hb8 => ?_) (fun h0 hb8 => ?_)
 ·
  refine xR 176 [7] ?_
  refine dA ?_
  refine xS 192 [4] ?_
  refine kA ?_
  obtain rfl := oI h0
  exact lA [] rG
 refine oA (dA ?_)
 refine xS 184 [4] ?_
 refine kA ?_
 obtain rfl := oI h0
 exact lA [] rG
theorem zg9 {fu : Nat} {l1 : iB} {level2 : Int} {r : Bool × Int} (h0 : xY fu l1 level2 = some r) : yA Tryz.prog 76 [.agg (iB.enc l1), .int .i64 level2] (.tup [.bool r.1, .int .i64 r.2]) [] := by
 refine cB Tryz.func76 rfl (by decide) rL ?_
 dsimp only [Tryz.f76]
 rw [xY] at h0
 refine xS 24 [1, 2] ?_
 obtain ⟨vr3, hvr3, h0⟩ := bA h0
 refine nA 56 [1, 2, 6] (fun | 2 => some (.int .i64 vr3, []) | _ => none) rfl (fun _ _ => rC (znO hvr3)) ?_
 refine iA ?_
 refine xS 72 [1, 2, 6, 11] ?_
 refine xI h0 rfl (fun h0 hb4 => ?_) (fun h0 hb4 => ?_)
 ·
  refine xS 96 [4, 5] ?_
  refine kA (mA ?_)
  obtain rfl := oI h0
  exact lA [] rG
 refine oA (dA ?_)
 refine xS 136 [4, 5] ?_
 refine kA ?_
 obtain rfl := oI h0
 exact lA [] rG
theorem zdd {fu : Nat} {l1 : iB} {level2 : Int} {r : Bool} (h0 : jS fu l1 level2 = some r) : yA Tryz.prog 45 [.agg (iB.enc l1), .int .i64 level2] (.bool r) [] := by
 refine cB Tryz.func45 rfl (by decide) rL ?_
 dsimp only [Tryz.f45]
 rw [jS] at h0
 refine xS 16 [1, 2] ?_
 obtain ⟨vr3, hvr3, h0⟩ := bA h0
 refine nA 80 [5] (fun | 2 => some (.tup [.bool vr3.1, .int .i64 vr3.2], []) | _ => none) rfl (fun _ _ => rC (zg9 hvr3)) ?_
 refine xS 104 [4] ?_
 refine kA ?_
 obtain rfl := oI h0
 exact lA [] rG
theorem zj4 {fu : Nat} {l1 : iB} {level2 : Int} {r : List kB} (h0 : vY fu l1 level2 = some r) : yA Tryz.prog 54 [.agg (iB.enc l1), .int .i64 level2] (.psl 2 (r.map kB.enc)) [] := by
 refine cB Tryz.func54 rfl (by decide) rL ?_
 dsimp only [Tryz.f54]
 rw [vY] at h0
 refine xS 16 [1, 2] ?_
 refine iA ?_
 refine xS 56 [1, 2, 9] ?_
 refine xI h0 rfl (fun h0 hb3 => ?_) (fun h0 hb3 => ?_)
 ·
  refine xS 64 [4] ?_
  refine kA (mA ?_)
  obtain rfl := oI h0
  exact lA [] rG
 refine oA (dA ?_)
 obtain ⟨e4, he4, h0⟩ := bA h0
 obtain ⟨he4a, he4b, he4c⟩ := wA he4
 refine nA 112 [4] (fun _ => none) rfl (fun _ _ => rS (rA he4a (rA he4b he4c))) ?_
 refine kA ?_
 obtain rfl := oI h0
 refine lA [] ?_
 exact rJ (rA he4a (rA he4b he4c))
theorem zbI {fu : Nat} {runs1 : List (List aA)} {r : Int × Int} (h0 : mR fu runs1 = some r) : yA Tryz.prog 94 [.psl 1 (runs1.map (sA 4 aA.enc))] (.tup [.int .i64 r.1, .int .i64 r.2]) [] := by
 refine cB Tryz.func94 rfl (by decide) rL ?_
 dsimp only [Tryz.f94]
 rw [mR] at h0
 refine xS 16 [0] ?_
 refine iA ?_
 refine xS 40 [0, 9] ?_
 refine xI h0 rfl (fun h0 hb2 => ?_) (fun h0 hb2 => ?_)
 ·
  refine xS 56 [2, 3] ?_
  refine kA (mA ?_)
  obtain rfl := oI h0
  exact lA [] rG
 refine oA (dA (iA ?_))
 refine xS 64 [0, 12] ?_
 refine xI h0 rfl (fun h0 hb3 => ?_) (fun h0 hb3 => ?_)
 ·
  refine xS 80 [2, 3] ?_
  refine kA (mA ?_)
  obtain rfl := oI h0
  exact lA [] rG
 refine oA (dA (iA ?_))
 refine xS 72 [0, 4] ?_
 obtain ⟨x13, hxx13, h0⟩ := bA h0
 refine oC (fun s' => ∃ o19 : Unit, x13 = .inl o19 ∧ s'.nx ≤ 104 ∧ LeN [] s' ⟨[], [], 104, []⟩) ?_ ?_
 ·
  intro s' hs
  obtain ⟨o19, rfl, hn, hs⟩ := hs
  refine dA ?_
  refine oB [] hn hs ?_
  refine xS 120 [2, 3] ?_
  refine kA ?_
  obtain rfl := oI h0
  exact lA [] rG
 refine nC (ι := { p : Nat × Int // qK runs1 p.1 p.2 = some x13 }) (fun p => ⟨[(0, .psl 1 (List.map (sA 4 aA.enc) runs1)), (4, .int .i64 p.1.2)], [], 72, []⟩) (fun p => p.1.1) ⟨(fu, 0), hxx13⟩ ⟨rF, rE, rfl, rfl, trivial, trivial⟩ (fun _ => Nat.le_refl _) ?_
 rintro ⟨⟨fu, i14⟩, h1⟩
 cases fu with
 | zero =>
  replace h1 : qK runs1 0 i14 = some x13 := h1
  rw [qK] at h1; cases h1
 | succ fu =>
  replace h1 : qK runs1 (fu + 1) i14 = some x13 := h1
  rw [qK] at h1
  dsimp only
  refine iA ?_
  refine xS 104 [0, 4, 16] ?_
  refine xI h1 rfl (fun h1 hb15 => ?_) (fun h1 hb15 => ?_)
  ·
   refine oA (dA (iA (xB ?_)))
   obtain ⟨e16, he16, h1⟩ := bA h1
   obtain ⟨he16a, he16b, he16c⟩ := wA he16
   obtain ⟨vr17, hvr17, h1⟩ := bA h1
   refine nA 184 [0, 4, 6] (fun | 4 => some (.tup [.int .i64 vr17.1, .int .i64 vr17.2], []) | _ => none) rfl (fun _ _ => rB (rA he16a (rA he16b he16c)) (zcZ hvr17)) ?_
   refine nA 200 [0, 4, 6, 28] (fun _ => none) rfl (fun _ _ => rS (rA he16a (rA he16b he16c))) ?_
   refine xI h1 rfl (fun h1 hb18 => ?_) (fun h1 hb18 => ?_)
   ·
    refine nA 232 [2, 3] (fun _ => none) rfl (fun _ _ => rS (rA he16a (rA he16b he16c))) ?_
    refine kA ?_
    obtain rfl := oI h1
    refine cC (mA (mA (wC (mA ?_))))
    obtain rfl := oI h0
    refine lA [] ?_
    exact rJ (rA he16a (rA he16b he16c))
   refine oA (qB (dA ?_))
   refine nB 224 [0, 4] (fun _ => none) rfl (fun _ _ => rS (rA he16a (rA he16b he16c))) ?_
   refine dA ?_
   exact ⟨⟨(fu, (IntKind.i64.wrap (i14 + 1))), h1⟩, ⟨rF, rE, rfl, rfl, trivial, trivial⟩, Nat.lt_succ_self _⟩
  refine fC (xA (xA (iC ?_)))
  obtain rfl := oI h1
  exact ⟨_, rfl, rL, ⟨rF, rE, rfl, rfl, trivial, trivial⟩⟩
theorem zgI {fu : Nat} {keys1 : List eA} {r : Int} (h0 : nW fu keys1 = some r) : yA Tryz.prog 136 [.psl 2 (keys1.map eA.enc)] (.int .i64 r) [] := by
 refine cB Tryz.func136 rfl (by decide) rL ?_
 dsimp only [Tryz.f136]
 rw [nW] at h0
 refine xS 8 [0] ?_
 refine iA ?_
 refine xS 32 [0, 6] ?_
 refine xI h0 rfl (fun h0 hb2 => ?_) (fun h0 hb2 => ?_)
 ·
  refine xS 40 [2] ?_
  refine kA (mA ?_)
  obtain rfl := oI h0
  exact lA [] rG
 refine oA (dA (iA ?_))
 refine xS 56 [0, 9] ?_
 refine xI h0 rfl (fun h0 hb3 => ?_) (fun h0 hb3 => ?_)
 ·
  refine xS 64 [2] ?_
  refine kA (mA ?_)
  obtain rfl := oI h0
  exact lA [] rG
 refine oA (dA (iA ?_))
 refine xS 64 [0, 3] ?_
 obtain ⟨x15, hxx15, h0⟩ := bA h0
 refine oC (fun s' => ∃ o22 : Unit, x15 = .inl o22 ∧ s'.nx ≤ 96 ∧ LeN [] s' ⟨[], [], 96, []⟩) ?_ ?_
 ·
  intro s' hs
  obtain ⟨o22, rfl, hn, hs⟩ := hs
  refine dA ?_
  refine oB [] hn hs ?_
  refine xS 104 [2] ?_
  refine kA ?_
  obtain rfl := oI h0
  exact lA [] rG
 refine nC (ι := { p : Nat × Int // zM keys1 p.1 p.2 = some x15 }) (fun p => ⟨[(0, .psl 2 (List.map eA.enc keys1)), (3, .int .i64 p.1.2)], [], 64, []⟩) (fun p => p.1.1) ⟨(fu, 0), hxx15⟩ ⟨rF, rE, rfl, rfl, trivial, trivial⟩ (fun _ => Nat.le_refl _) ?_
 rintro ⟨⟨fu, i16⟩, h1⟩
 cases fu with
 | zero =>
  replace h1 : zM keys1 0 i16 = some x15 := h1
  rw [zM] at h1; cases h1
 | succ fu =>
  replace h1 : zM keys1 (fu + 1) i16 = some x15 := h1
  rw [zM] at h1
  dsimp only
  refine iA ?_
  refine xS 96 [0, 3, 13] ?_
  refine xI h1 rfl (fun h1 hb17 => ?_) (fun h1 hb17 => ?_)
  ·
   refine oA (dA (iA (xB ?_)))
   obtain ⟨e18, he18, h1⟩ := bA h1
   obtain ⟨he18a, he18b, he18c⟩ := wA he18
   obtain ⟨b19, hb19, h1⟩ := bA h1
   refine mC (fr' := [(0, .psl 2 (List.map eA.enc keys1)), (3, .int .i64 i16), (28, .bool b19)]) (hp' := []) [] 200 [0, 3, 28] (fun _ => none) rfl (fun Kt hK => by
     cases hg20 : e18.Done with
     | false =>
      replace hb19 := qA hb19 hg20
      have hqb19 := oI hb19
      subst hqb19
      exact sD hg20 (rA he18a (rA he18b he18c)) hK
     | true =>
      replace hb19 := aB hb19 hg20
      have hqb19 := oI hb19
      subst hqb19
      exact sD hg20 (rA he18a (rA he18b he18c)) hK) ?_
   refine xI h1 rfl (fun h1 hb21 => ?_) (fun h1 hb21 => ?_)
   ·
    refine nA 208 [2] (fun _ => none) rfl (fun _ _ => rS (rA he18a (rA he18b he18c))) ?_
    refine kA ?_
    obtain rfl := oI h1
    refine cC (mA (mA (wC (mA ?_))))
    obtain rfl := oI h0
    refine lA [] ?_
    exact rJ (rA he18a (rA he18b he18c))
   refine oA (qB (dA ?_))
   refine nB 224 [0, 3] (fun _ => none) rfl (fun _ _ => rS (rA he18a (rA he18b he18c))) ?_
   refine dA ?_
   exact ⟨⟨(fu, (IntKind.i64.wrap (i16 + 1))), h1⟩, ⟨rF, rE, rfl, rfl, trivial, trivial⟩, Nat.lt_succ_self _⟩
  refine fC (xA (xA (iC ?_)))
  obtain rfl := oI h1
  exact ⟨_, rfl, rL, ⟨rF, rE, rfl, rfl, trivial, trivial⟩⟩
theorem zim {fu : Nat} {keys1 : List eA} {p2 : Int} {q3 : Int} {r : Bool} (h0 : iW fu keys1 p2 q3 = some r) : yA Tryz.prog 152 [.psl 2 (keys1.map eA.enc), .int .i64 p2, .int .i64 q3] (.bool r) [] := by
 refine cB Tryz.func152 rfl (by decide) rL ?_
 dsimp only [Tryz.f152]
 rw [iW] at h0
 refine xS 8 [0, 1, 2] ?_
 obtain ⟨e4, he4, h0⟩ := bA h0
 obtain ⟨he4a, he4b, he4c⟩ := wA he4
 obtain ⟨e5, he5, h0⟩ := bA h0
 obtain ⟨he5a, he5b, he5c⟩ := wA he5
 refine pC 104 [1, 2, 7, 8] (fun _ => none) rfl rfl rfl (fun _ _ => aE (rA he4a (rA he4b (rA he4c (rA he5a (rA he5b he5c)))))) ?_
 refine iA ?_
 refine nA 144 [1, 2, 7, 8, 21] (fun _ => none) rfl (fun _ _ => rS (rA he4a (rA he4b (rA he4c (rA he5a (rA he5b he5c)))))) ?_
 refine xI h0 rfl (fun h0 hb6 => ?_) (fun h0 hb6 => ?_)
 ·
  refine nA 168 [6] (fun _ => none) rfl (fun _ _ => rS (rA he4a (rA he4b (rA he4c (rA he5a (rA he5b he5c)))))) ?_
  refine kA (mA ?_)
  obtain rfl := oI h0
  refine lA [] ?_
  exact rJ (rA he4a (rA he4b (rA he4c (rA he5a (rA he5b he5c)))))
 refine oA (dA (iA ?_))
 obtain ⟨b7, hb7, h0⟩ := bA h0
 refine mC (fr' := [(1, .int .i64 p2), (2, .int .i64 q3), (7, .ref 72 0 0 0), (8, .ref 80 0 0 0), (33, .bool b7)]) (hp' := [(72, ⟨0, true, true, 2, [[.str e4.Key, .bool e4.Done]]⟩), (80, ⟨0, true, true, 2, [[.str e5.Key, .bool e5.Done]]⟩)]) [72, 80] 224 [1, 2, 7, 8, 33] (fun _ => none) rfl (fun Kt hK => by
   cases hg8 : (!e4.Done) with
   | false =>
    replace hb7 := qA hb7 hg8
    have hqb7 := oI hb7
    subst hqb7
    exact sD hg8 (rA he4a (rA he4b (rA he4c (rA he5a (rA he5b he5c))))) hK
   | true =>
    replace hb7 := aB hb7 hg8
    have hqb7 := oI hb7
    subst hqb7
    exact sD hg8 (rA he4a (rA he4b (rA he4c (rA he5a (rA he5b he5c))))) hK) ?_
 refine xI h0 rfl (fun h0 hb9 => ?_) (fun h0 hb9 => ?_)
 ·
  refine nA 272 [6] (fun _ => none) rfl (fun _ _ => rS (rA he4a (rA he4b (rA he4c (rA he5a (rA he5b he5c)))))) ?_
  refine kA (mA ?_)
  obtain rfl := oI h0
  refine lA [] ?_
  exact rJ (rA he4a (rA he4b (rA he4c (rA he5a (rA he5b he5c)))))
 refine oA (dA ?_)
 refine nA 256 [6] (fun _ => none) rfl (fun _ _ => rS (rA he4a (rA he4b (rA he4c (rA he5a (rA he5b he5c)))))) ?_
 refine kA ?_
 obtain rfl := oI h0
 refine lA [] ?_
 exact rJ (rA he4a (rA he4b (rA he4c (rA he5a (rA he5b he5c)))))
theorem zeK {fu : Nat} : ∀ {keys1 : List eA} {node2 : Int} {r : Int × Int}, qL fu keys1 node2 = some r → yA Tryz.prog 147 [.psl 2 (keys1.map eA.enc), .int .i64 node2] (.tup [.int .i64 r.1, .int .i64 r.2]) [] := by
 induction fu with
 | zero => intro keys1 node2 r h0; rw [qL] at h0; cases h0
 | succ fu ih =>
 intro keys1 node2 r h0
 refine cB Tryz.func147 rfl (by decide) rL ?_
 dsimp only [Tryz.f147]
 rw [qL] at h0
 refine xS 16 [0, 1] ?_
 refine xS 40 [0, 1, 6] ?_
 refine iA ?_
 refine xS 64 [0, 1, 6, 15] ?_
 refine xI h0 rfl (fun h0 hb3 => ?_) (fun h0 hb3 => ?_)
 ·
  refine xS 104 [4, 5] ?_
  refine kA (mA ?_)
  obtain rfl := oI h0
  exact lA [] rG
 refine oA (dA ?_)
 obtain ⟨vr4, hvr4, h0⟩ := bA h0
 refine nA 136 [0, 1, 7] (fun | 3 => some (.tup [.int .i64 vr4.1, .int .i64 vr4.2], []) | _ => none) rfl (fun Kt hK => by
   simp (maxSteps := 1000000) only [↓reduceIte, reduceCtorEq, Nat.reduceEqDiff, Nat.reduceLT, Nat.reduceLeDiff, Nat.reduceAdd, Nat.reduceMul, Int.reduceToNat, push_cast]
   repeat' (first | exact hK | exact ih hvr4 | refine And.intro ?_ ?_ | exact Nat.le_refl _ | assumption | omega | (intro _) | (simp; done))) ?_
 obtain ⟨vr5, hvr5, h0⟩ := bA h0
 refine nA 216 [0, 7, 9] (fun | 4 => some (.tup [.int .i64 vr5.1, .int .i64 vr5.2], []) | _ => none) rfl (fun Kt hK => by
   simp (maxSteps := 1000000) only [↓reduceIte, reduceCtorEq, Nat.reduceEqDiff, Nat.reduceLT, Nat.reduceLeDiff, Nat.reduceAdd, Nat.reduceMul, Int.reduceToNat, push_cast]
   repeat' (first | exact hK | exact ih hvr5 | refine And.intro ?_ ?_ | exact Nat.le_refl _ | assumption | omega | (intro _) | (simp; done))) ?_
 refine iA ?_
 obtain ⟨vr6, hvr6, h0⟩ := bA h0
 refine nA 248 [7, 9, 37] (fun | 3 => some (.bool vr6, []) | _ => none) rfl (fun _ _ => rC (zim hvr6)) ?_
 refine xI h0 rfl (fun h0 hb7 => ?_) (fun h0 hb7 => ?_)
 ·
  refine xS 280 [4, 5] ?_
  refine kA (mA ?_)
  obtain rfl := oI h0
  exact lA [] rG
 refine oA (dA ?_)
 refine xS 280 [4, 5] ?_
 refine kA ?_
 obtain rfl := oI h0
 exact lA [] rG
theorem zgB {fu : Nat} {keys1 : List eA} {r : bB} (h0 : sV fu keys1 = some r) : yA Tryz.prog 137 [.psl 2 (keys1.map eA.enc)] (.agg (bB.enc r)) [] := by
 refine cB Tryz.func137 rfl (by decide) rL ?_
 dsimp only [Tryz.f137]
 rw [sV] at h0
 refine xS 8 [0, 2] ?_
 obtain ⟨hc2, h0⟩ := pD h0
 obtain ⟨hc3, h0⟩ := pD h0
 refine pC 80 [0, 2, 3] (fun _ => none) rfl rfl rfl (fun _ _ => nF) ?_
 refine xE ⟨[(0, .psl 2 (List.map eA.enc keys1)), (2, .ref 0 0 0 0), (3, .ref 64 0 0 0)], [(0, ⟨0, true, true, 3, [[.nils, .nils, .int .i64 0]]⟩), (8, ⟨1, true, true, 2, List.map eA.enc keys1⟩), (48, ⟨0, true, true, 1, List.map (fA .i64) (List.replicate keys1.length 0 : List Int)⟩), (64, ⟨0, true, false, 3, [[.sl 8 1 2 0 keys1.length, .sl 48 0 1 0 ((List.replicate keys1.length 0 : List Int).length), .int .i64 0]]⟩)], 80, []⟩ ?_
 refine iA ?_
 refine xS 88 [0, 2, 3, 4] ?_
 obtain ⟨x13, hxx13, h0⟩ := bA h0
 refine oC (fun s' => ∃ g20 : Nat, s'.nx ≤ 120 ∧ LeN [] s' ⟨[(0, .psl 2 (List.map eA.enc keys1)), (2, .ref 0 0 0 0), (3, .ref 64 0 0 0)], [(0, ⟨0, true, true, 3, [[.nils, .nils, .int .i64 0]]⟩), (8, ⟨1, true, true, 2, List.map eA.enc keys1⟩), (48, ⟨g20, true, true, 1, List.map (fA .i64) x13⟩), (64, ⟨0, true, false, 3, [[.sl 8 1 2 0 keys1.length, .sl 48 g20 1 0 x13.length, .int .i64 0]]⟩)], 120, []⟩) ?_ ?_
 ·
  intro s' hs
  obtain ⟨g20, hn, hs⟩ := hs
  refine dA ?_
  refine oB [] hn hs ?_
  obtain ⟨vr21, hvr21, h0⟩ := bA h0
  refine nA 176 [2, 3] (fun | 1 => some (.tup [.int .i64 vr21.1, .int .i64 vr21.2], []) | _ => none) rfl (fun _ _ => rC (zeK hvr21)) ?_
  refine xS 192 [2] ?_
  refine kA ?_
  obtain rfl := oI h0
  exact lA [] rG
 refine nC (ι := { p : Nat × Int × List Int × Nat // pM keys1 p.1 p.2.1 p.2.2.1 = some x13 }) (fun p => ⟨[(0, .psl 2 (List.map eA.enc keys1)), (2, .ref 0 0 0 0), (3, .ref 64 0 0 0), (4, .int .i64 p.1.2.1)], [(0, ⟨0, true, true, 3, [[.nils, .nils, .int .i64 0]]⟩), (8, ⟨1, true, true, 2, List.map eA.enc keys1⟩), (48, ⟨p.1.2.2.2, true, true, 1, List.map (fA .i64) p.1.2.2.1⟩), (64, ⟨0, true, false, 3, [[.sl 8 1 2 0 keys1.length, .sl 48 p.1.2.2.2 1 0 p.1.2.2.1.length, .int .i64 0]]⟩)], 88, []⟩) (fun p => p.1.1) ⟨(fu, 1, (List.replicate keys1.length 0 : List Int), 0), hxx13⟩ ⟨rF, rE, rfl, rfl, trivial, trivial⟩ (fun _ => Nat.le_refl _) ?_
 rintro ⟨⟨fu, i14, v15, g16⟩, h1⟩
 cases fu with
 | zero =>
  replace h1 : pM keys1 0 i14 v15 = some x13 := h1
  rw [pM] at h1; cases h1
 | succ fu =>
  replace h1 : pM keys1 (fu + 1) i14 v15 = some x13 := h1
  rw [pM] at h1
  dsimp only
  refine iA ?_
  refine xS 120 [0, 2, 3, 4, 15] ?_
  refine xI h1 rfl (fun h1 hb17 => ?_) (fun h1 hb17 => ?_)
  ·
   refine oA (dA (iA (xB ?_)))
   obtain ⟨vr18, hvr18, h1⟩ := bA h1
   obtain ⟨e19, he19, h1⟩ := bA h1
   obtain ⟨he19a, he19b, he19c⟩ := wA he19
   refine qG 208 [0, 2, 3, 4] (fun | 5 => some (.tup [.int .i64 vr18.1, .int .i64 vr18.2], []) | _ => none) rfl rfl rfl (fun _ _ => pP (rA he19a (rA he19b he19c)) (zeK hvr18)) ?_
   refine qB (dA ?_)
   refine xE ⟨[(0, .psl 2 (List.map eA.enc keys1)), (2, .ref 0 0 0 0), (3, .ref 64 0 0 0), (4, .int .i64 i14)], [(0, ⟨0, true, true, 3, [[.nils, .nils, .int .i64 0]]⟩), (8, ⟨1, true, true, 2, List.map eA.enc keys1⟩), (48, ⟨g16, true, true, 1, List.map (fA .i64) (v15.set i14.toNat vr18.2)⟩), (64, ⟨0, true, false, 3, [[.sl 8 1 2 0 keys1.length, .sl 48 g16 1 0 ((v15.set i14.toNat vr18.2).length), .int .i64 0]]⟩)], 208, []⟩ ?_
   refine nB 232 [0, 2, 3, 4] (fun _ => none) rfl (fun _ _ => rS (rA he19a (rA he19b he19c))) ?_
   refine dA ?_
   exact ⟨⟨(fu, (IntKind.i64.wrap (i14 + 1)), (v15.set i14.toNat vr18.2), g16), h1⟩, ⟨rF, rE, rfl, rfl, trivial, trivial⟩, Nat.lt_succ_self _⟩
  refine fC (xA (xA (iC ?_)))
  obtain rfl := oI h1
  exact ⟨g16, rL, ⟨rF, rE, rfl, rfl, trivial, trivial⟩⟩
theorem zly {fu : Nat} {keys1 : List eA} {r : bB × Int} (h0 : pX fu keys1 = some r) : yA Tryz.prog 120 [.psl 2 (keys1.map eA.enc)] (.tup [.agg (bB.enc r.1), .int .i64 r.2]) [] := by
 refine cB Tryz.func120 rfl (by decide) rL ?_
 dsimp only [Tryz.f120]
 rw [pX] at h0
 refine xS 16 [0, 2] ?_
 obtain ⟨vr2, hvr2, h0⟩ := bA h0
 refine nA 40 [0, 2, 4] (fun | 1 => some (.int .i64 vr2, []) | _ => none) rfl (fun _ _ => rC (zgI hvr2)) ?_
 refine iA ?_
 refine xS 56 [0, 2, 4, 8] ?_
 refine xI h0 rfl (fun h0 hb3 => ?_) (fun h0 hb3 => ?_)
 ·
  refine xS 88 [2, 3] ?_
  refine kA (mA ?_)
  obtain rfl := oI h0
  exact lA [] rG
 refine oA (dA ?_)
 obtain ⟨vr4, hvr4, h0⟩ := bA h0
 refine nA 88 [2, 3] (fun | 1 => some (.agg (bB.enc vr4), []) | _ => none) rfl (fun _ _ => rC (zgB hvr4)) ?_
 refine kA ?_
 obtain rfl := oI h0
 exact lA [] rG
theorem zbv {fu : Nat} {runs1 : List (List aA)} {vat2 : List Int} {r : dB} (h0 : pS fu runs1 vat2 = some r) : yA Tryz.prog 93 [.psl 1 (runs1.map (sA 4 aA.enc)), .psl 1 (vat2.map (fA .i64))] (.agg (dB.enc r)) [] := by
 refine cB Tryz.func93 rfl (by decide) rL ?_
 dsimp only [Tryz.f93]
 rw [pS] at h0
 refine xS 8 [0, 1, 4] ?_
 obtain ⟨hc3, h0⟩ := pD h0
 obtain ⟨hc4, h0⟩ := pD h0
 refine xS 80 [0, 1, 4, 5] ?_
 refine xE ⟨[(0, .psl 1 (List.map (sA 4 aA.enc) runs1)), (1, .psl 1 (List.map (fA .i64) vat2)), (4, .ref 0 0 0 0), (5, .ref 64 0 0 0)], [(0, ⟨0, true, true, 5, [[.nils, .nils, .nils, .nils, .int .i64 0]]⟩), (8, ⟨1, true, true, 1, List.map (sA 4 aA.enc) runs1⟩), (32, ⟨1, true, true, 1, List.map (fA .i64) vat2⟩), (64, ⟨0, true, false, 5, [[.sl 8 1 1 0 runs1.length, .sl 32 1 1 0 vat2.length, .nils, .nils, .int .i64 0]]⟩)], 80, []⟩ ?_
 refine xS 88 [0, 1, 4, 5, 6] ?_
 refine iA ?_
 refine xS 96 [0, 1, 4, 5, 6, 7] ?_
 refine oB (s2 := ⟨[(0, .psl 1 (List.map (sA 4 aA.enc) runs1)), (1, .psl 1 (List.map (fA .i64) vat2)), (4, .ref 0 0 0 0), (5, .ref 64 0 0 0), (6, .sl 96 0 2 0 0), (7, .int .i64 0)], [(0, ⟨0, true, true, 5, [[.nils, .nils, .nils, .nils, .int .i64 0]]⟩), (8, ⟨1, true, true, 1, List.map (sA 4 aA.enc) runs1⟩), (32, ⟨1, true, true, 1, List.map (fA .i64) vat2⟩), (64, ⟨0, true, false, 5, [[.sl 8 1 1 0 runs1.length, .sl 32 1 1 0 vat2.length, .nils, .nils, .int .i64 0]]⟩), (96, ⟨0, true, true, 2, List.map eA.enc []⟩)], 97, []⟩) [(96, 2)] rL ⟨rF, rE, rfl, rfl, trivial, rN⟩ ?_
 obtain ⟨x25, hxx25, h0⟩ := bA h0
 refine oC (fun s' => ∃ g36 : Nat, s'.nx ≤ 129 ∧ LeN [] s' ⟨[(4, .ref 0 0 0 0), (5, .ref 64 0 0 0), (6, .sl 96 g36 2 0 x25.length)], [(0, ⟨0, true, true, 5, [[.nils, .nils, .nils, .nils, .int .i64 0]]⟩), (8, ⟨1, true, true, 1, List.map (sA 4 aA.enc) runs1⟩), (32, ⟨1, true, true, 1, List.map (fA .i64) vat2⟩), (64, ⟨0, true, false, 5, [[.sl 8 1 1 0 runs1.length, .sl 32 1 1 0 vat2.length, .nils, .nils, .int .i64 0]]⟩), (96, ⟨g36, true, true, 2, List.map eA.enc x25⟩)], 129, []⟩) ?_ ?_
 ·
  intro s' hs
  obtain ⟨g36, hn, hs⟩ := hs
  refine dA ?_
  refine oB [] hn hs ?_
  obtain ⟨vr37, hvr37, h0⟩ := bA h0
  refine nA 185 [4, 5] (fun | 1 => some (.tup [.agg (bB.enc vr37.1), .int .i64 vr37.2], []) | _ => none) rfl (fun _ _ => rC (zly hvr37)) ?_
  refine xS 201 [4] ?_
  refine kA ?_
  obtain rfl := oI h0
  exact lA [] rG
 refine nC (ι := { p : Nat × Int × List eA × Nat // mL runs1 vat2 p.1 p.2.1 p.2.2.1 = some x25 }) (fun p => ⟨[(0, .psl 1 (List.map (sA 4 aA.enc) runs1)), (1, .psl 1 (List.map (fA .i64) vat2)), (4, .ref 0 0 0 0), (5, .ref 64 0 0 0), (6, .sl 96 p.1.2.2.2 2 0 p.1.2.2.1.length), (7, .int .i64 p.1.2.1)], [(0, ⟨0, true, true, 5, [[.nils, .nils, .nils, .nils, .int .i64 0]]⟩), (8, ⟨1, true, true, 1, List.map (sA 4 aA.enc) runs1⟩), (32, ⟨1, true, true, 1, List.map (fA .i64) vat2⟩), (64, ⟨0, true, false, 5, [[.sl 8 1 1 0 runs1.length, .sl 32 1 1 0 vat2.length, .nils, .nils, .int .i64 0]]⟩), (96, ⟨p.1.2.2.2, true, true, 2, List.map eA.enc p.1.2.2.1⟩)], 97, []⟩) (fun p => p.1.1) ⟨(fu, 0, [], 0), hxx25⟩ ⟨rF, rE, rfl, rfl, trivial, trivial⟩ (fun _ => Nat.le_refl _) ?_
 rintro ⟨⟨fu, i26, keys27, g28⟩, h1⟩
 cases fu with
 | zero =>
  replace h1 : mL runs1 vat2 0 i26 keys27 = some x25 := h1
  rw [mL] at h1; cases h1
 | succ fu =>
  replace h1 : mL runs1 vat2 (fu + 1) i26 keys27 = some x25 := h1
  rw [mL] at h1
  dsimp only
  refine iA ?_
  refine xS 129 [0, 1, 4, 5, 6, 7, 19] ?_
  refine xI h1 rfl (fun h1 hb29 => ?_) (fun h1 hb29 => ?_)
  ·
   refine oA (dA (iA (xB ?_)))
   obtain ⟨e30, he30, h1⟩ := bA h1
   obtain ⟨he30a, he30b, he30c⟩ := wA he30
   obtain ⟨e31, he31, h1⟩ := bA h1
   obtain ⟨he31a, he31b, he31c⟩ := wA he31
   refine pC 233 [0, 1, 4, 5, 6, 7, 8] (fun _ => none) rfl rfl rfl (fun _ _ => aE (rA he30a (rA he30b (rA he30c (rA he31a (rA he31b he31c)))))) ?_
   refine iA ?_
   refine nA 257 [0, 1, 4, 5, 6, 7, 8, 35] (fun _ => none) rfl (fun _ _ => rS (rA he30a (rA he30b (rA he30c (rA he31a (rA he31b he31c)))))) ?_
   refine xI h1 rfl (fun h1 hb32 => ?_) (fun h1 hb32 => ?_)
   ·
    obtain ⟨e33, he33, h1⟩ := bA h1
    obtain ⟨he33a, he33b, he33c⟩ := wA he33
    refine qG 361 [0, 1, 4, 5, 6, 7, 8] (fun _ => none) rfl rfl rfl (fun _ _ => aE (rA he30a (rA he30b (rA he30c (rA he31a (rA he31b (rA he31c (rA he33a (rA he33b he33c))))))))) ?_
    refine dA ?_
    obtain ⟨hc34, h1⟩ := pD h1
    refine nB 401 [0, 1, 4, 5, 6, 7] (fun _ => none) rfl (fun _ _ => rS (rA he30a (rA he30b (rA he30c (rA he31a (rA he31b (rA he31c (rA he33a (rA he33b he33c))))))))) ?_
    refine qB (dA ?_)
    refine xE ⟨[(0, .psl 1 (List.map (sA 4 aA.enc) runs1)), (1, .psl 1 (List.map (fA .i64) vat2)), (4, .ref 0 0 0 0), (5, .ref 64 0 0 0), (6, .sl 96 (g28 + 1) 2 0 ((keys27 ++ [(eA.mk e33.Key (decide (e30 = (e31.length : Int))))]).length)), (7, .int .i64 i26)], [(0, ⟨0, true, true, 5, [[.nils, .nils, .nils, .nils, .int .i64 0]]⟩), (8, ⟨1, true, true, 1, List.map (sA 4 aA.enc) runs1⟩), (32, ⟨1, true, true, 1, List.map (fA .i64) vat2⟩), (64, ⟨0, true, false, 5, [[.sl 8 1 1 0 runs1.length, .sl 32 1 1 0 vat2.length, .nils, .nils, .int .i64 0]]⟩), (96, ⟨(g28 + 1), true, true, 2, List.map eA.enc (keys27 ++ [(eA.mk e33.Key (decide (e30 = (e31.length : Int))))])⟩)], 401, []⟩ ?_
    refine nB 425 [0, 1, 4, 5, 6, 7] (fun _ => none) rfl (fun _ _ => rS (rA he30a (rA he30b (rA he30c (rA he31a (rA he31b (rA he31c (rA he33a (rA he33b he33c))))))))) ?_
    refine dA ?_
    exact ⟨⟨(fu, (IntKind.i64.wrap (i26 + 1)), (keys27 ++ [(eA.mk e33.Key (decide (e30 = (e31.length : Int))))]), (g28 + 1)), h1⟩, ⟨rF, rE, rfl, rfl, trivial, trivial⟩, Nat.lt_succ_self _⟩
   refine oA (dA ?_)
   obtain ⟨hc35, h1⟩ := pD h1
   refine nB 297 [0, 1, 4, 5, 6, 7] (fun _ => none) rfl (fun _ _ => rS (rA he30a (rA he30b (rA he30c (rA he31a (rA he31b he31c)))))) ?_
   refine qB (dA ?_)
   refine xE ⟨[(0, .psl 1 (List.map (sA 4 aA.enc) runs1)), (1, .psl 1 (List.map (fA .i64) vat2)), (4, .ref 0 0 0 0), (5, .ref 64 0 0 0), (6, .sl 96 (g28 + 1) 2 0 ((keys27 ++ [(eA.mk [] (decide (e30 = (e31.length : Int))))]).length)), (7, .int .i64 i26)], [(0, ⟨0, true, true, 5, [[.nils, .nils, .nils, .nils, .int .i64 0]]⟩), (8, ⟨1, true, true, 1, List.map (sA 4 aA.enc) runs1⟩), (32, ⟨1, true, true, 1, List.map (fA .i64) vat2⟩), (64, ⟨0, true, false, 5, [[.sl 8 1 1 0 runs1.length, .sl 32 1 1 0 vat2.length, .nils, .nils, .int .i64 0]]⟩), (96, ⟨(g28 + 1), true, true, 2, List.map eA.enc (keys27 ++ [(eA.mk [] (decide (e30 = (e31.length : Int))))])⟩)], 297, []⟩ ?_
   refine nB 321 [0, 1, 4, 5, 6, 7] (fun _ => none) rfl (fun _ _ => rS (rA he30a (rA he30b (rA he30c (rA he31a (rA he31b he31c)))))) ?_
   refine dA ?_
   exact ⟨⟨(fu, (IntKind.i64.wrap (i26 + 1)), (keys27 ++ [(eA.mk [] (decide (e30 = (e31.length : Int))))]), (g28 + 1)), h1⟩, ⟨rF, rE, rfl, rfl, trivial, trivial⟩, Nat.lt_succ_self _⟩
  refine fC (xA (xA (iC ?_)))
  obtain rfl := oI h1
  exact ⟨g28, rL, ⟨rF, rE, rfl, rfl, trivial, trivial⟩⟩
theorem zkw {fu : Nat} {runs1 : List (List aA)} {r : dB × Int × Int} (h0 : lL fu runs1 = some r) : yA Tryz.prog 103 [.psl 1 (runs1.map (sA 4 aA.enc))] (.tup [.agg (dB.enc r.1), .int .i64 r.2.1, .int .i64 r.2.2]) [] := by
 refine cB Tryz.func103 rfl (by decide) rL ?_
 dsimp only [Tryz.f103]
 rw [lL] at h0
 refine xS 24 [0, 2] ?_
 obtain ⟨vr2, hvr2, h0⟩ := bA h0
 refine nA 80 [0, 2, 5, 6] (fun | 1 => some (.tup [.int .i64 vr2.1, .int .i64 vr2.2], []) | _ => none) rfl (fun _ _ => rC (zbI hvr2)) ?_
 refine iA ?_
 refine xS 96 [0, 2, 5, 6, 13] ?_
 refine xI h0 rfl (fun h0 hb3 => ?_) (fun h0 hb3 => ?_)
 ·
  refine xS 144 [2, 3, 4] ?_
  refine kA (mA ?_)
  obtain rfl := oI h0
  exact lA [] rG
 refine oA (dA ?_)
 obtain ⟨hc4, h0⟩ := pD h0
 obtain ⟨vr5, hvr5, h0⟩ := bA h0
 refine nA 160 [2, 3, 4] (fun | 4 => some (.agg (dB.enc vr5), []) | _ => none) rfl (fun _ _ => rC (zbv hvr5)) ?_
 refine xE ⟨[(2, .ref 0 0 0 0), (3, .int .i64 0), (4, .int .i64 0)], [(0, ⟨0, true, true, 5, [[.psl 1 (List.map (sA 4 aA.enc) vr5.Runs), .psl 1 (List.map (fA .i64) vr5.At), .psl 2 (List.map eA.enc vr5.Tree.Keys), .psl 1 (List.map (fA .i64) vr5.Tree.Lose), .int .i64 vr5.Tree.Win]]⟩)], 160, []⟩ ?_
 refine kA ?_
 obtain rfl := oI h0
 exact lA [] rG
theorem zbP {fu : Nat} {bottom1 : Bool} {r : jB} (h0 : tQ fu bottom1 = some r) : yA Tryz.prog 96 [.bool bottom1] (.agg (jB.enc r)) [] := by
 refine cB Tryz.func96 rfl (by decide) rL ?_
 dsimp only [Tryz.f96]
 rw [tQ] at h0
 refine xS 8 [0, 2] ?_
 refine xS 32 [2] ?_
 refine kA ?_
 obtain rfl := oI h0
 exact lA [] rG
theorem zlf {fu : Nat} {runs1 : List (List aA)} {bottom2 : Bool} {r : lB × Int × Int} (h0 : qV fu runs1 bottom2 = some r) : yA Tryz.prog 77 [.psl 1 (runs1.map (sA 4 aA.enc)), .bool bottom2] (.tup [.agg (lB.enc r.1), .int .i64 r.2.1, .int .i64 r.2.2]) [] := by
 refine cB Tryz.func77 rfl (by decide) rL ?_
 dsimp only [Tryz.f77]
 rw [qV] at h0
 refine xS 24 [0, 1, 4] ?_
 obtain ⟨vr3, hvr3, h0⟩ := bA h0
 refine nA 104 [1, 4, 7, 8, 9] (fun | 1 => some (.tup [.agg (dB.enc vr3.1), .int .i64 vr3.2.1, .int .i64 vr3.2.2], []) | _ => none) rfl (fun _ _ => rC (zkw hvr3)) ?_
 refine iA ?_
 refine xS 120 [1, 4, 7, 8, 9, 17] ?_
 refine xI h0 rfl (fun h0 hb4 => ?_) (fun h0 hb4 => ?_)
 ·
  refine xS 168 [4, 5, 6] ?_
  refine kA (mA ?_)
  obtain rfl := oI h0
  exact lA [] rG
 refine oA (dA ?_)
 obtain ⟨vr5, hvr5, h0⟩ := bA h0
 refine pC 176 [4, 5, 6] (fun | 2 => some (.agg (jB.enc vr5), []) | _ => none) rfl rfl rfl (fun _ _ => aO (zbP hvr5)) ?_
 refine kA ?_
 obtain rfl := oI h0
 exact lA [] rG
theorem zlR {fu : Nat} {l1 : iB} {level2 : Int} {bottom3 : Bool} {r : fB} (h0 : jX fu l1 level2 bottom3 = some r) : yA Tryz.prog 46 [.agg (iB.enc l1), .int .i64 level2, .bool bottom3] (.agg (fB.enc r)) [] := by
 refine cB Tryz.func46 rfl (by decide) rL ?_
 dsimp only [Tryz.f46]
 rw [jX] at h0
 refine xS 16 [1, 2, 3, 6] ?_
 obtain ⟨vr4, hvr4, h0⟩ := bA h0
 refine nA 48 [1, 2, 6, 7] (fun | 2 => some (.psl 2 (vr4.map kB.enc), []) | _ => none) rfl (fun _ _ => rC (zj4 hvr4)) ?_
 obtain ⟨e5, he5, h0⟩ := bA h0
 have he5b := (wA he5).2.1
 have he5c := (cG 1 he5 rfl).1
 have he5a := (cG 1 he5 rfl).2
 obtain ⟨e6, he6, h0⟩ := bA h0
 have he6b := (wA he6).2.1
 have he6c := (cG 0 he6 rfl).1
 have he6a := (cG 0 he6 rfl).2
 obtain ⟨vr7, hvr7, h0⟩ := bA h0
 refine pC 200 [1, 6, 8] (fun | 10 => some (.tup [.agg (lB.enc vr7.1), .int .i64 vr7.2.1, .int .i64 vr7.2.2], []) | _ => none) rfl rfl rfl (fun _ _ => pP (rA he5a (rA he5b (rA he5c (rA he6a (rA he6b he6c))))) (zlf hvr7)) ?_
 refine xE ⟨[(1, .int .i64 level2), (6, .ref 8 0 0 0), (8, .ref 168 0 0 0)], [(8, ⟨0, true, true, 11, [[.int .i64 0, .nils, .nils, .nils, .nils, .int .i64 0, .bool false, .str [], .bool false, .nils, .int .i64 0]]⟩), (168, ⟨0, true, true, 10, [[.psl 1 (List.map (sA 4 aA.enc) vr7.1.Merge.Runs), .psl 1 (List.map (fA .i64) vr7.1.Merge.At), .psl 2 (List.map eA.enc vr7.1.Merge.Tree.Keys), .psl 1 (List.map (fA .i64) vr7.1.Merge.Tree.Lose), .int .i64 vr7.1.Merge.Tree.Win, .bool vr7.1.Shadow.Some, .str vr7.1.Shadow.Last, .bool vr7.1.Shadow.Bottom, .psl 4 (List.map aA.enc vr7.1.Out), .int .i64 vr7.1.Steps]]⟩)], 200, []⟩ ?_
 refine nA 232 [6] (fun _ => none) rfl (fun _ _ => rS (rA he5a (rA he5b (rA he5c (rA he6a (rA he6b he6c)))))) ?_
 refine kA ?_
 obtain rfl := oI h0
 refine lA [] ?_
 exact rJ (rA he5a (rA he5b (rA he5c (rA he6a (rA he6b he6c)))))
end Go.T
end
