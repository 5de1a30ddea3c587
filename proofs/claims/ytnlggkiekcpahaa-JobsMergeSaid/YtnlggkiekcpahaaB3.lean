/- However the steps of a job are cut, its output is what the merge of both runs leaves, of levels that are not long and at most 70 cuts; no other condition. -/
import Derived.Test.YtnlggkiekcpahaaBGt
import Derived.Test.YtnlggkiekcpahaaB2
set_option linter.unusedSimpArgs false
set_option linter.unusedVariables false
section
namespace Go.T
open Go Go.AM Go.Proofs
set_option maxRecDepth 100000
set_option maxHeartbeats 4000000
set_option linter.unusedVariables false
theorem zbV {fu : Nat} {t1 : cB} {k2 : cA} {r : cB × Int × Int} (h0 : eM fu t1 k2 = some r) : jB Try.prog 100 [.agg (cB.enc t1), .agg (cA.enc k2)] (.tup [.agg (cB.enc r.1), .int .i64 r.2.1, .int .i64 r.2.2]) [] := by
 refine tB Try.func100 rfl (by decide) rL ?_
 dsimp only [Try.f100]
 rw [eM] at h0
 refine (show pA _ _ _ _ ⟨iB 0 _, [], 0, []⟩ from ?_)
 refine xS 40 [2, 3, 4, 5] ?_
 refine zgF (kA ?_)
 obtain ⟨vr3, hvr3, h0⟩ := fA h0
 refine nA 64 [2, 3, 4, 5, 7] (fun | 1 => some (.int .i64 vr3, []) | _ => none) rfl (fun _ _ => rC (zew hvr3)) ?_
 refine xS 80 [2, 3, 4, 5, 7, 14] ?_
 refine xI h0 rfl (fun h0 hb4 => ?_) (fun h0 hb4 => ?_)
 ·
  refine xS 120 [4, 5, 6] ?_
  refine jA (oA (iX ?_))
  obtain rfl := Option.some.inj h0
  refine mA [] ?_
  exact rG
 ·
  refine qA (iA (kA ?_))
  obtain ⟨vr5, hvr5, h0⟩ := fA h0
  refine nA 112 [2, 3, 4, 5, 8] (fun | 2 => some (.int .i64 vr5, []) | _ => none) rfl (fun _ _ => rC (sW hvr5)) ?_
  refine xE ⟨[(2, .ref 0 0 0 0), (3, .ref 8 0 0 0), (4, .ref 16 0 0 0), (5, .int .i64 0), (8, .int .i64 vr5)], [(0, ⟨0, true, true, 3, [[.psl 2 (List.map cA.enc t1.Keys), .psl 1 (List.map (dA .i64) t1.Lose), .int .i64 t1.Win]]⟩), (8, ⟨0, true, true, 2, [[.str k2.Key, .bool k2.Done]]⟩), (16, ⟨0, true, true, 3, [[.nils, .nils, .int .i64 0]]⟩), (88, ⟨0, true, true, 2, List.map cA.enc [k2]⟩)], 112, []⟩ ?_
  refine xS 128 [2, 3, 4, 5, 8, 21] ?_
  refine xI h0 rfl (fun h0 hb6 => ?_) (fun h0 hb6 => ?_)
  ·
   refine xS 168 [4, 5, 6] ?_
   refine jA (oA (iX ?_))
   obtain rfl := Option.some.inj h0
   refine mA [] ?_
   exact rG
  ·
   refine qA (iA (kA ?_))
   obtain ⟨b8, hb8, h0⟩ := fA h0
   refine eO (fr' := [(2, .ref 0 0 0 0), (3, .ref 8 0 0 0), (4, .ref 16 0 0 0), (5, .int .i64 0), (38, .bool b8)]) (hp' := [(0, ⟨0, true, true, 3, [[.psl 2 (List.map cA.enc t1.Keys), .psl 1 (List.map (dA .i64) t1.Lose), .int .i64 t1.Win]]⟩), (8, ⟨0, true, true, 2, [[.str k2.Key, .bool k2.Done]]⟩), (16, ⟨0, true, true, 3, [[.nils, .nils, .int .i64 0]]⟩), (88, ⟨0, true, true, 2, List.map cA.enc [k2]⟩)]) [0, 8, 16, 88] 248 [2, 3, 4, 5, 38] (fun _ => none) rfl rfl rfl (fun Kt hK => by
     cases hg9 : (!k2.Done) with
     | false =>
      replace hb8 := vA hb8 hg9
      have hqb8 := Option.some.inj hb8
      subst hqb8
      simp (maxSteps := 1000000) only [↓reduceIte, reduceCtorEq, Nat.reduceEqDiff, Nat.reduceLT, Nat.reduceLeDiff, Nat.reduceAdd, Nat.reduceMul, Int.reduceToNat, push_cast, ↓hg9]
      try simp only [↓hg9] at hK
      all_goals exact tF
     | true =>
      replace hb8 := lB hb8 hg9
      obtain ⟨e7, he7, hb8⟩ := fA hb8
      obtain ⟨he7a, he7b, he7c⟩ := dB he7
      have hqb8 := Option.some.inj hb8
      subst hqb8
      simp (maxSteps := 1000000) only [↓reduceIte, reduceCtorEq, Nat.reduceEqDiff, Nat.reduceLT, Nat.reduceLeDiff, Nat.reduceAdd, Nat.reduceMul, Int.reduceToNat, push_cast, ↓hg9, he7a, he7b, he7c, he7]
      try simp only [↓hg9] at hK
      all_goals exact tF) ?_
   refine xI h0 rfl (fun h0 hb10 => ?_) (fun h0 hb10 => ?_)
   ·
    refine xS 280 [4, 5, 6] ?_
    refine jA (oA (iX ?_))
    obtain rfl := Option.some.inj h0
    refine mA [] ?_
    exact rG
   ·
    refine qA (iA ?_)
    obtain ⟨vr11, hvr11, h0⟩ := fA h0
    obtain ⟨vr12, hvr12, h0⟩ := fA h0
    refine nD 328 [3, 4, 5] (fun | 2 => some (.sl 0 0 2 0 vr11.length, [⟨0, true, true, 2, vr11.map cA.enc⟩]) | 5 => some (.sl 0 0 1 0 vr12.length, [⟨0, true, true, 1, vr12.map (dA .i64)⟩]) | _ => none) rfl rfl rfl (fun Kt hK => by
      try have q0 := zev hvr11
      try have q1 := zde hvr12
      exact dG) ?_
    obtain ⟨e13, he13, h0⟩ := fA h0
    obtain ⟨he13a, he13b, he13c⟩ := dB he13
    refine nA 384 [4, 5] (fun _ => none) rfl (fun _ _ => rS (rA he13a (rA he13b he13c))) ?_
    refine xE ⟨[(4, .ref 16 0 0 0), (5, .int .i64 0)], [(0, ⟨0, true, true, 3, [[.psl 2 (List.map cA.enc t1.Keys), .psl 1 (List.map (dA .i64) t1.Lose), .int .i64 t1.Win]]⟩), (8, ⟨0, true, true, 2, [[.str k2.Key, .bool k2.Done]]⟩), (16, ⟨0, true, false, 3, [[.sl 264 0 2 0 ((vr11.set t1.Win.toNat k2).length), .sl 288 0 1 0 vr12.length, .int .i64 t1.Win]]⟩), (88, ⟨0, true, true, 2, List.map cA.enc [k2]⟩), (264, ⟨0, true, true, 2, List.map cA.enc (vr11.set t1.Win.toNat k2)⟩), (288, ⟨0, true, true, 1, List.map (dA .i64) vr12⟩)], 384, []⟩ ?_
    obtain ⟨vr14, hvr14, h0⟩ := fA h0
    refine nA 416 [4, 5, 9] (fun | 2 => some (.fn 110 [] [.pp [.psl 2 (vr14.map cA.enc)]], []) | _ => none) rfl (fun _ _ => rB (rA he13a (rA he13b he13c)) (za0 hvr14)) ?_
    refine nA 472 [4, 5, 9, 10] (fun _ => none) rfl (fun _ _ => rS (rA he13a (rA he13b he13c))) ?_
    refine kA ?_
    refine zcM ?_
    refine iA ?_
    obtain ⟨x28, hxx28, h0⟩ := fA h0
    refine zd4 (fun s' => ∃ g38 : Nat, s'.nx ≤ 512 ∧ LeN [] s' ⟨[(4, .ref 16 0 0 0), (5, .int .i64 x28.1)], [(0, ⟨0, true, true, 3, [[.psl 2 (List.map cA.enc t1.Keys), .psl 1 (List.map (dA .i64) t1.Lose), .int .i64 t1.Win]]⟩), (8, ⟨0, true, true, 2, [[.str k2.Key, .bool k2.Done]]⟩), (16, ⟨0, true, false, 3, [[.sl 264 0 2 0 ((vr11.set t1.Win.toNat k2).length), .sl 288 g38 1 0 x28.2.2.length, .int .i64 x28.2.1]]⟩), (88, ⟨0, true, true, 2, List.map cA.enc [k2]⟩), (264, ⟨0, false, true, 2, List.map cA.enc (vr11.set t1.Win.toNat k2)⟩), (288, ⟨g38, true, true, 1, List.map (dA .i64) x28.2.2⟩)], 512, []⟩) ?_ ?_
    ·
     intro s' hs
     obtain ⟨g38, hn, hs⟩ := hs
     refine dC [] hn hs ?_
     refine nA 552 [4, 5, 6] (fun _ => none) rfl (fun _ _ => rS (rA he13a (rA he13b he13c))) ?_
     refine jA (iX ?_)
     obtain rfl := Option.some.inj h0
     refine mA [] ?_
     simp (maxSteps := 1000000) only [↓reduceIte, reduceCtorEq, Nat.reduceEqDiff, Nat.reduceLT, Nat.reduceLeDiff, Nat.reduceAdd, Nat.reduceMul, Int.reduceToNat, push_cast, mC, he13a, he13b, he13c]
     all_goals exact rH
    ·
     refine oD (ι := { p : Nat × Int × Int × Int × List Int × Nat // xH vr14 p.1 p.2.1 p.2.2.1 p.2.2.2.1 p.2.2.2.2.1 = some x28 }) (fun p => ⟨[(4, .ref 16 0 0 0), (5, .int .i64 p.1.2.1), (9, .fn 110 [] [.pp [.psl 2 (List.map cA.enc vr14)]]), (10, .int .i64 p.1.2.2.1)], [(0, ⟨0, true, true, 3, [[.psl 2 (List.map cA.enc t1.Keys), .psl 1 (List.map (dA .i64) t1.Lose), .int .i64 t1.Win]]⟩), (8, ⟨0, true, true, 2, [[.str k2.Key, .bool k2.Done]]⟩), (16, ⟨0, true, false, 3, [[.sl 264 0 2 0 ((vr11.set t1.Win.toNat k2).length), .sl 288 p.1.2.2.2.2.2 1 0 p.1.2.2.2.2.1.length, .int .i64 p.1.2.2.2.1]]⟩), (88, ⟨0, true, true, 2, List.map cA.enc [k2]⟩), (264, ⟨0, false, true, 2, List.map cA.enc (vr11.set t1.Win.toNat k2)⟩), (288, ⟨p.1.2.2.2.2.2, true, true, 1, List.map (dA .i64) p.1.2.2.2.2.1⟩)], 472, []⟩) (fun p => p.1.1) ⟨(fu, 0, (IntKind.i64.wrap (((vr11.set t1.Win.toNat k2).length : Int) + t1.Win)), t1.Win, vr12, 0), hxx28⟩ ⟨rF, rE, rfl, rfl, trivial, trivial⟩ (fun _ => Nat.le_refl _) ?_
     rintro ⟨⟨fu, games29, node30, u31, v32, g33⟩, h1⟩
     cases fu with
     | zero =>
   replace h1 : xH vr14 0 games29 node30 u31 v32 = some x28 := h1
   rw [xH] at h1; cases h1
     | succ fu =>
      replace h1 : xH vr14 (fu + 1) games29 node30 u31 v32 = some x28 := h1
      rw [xH] at h1
      refine (show pA _ _ _ _ ⟨[(4, .ref 16 0 0 0), (5, .int .i64 games29), (9, .fn 110 [] [.pp [.psl 2 (List.map cA.enc vr14)]]), (10, .int .i64 node30)], [(0, ⟨0, true, true, 3, [[.psl 2 (List.map cA.enc t1.Keys), .psl 1 (List.map (dA .i64) t1.Lose), .int .i64 t1.Win]]⟩), (8, ⟨0, true, true, 2, [[.str k2.Key, .bool k2.Done]]⟩), (16, ⟨0, true, false, 3, [[.sl 264 0 2 0 ((vr11.set t1.Win.toNat k2).length), .sl 288 g33 1 0 v32.length, .int .i64 u31]]⟩), (88, ⟨0, true, true, 2, List.map cA.enc [k2]⟩), (264, ⟨0, false, true, 2, List.map cA.enc (vr11.set t1.Win.toNat k2)⟩), (288, ⟨g33, true, true, 1, List.map (dA .i64) v32⟩)], 472, []⟩ from ?_)
      refine nC ?_
      refine nA 496 [4, 5, 9, 10] (fun _ => none) rfl (fun _ _ => rS (rA he13a (rA he13b he13c))) ?_
      refine kA ?_
      refine nA 512 [4, 5, 9, 10, 67] (fun _ => none) rfl (fun _ _ => rS (rA he13a (rA he13b he13c))) ?_
      refine xI h1 rfl (fun h1 hb34 => ?_) (fun h1 hb34 => ?_)
      ·
       refine fD (kB (eQ (by decide) (kB (kD ?_))))
       obtain rfl := Option.some.inj h1
       exact ⟨g33, rL, ⟨rF, rE, rfl, rfl, trivial, trivial⟩⟩
      ·
       refine qA (iA ?_)
       refine nA 536 [4, 5, 9, 10] (fun _ => none) rfl (fun _ _ => rS (rA he13a (rA he13b he13c))) ?_
       obtain ⟨e35, he35, h1⟩ := fA h1
       obtain ⟨he35a, he35b, he35c⟩ := dB he35
       obtain ⟨vr36, hvr36, h1⟩ := fA h1
       refine nD 608 [4, 5, 9, 10, 78] (fun | 8 => some (.bool vr36, []) | _ => none) rfl rfl rfl (fun _ _ => rBd (rA he13a (rA he13b (rA he13c (rA he35a (rA he35b he35c))))) (lZ hvr36)) ?_
       refine xI h1 rfl (fun h1 hb37 => ?_) (fun h1 hb37 => ?_)
       ·
        refine zI 720 [4, 5, 9, 10] (fun _ => none) rfl rfl rfl (fun _ _ => jF (rA he13a (rA he13b (rA he13c (rA he35a (rA he35b he35c)))))) ?_
        refine fC (iA ?_)
        exact ⟨⟨(fu, (IntKind.i64.wrap (games29 + 1)), (IntKind.i64.wrap (node30.tdiv 2)), e35, (v32.set ((IntKind.i64.wrap (node30.tdiv 2)).toNat) u31), g33), h1⟩, ⟨rF, rE, rfl, rfl, trivial, trivial⟩, Nat.lt_succ_self _⟩
       ·
        refine qA (fC (iA ?_))
        exact ⟨⟨(fu, (IntKind.i64.wrap (games29 + 1)), (IntKind.i64.wrap (node30.tdiv 2)), u31, v32, g33), h1⟩, ⟨rF, rE, rfl, rfl, trivial, trivial⟩, Nat.lt_succ_self _⟩
theorem zgq {fu : Nat} {runs1 : List (List aA)} {r : List aA × List Int × Int} (h0 : qL fu runs1 = some r) : jB Try.prog 60 [.psl 1 (runs1.map (sA 4 aA.enc))] (.tup [.psl 4 (r.1.map aA.enc), .psl 1 (r.2.1.map (dA .i64)), .int .i64 r.2.2]) [] := by
 refine tB Try.func60 rfl (by decide) rL ?_
 dsimp only [Try.f60]
 rw [qL] at h0
 refine (show pA _ _ _ _ ⟨iB 0 _, [], 0, []⟩ from ?_)
 refine xS 24 [0, 2, 3] ?_
 obtain ⟨vr2, hvr2, h0⟩ := fA h0
 refine nA 104 [2, 3, 4, 5] (fun | 1 => some (.tup [.agg [.psl 1 (List.map (sA 4 aA.enc) vr2.1.Runs), .sl 0 0 1 0 vr2.1.At.length, .psl 2 (List.map cA.enc vr2.1.Tree.Keys), .psl 1 (List.map (dA .i64) vr2.1.Tree.Lose), .int .i64 vr2.1.Tree.Win], .int .i64 vr2.2.1, .int .i64 vr2.2.2], [⟨0, true, true, 1, vr2.1.At.map (dA .i64)⟩]) | _ => none) rfl (fun _ _ => rC (zm9 hvr2)) ?_
 refine kA ?_
 refine xS 120 [2, 3, 4, 5, 17] ?_
 refine xI h0 rfl (fun h0 hb3 => ?_) (fun h0 hb3 => ?_)
 ·
  refine xS 152 [2, 3, 4] ?_
  refine jA (oA ?_)
  obtain rfl := Option.some.inj h0
  refine mA [] ?_
  exact rG
 ·
  refine qA (iA ?_)
  refine xS 152 [2, 3, 4, 7] ?_
  refine kA ?_
  refine sH 2 rfl ?_
  refine kC (l' := List.range' 0 1 ++ (1 :: (List.range' 2 0 ++ []))) rfl ?_
  refine pC 0 1 160 (1 :: (List.range' 2 0 ++ [])) (fun _ => none) rfl rfl rfl (fun _ _ => rT) ?_
  refine dK rfl rfl rfl rfl rfl Try.func83 rfl (by decide) rfl rL ?_
  dsimp only [Try.f83]
  refine xE ⟨[(0, .ref 136 0 0 0)], [(0, ⟨0, true, true, 1, [[.nils]]⟩), (8, ⟨0, true, true, 1, [[.nils]]⟩), (32, ⟨0, true, true, 1, List.map (dA .i64) vr2.1.At⟩), (72, ⟨0, true, false, 5, [[.psl 1 (List.map (sA 4 aA.enc) vr2.1.Runs), .sl 32 0 1 0 vr2.1.At.length, .psl 2 (List.map cA.enc vr2.1.Tree.Keys), .psl 1 (List.map (dA .i64) vr2.1.Tree.Lose), .int .i64 vr2.1.Tree.Win]]⟩), (136, ⟨0, true, false, 5, [[.psl 1 (List.map (sA 4 aA.enc) vr2.1.Runs), .sl 32 0 1 0 vr2.1.At.length, .psl 2 (List.map cA.enc vr2.1.Tree.Keys), .psl 1 (List.map (dA .i64) vr2.1.Tree.Lose), .int .i64 vr2.1.Tree.Win]]⟩)], 160, []⟩ ?_
  refine xS 176 [1] ?_
  refine xS 192 [2] ?_
  refine jA ?_
  refine qE (fun _ _ => rT) ?_
  refine xF ⟨[(2, .ref 0 0 0 0), (3, .ref 8 0 0 0), (4, .int .i64 vr2.2.2), (7, .ref 136 0 0 0), (22, .ref 136 0 0 0), (23, .fn 98 [] [.ref 160 0 0 0])], [(0, ⟨0, true, true, 1, [[.nils]]⟩), (8, ⟨0, true, true, 1, [[.nils]]⟩), (32, ⟨0, true, true, 1, List.map (dA .i64) vr2.1.At⟩), (72, ⟨0, true, false, 5, [[.psl 1 (List.map (sA 4 aA.enc) vr2.1.Runs), .sl 32 0 1 0 vr2.1.At.length, .psl 2 (List.map cA.enc vr2.1.Tree.Keys), .psl 1 (List.map (dA .i64) vr2.1.Tree.Lose), .int .i64 vr2.1.Tree.Win]]⟩), (136, ⟨0, true, false, 5, [[.psl 1 (List.map (sA 4 aA.enc) vr2.1.Runs), .sl 32 0 1 0 vr2.1.At.length, .psl 2 (List.map cA.enc vr2.1.Tree.Keys), .psl 1 (List.map (dA .i64) vr2.1.Tree.Lose), .int .i64 vr2.1.Tree.Win]]⟩), (160, ⟨0, true, false, 1, [[.ref 136 0 0 0]]⟩)], 192, []⟩ ?_
  refine kC (l' := []) rfl ?_
  refine iD ?_
  refine iA ?_
  refine xE ⟨[(2, .ref 0 0 0 0), (3, .ref 8 0 0 0), (4, .int .i64 vr2.2.2), (23, .fn 98 [] [.ref 160 0 0 0])], [(0, ⟨0, true, true, 1, [[.nils]]⟩), (8, ⟨0, true, true, 1, [[.nils]]⟩), (32, ⟨0, true, true, 1, List.map (dA .i64) vr2.1.At⟩), (72, ⟨0, true, false, 5, [[.psl 1 (List.map (sA 4 aA.enc) vr2.1.Runs), .sl 32 0 1 0 vr2.1.At.length, .psl 2 (List.map cA.enc vr2.1.Tree.Keys), .psl 1 (List.map (dA .i64) vr2.1.Tree.Lose), .int .i64 vr2.1.Tree.Win]]⟩), (136, ⟨0, true, false, 5, [[.psl 1 (List.map (sA 4 aA.enc) vr2.1.Runs), .sl 32 0 1 0 vr2.1.At.length, .psl 2 (List.map cA.enc vr2.1.Tree.Keys), .psl 1 (List.map (dA .i64) vr2.1.Tree.Lose), .int .i64 vr2.1.Tree.Win]]⟩), (160, ⟨0, true, false, 1, [[.ref 136 0 0 0]]⟩)], 192, []⟩ ?_
  refine nC ?_
  refine vZ rfl Try.func98 rfl (by decide) rL ?_
  intro RC4 hRC4
  have stRC4 : RC4.st = .ready ∧ RC4.pend = none := by rw [hRC4]; exact ⟨rfl, rfl⟩
  have okRC4 : bY 192 RC4 := by rw [hRC4]; exact And.intro (rR) rfl
  dsimp only [Try.f98]
  refine dC (s2 := ⟨[(0, .yld 192), (1, .ref 160 0 0 0)], [(0, ⟨0, true, true, 1, [[.nils]]⟩), (8, ⟨0, true, true, 1, [[.nils]]⟩), (32, ⟨0, true, true, 1, List.map (dA .i64) vr2.1.At⟩), (72, ⟨0, true, false, 5, [[.psl 1 (List.map (sA 4 aA.enc) vr2.1.Runs), .sl 32 0 1 0 vr2.1.At.length, .psl 2 (List.map cA.enc vr2.1.Tree.Keys), .psl 1 (List.map (dA .i64) vr2.1.Tree.Lose), .int .i64 vr2.1.Tree.Win]]⟩), (136, ⟨0, true, false, 5, [[.psl 1 (List.map (sA 4 aA.enc) vr2.1.Runs), .sl 32 0 1 0 vr2.1.At.length, .psl 2 (List.map cA.enc vr2.1.Tree.Keys), .psl 1 (List.map (dA .i64) vr2.1.Tree.Lose), .int .i64 vr2.1.Tree.Win]]⟩), (160, ⟨0, true, false, 1, [[.ref 136 0 0 0]]⟩)], 193, [(192, RC4)]⟩) [] rL ⟨rF, rE, rfl, rfl, (gC.consR rL rfl okRC4 rL trivial), trivial⟩ ?_
  refine zaz ?_
  refine dC (s2 := ⟨[(0, .yld 192), (1, .ref 160 0 0 0)], [(0, ⟨0, true, false, 1, [[.sl 193 0 4 0 0]]⟩), (8, ⟨0, true, false, 1, [[.sl 194 0 1 0 0]]⟩), (32, ⟨0, true, true, 1, List.map (dA .i64) vr2.1.At⟩), (72, ⟨0, true, false, 5, [[.psl 1 (List.map (sA 4 aA.enc) vr2.1.Runs), .sl 32 0 1 0 vr2.1.At.length, .psl 2 (List.map cA.enc vr2.1.Tree.Keys), .psl 1 (List.map (dA .i64) vr2.1.Tree.Lose), .int .i64 vr2.1.Tree.Win]]⟩), (136, ⟨0, true, false, 5, [[.psl 1 (List.map (sA 4 aA.enc) vr2.1.Runs), .sl 32 0 1 0 vr2.1.At.length, .psl 2 (List.map cA.enc vr2.1.Tree.Keys), .psl 1 (List.map (dA .i64) vr2.1.Tree.Lose), .int .i64 vr2.1.Tree.Win]]⟩), (160, ⟨0, true, false, 1, [[.ref 136 0 0 0]]⟩), (193, ⟨0, true, true, 4, List.map aA.enc []⟩), (194, ⟨0, true, true, 1, List.map (dA .i64) []⟩)], 195, [(192, RC4)]⟩) [(193, 4), (194, 1)] rL ⟨rF, rE, rfl, rfl, (gC.consR rL rfl okRC4 rL trivial), rN⟩ ?_
  obtain ⟨x37, hxx37, h0⟩ := fA h0
  refine sD (fun _ => False) ?_ ?_
  ·
   intro _ h; exact h.elim
  ·
   refine oD (ι := { p : Nat × List Int × List cA × List Int × Int × List aA × List Int × Nat × Nat × Nat // jI vr2 p.1 p.2.1 p.2.2.1 p.2.2.2.1 p.2.2.2.2.1 p.2.2.2.2.2.1 p.2.2.2.2.2.2.1 = some x37 }) (fun p => ⟨[(0, .yld 192), (1, .ref 160 0 0 0)], [(0, ⟨0, true, false, 1, [[.sl 193 p.1.2.2.2.2.2.2.2.2.1 4 0 p.1.2.2.2.2.2.1.length]]⟩), (8, ⟨0, true, false, 1, [[.sl 194 p.1.2.2.2.2.2.2.2.2.2 1 0 p.1.2.2.2.2.2.2.1.length]]⟩), (32, ⟨p.1.2.2.2.2.2.2.2.1, true, true, 1, List.map (dA .i64) p.1.2.1⟩), (72, ⟨0, true, false, 5, [[.psl 1 (List.map (sA 4 aA.enc) vr2.1.Runs), .sl 32 p.1.2.2.2.2.2.2.2.1 1 0 p.1.2.1.length, .psl 2 (List.map cA.enc vr2.1.Tree.Keys), .psl 1 (List.map (dA .i64) vr2.1.Tree.Lose), .int .i64 vr2.1.Tree.Win]]⟩), (136, ⟨0, true, false, 5, [[.psl 1 (List.map (sA 4 aA.enc) vr2.1.Runs), .sl 32 p.1.2.2.2.2.2.2.2.1 1 0 p.1.2.1.length, .psl 2 (List.map cA.enc p.1.2.2.1), .psl 1 (List.map (dA .i64) p.1.2.2.2.1), .int .i64 p.1.2.2.2.2.1]]⟩), (160, ⟨0, true, false, 1, [[.ref 136 0 0 0]]⟩), (193, ⟨p.1.2.2.2.2.2.2.2.2.1, true, true, 4, List.map aA.enc p.1.2.2.2.2.2.1⟩), (194, ⟨p.1.2.2.2.2.2.2.2.2.2, true, true, 1, List.map (dA .i64) p.1.2.2.2.2.2.2.1⟩)], 195, [(192, RC4)]⟩) (fun p => p.1.1) ⟨(fu, vr2.1.At, vr2.1.Tree.Keys, vr2.1.Tree.Lose, vr2.1.Tree.Win, [], [], 0, 0, 0), hxx37⟩ ⟨rF, rE, rfl, rfl, (gC.consR rL rfl okRC4 rL trivial), trivial⟩ (fun _ => Nat.le_refl _) ?_
   rintro ⟨⟨fu, v38, v39, v40, v41, v42, v43, g44, g45, g46⟩, h1⟩
   cases fu with
   | zero =>
   replace h1 : jI vr2 0 v38 v39 v40 v41 v42 v43 = some x37 := h1
   rw [jI] at h1; cases h1
   | succ fu =>
    replace h1 : jI vr2 (fu + 1) v38 v39 v40 v41 v42 v43 = some x37 := h1
    rw [jI] at h1
    refine (show pA _ _ _ _ ⟨[(0, .yld 192), (1, .ref 160 0 0 0)], [(0, ⟨0, true, false, 1, [[.sl 193 g45 4 0 v42.length]]⟩), (8, ⟨0, true, false, 1, [[.sl 194 g46 1 0 v43.length]]⟩), (32, ⟨g44, true, true, 1, List.map (dA .i64) v38⟩), (72, ⟨0, true, false, 5, [[.psl 1 (List.map (sA 4 aA.enc) vr2.1.Runs), .sl 32 g44 1 0 v38.length, .psl 2 (List.map cA.enc vr2.1.Tree.Keys), .psl 1 (List.map (dA .i64) vr2.1.Tree.Lose), .int .i64 vr2.1.Tree.Win]]⟩), (136, ⟨0, true, false, 5, [[.psl 1 (List.map (sA 4 aA.enc) vr2.1.Runs), .sl 32 g44 1 0 v38.length, .psl 2 (List.map cA.enc v39), .psl 1 (List.map (dA .i64) v40), .int .i64 v41]]⟩), (160, ⟨0, true, false, 1, [[.ref 136 0 0 0]]⟩), (193, ⟨g45, true, true, 4, List.map aA.enc v42⟩), (194, ⟨g46, true, true, 1, List.map (dA .i64) v43⟩)], 195, [(192, RC4)]⟩ from ?_)
    refine nC ?_
    obtain ⟨vr47, hvr47, h1⟩ := fA h1
    refine nA 275 [0, 1, 3, 4, 5] (fun | 1 => some (.tup [.agg (aA.enc vr47.1), .int .i64 vr47.2.1, .int .i64 vr47.2.2], []) | _ => none) rfl (fun _ _ => rC (zc0 hvr47)) ?_
    refine kA ?_
    refine sH 9 rfl ?_
    refine kC (l' := List.range' 0 3 ++ (List.range' 3 6 ++ [])) rfl ?_
    refine pC 0 3 299 (List.range' 3 6 ++ []) (fun _ => none) rfl rfl rfl (fun _ _ => rT) ?_
    refine uJ (s2 := ⟨[(0, .yld 192), (1, .ref 160 0 0 0), (3, .ref 243 0 0 0), (4, .int .i64 vr47.2.1), (5, .int .i64 vr47.2.2), (12, .int .i64 vr47.2.2), (13, .bool (!(decide (vr47.2.2 = 0)))), (14, .bool (!(decide (vr47.2.2 = 0))))], [(0, ⟨0, true, false, 1, [[.sl 193 g45 4 0 v42.length]]⟩), (8, ⟨0, true, false, 1, [[.sl 194 g46 1 0 v43.length]]⟩), (32, ⟨g44, true, true, 1, List.map (dA .i64) v38⟩), (72, ⟨0, true, false, 5, [[.psl 1 (List.map (sA 4 aA.enc) vr2.1.Runs), .sl 32 g44 1 0 v38.length, .psl 2 (List.map cA.enc vr2.1.Tree.Keys), .psl 1 (List.map (dA .i64) vr2.1.Tree.Lose), .int .i64 vr2.1.Tree.Win]]⟩), (136, ⟨0, true, false, 5, [[.psl 1 (List.map (sA 4 aA.enc) vr2.1.Runs), .sl 32 g44 1 0 v38.length, .psl 2 (List.map cA.enc v39), .psl 1 (List.map (dA .i64) v40), .int .i64 v41]]⟩), (160, ⟨0, true, false, 1, [[.ref 136 0 0 0]]⟩), (193, ⟨g45, true, true, 4, List.map aA.enc v42⟩), (194, ⟨g46, true, true, 1, List.map (dA .i64) v43⟩), (243, ⟨0, true, true, 4, [[.str vr47.1.Key, .str vr47.1.Val, .bool vr47.1.Dead, .int .i64 vr47.1.Seq]]⟩)], 299, [(192, RC4)]⟩) [] rL ⟨rF, rE, rfl, rfl, (gC.consR rL rfl okRC4 rL trivial), trivial⟩ ?_
    generalize hg48 : (!(decide (vr47.2.2 = 0))) = b48
    cases b48 with
    | true =>
     replace h1 := lB h1 hg48
     refine kC (l' := List.range' 3 6 ++ []) rfl ?_
     refine pC 3 6 347 [] (fun _ => none) rfl rfl rfl (fun _ _ => rT) ?_
     refine iD ?_
     refine iA ?_
     refine dC (s2 := ⟨[(0, .yld 192), (1, .ref 160 0 0 0), (4, .int .i64 vr47.2.1), (20, .bool true)], [(0, ⟨0, true, false, 1, [[.sl 193 g45 4 0 v42.length]]⟩), (8, ⟨0, true, false, 1, [[.sl 194 g46 1 0 v43.length]]⟩), (32, ⟨g44, true, true, 1, List.map (dA .i64) v38⟩), (72, ⟨0, true, false, 5, [[.psl 1 (List.map (sA 4 aA.enc) vr2.1.Runs), .sl 32 g44 1 0 v38.length, .psl 2 (List.map cA.enc vr2.1.Tree.Keys), .psl 1 (List.map (dA .i64) vr2.1.Tree.Lose), .int .i64 vr2.1.Tree.Win]]⟩), (136, ⟨0, true, false, 5, [[.psl 1 (List.map (sA 4 aA.enc) vr2.1.Runs), .sl 32 g44 1 0 v38.length, .psl 2 (List.map cA.enc v39), .psl 1 (List.map (dA .i64) v40), .int .i64 v41]]⟩), (160, ⟨0, true, false, 1, [[.ref 136 0 0 0]]⟩), (193, ⟨g45, true, true, 4, List.map aA.enc v42⟩), (194, ⟨g46, true, true, 1, List.map (dA .i64) v43⟩), (243, ⟨0, true, true, 4, [[.str vr47.1.Key, .str vr47.1.Val, .bool vr47.1.Dead, .int .i64 vr47.1.Seq]]⟩)], 347, [(192, RC4)]⟩) [] rL ⟨rF, rE, rfl, rfl, (gC.consR rL rfl okRC4 rL trivial), trivial⟩ ?_
     refine aM rfl ?_
     refine jA ?_
     obtain rfl := Option.some.inj h1
     refine oA (oC (oA (zD (zhy ?_))))
     refine qE (fun _ _ => rT) ?_
     refine zbA stRC4 rfl ?_
     refine fC (iA ?_)
     refine xE ⟨[(2, .ref 0 0 0 0), (3, .ref 8 0 0 0), (4, .int .i64 vr2.2.2), (23, .fn 98 [] [.ref 160 0 0 0])], [(0, ⟨0, true, false, 1, [[.sl 193 g45 4 0 v42.length]]⟩), (8, ⟨0, true, false, 1, [[.sl 194 g46 1 0 v43.length]]⟩), (32, ⟨g44, true, true, 1, List.map (dA .i64) v38⟩), (72, ⟨0, true, false, 5, [[.psl 1 (List.map (sA 4 aA.enc) vr2.1.Runs), .sl 32 g44 1 0 v38.length, .psl 2 (List.map cA.enc vr2.1.Tree.Keys), .psl 1 (List.map (dA .i64) vr2.1.Tree.Lose), .int .i64 vr2.1.Tree.Win]]⟩), (136, ⟨0, true, false, 5, [[.psl 1 (List.map (sA 4 aA.enc) vr2.1.Runs), .sl 32 g44 1 0 v38.length, .psl 2 (List.map cA.enc v39), .psl 1 (List.map (dA .i64) v40), .int .i64 v41]]⟩), (160, ⟨0, true, false, 1, [[.ref 136 0 0 0]]⟩), (193, ⟨g45, true, true, 4, List.map aA.enc v42⟩), (194, ⟨g46, true, true, 1, List.map (dA .i64) v43⟩), (243, ⟨0, true, true, 4, [[.str vr47.1.Key, .str vr47.1.Val, .bool vr47.1.Dead, .int .i64 vr47.1.Seq]]⟩)], 347, []⟩ ?_
     refine nD 387 [2, 3, 4] (fun _ => none) rfl rfl rfl (fun _ _ => dG) ?_
     refine jA ?_
     obtain rfl := Option.some.inj h0
     refine mA [] ?_
     exact rG
    | false =>
     replace h1 := vA h1 hg48
     refine kC (l' := List.range' 3 3 ++ (6 :: (List.range' 7 2 ++ []))) rfl ?_
     refine pC 3 3 323 (6 :: (List.range' 7 2 ++ [])) (fun _ => none) rfl rfl rfl (fun _ _ => rT) ?_
     refine zaC hRC4 rfl rfl rfl rfl rfl rfl rfl rfl rfl ?_
     refine dC (s2 := ⟨[(2, .ref 0 0 0 0), (3, .ref 8 0 0 0), (4, .int .i64 vr2.2.2), (23, .fn 98 [] [.ref 160 0 0 0]), (24, .int .i64 vr47.2.1), (25, .agg [.str vr47.1.Key, .str vr47.1.Val, .bool vr47.1.Dead, .int .i64 vr47.1.Seq])], [(0, ⟨0, true, false, 1, [[.sl 193 g45 4 0 v42.length]]⟩), (8, ⟨0, true, false, 1, [[.sl 194 g46 1 0 v43.length]]⟩), (32, ⟨g44, true, true, 1, List.map (dA .i64) v38⟩), (72, ⟨0, true, false, 5, [[.psl 1 (List.map (sA 4 aA.enc) vr2.1.Runs), .sl 32 g44 1 0 v38.length, .psl 2 (List.map cA.enc vr2.1.Tree.Keys), .psl 1 (List.map (dA .i64) vr2.1.Tree.Lose), .int .i64 vr2.1.Tree.Win]]⟩), (136, ⟨0, true, false, 5, [[.psl 1 (List.map (sA 4 aA.enc) vr2.1.Runs), .sl 32 g44 1 0 v38.length, .psl 2 (List.map cA.enc v39), .psl 1 (List.map (dA .i64) v40), .int .i64 v41]]⟩), (160, ⟨0, true, false, 1, [[.ref 136 0 0 0]]⟩), (193, ⟨g45, true, true, 4, List.map aA.enc v42⟩), (194, ⟨g46, true, true, 1, List.map (dA .i64) v43⟩), (243, ⟨0, true, true, 4, [[.str vr47.1.Key, .str vr47.1.Val, .bool vr47.1.Dead, .int .i64 vr47.1.Seq]]⟩)], 323, [(192, RC4)]⟩) [] rL ⟨rF, rE, rfl, rfl, (gC.consR rL rfl okRC4 rL trivial), trivial⟩ ?_
     refine xS 331 [2, 3, 4, 8, 25] ?_
     refine xR 347 [2, 3, 4, 8, 9] ?_
     refine iA ?_
     refine ⟨RC4, rfl, stRC4.1, ?_⟩
     refine dC (s2 := ⟨[(2, .ref 0 0 0 0), (3, .ref 8 0 0 0), (4, .int .i64 vr2.2.2), (8, .int .i64 vr47.2.1), (9, .ref 331 0 0 0)], [(0, ⟨0, true, false, 1, [[.sl 193 g45 4 0 v42.length]]⟩), (8, ⟨0, true, false, 1, [[.sl 194 g46 1 0 v43.length]]⟩), (32, ⟨g44, true, true, 1, List.map (dA .i64) v38⟩), (72, ⟨0, true, false, 5, [[.psl 1 (List.map (sA 4 aA.enc) vr2.1.Runs), .sl 32 g44 1 0 v38.length, .psl 2 (List.map cA.enc vr2.1.Tree.Keys), .psl 1 (List.map (dA .i64) vr2.1.Tree.Lose), .int .i64 vr2.1.Tree.Win]]⟩), (136, ⟨0, true, false, 5, [[.psl 1 (List.map (sA 4 aA.enc) vr2.1.Runs), .sl 32 g44 1 0 v38.length, .psl 2 (List.map cA.enc v39), .psl 1 (List.map (dA .i64) v40), .int .i64 v41]]⟩), (160, ⟨0, true, false, 1, [[.ref 136 0 0 0]]⟩), (193, ⟨g45, true, true, 4, List.map aA.enc v42⟩), (194, ⟨g46, true, true, 1, List.map (dA .i64) v43⟩), (243, ⟨0, true, true, 4, [[.str vr47.1.Key, .str vr47.1.Val, .bool vr47.1.Dead, .int .i64 vr47.1.Seq]]⟩), (331, ⟨0, true, true, 4, [[.str vr47.1.Key, .str vr47.1.Val, .bool vr47.1.Dead, .int .i64 vr47.1.Seq]]⟩)], 347, [(192, { RC4 with st := .busy, pend := RC4.pend })]⟩) [] rL ⟨rF, rE, rfl, rfl, (gC.consR rL rfl okRC4 rL trivial), trivial⟩ ?_
     refine nC ?_
     obtain ⟨hc49, h1⟩ := pE h1
     obtain ⟨hc50, h1⟩ := pE h1
     refine zI 427 [2, 3, 4] (fun _ => none) rfl rfl rfl (fun _ _ => dG) ?_
     refine fC ?_
     refine zbk stRC4 rfl ?_
     refine uJ (s2 := ⟨[(0, .yld 192), (1, .ref 160 0 0 0), (3, .ref 243 0 0 0), (4, .int .i64 vr47.2.1), (5, .int .i64 vr47.2.2), (12, .int .i64 vr47.2.2), (13, .bool false), (14, .bool false), (15, .yld 192), (16, .int .i64 vr47.2.1), (17, .agg [.str vr47.1.Key, .str vr47.1.Val, .bool vr47.1.Dead, .int .i64 vr47.1.Seq]), (18, .bool true)], [(0, ⟨0, true, false, 1, [[.sl 193 (g45 + 1) 4 0 ((v42 ++ [vr47.1]).length)]]⟩), (8, ⟨0, true, false, 1, [[.sl 194 (g46 + 1) 1 0 ((v43 ++ [vr47.2.1]).length)]]⟩), (32, ⟨g44, true, true, 1, List.map (dA .i64) v38⟩), (72, ⟨0, true, false, 5, [[.psl 1 (List.map (sA 4 aA.enc) vr2.1.Runs), .sl 32 g44 1 0 v38.length, .psl 2 (List.map cA.enc vr2.1.Tree.Keys), .psl 1 (List.map (dA .i64) vr2.1.Tree.Lose), .int .i64 vr2.1.Tree.Win]]⟩), (136, ⟨0, true, false, 5, [[.psl 1 (List.map (sA 4 aA.enc) vr2.1.Runs), .sl 32 g44 1 0 v38.length, .psl 2 (List.map cA.enc v39), .psl 1 (List.map (dA .i64) v40), .int .i64 v41]]⟩), (160, ⟨0, true, false, 1, [[.ref 136 0 0 0]]⟩), (193, ⟨(g45 + 1), true, true, 4, List.map aA.enc (v42 ++ [vr47.1])⟩), (194, ⟨(g46 + 1), true, true, 1, List.map (dA .i64) (v43 ++ [vr47.2.1])⟩), (243, ⟨0, true, true, 4, [[.str vr47.1.Key, .str vr47.1.Val, .bool vr47.1.Dead, .int .i64 vr47.1.Seq]]⟩), (331, ⟨0, true, true, 4, [[.str vr47.1.Key, .str vr47.1.Val, .bool vr47.1.Dead, .int .i64 vr47.1.Seq]]⟩), (363, ⟨0, true, true, 4, List.map aA.enc [vr47.1]⟩), (395, ⟨0, true, true, 1, List.map (dA .i64) [vr47.2.1]⟩)], 427, [(192, RC4)]⟩) [] rL ⟨rF, rE, rfl, rfl, (gC.consR rL rfl okRC4 rL trivial), trivial⟩ ?_
     refine kC (l' := List.range' 7 2 ++ []) rfl ?_
     refine pC 7 2 443 [] (fun _ => none) rfl rfl rfl (fun _ _ => rT) ?_
     refine iD ?_
     refine iA ?_
     refine dC (s2 := ⟨[(0, .yld 192), (1, .ref 160 0 0 0), (4, .int .i64 vr47.2.1), (15, .yld 192), (16, .int .i64 vr47.2.1), (17, .agg [.str vr47.1.Key, .str vr47.1.Val, .bool vr47.1.Dead, .int .i64 vr47.1.Seq]), (18, .bool true), (19, .bool false), (20, .bool false)], [(0, ⟨0, true, false, 1, [[.sl 193 (g45 + 1) 4 0 ((v42 ++ [vr47.1]).length)]]⟩), (8, ⟨0, true, false, 1, [[.sl 194 (g46 + 1) 1 0 ((v43 ++ [vr47.2.1]).length)]]⟩), (32, ⟨g44, true, true, 1, List.map (dA .i64) v38⟩), (72, ⟨0, true, false, 5, [[.psl 1 (List.map (sA 4 aA.enc) vr2.1.Runs), .sl 32 g44 1 0 v38.length, .psl 2 (List.map cA.enc vr2.1.Tree.Keys), .psl 1 (List.map (dA .i64) vr2.1.Tree.Lose), .int .i64 vr2.1.Tree.Win]]⟩), (136, ⟨0, true, false, 5, [[.psl 1 (List.map (sA 4 aA.enc) vr2.1.Runs), .sl 32 g44 1 0 v38.length, .psl 2 (List.map cA.enc v39), .psl 1 (List.map (dA .i64) v40), .int .i64 v41]]⟩), (160, ⟨0, true, false, 1, [[.ref 136 0 0 0]]⟩), (193, ⟨(g45 + 1), true, true, 4, List.map aA.enc (v42 ++ [vr47.1])⟩), (194, ⟨(g46 + 1), true, true, 1, List.map (dA .i64) (v43 ++ [vr47.2.1])⟩), (243, ⟨0, true, true, 4, [[.str vr47.1.Key, .str vr47.1.Val, .bool vr47.1.Dead, .int .i64 vr47.1.Seq]]⟩), (331, ⟨0, true, true, 4, [[.str vr47.1.Key, .str vr47.1.Val, .bool vr47.1.Dead, .int .i64 vr47.1.Seq]]⟩), (363, ⟨0, true, true, 4, List.map aA.enc [vr47.1]⟩), (395, ⟨0, true, true, 1, List.map (dA .i64) [vr47.2.1]⟩)], 443, [(192, RC4)]⟩) [] rL ⟨rF, rE, rfl, rfl, (gC.consR rL rfl okRC4 rL trivial), trivial⟩ ?_
     refine bG rfl ?_
     refine qA (iA ?_)
     refine uU 3 rfl ?_
     refine kC (l' := List.range' 0 2 ++ (2 :: (List.range' 3 0 ++ []))) rfl ?_
     refine pC 0 2 459 (2 :: (List.range' 3 0 ++ [])) (fun _ => none) rfl rfl rfl (fun _ _ => rT) ?_
     refine dK rfl rfl rfl rfl rfl Try.func90 rfl (by decide) rfl rL ?_
     dsimp only [Try.f90]
     refine dC (s2 := ⟨[(0, .ref 136 0 0 0), (1, .int .i64 vr47.2.1)], [(0, ⟨0, true, false, 1, [[.sl 193 (g45 + 1) 4 0 ((v42 ++ [vr47.1]).length)]]⟩), (8, ⟨0, true, false, 1, [[.sl 194 (g46 + 1) 1 0 ((v43 ++ [vr47.2.1]).length)]]⟩), (32, ⟨g44, true, true, 1, List.map (dA .i64) v38⟩), (72, ⟨0, true, false, 5, [[.psl 1 (List.map (sA 4 aA.enc) vr2.1.Runs), .sl 32 g44 1 0 v38.length, .psl 2 (List.map cA.enc vr2.1.Tree.Keys), .psl 1 (List.map (dA .i64) vr2.1.Tree.Lose), .int .i64 vr2.1.Tree.Win]]⟩), (136, ⟨0, true, false, 5, [[.psl 1 (List.map (sA 4 aA.enc) vr2.1.Runs), .sl 32 g44 1 0 v38.length, .psl 2 (List.map cA.enc v39), .psl 1 (List.map (dA .i64) v40), .int .i64 v41]]⟩), (160, ⟨0, true, false, 1, [[.ref 136 0 0 0]]⟩), (193, ⟨(g45 + 1), true, true, 4, List.map aA.enc (v42 ++ [vr47.1])⟩), (194, ⟨(g46 + 1), true, true, 1, List.map (dA .i64) (v43 ++ [vr47.2.1])⟩), (243, ⟨0, true, true, 4, [[.str vr47.1.Key, .str vr47.1.Val, .bool vr47.1.Dead, .int .i64 vr47.1.Seq]]⟩), (331, ⟨0, true, true, 4, [[.str vr47.1.Key, .str vr47.1.Val, .bool vr47.1.Dead, .int .i64 vr47.1.Seq]]⟩), (363, ⟨0, true, true, 4, List.map aA.enc [vr47.1]⟩), (395, ⟨0, true, true, 1, List.map (dA .i64) [vr47.2.1]⟩)], 459, [(192, RC4)]⟩) [] rL ⟨rF, rE, rfl, rfl, (gC.consR rL rfl okRC4 rL trivial), trivial⟩ ?_
     obtain ⟨e51, he51, h1⟩ := fA h1
     obtain ⟨he51a, he51b, he51c⟩ := dB he51
     refine nA 547 [0, 1] (fun _ => none) rfl (fun _ _ => rS (rA he51a (rA he51b he51c))) ?_
     refine dC (s2 := ⟨[(0, .ref 136 0 0 0), (1, .int .i64 vr47.2.1)], [(0, ⟨0, true, false, 1, [[.sl 193 (g45 + 1) 4 0 ((v42 ++ [vr47.1]).length)]]⟩), (8, ⟨0, true, false, 1, [[.sl 194 (g46 + 1) 1 0 ((v43 ++ [vr47.2.1]).length)]]⟩), (32, ⟨g44, true, true, 1, List.map (dA .i64) (v38.set vr47.2.1.toNat (IntKind.i64.wrap (e51 + 1)))⟩), (72, ⟨0, true, false, 5, [[.psl 1 (List.map (sA 4 aA.enc) vr2.1.Runs), .sl 32 g44 1 0 ((v38.set vr47.2.1.toNat (IntKind.i64.wrap (e51 + 1))).length), .psl 2 (List.map cA.enc vr2.1.Tree.Keys), .psl 1 (List.map (dA .i64) vr2.1.Tree.Lose), .int .i64 vr2.1.Tree.Win]]⟩), (136, ⟨0, true, false, 5, [[.psl 1 (List.map (sA 4 aA.enc) vr2.1.Runs), .sl 32 g44 1 0 ((v38.set vr47.2.1.toNat (IntKind.i64.wrap (e51 + 1))).length), .psl 2 (List.map cA.enc v39), .psl 1 (List.map (dA .i64) v40), .int .i64 v41]]⟩), (160, ⟨0, true, false, 1, [[.ref 136 0 0 0]]⟩), (193, ⟨(g45 + 1), true, true, 4, List.map aA.enc (v42 ++ [vr47.1])⟩), (194, ⟨(g46 + 1), true, true, 1, List.map (dA .i64) (v43 ++ [vr47.2.1])⟩), (243, ⟨0, true, true, 4, [[.str vr47.1.Key, .str vr47.1.Val, .bool vr47.1.Dead, .int .i64 vr47.1.Seq]]⟩), (331, ⟨0, true, true, 4, [[.str vr47.1.Key, .str vr47.1.Val, .bool vr47.1.Dead, .int .i64 vr47.1.Seq]]⟩), (363, ⟨0, true, true, 4, List.map aA.enc [vr47.1]⟩), (395, ⟨0, true, true, 1, List.map (dA .i64) [vr47.2.1]⟩)], 547, [(192, RC4)]⟩) [] rL ⟨rF, rE, rfl, rfl, (gC.consR rL rfl okRC4 rL trivial), trivial⟩ ?_
     obtain ⟨e52, he52, h1⟩ := fA h1
     obtain ⟨he52a, he52b, he52c⟩ := dB he52
     obtain ⟨e53, he53, h1⟩ := fA h1
     obtain ⟨he53a, he53b, he53c⟩ := dB he53
     obtain ⟨vr54, hvr54, h1⟩ := fA h1
     obtain ⟨vr55, hvr55, h1⟩ := fA h1
     refine zI 803 [] (fun | 22 => some (.agg (cA.enc vr54), []) | 23 => some (.tup [.agg (cB.enc vr55.1), .int .i64 vr55.2.1, .int .i64 vr55.2.2], []) | _ => none) rfl rfl rfl (fun Kt hK => by
       try have q0 := yX hvr54
       try have q1 := zbV hvr55
       exact jF (rA he51a (rA he51b (rA he51c (rA he52a (rA he52b (rA he52c (rA he53a (rA he53b he53c))))))))) ?_
     refine wR (fun _ _ => rS (rA he51a (rA he51b (rA he51c (rA he52a (rA he52b (rA he52c (rA he53a (rA he53b he53c))))))))) ?_
     refine uJ (s2 := ⟨[(0, .yld 192), (1, .ref 160 0 0 0), (4, .int .i64 vr47.2.1), (15, .yld 192), (16, .int .i64 vr47.2.1), (17, .agg [.str vr47.1.Key, .str vr47.1.Val, .bool vr47.1.Dead, .int .i64 vr47.1.Seq]), (18, .bool true), (19, .bool false), (20, .bool false), (21, .ref 136 0 0 0), (22, .int .i64 vr47.2.1), (23, .tup [])], [(0, ⟨0, true, false, 1, [[.sl 193 (g45 + 1) 4 0 ((v42 ++ [vr47.1]).length)]]⟩), (8, ⟨0, true, false, 1, [[.sl 194 (g46 + 1) 1 0 ((v43 ++ [vr47.2.1]).length)]]⟩), (32, ⟨g44, true, true, 1, List.map (dA .i64) (v38.set vr47.2.1.toNat (IntKind.i64.wrap (e51 + 1)))⟩), (72, ⟨0, true, false, 5, [[.psl 1 (List.map (sA 4 aA.enc) vr2.1.Runs), .sl 32 g44 1 0 ((v38.set vr47.2.1.toNat (IntKind.i64.wrap (e51 + 1))).length), .psl 2 (List.map cA.enc vr2.1.Tree.Keys), .psl 1 (List.map (dA .i64) vr2.1.Tree.Lose), .int .i64 vr2.1.Tree.Win]]⟩), (136, ⟨0, true, false, 5, [[.psl 1 (List.map (sA 4 aA.enc) vr2.1.Runs), .sl 32 g44 1 0 ((v38.set vr47.2.1.toNat (IntKind.i64.wrap (e51 + 1))).length), .psl 2 (List.map cA.enc vr55.1.Keys), .psl 1 (List.map (dA .i64) vr55.1.Lose), .int .i64 vr55.1.Win]]⟩), (160, ⟨0, true, false, 1, [[.ref 136 0 0 0]]⟩), (193, ⟨(g45 + 1), true, true, 4, List.map aA.enc (v42 ++ [vr47.1])⟩), (194, ⟨(g46 + 1), true, true, 1, List.map (dA .i64) (v43 ++ [vr47.2.1])⟩), (243, ⟨0, true, true, 4, [[.str vr47.1.Key, .str vr47.1.Val, .bool vr47.1.Dead, .int .i64 vr47.1.Seq]]⟩), (331, ⟨0, true, true, 4, [[.str vr47.1.Key, .str vr47.1.Val, .bool vr47.1.Dead, .int .i64 vr47.1.Seq]]⟩), (363, ⟨0, true, true, 4, List.map aA.enc [vr47.1]⟩), (395, ⟨0, true, true, 1, List.map (dA .i64) [vr47.2.1]⟩)], 803, [(192, RC4)]⟩) [] rL ⟨rF, rE, rfl, rfl, (gC.consR rL rfl okRC4 rL trivial), trivial⟩ ?_
     refine kC (l' := []) rfl ?_
     refine iD ?_
     refine fC (iA ?_)
     exact ⟨⟨(fu, (v38.set vr47.2.1.toNat (IntKind.i64.wrap (e51 + 1))), vr55.1.Keys, vr55.1.Lose, vr55.1.Win, (v42 ++ [vr47.1]), (v43 ++ [vr47.2.1]), g44, (g45 + 1), (g46 + 1)), h1⟩, ⟨rF, rE, rfl, rfl, (gC.consR rL rfl okRC4 rL trivial), trivial⟩, Nat.lt_succ_self _⟩
theorem zdl {fu : Nat} {vs1 : fB} {r : Int} (h0 : oO fu vs1 = some r) : jB Try.prog 101 [.agg (fB.enc vs1)] (.int .i64 r) [] := by
 refine tB Try.func101 rfl (by decide) rL ?_
 dsimp only [Try.f101]
 rw [oO] at h0
 refine (show pA _ _ _ _ ⟨iB 0 _, [], 0, []⟩ from ?_)
 refine xS 16 [1] ?_
 refine kA ?_
 obtain ⟨vr2, hvr2, h0⟩ := fA h0
 refine nA 48 [1, 3] (fun | 2 => some (.int .i64 vr2, []) | _ => none) rfl (fun _ _ => rC (zaN hvr2)) ?_
 refine xS 64 [1, 3, 8] ?_
 refine xI h0 rfl (fun h0 hb3 => ?_) (fun h0 hb3 => ?_)
 ·
  refine xS 80 [2] ?_
  refine jA (oA ?_)
  obtain rfl := Option.some.inj h0
  refine mA [] ?_
  exact rG
 ·
  refine qA (iA (kA ?_))
  obtain ⟨b4, hb4, h0⟩ := fA h0
  refine eD (fr' := [(17, .bool b4)]) (hp' := [(0, ⟨0, true, true, 3, [[.bool vs1.Some, .str vs1.Last, .bool vs1.Bottom]]⟩)]) [0] 128 [17] (fun _ => none) rfl (fun Kt hK => by
    cases hg5 : (!vs1.Some) with
    | false =>
     replace hb4 := vA hb4 hg5
     have hqb4 := Option.some.inj hb4
     subst hqb4
     simp (maxSteps := 1000000) only [↓reduceIte, reduceCtorEq, Nat.reduceEqDiff, Nat.reduceLT, Nat.reduceLeDiff, Nat.reduceAdd, Nat.reduceMul, Int.reduceToNat, push_cast, ↓hg5]
     try simp only [↓hg5] at hK
     all_goals exact rU
    | true =>
     replace hb4 := lB hb4 hg5
     have hqb4 := Option.some.inj hb4
     subst hqb4
     simp (maxSteps := 1000000) only [↓reduceIte, reduceCtorEq, Nat.reduceEqDiff, Nat.reduceLT, Nat.reduceLeDiff, Nat.reduceAdd, Nat.reduceMul, Int.reduceToNat, push_cast, ↓hg5]
     try simp only [↓hg5] at hK
     all_goals exact rU) ?_
  refine xI h0 rfl (fun h0 hb6 => ?_) (fun h0 hb6 => ?_)
  ·
   refine xS 136 [2] ?_
   refine jA (oA ?_)
   obtain rfl := Option.some.inj h0
   refine mA [] ?_
   exact rG
  ·
   refine qA (iA ?_)
   refine xS 136 [2] ?_
   refine jA ?_
   obtain rfl := Option.some.inj h0
   refine mA [] ?_
   exact rG
theorem zjx {fu : Nat} {vx1 : dF} {r : aA} (h0 : dR fu vx1 = some r) : jB Try.prog 127 [.agg (dF.enc vx1)] (.agg (aA.enc r)) [] := by
 refine tB Try.func127 rfl (by decide) rL ?_
 dsimp only [Try.f127]
 rw [dR] at h0
 refine (show pA _ _ _ _ ⟨iB 0 _, [], 0, []⟩ from ?_)
 refine xS 16 [1, 2] ?_
 refine xS 32 [2] ?_
 refine jA ?_
 obtain rfl := Option.some.inj h0
 refine mA [] ?_
 exact rG
theorem ziS {fu : Nat} {l1 : List aA} {bottom2 : Bool} {r : List aA × Int × Int} (h0 : bQ fu l1 bottom2 = some r) : jB Try.prog 61 [.psl 4 (l1.map aA.enc), .bool bottom2] (.tup [.psl 4 (r.1.map aA.enc), .int .i64 r.2.1, .int .i64 r.2.2]) [] := by
 refine tB Try.func61 rfl (by decide) rL ?_
 dsimp only [Try.f61]
 rw [bQ] at h0
 refine (show pA _ _ _ _ ⟨iB 0 _, [], 0, []⟩ from ?_)
 refine xS 24 [0, 1, 4] ?_
 refine sH 9 rfl ?_
 refine kC (l' := List.range' 0 3 ++ (3 :: (List.range' 4 5 ++ []))) rfl ?_
 refine pC 0 3 48 (3 :: (List.range' 4 5 ++ [])) (fun _ => none) rfl rfl rfl (fun _ _ => rT) ?_
 refine dK rfl rfl rfl rfl rfl Try.func84 rfl (by decide) rfl rL ?_
 dsimp only [Try.f84]
 refine xE ⟨[(0, .psl 4 (List.map aA.enc l1)), (1, .bool bottom2), (2, .fn 85 [] [.ref 0 0 0 0])], [(0, ⟨0, true, true, 1, [[.nils]]⟩)], 48, []⟩ ?_
 refine xS 64 [0, 1, 2] ?_
 refine kA ?_
 refine xS 88 [0, 1, 2, 16] ?_
 refine xI h0 rfl (fun h0 hb3 => ?_) (fun h0 hb3 => ?_)
 ·
  refine xS 104 [6, 7] ?_
  refine jA (oA ?_)
  refine qE (fun _ _ => rT) ?_
  refine xF ⟨[(0, .psl 4 (List.map aA.enc l1)), (1, .bool bottom2), (4, .ref 0 0 0 0), (8, .psl 4 (List.map aA.enc l1)), (9, .bool bottom2), (10, .fn 85 [] [.ref 0 0 0 0]), (11, .tup [.int .i64 (-1), .int .i64 3])], [(0, ⟨0, true, true, 1, [[.nils]]⟩)], 104, []⟩ ?_
  refine kC (l' := List.range' 4 5 ++ []) rfl ?_
  refine pC 4 5 144 [] (fun _ => none) rfl rfl rfl (fun _ _ => rT) ?_
  refine iD ?_
  refine iA ?_
  refine xE ⟨[(4, .ref 0 0 0 0), (5, .int .i64 (-1)), (6, .int .i64 3)], [(0, ⟨0, true, true, 1, [[.nils]]⟩)], 144, []⟩ ?_
  refine kA ?_
  refine xS 160 [4, 5, 6, 15] ?_
  refine aM rfl ?_
  refine xS 200 [4, 5, 6] ?_
  refine jA (oA ?_)
  obtain rfl := Option.some.inj h0
  refine mA [] ?_
  exact rG
 ·
  refine qA (iA ?_)
  obtain ⟨vr4, hvr4, h0⟩ := fA h0
  refine nA 120 [0, 2, 8] (fun | 1 => some (.agg (fB.enc vr4), []) | _ => none) rfl (fun _ _ => rC (wY hvr4)) ?_
  refine kA ?_
  refine xS 144 [2, 8, 19, 20, 21] ?_
  refine dC (s2 := ⟨[(2, .fn 85 [] [.ref 0 0 0 0]), (8, .ref 104 0 0 0), (19, .psl 4 (List.map aA.enc l1)), (20, .int .i64 (l1.length : Int)), (21, .int .i64 0)], [(0, ⟨0, true, false, 1, [[.sl 144 0 4 0 0]]⟩), (104, ⟨0, true, true, 3, [[.bool vr4.Some, .str vr4.Last, .bool vr4.Bottom]]⟩), (144, ⟨0, true, true, 4, List.map aA.enc []⟩)], 145, []⟩) [(144, 4)] rL ⟨rF, rE, rfl, rfl, trivial, rN⟩ ?_
  obtain ⟨x59, hxx59, h0⟩ := fA h0
  refine sD (fun s' => ∃ o82 : Bool × List UInt8 × List aA, ∃ g83 : Nat, x59 = .inl o82 ∧ s'.nx ≤ 153 ∧ LeN [] s' ⟨[], [(0, ⟨0, true, false, 1, [[.sl 144 g83 4 0 o82.2.2.length]]⟩), (104, ⟨0, true, true, 3, [[.bool o82.1, .str o82.2.1, .bool vr4.Bottom]]⟩), (144, ⟨g83, true, true, 4, List.map aA.enc o82.2.2⟩)], 153, []⟩) ?_ ?_
  ·
   intro s' hs
   obtain ⟨o82, g83, rfl, hn, hs⟩ := hs
   refine iA ?_
   refine dC [] hn hs ?_
   refine xS 169 [6, 7] ?_
   refine jA ?_
   refine qE (fun _ _ => rT) ?_
   refine xF ⟨[(0, .psl 4 (List.map aA.enc l1)), (1, .bool bottom2), (4, .ref 0 0 0 0), (8, .psl 4 (List.map aA.enc l1)), (9, .bool bottom2), (10, .fn 85 [] [.ref 0 0 0 0]), (11, .tup [.int .i64 0, .int .i64 0])], [(0, ⟨0, true, false, 1, [[.sl 144 g83 4 0 o82.2.2.length]]⟩), (144, ⟨g83, true, true, 4, List.map aA.enc o82.2.2⟩)], 169, []⟩ ?_
   refine kC (l' := List.range' 4 5 ++ []) rfl ?_
   refine pC 4 5 209 [] (fun _ => none) rfl rfl rfl (fun _ _ => rT) ?_
   refine iD ?_
   refine iA ?_
   refine xE ⟨[(4, .ref 0 0 0 0), (5, .int .i64 0), (6, .int .i64 0)], [(0, ⟨0, true, false, 1, [[.sl 144 g83 4 0 o82.2.2.length]]⟩), (144, ⟨g83, true, true, 4, List.map aA.enc o82.2.2⟩)], 209, []⟩ ?_
   refine kA ?_
   refine xS 225 [4, 5, 6, 15] ?_
   refine bG rfl ?_
   refine qA (iA ?_)
   refine xS 257 [4, 5, 6] ?_
   refine jA ?_
   obtain rfl := Option.some.inj h0
   refine mA [] ?_
   exact rG
  ·
   refine oD (ι := { p : Nat × Int × Bool × List UInt8 × List aA × Nat // fH l1 vr4 p.1 p.2.1 p.2.2.1 p.2.2.2.1 p.2.2.2.2.1 = some x59 }) (fun p => ⟨[(2, .fn 85 [] [.ref 0 0 0 0]), (8, .ref 104 0 0 0), (19, .psl 4 (List.map aA.enc l1)), (20, .int .i64 (l1.length : Int)), (21, .int .i64 p.1.2.1)], [(0, ⟨0, true, false, 1, [[.sl 144 p.1.2.2.2.2.2 4 0 p.1.2.2.2.2.1.length]]⟩), (104, ⟨0, true, true, 3, [[.bool p.1.2.2.1, .str p.1.2.2.2.1, .bool vr4.Bottom]]⟩), (144, ⟨p.1.2.2.2.2.2, true, true, 4, List.map aA.enc p.1.2.2.2.2.1⟩)], 145, []⟩) (fun p => p.1.1) ⟨(fu, 0, vr4.Some, vr4.Last, [], 0), hxx59⟩ ⟨rF, rE, rfl, rfl, trivial, trivial⟩ (fun _ => Nat.le_refl _) ?_
   rintro ⟨⟨fu, v60, v61, v62, v63, g64⟩, h1⟩
   cases fu with
   | zero =>
   replace h1 : fH l1 vr4 0 v60 v61 v62 v63 = some x59 := h1
   rw [fH] at h1; cases h1
   | succ fu =>
    replace h1 : fH l1 vr4 (fu + 1) v60 v61 v62 v63 = some x59 := h1
    rw [fH] at h1
    refine (show pA _ _ _ _ ⟨[(2, .fn 85 [] [.ref 0 0 0 0]), (8, .ref 104 0 0 0), (19, .psl 4 (List.map aA.enc l1)), (20, .int .i64 (l1.length : Int)), (21, .int .i64 v60)], [(0, ⟨0, true, false, 1, [[.sl 144 g64 4 0 v63.length]]⟩), (104, ⟨0, true, true, 3, [[.bool v61, .str v62, .bool vr4.Bottom]]⟩), (144, ⟨g64, true, true, 4, List.map aA.enc v63⟩)], 145, []⟩ from ?_)
    refine xS 153 [2, 8, 19, 20, 21, 22] ?_
    refine kA ?_
    refine xI h1 rfl (fun h1 hb65 => ?_) (fun h1 hb65 => ?_)
    ·
     refine qA (iA (kA (nC ?_)))
     obtain ⟨e66, he66, h1⟩ := fA h1
     obtain ⟨he66a, he66b, he66c⟩ := dB he66
     refine nA 201 [2, 8, 9, 10, 19, 20, 21] (fun _ => none) rfl (fun _ _ => rS (rA he66a (rA he66b he66c))) ?_
     refine sH 11 rfl ?_
     refine kC (l' := List.range' 0 2 ++ (2 :: (List.range' 3 8 ++ []))) rfl ?_
     refine pC 0 2 217 (2 :: (List.range' 3 8 ++ [])) (fun _ => none) rfl rfl rfl (fun _ _ => rS (rA he66a (rA he66b he66c))) ?_
     refine dK rfl rfl rfl rfl rfl Try.func91 rfl (by decide) rfl rL ?_
     dsimp only [Try.f91]
     refine xE ⟨[(0, .agg [.bool v61, .str v62, .bool vr4.Bottom]), (1, .agg [.str e66.Key, .str e66.Val, .bool e66.Dead, .int .i64 e66.Seq])], [(0, ⟨0, true, false, 1, [[.sl 144 g64 4 0 v63.length]]⟩), (104, ⟨0, true, true, 3, [[.bool v61, .str v62, .bool vr4.Bottom]]⟩), (144, ⟨g64, true, true, 4, List.map aA.enc v63⟩), (177, ⟨0, true, true, 4, [[.str e66.Key, .str e66.Val, .bool e66.Dead, .int .i64 e66.Seq]]⟩)], 217, []⟩ ?_
     refine nA 257 [2, 3, 5] (fun _ => none) rfl (fun _ _ => rS (rA he66a (rA he66b he66c))) ?_
     refine kA ?_
     obtain ⟨vr67, hvr67, h1⟩ := fA h1
     refine nA 281 [2, 3, 5, 7] (fun | 1 => some (.int .i64 vr67, []) | _ => none) rfl (fun _ _ => rB (rA he66a (rA he66b he66c)) (zdl hvr67)) ?_
     refine nA 297 [2, 3, 5, 7, 13] (fun _ => none) rfl (fun _ _ => rS (rA he66a (rA he66b he66c))) ?_
     refine xI h1 rfl (fun h1 hb68 => ?_) (fun h1 hb68 => ?_)
     ·
      refine nA 337 [4, 5, 6] (fun _ => none) rfl (fun _ _ => rS (rA he66a (rA he66b he66c))) ?_
      refine jA (oA ?_)
      refine qE (fun _ _ => rS (rA he66a (rA he66b he66c))) ?_
      refine xF ⟨[(2, .fn 85 [] [.ref 0 0 0 0]), (8, .ref 104 0 0 0), (9, .int .i64 v60), (10, .ref 177 0 0 0), (19, .psl 4 (List.map aA.enc l1)), (20, .int .i64 (l1.length : Int)), (21, .int .i64 v60), (27, .agg [.bool v61, .str v62, .bool vr4.Bottom]), (28, .agg [.str e66.Key, .str e66.Val, .bool e66.Dead, .int .i64 e66.Seq]), (29, .tup [.nili, .agg [.bool false, .str [], .bool false], .int .i64 vr67])], [(0, ⟨0, true, false, 1, [[.sl 144 g64 4 0 v63.length]]⟩), (104, ⟨0, true, true, 3, [[.bool v61, .str v62, .bool vr4.Bottom]]⟩), (144, ⟨g64, true, true, 4, List.map aA.enc v63⟩), (177, ⟨0, true, true, 4, [[.str e66.Key, .str e66.Val, .bool e66.Dead, .int .i64 e66.Seq]]⟩)], 337, []⟩ ?_
      refine kC (l' := List.range' 3 8 ++ []) rfl ?_
      refine pC 3 8 401 [] (fun _ => none) rfl rfl rfl (fun _ _ => rS (rA he66a (rA he66b he66c))) ?_
      refine iD ?_
      refine iA ?_
      refine xE ⟨[(2, .fn 85 [] [.ref 0 0 0 0]), (8, .ref 104 0 0 0), (9, .int .i64 v60), (11, .nili), (12, .ref 369 0 0 0), (13, .int .i64 vr67), (19, .psl 4 (List.map aA.enc l1)), (20, .int .i64 (l1.length : Int)), (21, .int .i64 v60)], [(0, ⟨0, true, false, 1, [[.sl 144 g64 4 0 v63.length]]⟩), (104, ⟨0, true, true, 3, [[.bool v61, .str v62, .bool vr4.Bottom]]⟩), (144, ⟨g64, true, true, 4, List.map aA.enc v63⟩), (177, ⟨0, true, true, 4, [[.str e66.Key, .str e66.Val, .bool e66.Dead, .int .i64 e66.Seq]]⟩), (369, ⟨0, true, true, 3, [[.bool false, .str [], .bool false]]⟩)], 401, []⟩ ?_
      refine kA ?_
      refine nA 417 [2, 8, 9, 11, 12, 13, 19, 20, 21, 34] (fun _ => none) rfl (fun _ _ => rS (rA he66a (rA he66b he66c))) ?_
      refine vO rfl hb68 ?_
      refine nA 449 [6, 7] (fun _ => none) rfl (fun _ _ => rS (rA he66a (rA he66b he66c))) ?_
      refine jA ?_
      obtain rfl := Option.some.inj h1
      refine oA (oC (oA (oA (zD (oA ?_)))))
      refine qE (fun _ _ => rS (rA he66a (rA he66b he66c))) ?_
      refine xF ⟨[(0, .psl 4 (List.map aA.enc l1)), (1, .bool bottom2), (4, .ref 0 0 0 0), (8, .psl 4 (List.map aA.enc l1)), (9, .bool bottom2), (10, .fn 85 [] [.ref 0 0 0 0]), (11, .tup [.int .i64 v60, .int .i64 vr67])], [(0, ⟨0, true, false, 1, [[.sl 144 g64 4 0 v63.length]]⟩), (144, ⟨g64, true, true, 4, List.map aA.enc v63⟩)], 449, []⟩ ?_
      refine kC (l' := List.range' 4 5 ++ []) rfl ?_
      refine pC 4 5 489 [] (fun _ => none) rfl rfl rfl (fun _ _ => rS (rA he66a (rA he66b he66c))) ?_
      refine iD ?_
      refine iA ?_
      refine xE ⟨[(4, .ref 0 0 0 0), (5, .int .i64 v60), (6, .int .i64 vr67)], [(0, ⟨0, true, false, 1, [[.sl 144 g64 4 0 v63.length]]⟩), (144, ⟨g64, true, true, 4, List.map aA.enc v63⟩)], 489, []⟩ ?_
      refine kA ?_
      refine nA 505 [4, 5, 6, 15] (fun _ => none) rfl (fun _ _ => rS (rA he66a (rA he66b he66c))) ?_
      refine vO rfl hb68 ?_
      refine nA 545 [4, 5, 6] (fun _ => none) rfl (fun _ _ => rS (rA he66a (rA he66b he66c))) ?_
      refine jA (oA ?_)
      obtain rfl := Option.some.inj h0
      refine mA [] ?_
      simp (maxSteps := 1000000) only [↓reduceIte, reduceCtorEq, Nat.reduceEqDiff, Nat.reduceLT, Nat.reduceLeDiff, Nat.reduceAdd, Nat.reduceMul, Int.reduceToNat, push_cast, mC, he66a, he66b, he66c]
      all_goals exact rH
     ·
      refine qA (iA (kA ?_))
      obtain ⟨vr69, hvr69, h1⟩ := fA h1
      refine nA 321 [2, 3, 5, 8] (fun | 1 => some (.int .i64 vr69, []) | _ => none) rfl (fun _ _ => rB (rA he66a (rA he66b he66c)) (vY hvr69)) ?_
      refine nA 337 [2, 3, 5, 8, 19] (fun _ => none) rfl (fun _ _ => rS (rA he66a (rA he66b he66c))) ?_
      refine xI h1 rfl (fun h1 hb70 => ?_) (fun h1 hb70 => ?_)
      ·
       refine nA 377 [4, 5, 6] (fun _ => none) rfl (fun _ _ => rS (rA he66a (rA he66b he66c))) ?_
       refine jA (oA ?_)
       refine qE (fun _ _ => rS (rA he66a (rA he66b he66c))) ?_
       refine xF ⟨[(2, .fn 85 [] [.ref 0 0 0 0]), (8, .ref 104 0 0 0), (9, .int .i64 v60), (10, .ref 177 0 0 0), (19, .psl 4 (List.map aA.enc l1)), (20, .int .i64 (l1.length : Int)), (21, .int .i64 v60), (27, .agg [.bool v61, .str v62, .bool vr4.Bottom]), (28, .agg [.str e66.Key, .str e66.Val, .bool e66.Dead, .int .i64 e66.Seq]), (29, .tup [.nili, .agg [.bool false, .str [], .bool false], .int .i64 vr69])], [(0, ⟨0, true, false, 1, [[.sl 144 g64 4 0 v63.length]]⟩), (104, ⟨0, true, true, 3, [[.bool v61, .str v62, .bool vr4.Bottom]]⟩), (144, ⟨g64, true, true, 4, List.map aA.enc v63⟩), (177, ⟨0, true, true, 4, [[.str e66.Key, .str e66.Val, .bool e66.Dead, .int .i64 e66.Seq]]⟩)], 377, []⟩ ?_
       refine kC (l' := List.range' 3 8 ++ []) rfl ?_
       refine pC 3 8 441 [] (fun _ => none) rfl rfl rfl (fun _ _ => rS (rA he66a (rA he66b he66c))) ?_
       refine iD ?_
       refine iA ?_
       refine xE ⟨[(2, .fn 85 [] [.ref 0 0 0 0]), (8, .ref 104 0 0 0), (9, .int .i64 v60), (11, .nili), (12, .ref 409 0 0 0), (13, .int .i64 vr69), (19, .psl 4 (List.map aA.enc l1)), (20, .int .i64 (l1.length : Int)), (21, .int .i64 v60)], [(0, ⟨0, true, false, 1, [[.sl 144 g64 4 0 v63.length]]⟩), (104, ⟨0, true, true, 3, [[.bool v61, .str v62, .bool vr4.Bottom]]⟩), (144, ⟨g64, true, true, 4, List.map aA.enc v63⟩), (177, ⟨0, true, true, 4, [[.str e66.Key, .str e66.Val, .bool e66.Dead, .int .i64 e66.Seq]]⟩), (409, ⟨0, true, true, 3, [[.bool false, .str [], .bool false]]⟩)], 441, []⟩ ?_
       refine kA ?_
       refine nA 457 [2, 8, 9, 11, 12, 13, 19, 20, 21, 34] (fun _ => none) rfl (fun _ _ => rS (rA he66a (rA he66b he66c))) ?_
       refine vO rfl hb70 ?_
       refine nA 489 [6, 7] (fun _ => none) rfl (fun _ _ => rS (rA he66a (rA he66b he66c))) ?_
       refine jA ?_
       obtain rfl := Option.some.inj h1
       refine oA (oC (oA (oA (zD (oA ?_)))))
       refine qE (fun _ _ => rS (rA he66a (rA he66b he66c))) ?_
       refine xF ⟨[(0, .psl 4 (List.map aA.enc l1)), (1, .bool bottom2), (4, .ref 0 0 0 0), (8, .psl 4 (List.map aA.enc l1)), (9, .bool bottom2), (10, .fn 85 [] [.ref 0 0 0 0]), (11, .tup [.int .i64 v60, .int .i64 vr69])], [(0, ⟨0, true, false, 1, [[.sl 144 g64 4 0 v63.length]]⟩), (144, ⟨g64, true, true, 4, List.map aA.enc v63⟩)], 489, []⟩ ?_
       refine kC (l' := List.range' 4 5 ++ []) rfl ?_
       refine pC 4 5 529 [] (fun _ => none) rfl rfl rfl (fun _ _ => rS (rA he66a (rA he66b he66c))) ?_
       refine iD ?_
       refine iA ?_
       refine xE ⟨[(4, .ref 0 0 0 0), (5, .int .i64 v60), (6, .int .i64 vr69)], [(0, ⟨0, true, false, 1, [[.sl 144 g64 4 0 v63.length]]⟩), (144, ⟨g64, true, true, 4, List.map aA.enc v63⟩)], 529, []⟩ ?_
       refine kA ?_
       refine nA 545 [4, 5, 6, 15] (fun _ => none) rfl (fun _ _ => rS (rA he66a (rA he66b he66c))) ?_
       refine vO rfl hb70 ?_
       refine nA 585 [4, 5, 6] (fun _ => none) rfl (fun _ _ => rS (rA he66a (rA he66b he66c))) ?_
       refine jA (oA ?_)
       obtain rfl := Option.some.inj h0
       refine mA [] ?_
       simp (maxSteps := 1000000) only [↓reduceIte, reduceCtorEq, Nat.reduceEqDiff, Nat.reduceLT, Nat.reduceLeDiff, Nat.reduceAdd, Nat.reduceMul, Int.reduceToNat, push_cast, mC, he66a, he66b, he66c]
       all_goals exact rH
      ·
       refine qA (iA (kA ?_))
       obtain ⟨b71, hb71, h1⟩ := fA h1
       refine eD (fr' := [(2, .ref 217 0 0 0), (3, .ref 225 0 0 0), (5, .ref 241 0 0 0), (30, .bool b71)]) (hp' := [(0, ⟨0, true, false, 1, [[.sl 144 g64 4 0 v63.length]]⟩), (104, ⟨0, true, true, 3, [[.bool v61, .str v62, .bool vr4.Bottom]]⟩), (144, ⟨g64, true, true, 4, List.map aA.enc v63⟩), (177, ⟨0, true, true, 4, [[.str e66.Key, .str e66.Val, .bool e66.Dead, .int .i64 e66.Seq]]⟩), (217, ⟨0, true, true, 3, [[.bool v61, .str v62, .bool vr4.Bottom]]⟩), (225, ⟨0, true, true, 4, [[.str e66.Key, .str e66.Val, .bool e66.Dead, .int .i64 e66.Seq]]⟩), (241, ⟨0, true, true, 3, [[.bool false, .str [], .bool false]]⟩)]) [0, 104, 144, 177, 217, 225, 241] 409 [2, 3, 5, 30] (fun _ => none) rfl (fun Kt hK => by
         cases v61 with
         | false =>
          replace hb71 := vA hb71 rfl
          have hqb71 := Option.some.inj hb71
          subst hqb71
          exact rS (rA he66a (rA he66b he66c))
         | true =>
          replace hb71 := lB hb71 rfl
          have hqb71 := Option.some.inj hb71
          subst hqb71
          exact rS (rA he66a (rA he66b he66c))) ?_
       refine xI h1 rfl (fun h1 hb73 => ?_) (fun h1 hb73 => ?_)
       ·
        refine nA 441 [4, 5, 6] (fun _ => none) rfl (fun _ _ => rS (rA he66a (rA he66b he66c))) ?_
        refine jA (oA ?_)
        refine qE (fun _ _ => rS (rA he66a (rA he66b he66c))) ?_
        refine xF ⟨[(2, .fn 85 [] [.ref 0 0 0 0]), (8, .ref 104 0 0 0), (9, .int .i64 v60), (10, .ref 177 0 0 0), (19, .psl 4 (List.map aA.enc l1)), (20, .int .i64 (l1.length : Int)), (21, .int .i64 v60), (27, .agg [.bool v61, .str v62, .bool vr4.Bottom]), (28, .agg [.str e66.Key, .str e66.Val, .bool e66.Dead, .int .i64 e66.Seq]), (29, .tup [.nili, .agg [.bool false, .str [], .bool false], .int .i64 6])], [(0, ⟨0, true, false, 1, [[.sl 144 g64 4 0 v63.length]]⟩), (104, ⟨0, true, true, 3, [[.bool v61, .str v62, .bool vr4.Bottom]]⟩), (144, ⟨g64, true, true, 4, List.map aA.enc v63⟩), (177, ⟨0, true, true, 4, [[.str e66.Key, .str e66.Val, .bool e66.Dead, .int .i64 e66.Seq]]⟩)], 441, []⟩ ?_
        refine kC (l' := List.range' 3 8 ++ []) rfl ?_
        refine pC 3 8 505 [] (fun _ => none) rfl rfl rfl (fun _ _ => rS (rA he66a (rA he66b he66c))) ?_
        refine iD ?_
        refine iA ?_
        refine xE ⟨[(2, .fn 85 [] [.ref 0 0 0 0]), (8, .ref 104 0 0 0), (9, .int .i64 v60), (11, .nili), (12, .ref 473 0 0 0), (13, .int .i64 6), (19, .psl 4 (List.map aA.enc l1)), (20, .int .i64 (l1.length : Int)), (21, .int .i64 v60)], [(0, ⟨0, true, false, 1, [[.sl 144 g64 4 0 v63.length]]⟩), (104, ⟨0, true, true, 3, [[.bool v61, .str v62, .bool vr4.Bottom]]⟩), (144, ⟨g64, true, true, 4, List.map aA.enc v63⟩), (177, ⟨0, true, true, 4, [[.str e66.Key, .str e66.Val, .bool e66.Dead, .int .i64 e66.Seq]]⟩), (473, ⟨0, true, true, 3, [[.bool false, .str [], .bool false]]⟩)], 505, []⟩ ?_
        refine kA ?_
        refine nA 521 [2, 8, 9, 11, 12, 13, 19, 20, 21, 34] (fun _ => none) rfl (fun _ _ => rS (rA he66a (rA he66b he66c))) ?_
        refine aM rfl ?_
        refine nA 553 [6, 7] (fun _ => none) rfl (fun _ _ => rS (rA he66a (rA he66b he66c))) ?_
        refine jA ?_
        obtain rfl := Option.some.inj h1
        refine oA (oC (oA (oA (zD (oA ?_)))))
        refine qE (fun _ _ => rS (rA he66a (rA he66b he66c))) ?_
        refine xF ⟨[(0, .psl 4 (List.map aA.enc l1)), (1, .bool bottom2), (4, .ref 0 0 0 0), (8, .psl 4 (List.map aA.enc l1)), (9, .bool bottom2), (10, .fn 85 [] [.ref 0 0 0 0]), (11, .tup [.int .i64 v60, .int .i64 6])], [(0, ⟨0, true, false, 1, [[.sl 144 g64 4 0 v63.length]]⟩), (144, ⟨g64, true, true, 4, List.map aA.enc v63⟩)], 553, []⟩ ?_
        refine kC (l' := List.range' 4 5 ++ []) rfl ?_
        refine pC 4 5 593 [] (fun _ => none) rfl rfl rfl (fun _ _ => rS (rA he66a (rA he66b he66c))) ?_
        refine iD ?_
        refine iA ?_
        refine xE ⟨[(4, .ref 0 0 0 0), (5, .int .i64 v60), (6, .int .i64 6)], [(0, ⟨0, true, false, 1, [[.sl 144 g64 4 0 v63.length]]⟩), (144, ⟨g64, true, true, 4, List.map aA.enc v63⟩)], 593, []⟩ ?_
        refine kA ?_
        refine nA 609 [4, 5, 6, 15] (fun _ => none) rfl (fun _ _ => rS (rA he66a (rA he66b he66c))) ?_
        refine aM rfl ?_
        refine nA 649 [4, 5, 6] (fun _ => none) rfl (fun _ _ => rS (rA he66a (rA he66b he66c))) ?_
        refine jA (oA ?_)
        obtain rfl := Option.some.inj h0
        refine mA [] ?_
        simp (maxSteps := 1000000) only [↓reduceIte, reduceCtorEq, Nat.reduceEqDiff, Nat.reduceLT, Nat.reduceLeDiff, Nat.reduceAdd, Nat.reduceMul, Int.reduceToNat, push_cast, mC, he66a, he66b, he66c]
        all_goals exact rH
       ·
        refine qA (iA ?_)
        refine nA 465 [2, 3, 5, 9] (fun _ => none) rfl (fun _ _ => rS (rA he66a (rA he66b he66c))) ?_
        refine kA (nC ?_)
        obtain ⟨b74, hb74, h1⟩ := fA h1
        refine eD (fr' := [(2, .ref 217 0 0 0), (3, .ref 225 0 0 0), (5, .ref 241 0 0 0), (9, .ref 449 0 0 0), (37, .bool b74)]) (hp' := [(0, ⟨0, true, false, 1, [[.sl 144 g64 4 0 v63.length]]⟩), (104, ⟨0, true, true, 3, [[.bool v61, .str v62, .bool vr4.Bottom]]⟩), (144, ⟨g64, true, true, 4, List.map aA.enc v63⟩), (177, ⟨0, true, true, 4, [[.str e66.Key, .str e66.Val, .bool e66.Dead, .int .i64 e66.Seq]]⟩), (217, ⟨0, true, true, 3, [[.bool v61, .str v62, .bool vr4.Bottom]]⟩), (225, ⟨0, true, true, 4, [[.str e66.Key, .str e66.Val, .bool e66.Dead, .int .i64 e66.Seq]]⟩), (241, ⟨0, true, true, 3, [[.bool false, .str [], .bool false]]⟩), (449, ⟨0, true, true, 3, [[.bool true, .str e66.Key, .bool vr4.Bottom]]⟩)]) [0, 104, 144, 177, 217, 225, 241, 449] 545 [2, 3, 5, 9, 37] (fun _ => none) rfl (fun Kt hK => by
          cases v61 with
          | false =>
           replace hb74 := vA hb74 rfl
           have hqb74 := Option.some.inj hb74
           subst hqb74
           exact rS (rA he66a (rA he66b he66c))
          | true =>
           replace hb74 := lB hb74 rfl
           have hqb74 := Option.some.inj hb74
           subst hqb74
           exact rS (rA he66a (rA he66b he66c))) ?_
        refine xI h1 rfl (fun h1 hb76 => ?_) (fun h1 hb76 => ?_)
        ·
         refine nD 593 [4, 5, 6] (fun _ => none) rfl rfl rfl (fun _ _ => jF (rA he66a (rA he66b he66c))) ?_
         refine jA (oC (oA ?_))
         refine qE (fun _ _ => rS (rA he66a (rA he66b he66c))) ?_
         refine xF ⟨[(2, .fn 85 [] [.ref 0 0 0 0]), (8, .ref 104 0 0 0), (9, .int .i64 v60), (10, .ref 177 0 0 0), (19, .psl 4 (List.map aA.enc l1)), (20, .int .i64 (l1.length : Int)), (21, .int .i64 v60), (27, .agg [.bool v61, .str v62, .bool vr4.Bottom]), (28, .agg [.str e66.Key, .str e66.Val, .bool e66.Dead, .int .i64 e66.Seq]), (29, .tup [.iface 163 (.agg [.str e66.Key, .str e66.Val, .bool e66.Dead, .int .i64 e66.Seq]), .agg [.bool true, .str e66.Key, .bool vr4.Bottom], .int .i64 0])], [(0, ⟨0, true, false, 1, [[.sl 144 g64 4 0 v63.length]]⟩), (104, ⟨0, true, true, 3, [[.bool v61, .str v62, .bool vr4.Bottom]]⟩), (144, ⟨g64, true, true, 4, List.map aA.enc v63⟩), (177, ⟨0, true, true, 4, [[.str e66.Key, .str e66.Val, .bool e66.Dead, .int .i64 e66.Seq]]⟩)], 593, []⟩ ?_
         refine kC (l' := List.range' 3 8 ++ []) rfl ?_
         refine pC 3 8 657 [] (fun _ => none) rfl rfl rfl (fun _ _ => rS (rA he66a (rA he66b he66c))) ?_
         refine iD ?_
         refine iA ?_
         refine xE ⟨[(2, .fn 85 [] [.ref 0 0 0 0]), (8, .ref 104 0 0 0), (9, .int .i64 v60), (11, .iface 163 (.agg [.str e66.Key, .str e66.Val, .bool e66.Dead, .int .i64 e66.Seq])), (12, .ref 625 0 0 0), (13, .int .i64 0), (19, .psl 4 (List.map aA.enc l1)), (20, .int .i64 (l1.length : Int)), (21, .int .i64 v60)], [(0, ⟨0, true, false, 1, [[.sl 144 g64 4 0 v63.length]]⟩), (104, ⟨0, true, true, 3, [[.bool v61, .str v62, .bool vr4.Bottom]]⟩), (144, ⟨g64, true, true, 4, List.map aA.enc v63⟩), (177, ⟨0, true, true, 4, [[.str e66.Key, .str e66.Val, .bool e66.Dead, .int .i64 e66.Seq]]⟩), (625, ⟨0, true, true, 3, [[.bool true, .str e66.Key, .bool vr4.Bottom]]⟩)], 657, []⟩ ?_
         refine kA ?_
         refine nA 673 [2, 8, 9, 11, 12, 13, 19, 20, 21, 34] (fun _ => none) rfl (fun _ _ => rS (rA he66a (rA he66b he66c))) ?_
         refine bG rfl ?_
         refine qA (iA ?_)
         refine sH 3 rfl ?_
         refine kC (l' := List.range' 0 2 ++ (2 :: (List.range' 3 0 ++ []))) rfl ?_
         refine pC 0 2 689 (2 :: (List.range' 3 0 ++ [])) (fun _ => none) rfl rfl rfl (fun _ _ => rS (rA he66a (rA he66b he66c))) ?_
         refine dK rfl rfl rfl rfl rfl Try.func85 rfl (by decide) rfl rL ?_
         dsimp only [Try.f85]
         refine xE ⟨[(0, .iface 163 (.agg [.str e66.Key, .str e66.Val, .bool e66.Dead, .int .i64 e66.Seq])), (1, .ref 0 0 0 0)], [(0, ⟨0, true, false, 1, [[.sl 144 g64 4 0 v63.length]]⟩), (104, ⟨0, true, true, 3, [[.bool v61, .str v62, .bool vr4.Bottom]]⟩), (144, ⟨g64, true, true, 4, List.map aA.enc v63⟩), (177, ⟨0, true, true, 4, [[.str e66.Key, .str e66.Val, .bool e66.Dead, .int .i64 e66.Seq]]⟩), (625, ⟨0, true, true, 3, [[.bool true, .str e66.Key, .bool vr4.Bottom]]⟩)], 689, []⟩ ?_
         refine nA 753 [0, 1, 4] (fun _ => none) rfl (fun _ _ => rS (rA he66a (rA he66b he66c))) ?_
         refine nA 761 [0, 1, 10] (fun _ => none) rfl (fun _ _ => rS (rA he66a (rA he66b he66c))) ?_
         refine bG rfl ?_
         refine qA ?_
         refine wR (fun _ _ => rS (rA he66a (rA he66b he66c))) ?_
         refine xF ⟨[(2, .fn 85 [] [.ref 0 0 0 0]), (8, .ref 104 0 0 0), (9, .int .i64 v60), (11, .iface 163 (.agg [.str e66.Key, .str e66.Val, .bool e66.Dead, .int .i64 e66.Seq])), (12, .ref 625 0 0 0), (13, .int .i64 0), (19, .psl 4 (List.map aA.enc l1)), (20, .int .i64 (l1.length : Int)), (21, .int .i64 v60), (34, .bool false), (37, .fn 85 [] [.ref 0 0 0 0]), (38, .iface 163 (.agg [.str e66.Key, .str e66.Val, .bool e66.Dead, .int .i64 e66.Seq])), (39, .tup [])], [(0, ⟨0, true, false, 1, [[.sl 144 g64 4 0 v63.length]]⟩), (104, ⟨0, true, true, 3, [[.bool v61, .str v62, .bool vr4.Bottom]]⟩), (144, ⟨g64, true, true, 4, List.map aA.enc v63⟩), (177, ⟨0, true, true, 4, [[.str e66.Key, .str e66.Val, .bool e66.Dead, .int .i64 e66.Seq]]⟩), (625, ⟨0, true, true, 3, [[.bool true, .str e66.Key, .bool vr4.Bottom]]⟩)], 761, []⟩ ?_
         refine kC (l' := []) rfl ?_
         refine iD ?_
         refine iA ?_
         refine xE ⟨[(2, .fn 85 [] [.ref 0 0 0 0]), (8, .ref 104 0 0 0), (12, .ref 625 0 0 0), (19, .psl 4 (List.map aA.enc l1)), (20, .int .i64 (l1.length : Int)), (21, .int .i64 v60)], [(0, ⟨0, true, false, 1, [[.sl 144 g64 4 0 v63.length]]⟩), (104, ⟨0, true, true, 3, [[.bool v61, .str v62, .bool vr4.Bottom]]⟩), (144, ⟨g64, true, true, 4, List.map aA.enc v63⟩), (177, ⟨0, true, true, 4, [[.str e66.Key, .str e66.Val, .bool e66.Dead, .int .i64 e66.Seq]]⟩), (625, ⟨0, true, true, 3, [[.bool true, .str e66.Key, .bool vr4.Bottom]]⟩)], 761, []⟩ ?_
         refine eC 777 [2, 8, 19, 20, 21] (fun _ => none) rfl (fun _ _ => rS (rA he66a (rA he66b he66c))) ?_
         refine fC (iA ?_)
         refine eC 793 [2, 8, 19, 20, 21] (fun _ => none) rfl (fun _ _ => rS (rA he66a (rA he66b he66c))) ?_
         refine iA ?_
         exact ⟨⟨(fu, (IntKind.i64.wrap (v60 + 1)), true, e66.Key, v63, g64), h1⟩, ⟨rF, rE, rfl, rfl, trivial, trivial⟩, Nat.lt_succ_self _⟩
        ·
         obtain ⟨b77, hb77, h1⟩ := fA h1
         refine eD (fr' := [(3, .ref 225 0 0 0), (5, .ref 241 0 0 0), (9, .ref 449 0 0 0), (50, .bool b77)]) (hp' := [(0, ⟨0, true, false, 1, [[.sl 144 g64 4 0 v63.length]]⟩), (104, ⟨0, true, true, 3, [[.bool v61, .str v62, .bool vr4.Bottom]]⟩), (144, ⟨g64, true, true, 4, List.map aA.enc v63⟩), (177, ⟨0, true, true, 4, [[.str e66.Key, .str e66.Val, .bool e66.Dead, .int .i64 e66.Seq]]⟩), (217, ⟨0, true, true, 3, [[.bool v61, .str v62, .bool vr4.Bottom]]⟩), (225, ⟨0, true, true, 4, [[.str e66.Key, .str e66.Val, .bool e66.Dead, .int .i64 e66.Seq]]⟩), (241, ⟨0, true, true, 3, [[.bool false, .str [], .bool false]]⟩), (449, ⟨0, true, true, 3, [[.bool true, .str e66.Key, .bool vr4.Bottom]]⟩)]) [0, 104, 144, 177, 217, 225, 241, 449] 601 [3, 5, 9, 50] (fun _ => none) rfl (fun Kt hK => by
           cases hg78 : vr4.Bottom with
           | false =>
            replace hb77 := vA hb77 hg78
            have hqb77 := Option.some.inj hb77
            subst hqb77
            simp (maxSteps := 1000000) only [↓reduceIte, reduceCtorEq, Nat.reduceEqDiff, Nat.reduceLT, Nat.reduceLeDiff, Nat.reduceAdd, Nat.reduceMul, Int.reduceToNat, push_cast, he66a, he66b, he66c, ↓hg78]
            try simp only [↓hg78] at hK
            all_goals exact rU
           | true =>
            replace hb77 := lB hb77 hg78
            have hqb77 := Option.some.inj hb77
            subst hqb77
            simp (maxSteps := 1000000) only [↓reduceIte, reduceCtorEq, Nat.reduceEqDiff, Nat.reduceLT, Nat.reduceLeDiff, Nat.reduceAdd, Nat.reduceMul, Int.reduceToNat, push_cast, he66a, he66b, he66c, ↓hg78]
            try simp only [↓hg78] at hK
            all_goals exact rU) ?_
         refine xI h1 rfl (fun h1 hb79 => ?_) (fun h1 hb79 => ?_)
         ·
          refine nD 649 [4, 5, 6] (fun _ => none) rfl rfl rfl (fun _ _ => jF (rA he66a (rA he66b he66c))) ?_
          refine jA (oC (oA ?_))
          refine qE (fun _ _ => rS (rA he66a (rA he66b he66c))) ?_
          refine xF ⟨[(2, .fn 85 [] [.ref 0 0 0 0]), (8, .ref 104 0 0 0), (9, .int .i64 v60), (10, .ref 177 0 0 0), (19, .psl 4 (List.map aA.enc l1)), (20, .int .i64 (l1.length : Int)), (21, .int .i64 v60), (27, .agg [.bool v61, .str v62, .bool vr4.Bottom]), (28, .agg [.str e66.Key, .str e66.Val, .bool e66.Dead, .int .i64 e66.Seq]), (29, .tup [.iface 164 (.agg [.str e66.Key, .str e66.Val, .bool e66.Dead, .int .i64 e66.Seq]), .agg [.bool true, .str e66.Key, .bool vr4.Bottom], .int .i64 0])], [(0, ⟨0, true, false, 1, [[.sl 144 g64 4 0 v63.length]]⟩), (104, ⟨0, true, true, 3, [[.bool v61, .str v62, .bool vr4.Bottom]]⟩), (144, ⟨g64, true, true, 4, List.map aA.enc v63⟩), (177, ⟨0, true, true, 4, [[.str e66.Key, .str e66.Val, .bool e66.Dead, .int .i64 e66.Seq]]⟩)], 649, []⟩ ?_
          refine kC (l' := List.range' 3 8 ++ []) rfl ?_
          refine pC 3 8 713 [] (fun _ => none) rfl rfl rfl (fun _ _ => rS (rA he66a (rA he66b he66c))) ?_
          refine iD ?_
          refine iA ?_
          refine xE ⟨[(2, .fn 85 [] [.ref 0 0 0 0]), (8, .ref 104 0 0 0), (9, .int .i64 v60), (11, .iface 164 (.agg [.str e66.Key, .str e66.Val, .bool e66.Dead, .int .i64 e66.Seq])), (12, .ref 681 0 0 0), (13, .int .i64 0), (19, .psl 4 (List.map aA.enc l1)), (20, .int .i64 (l1.length : Int)), (21, .int .i64 v60)], [(0, ⟨0, true, false, 1, [[.sl 144 g64 4 0 v63.length]]⟩), (104, ⟨0, true, true, 3, [[.bool v61, .str v62, .bool vr4.Bottom]]⟩), (144, ⟨g64, true, true, 4, List.map aA.enc v63⟩), (177, ⟨0, true, true, 4, [[.str e66.Key, .str e66.Val, .bool e66.Dead, .int .i64 e66.Seq]]⟩), (681, ⟨0, true, true, 3, [[.bool true, .str e66.Key, .bool vr4.Bottom]]⟩)], 713, []⟩ ?_
          refine kA ?_
          refine nA 729 [2, 8, 9, 11, 12, 13, 19, 20, 21, 34] (fun _ => none) rfl (fun _ _ => rS (rA he66a (rA he66b he66c))) ?_
          refine bG rfl ?_
          refine qA (iA ?_)
          refine sH 3 rfl ?_
          refine kC (l' := List.range' 0 2 ++ (2 :: (List.range' 3 0 ++ []))) rfl ?_
          refine pC 0 2 745 (2 :: (List.range' 3 0 ++ [])) (fun _ => none) rfl rfl rfl (fun _ _ => rS (rA he66a (rA he66b he66c))) ?_
          refine dK rfl rfl rfl rfl rfl Try.func85 rfl (by decide) rfl rL ?_
          dsimp only [Try.f85]
          refine xE ⟨[(0, .iface 164 (.agg [.str e66.Key, .str e66.Val, .bool e66.Dead, .int .i64 e66.Seq])), (1, .ref 0 0 0 0)], [(0, ⟨0, true, false, 1, [[.sl 144 g64 4 0 v63.length]]⟩), (104, ⟨0, true, true, 3, [[.bool v61, .str v62, .bool vr4.Bottom]]⟩), (144, ⟨g64, true, true, 4, List.map aA.enc v63⟩), (177, ⟨0, true, true, 4, [[.str e66.Key, .str e66.Val, .bool e66.Dead, .int .i64 e66.Seq]]⟩), (681, ⟨0, true, true, 3, [[.bool true, .str e66.Key, .bool vr4.Bottom]]⟩)], 745, []⟩ ?_
          refine nA 809 [0, 1, 4] (fun _ => none) rfl (fun _ _ => rS (rA he66a (rA he66b he66c))) ?_
          refine nA 817 [0, 1, 10] (fun _ => none) rfl (fun _ _ => rS (rA he66a (rA he66b he66c))) ?_
          refine bG rfl ?_
          refine qA ?_
          refine wR (fun _ _ => rS (rA he66a (rA he66b he66c))) ?_
          refine xF ⟨[(2, .fn 85 [] [.ref 0 0 0 0]), (8, .ref 104 0 0 0), (9, .int .i64 v60), (11, .iface 164 (.agg [.str e66.Key, .str e66.Val, .bool e66.Dead, .int .i64 e66.Seq])), (12, .ref 681 0 0 0), (13, .int .i64 0), (19, .psl 4 (List.map aA.enc l1)), (20, .int .i64 (l1.length : Int)), (21, .int .i64 v60), (34, .bool false), (37, .fn 85 [] [.ref 0 0 0 0]), (38, .iface 164 (.agg [.str e66.Key, .str e66.Val, .bool e66.Dead, .int .i64 e66.Seq])), (39, .tup [])], [(0, ⟨0, true, false, 1, [[.sl 144 g64 4 0 v63.length]]⟩), (104, ⟨0, true, true, 3, [[.bool v61, .str v62, .bool vr4.Bottom]]⟩), (144, ⟨g64, true, true, 4, List.map aA.enc v63⟩), (177, ⟨0, true, true, 4, [[.str e66.Key, .str e66.Val, .bool e66.Dead, .int .i64 e66.Seq]]⟩), (681, ⟨0, true, true, 3, [[.bool true, .str e66.Key, .bool vr4.Bottom]]⟩)], 817, []⟩ ?_
          refine kC (l' := []) rfl ?_
          refine iD ?_
          refine iA ?_
          refine xE ⟨[(2, .fn 85 [] [.ref 0 0 0 0]), (8, .ref 104 0 0 0), (12, .ref 681 0 0 0), (19, .psl 4 (List.map aA.enc l1)), (20, .int .i64 (l1.length : Int)), (21, .int .i64 v60)], [(0, ⟨0, true, false, 1, [[.sl 144 g64 4 0 v63.length]]⟩), (104, ⟨0, true, true, 3, [[.bool v61, .str v62, .bool vr4.Bottom]]⟩), (144, ⟨g64, true, true, 4, List.map aA.enc v63⟩), (177, ⟨0, true, true, 4, [[.str e66.Key, .str e66.Val, .bool e66.Dead, .int .i64 e66.Seq]]⟩), (681, ⟨0, true, true, 3, [[.bool true, .str e66.Key, .bool vr4.Bottom]]⟩)], 817, []⟩ ?_
          refine eC 833 [2, 8, 19, 20, 21] (fun _ => none) rfl (fun _ _ => rS (rA he66a (rA he66b he66c))) ?_
          refine fC (iA ?_)
          refine eC 849 [2, 8, 19, 20, 21] (fun _ => none) rfl (fun _ _ => rS (rA he66a (rA he66b he66c))) ?_
          refine iA ?_
          exact ⟨⟨(fu, (IntKind.i64.wrap (v60 + 1)), true, e66.Key, v63, g64), h1⟩, ⟨rF, rE, rfl, rfl, trivial, trivial⟩, Nat.lt_succ_self _⟩
         ·
          refine qA (fC (iA ?_))
          refine nD 649 [4, 5, 6] (fun _ => none) rfl rfl rfl (fun _ _ => jF (rA he66a (rA he66b he66c))) ?_
          refine jA ?_
          refine qE (fun _ _ => rS (rA he66a (rA he66b he66c))) ?_
          refine xF ⟨[(2, .fn 85 [] [.ref 0 0 0 0]), (8, .ref 104 0 0 0), (9, .int .i64 v60), (10, .ref 177 0 0 0), (19, .psl 4 (List.map aA.enc l1)), (20, .int .i64 (l1.length : Int)), (21, .int .i64 v60), (27, .agg [.bool v61, .str v62, .bool vr4.Bottom]), (28, .agg [.str e66.Key, .str e66.Val, .bool e66.Dead, .int .i64 e66.Seq]), (29, .tup [.iface 143 (.agg [.str e66.Key, .str e66.Val, .bool e66.Dead, .int .i64 e66.Seq]), .agg [.bool true, .str e66.Key, .bool vr4.Bottom], .int .i64 0])], [(0, ⟨0, true, false, 1, [[.sl 144 g64 4 0 v63.length]]⟩), (104, ⟨0, true, true, 3, [[.bool v61, .str v62, .bool vr4.Bottom]]⟩), (144, ⟨g64, true, true, 4, List.map aA.enc v63⟩), (177, ⟨0, true, true, 4, [[.str e66.Key, .str e66.Val, .bool e66.Dead, .int .i64 e66.Seq]]⟩)], 649, []⟩ ?_
          refine kC (l' := List.range' 3 8 ++ []) rfl ?_
          refine pC 3 8 713 [] (fun _ => none) rfl rfl rfl (fun _ _ => rS (rA he66a (rA he66b he66c))) ?_
          refine iD ?_
          refine iA ?_
          refine xE ⟨[(2, .fn 85 [] [.ref 0 0 0 0]), (8, .ref 104 0 0 0), (9, .int .i64 v60), (11, .iface 143 (.agg [.str e66.Key, .str e66.Val, .bool e66.Dead, .int .i64 e66.Seq])), (12, .ref 681 0 0 0), (13, .int .i64 0), (19, .psl 4 (List.map aA.enc l1)), (20, .int .i64 (l1.length : Int)), (21, .int .i64 v60)], [(0, ⟨0, true, false, 1, [[.sl 144 g64 4 0 v63.length]]⟩), (104, ⟨0, true, true, 3, [[.bool v61, .str v62, .bool vr4.Bottom]]⟩), (144, ⟨g64, true, true, 4, List.map aA.enc v63⟩), (177, ⟨0, true, true, 4, [[.str e66.Key, .str e66.Val, .bool e66.Dead, .int .i64 e66.Seq]]⟩), (681, ⟨0, true, true, 3, [[.bool true, .str e66.Key, .bool vr4.Bottom]]⟩)], 713, []⟩ ?_
          refine kA ?_
          refine nA 729 [2, 8, 9, 11, 12, 13, 19, 20, 21, 34] (fun _ => none) rfl (fun _ _ => rS (rA he66a (rA he66b he66c))) ?_
          refine bG rfl ?_
          refine qA (iA ?_)
          refine sH 3 rfl ?_
          refine kC (l' := List.range' 0 2 ++ (2 :: (List.range' 3 0 ++ []))) rfl ?_
          refine pC 0 2 745 (2 :: (List.range' 3 0 ++ [])) (fun _ => none) rfl rfl rfl (fun _ _ => rS (rA he66a (rA he66b he66c))) ?_
          refine dK rfl rfl rfl rfl rfl Try.func85 rfl (by decide) rfl rL ?_
          dsimp only [Try.f85]
          refine xE ⟨[(0, .iface 143 (.agg [.str e66.Key, .str e66.Val, .bool e66.Dead, .int .i64 e66.Seq])), (1, .ref 0 0 0 0)], [(0, ⟨0, true, false, 1, [[.sl 144 g64 4 0 v63.length]]⟩), (104, ⟨0, true, true, 3, [[.bool v61, .str v62, .bool vr4.Bottom]]⟩), (144, ⟨g64, true, true, 4, List.map aA.enc v63⟩), (177, ⟨0, true, true, 4, [[.str e66.Key, .str e66.Val, .bool e66.Dead, .int .i64 e66.Seq]]⟩), (681, ⟨0, true, true, 3, [[.bool true, .str e66.Key, .bool vr4.Bottom]]⟩)], 745, []⟩ ?_
          refine nA 809 [0, 1, 4] (fun _ => none) rfl (fun _ _ => rS (rA he66a (rA he66b he66c))) ?_
          refine nA 817 [0, 1, 10] (fun _ => none) rfl (fun _ _ => rS (rA he66a (rA he66b he66c))) ?_
          refine aM rfl ?_
          obtain ⟨vr80, hvr80, h1⟩ := fA h1
          obtain ⟨hc81, h1⟩ := pE h1
          refine zI 865 [] (fun | 2 => some (.agg (aA.enc vr80), []) | _ => none) rfl rfl rfl (fun _ _ => rBd (rA he66a (rA he66b he66c)) (zjx hvr80)) ?_
          refine wR (fun _ _ => rS (rA he66a (rA he66b he66c))) ?_
          refine xF ⟨[(2, .fn 85 [] [.ref 0 0 0 0]), (8, .ref 104 0 0 0), (9, .int .i64 v60), (11, .iface 143 (.agg [.str e66.Key, .str e66.Val, .bool e66.Dead, .int .i64 e66.Seq])), (12, .ref 681 0 0 0), (13, .int .i64 0), (19, .psl 4 (List.map aA.enc l1)), (20, .int .i64 (l1.length : Int)), (21, .int .i64 v60), (34, .bool false), (37, .fn 85 [] [.ref 0 0 0 0]), (38, .iface 143 (.agg [.str e66.Key, .str e66.Val, .bool e66.Dead, .int .i64 e66.Seq])), (39, .tup [])], [(0, ⟨0, true, false, 1, [[.sl 144 (g64 + 1) 4 0 ((v63 ++ [vr80]).length)]]⟩), (104, ⟨0, true, true, 3, [[.bool v61, .str v62, .bool vr4.Bottom]]⟩), (144, ⟨(g64 + 1), true, true, 4, List.map aA.enc (v63 ++ [vr80])⟩), (177, ⟨0, true, true, 4, [[.str e66.Key, .str e66.Val, .bool e66.Dead, .int .i64 e66.Seq]]⟩), (681, ⟨0, true, true, 3, [[.bool true, .str e66.Key, .bool vr4.Bottom]]⟩)], 865, []⟩ ?_
          refine kC (l' := []) rfl ?_
          refine iD ?_
          refine iA ?_
          refine xE ⟨[(2, .fn 85 [] [.ref 0 0 0 0]), (8, .ref 104 0 0 0), (12, .ref 681 0 0 0), (19, .psl 4 (List.map aA.enc l1)), (20, .int .i64 (l1.length : Int)), (21, .int .i64 v60)], [(0, ⟨0, true, false, 1, [[.sl 144 (g64 + 1) 4 0 ((v63 ++ [vr80]).length)]]⟩), (104, ⟨0, true, true, 3, [[.bool v61, .str v62, .bool vr4.Bottom]]⟩), (144, ⟨(g64 + 1), true, true, 4, List.map aA.enc (v63 ++ [vr80])⟩), (177, ⟨0, true, true, 4, [[.str e66.Key, .str e66.Val, .bool e66.Dead, .int .i64 e66.Seq]]⟩), (681, ⟨0, true, true, 3, [[.bool true, .str e66.Key, .bool vr4.Bottom]]⟩)], 865, []⟩ ?_
          refine eC 881 [2, 8, 19, 20, 21] (fun _ => none) rfl (fun _ _ => rS (rA he66a (rA he66b he66c))) ?_
          refine fC (iA ?_)
          refine eC 897 [2, 8, 19, 20, 21] (fun _ => none) rfl (fun _ _ => rS (rA he66a (rA he66b he66c))) ?_
          refine iA ?_
          exact ⟨⟨(fu, (IntKind.i64.wrap (v60 + 1)), true, e66.Key, (v63 ++ [vr80]), (g64 + 1)), h1⟩, ⟨rF, rE, rfl, rfl, trivial, trivial⟩, Nat.lt_succ_self _⟩
    ·
     refine fD (kB (kB (kD ?_)))
     obtain rfl := Option.some.inj h1
     exact ⟨_, g64, rfl, rL, ⟨rF, rE, rfl, rfl, trivial, trivial⟩⟩
theorem iY {fu : Nat} {a1 : List aA} {b2 : List aA} {r : Bool} (h0 : zO fu a1 b2 = some r) : jB Try.prog 62 [.psl 4 (a1.map aA.enc), .psl 4 (b2.map aA.enc)] (.bool r) [] := by
 refine tB Try.func62 rfl (by decide) rL ?_
 dsimp only [Try.f62]
 rw [zO] at h0
 refine (show pA _ _ _ _ ⟨iB 0 _, [], 0, []⟩ from ?_)
 refine xS 8 [0, 1] ?_
 refine kA ?_
 refine xS 48 [0, 1, 11] ?_
 refine xI h0 rfl (fun h0 hb3 => ?_) (fun h0 hb3 => ?_)
 ·
  refine xS 56 [4] ?_
  refine jA (oA ?_)
  obtain rfl := Option.some.inj h0
  refine mA [] ?_
  exact rG
 ·
  refine qA (iA (kA ?_))
  refine xS 72 [1, 12, 13, 14] ?_
  obtain ⟨x13, hxx13, h0⟩ := fA h0
  refine sD (fun s' => ∃ o19 : Unit, x13 = .inl o19 ∧ s'.nx ≤ 80 ∧ LeN [] s' ⟨[], [], 80, []⟩) ?_ ?_
  ·
   intro s' hs
   obtain ⟨o19, rfl, hn, hs⟩ := hs
   refine iA ?_
   refine dC [] hn hs ?_
   refine xS 88 [4] ?_
   refine jA ?_
   obtain rfl := Option.some.inj h0
   refine mA [] ?_
   exact rG
  ·
   refine oD (ι := { p : Nat × Int // bI a1 b2 p.1 p.2 = some x13 }) (fun p => ⟨[(1, .psl 4 (List.map aA.enc b2)), (12, .psl 4 (List.map aA.enc a1)), (13, .int .i64 (a1.length : Int)), (14, .int .i64 p.1.2)], [], 72, []⟩) (fun p => p.1.1) ⟨(fu, 0), hxx13⟩ ⟨rF, rE, rfl, rfl, trivial, trivial⟩ (fun _ => Nat.le_refl _) ?_
   rintro ⟨⟨fu, v14⟩, h1⟩
   cases fu with
   | zero =>
   replace h1 : bI a1 b2 0 v14 = some x13 := h1
   rw [bI] at h1; cases h1
   | succ fu =>
    replace h1 : bI a1 b2 (fu + 1) v14 = some x13 := h1
    rw [bI] at h1
    refine (show pA _ _ _ _ ⟨[(1, .psl 4 (List.map aA.enc b2)), (12, .psl 4 (List.map aA.enc a1)), (13, .int .i64 (a1.length : Int)), (14, .int .i64 v14)], [], 72, []⟩ from ?_)
    refine xS 80 [1, 12, 13, 14, 15] ?_
    refine kA ?_
    refine xI h1 rfl (fun h1 hb15 => ?_) (fun h1 hb15 => ?_)
    ·
     refine qA (iA (kA (nC ?_)))
     obtain ⟨e16, he16, h1⟩ := fA h1
     obtain ⟨he16a, he16b, he16c⟩ := dB he16
     refine nA 128 [1, 5, 6, 12, 13, 14] (fun _ => none) rfl (fun _ _ => rS (rA he16a (rA he16b he16c))) ?_
     obtain ⟨e17, he17, h1⟩ := fA h1
     obtain ⟨he17a, he17b, he17c⟩ := dB he17
     refine nD 176 [1, 12, 13, 14, 24] (fun _ => none) rfl rfl rfl (fun _ _ => jF (rA he16a (rA he16b (rA he16c (rA he17a (rA he17b he17c)))))) ?_
     refine xI h1 rfl (fun h1 hb18 => ?_) (fun h1 hb18 => ?_)
     ·
      refine nA 184 [4] (fun _ => none) rfl (fun _ _ => rS (rA he16a (rA he16b (rA he16c (rA he17a (rA he17b he17c)))))) ?_
      refine jA ?_
      obtain rfl := Option.some.inj h1
      refine oC (oA (oA (zD (oA ?_))))
      obtain rfl := Option.some.inj h0
      refine mA [] ?_
      simp (maxSteps := 1000000) only [↓reduceIte, reduceCtorEq, Nat.reduceEqDiff, Nat.reduceLT, Nat.reduceLeDiff, Nat.reduceAdd, Nat.reduceMul, Int.reduceToNat, push_cast, mC, he16a, he16b, he16c, he17a, he17b, he17c]
      all_goals exact rH
     ·
      refine qA (fC (iA ?_))
      refine eC 192 [1, 12, 13, 14] (fun _ => none) rfl (fun _ _ => rS (rA he16a (rA he16b (rA he16c (rA he17a (rA he17b he17c)))))) ?_
      refine iA ?_
      exact ⟨⟨(fu, (IntKind.i64.wrap (v14 + 1))), h1⟩, ⟨rF, rE, rfl, rfl, trivial, trivial⟩, Nat.lt_succ_self _⟩
    ·
     refine fD (kB (kB (kD ?_)))
     obtain rfl := Option.some.inj h1
     exact ⟨_, rfl, rL, ⟨rF, rE, rfl, rfl, trivial, trivial⟩⟩
theorem zkG {fu : Nat} {vs1 : vB} {r : Int} (h0 : zN fu vs1 = some r) : jB Try.prog 43 [.agg (vB.enc vs1)] (.int .i64 r) [] := by
 refine tB Try.func43 rfl (by decide) rL ?_
 dsimp only [Try.f43]
 rw [zN] at h0
 refine (show pA _ _ _ _ ⟨iB 0 _, [], 0, []⟩ from ?_)
 refine xS 16 [1] ?_
 refine kA ?_
 obtain ⟨vr2, hvr2, h0⟩ := fA h0
 refine nA 80 [1, 4] (fun | 2 => some (.tup [.int .i64 vr2.1, .int .i64 vr2.2], []) | _ => none) rfl (fun _ _ => rC (zaE hvr2)) ?_
 refine xS 96 [1, 4, 21] ?_
 refine xI h0 rfl (fun h0 hb3 => ?_) (fun h0 hb3 => ?_)
 ·
  refine xS 112 [2] ?_
  refine jA (oA ?_)
  obtain rfl := Option.some.inj h0
  refine mA [] ?_
  exact rG
 ·
  refine qA (iA ?_)
  refine xS 104 [1, 5] ?_
  refine kA ?_
  refine xS 144 [1, 5, 25, 26, 27] ?_
  obtain ⟨x10, hxx10, h0⟩ := fA h0
  refine sD (fun s' => s'.nx ≤ 152 ∧ LeN [] s' ⟨[(1, .ref 0 0 0 0), (5, .int .i64 x10)], [(0, ⟨0, true, true, 10, [[.psl 1 (List.map (sA 4 aA.enc) vs1.Merge.Runs), .psl 1 (List.map (dA .i64) vs1.Merge.At), .psl 2 (List.map cA.enc vs1.Merge.Tree.Keys), .psl 1 (List.map (dA .i64) vs1.Merge.Tree.Lose), .int .i64 vs1.Merge.Tree.Win, .bool vs1.Shadow.Some, .str vs1.Shadow.Last, .bool vs1.Shadow.Bottom, .psl 4 (List.map aA.enc vs1.Out), .int .i64 vs1.Steps]]⟩)], 152, []⟩) ?_ ?_
  ·
   intro s' hs
   obtain ⟨hn, hs⟩ := hs
   refine iA ?_
   refine dC [] hn hs ?_
   refine kA (nC ?_)
   obtain ⟨b15, hb15, h0⟩ := fA h0
   refine eD (fr' := [(1, .ref 0 0 0 0), (5, .int .i64 x10), (35, .bool b15)]) (hp' := [(0, ⟨0, true, true, 10, [[.psl 1 (List.map (sA 4 aA.enc) vs1.Merge.Runs), .psl 1 (List.map (dA .i64) vs1.Merge.At), .psl 2 (List.map cA.enc vs1.Merge.Tree.Keys), .psl 1 (List.map (dA .i64) vs1.Merge.Tree.Lose), .int .i64 vs1.Merge.Tree.Win, .bool vs1.Shadow.Some, .str vs1.Shadow.Last, .bool vs1.Shadow.Bottom, .psl 4 (List.map aA.enc vs1.Out), .int .i64 vs1.Steps]]⟩)]) [0] 224 [1, 5, 35] (fun _ => none) rfl (fun Kt hK => by
     cases hg16 : (decide (20000 < (vs1.Out.length : Int))) with
     | false =>
      replace hb15 := vA hb15 hg16
      have hqb15 := Option.some.inj hb15
      subst hqb15
      simp (maxSteps := 1000000) only [↓reduceIte, reduceCtorEq, Nat.reduceEqDiff, Nat.reduceLT, Nat.reduceLeDiff, Nat.reduceAdd, Nat.reduceMul, Int.reduceToNat, push_cast, ↓hg16]
      try simp only [↓hg16] at hK
      all_goals exact rU
     | true =>
      replace hb15 := lB hb15 hg16
      have hqb15 := Option.some.inj hb15
      subst hqb15
      simp (maxSteps := 1000000) only [↓reduceIte, reduceCtorEq, Nat.reduceEqDiff, Nat.reduceLT, Nat.reduceLeDiff, Nat.reduceAdd, Nat.reduceMul, Int.reduceToNat, push_cast, ↓hg16]
      try simp only [↓hg16] at hK
      all_goals exact rU) ?_
   refine xI h0 rfl (fun h0 hb17 => ?_) (fun h0 hb17 => ?_)
   ·
    refine xS 232 [2] ?_
    refine jA (oC (oA ?_))
    obtain rfl := Option.some.inj h0
    refine mA [] ?_
    exact rG
   ·
    refine xS 264 [1, 5, 44] ?_
    refine xI h0 rfl (fun h0 hb18 => ?_) (fun h0 hb18 => ?_)
    ·
     refine xS 272 [2] ?_
     refine jA (oC (oA ?_))
     obtain rfl := Option.some.inj h0
     refine mA [] ?_
     exact rG
    ·
     refine qA (fC (iA ?_))
     obtain ⟨vr19, hvr19, h0⟩ := fA h0
     refine nA 352 [1, 5, 8, 10] (fun | 3 => some (.tup [.psl 4 (vr19.1.map aA.enc), .psl 1 (vr19.2.1.map (dA .i64)), .int .i64 vr19.2.2], []) | _ => none) rfl (fun _ _ => rC (zgq hvr19)) ?_
     refine kA ?_
     refine xS 368 [1, 5, 8, 10, 58] ?_
     refine xI h0 rfl (fun h0 hb20 => ?_) (fun h0 hb20 => ?_)
     ·
      refine xS 384 [2] ?_
      refine jA (oA ?_)
      obtain rfl := Option.some.inj h0
      refine mA [] ?_
      exact rG
     ·
      refine qA (iA ?_)
      obtain ⟨hc21, h0⟩ := pE h0
      obtain ⟨vr22, hvr22, h0⟩ := fA h0
      refine nD 480 [1, 5, 8, 10, 11] (fun | 6 => some (.tup [.psl 4 (vr22.1.map aA.enc), .int .i64 vr22.2.1, .int .i64 vr22.2.2], []) | _ => none) rfl rfl rfl (fun _ _ => rCd (ziS hvr22)) ?_
      refine kA ?_
      refine xS 496 [1, 5, 8, 10, 11, 72] ?_
      refine xI h0 rfl (fun h0 hb23 => ?_) (fun h0 hb23 => ?_)
      ·
       refine xS 512 [2] ?_
       refine jA (oA ?_)
       obtain rfl := Option.some.inj h0
       refine mA [] ?_
       exact rG
      ·
       refine qA (iA ?_)
       obtain ⟨vr24, hvr24, h0⟩ := fA h0
       refine nA 544 [1, 5, 8, 11, 13] (fun | 3 => some (.agg (fB.enc vr24), []) | _ => none) rfl (fun _ _ => rC (wY hvr24)) ?_
       refine kA ?_
       refine xS 560 [1, 5, 8, 11, 13, 79] ?_
       refine xI h0 rfl (fun h0 hb25 => ?_) (fun h0 hb25 => ?_)
       ·
        obtain ⟨e26, he26, h0⟩ := fA h0
        obtain ⟨he26a, he26b, he26c⟩ := dB he26
        refine zI 640 [1, 11, 13] (fun _ => none) rfl rfl rfl (fun _ _ => jF (rA he26a (rA he26b he26c))) ?_
        refine iA (kA ?_)
        obtain ⟨vr27, hvr27, h0⟩ := fA h0
        obtain ⟨b28, hb28, h0⟩ := fA h0
        refine eD (fr' := [(98, .bool b28)]) (hp' := [(0, ⟨0, true, true, 10, [[.psl 1 (List.map (sA 4 aA.enc) vs1.Merge.Runs), .psl 1 (List.map (dA .i64) vs1.Merge.At), .psl 2 (List.map cA.enc vs1.Merge.Tree.Keys), .psl 1 (List.map (dA .i64) vs1.Merge.Tree.Lose), .int .i64 vs1.Merge.Tree.Win, .bool vs1.Shadow.Some, .str vs1.Shadow.Last, .bool vs1.Shadow.Bottom, .psl 4 (List.map aA.enc vs1.Out), .int .i64 vs1.Steps]]⟩), (528, ⟨0, true, true, 3, [[.bool true, .str e26.Key, .bool vr24.Bottom]]⟩)]) [0, 528] 728 [98] (fun | 3 => some (.bool vr27, []) | _ => none) rfl (fun Kt hK => by
          cases hg29 : (!vr27) with
          | false =>
           replace hb28 := vA hb28 hg29
           have hqb28 := Option.some.inj hb28
           subst hqb28
           simp (maxSteps := 1000000) only [↓reduceIte, reduceCtorEq, Nat.reduceEqDiff, Nat.reduceLT, Nat.reduceLeDiff, Nat.reduceAdd, Nat.reduceMul, Int.reduceToNat, push_cast, he26a, he26b, he26c, ↓hg29]
           try simp only [↓hg29] at hK
           try have q0 := iY hvr27
           all_goals exact rU
          | true =>
           replace hb28 := lB hb28 hg29
           have hqb28 := Option.some.inj hb28
           subst hqb28
           simp (maxSteps := 1000000) only [↓reduceIte, reduceCtorEq, Nat.reduceEqDiff, Nat.reduceLT, Nat.reduceLeDiff, Nat.reduceAdd, Nat.reduceMul, Int.reduceToNat, push_cast, he26a, he26b, he26c, ↓hg29]
           try simp only [↓hg29] at hK
           try have q0 := iY hvr27
           all_goals exact rU) ?_
        refine xI h0 rfl (fun h0 hb30 => ?_) (fun h0 hb30 => ?_)
        ·
         refine nA 736 [2] (fun _ => none) rfl (fun _ _ => rS (rA he26a (rA he26b he26c))) ?_
         refine jA (oA ?_)
         obtain rfl := Option.some.inj h0
         refine mA [] ?_
         simp (maxSteps := 1000000) only [↓reduceIte, reduceCtorEq, Nat.reduceEqDiff, Nat.reduceLT, Nat.reduceLeDiff, Nat.reduceAdd, Nat.reduceMul, Int.reduceToNat, push_cast, mC, he26a, he26b, he26c]
         all_goals exact rH
        ·
         refine qA (iA ?_)
         refine nA 736 [2] (fun _ => none) rfl (fun _ _ => rS (rA he26a (rA he26b he26c))) ?_
         refine jA ?_
         obtain rfl := Option.some.inj h0
         refine mA [] ?_
         simp (maxSteps := 1000000) only [↓reduceIte, reduceCtorEq, Nat.reduceEqDiff, Nat.reduceLT, Nat.reduceLeDiff, Nat.reduceAdd, Nat.reduceMul, Int.reduceToNat, push_cast, mC, he26a, he26b, he26c]
         all_goals exact rH
       ·
        refine qA (iA (kA ?_))
        obtain ⟨vr31, hvr31, h0⟩ := fA h0
        obtain ⟨b32, hb32, h0⟩ := fA h0
        refine eD (fr' := [(98, .bool b32)]) (hp' := [(0, ⟨0, true, true, 10, [[.psl 1 (List.map (sA 4 aA.enc) vs1.Merge.Runs), .psl 1 (List.map (dA .i64) vs1.Merge.At), .psl 2 (List.map cA.enc vs1.Merge.Tree.Keys), .psl 1 (List.map (dA .i64) vs1.Merge.Tree.Lose), .int .i64 vs1.Merge.Tree.Win, .bool vs1.Shadow.Some, .str vs1.Shadow.Last, .bool vs1.Shadow.Bottom, .psl 4 (List.map aA.enc vs1.Out), .int .i64 vs1.Steps]]⟩), (528, ⟨0, true, true, 3, [[.bool vr24.Some, .str vr24.Last, .bool vr24.Bottom]]⟩)]) [0, 528] 648 [98] (fun | 3 => some (.bool vr31, []) | _ => none) rfl (fun Kt hK => by
          cases hg33 : (!vr31) with
          | false =>
           replace hb32 := vA hb32 hg33
           have hqb32 := Option.some.inj hb32
           subst hqb32
           simp (maxSteps := 1000000) only [↓reduceIte, reduceCtorEq, Nat.reduceEqDiff, Nat.reduceLT, Nat.reduceLeDiff, Nat.reduceAdd, Nat.reduceMul, Int.reduceToNat, push_cast, ↓hg33]
           try simp only [↓hg33] at hK
           try have q0 := iY hvr31
           all_goals exact rU
          | true =>
           replace hb32 := lB hb32 hg33
           have hqb32 := Option.some.inj hb32
           subst hqb32
           simp (maxSteps := 1000000) only [↓reduceIte, reduceCtorEq, Nat.reduceEqDiff, Nat.reduceLT, Nat.reduceLeDiff, Nat.reduceAdd, Nat.reduceMul, Int.reduceToNat, push_cast, ↓hg33]
           try simp only [↓hg33] at hK
           try have q0 := iY hvr31
           all_goals exact rU) ?_
        refine xI h0 rfl (fun h0 hb34 => ?_) (fun h0 hb34 => ?_)
        ·
         refine xS 656 [2] ?_
         refine jA (oA ?_)
         obtain rfl := Option.some.inj h0
         refine mA [] ?_
         exact rG
        ·
         refine qA (iA ?_)
         refine xS 656 [2] ?_
         refine jA ?_
         obtain rfl := Option.some.inj h0
         refine mA [] ?_
         exact rG
  ·
   refine oD (ι := { p : Nat × Int × Int // eI vs1 p.1 p.2.1 p.2.2 = some x10 }) (fun p => ⟨[(1, .ref 0 0 0 0), (5, .int .i64 p.1.2.1), (25, .psl 1 (List.map (dA .i64) vs1.Merge.At)), (26, .int .i64 (vs1.Merge.At.length : Int)), (27, .int .i64 p.1.2.2)], [(0, ⟨0, true, true, 10, [[.psl 1 (List.map (sA 4 aA.enc) vs1.Merge.Runs), .psl 1 (List.map (dA .i64) vs1.Merge.At), .psl 2 (List.map cA.enc vs1.Merge.Tree.Keys), .psl 1 (List.map (dA .i64) vs1.Merge.Tree.Lose), .int .i64 vs1.Merge.Tree.Win, .bool vs1.Shadow.Some, .str vs1.Shadow.Last, .bool vs1.Shadow.Bottom, .psl 4 (List.map aA.enc vs1.Out), .int .i64 vs1.Steps]]⟩)], 144, []⟩) (fun p => p.1.1) ⟨(fu, 0, 0), hxx10⟩ ⟨rF, rE, rfl, rfl, trivial, trivial⟩ (fun _ => Nat.le_refl _) ?_
   rintro ⟨⟨fu, n11, v12⟩, h1⟩
   cases fu with
   | zero =>
   replace h1 : eI vs1 0 n11 v12 = some x10 := h1
   rw [eI] at h1; cases h1
   | succ fu =>
    replace h1 : eI vs1 (fu + 1) n11 v12 = some x10 := h1
    rw [eI] at h1
    refine (show pA _ _ _ _ ⟨[(1, .ref 0 0 0 0), (5, .int .i64 n11), (25, .psl 1 (List.map (dA .i64) vs1.Merge.At)), (26, .int .i64 (vs1.Merge.At.length : Int)), (27, .int .i64 v12)], [(0, ⟨0, true, true, 10, [[.psl 1 (List.map (sA 4 aA.enc) vs1.Merge.Runs), .psl 1 (List.map (dA .i64) vs1.Merge.At), .psl 2 (List.map cA.enc vs1.Merge.Tree.Keys), .psl 1 (List.map (dA .i64) vs1.Merge.Tree.Lose), .int .i64 vs1.Merge.Tree.Win, .bool vs1.Shadow.Some, .str vs1.Shadow.Last, .bool vs1.Shadow.Bottom, .psl 4 (List.map aA.enc vs1.Out), .int .i64 vs1.Steps]]⟩)], 144, []⟩ from ?_)
    refine xS 152 [1, 5, 25, 26, 27, 28] ?_
    refine kA ?_
    refine xI h1 rfl (fun h1 hb13 => ?_) (fun h1 hb13 => ?_)
    ·
     refine qA (iA (kA (nC ?_)))
     obtain ⟨e14, he14, h1⟩ := fA h1
     obtain ⟨he14a, he14b, he14c⟩ := dB he14
     refine nA 176 [1, 5, 7, 25, 26, 27] (fun _ => none) rfl (fun _ _ => rS (rA he14a (rA he14b he14c))) ?_
     refine eC 208 [1, 5, 25, 26, 27] (fun _ => none) rfl (fun _ _ => rS (rA he14a (rA he14b he14c))) ?_
     refine fC (iA ?_)
     refine eC 224 [1, 5, 25, 26, 27] (fun _ => none) rfl (fun _ _ => rS (rA he14a (rA he14b he14c))) ?_
     refine iA ?_
     exact ⟨⟨(fu, (IntKind.i64.wrap (n11 + e14)), (IntKind.i64.wrap (v12 + 1))), h1⟩, ⟨rF, rE, rfl, rfl, trivial, trivial⟩, Nat.lt_succ_self _⟩
    ·
     refine fD (kB (kB (kD ?_)))
     obtain rfl := Option.some.inj h1
     exact ⟨rL, ⟨rF, rE, rfl, rfl, trivial, trivial⟩⟩
theorem zot {fu : Nat} {vs1 : gB} {r : Int × Int} (h0 : kP fu vs1 = some r) : jB Try.prog 44 [.agg (gB.enc vs1)] (.tup [.int .i64 r.1, .int .i64 r.2]) [] := by
 refine tB Try.func44 rfl (by decide) rL ?_
 dsimp only [Try.f44]
 rw [kP] at h0
 refine (show pA _ _ _ _ ⟨iB 0 _, [], 0, []⟩ from ?_)
 refine xS 24 [1] ?_
 refine kA ?_
 obtain ⟨vr2, hvr2, h0⟩ := fA h0
 refine nA 80 [1, 5] (fun | 1 => some (.tup [.int .i64 vr2.1, .int .i64 vr2.2], []) | _ => none) rfl (fun _ _ => rC (zaE hvr2)) ?_
 refine xS 96 [1, 5, 15] ?_
 refine xI h0 rfl (fun h0 hb3 => ?_) (fun h0 hb3 => ?_)
 ·
  refine xS 120 [2, 3] ?_
  refine jA (oA ?_)
  obtain rfl := Option.some.inj h0
  refine mA [] ?_
  exact rG
 ·
  refine qA (iA ?_)
  refine xS 104 [1, 6] ?_
  refine kA ?_
  refine xS 136 [1, 6, 18, 19, 20] ?_
  obtain ⟨x12, hxx12, h0⟩ := fA h0
  refine sD (fun s' => s'.nx ≤ 144 ∧ LeN [] s' ⟨[(6, .int .i64 x12)], [(0, ⟨0, true, true, 5, [[.psl 1 (List.map (sA 4 aA.enc) vs1.Runs), .psl 1 (List.map (dA .i64) vs1.At), .psl 2 (List.map cA.enc vs1.Tree.Keys), .psl 1 (List.map (dA .i64) vs1.Tree.Lose), .int .i64 vs1.Tree.Win]]⟩)], 144, []⟩) ?_ ?_
  ·
   intro s' hs
   obtain ⟨hn, hs⟩ := hs
   refine iA ?_
   refine dC [] hn hs ?_
   refine xS 168 [2, 3] ?_
   refine jA ?_
   obtain rfl := Option.some.inj h0
   refine mA [] ?_
   exact rG
  ·
   refine oD (ι := { p : Nat × Int × Int // hI vs1 p.1 p.2.1 p.2.2 = some x12 }) (fun p => ⟨[(1, .ref 0 0 0 0), (6, .int .i64 p.1.2.1), (18, .psl 1 (List.map (sA 4 aA.enc) vs1.Runs)), (19, .int .i64 (vs1.Runs.length : Int)), (20, .int .i64 p.1.2.2)], [(0, ⟨0, true, true, 5, [[.psl 1 (List.map (sA 4 aA.enc) vs1.Runs), .psl 1 (List.map (dA .i64) vs1.At), .psl 2 (List.map cA.enc vs1.Tree.Keys), .psl 1 (List.map (dA .i64) vs1.Tree.Lose), .int .i64 vs1.Tree.Win]]⟩)], 136, []⟩) (fun p => p.1.1) ⟨(fu, 0, 0), hxx12⟩ ⟨rF, rE, rfl, rfl, trivial, trivial⟩ (fun _ => Nat.le_refl _) ?_
   rintro ⟨⟨fu, n13, v14⟩, h1⟩
   cases fu with
   | zero =>
   replace h1 : hI vs1 0 n13 v14 = some x12 := h1
   rw [hI] at h1; cases h1
   | succ fu =>
    replace h1 : hI vs1 (fu + 1) n13 v14 = some x12 := h1
    rw [hI] at h1
    refine (show pA _ _ _ _ ⟨[(1, .ref 0 0 0 0), (6, .int .i64 n13), (18, .psl 1 (List.map (sA 4 aA.enc) vs1.Runs)), (19, .int .i64 (vs1.Runs.length : Int)), (20, .int .i64 v14)], [(0, ⟨0, true, true, 5, [[.psl 1 (List.map (sA 4 aA.enc) vs1.Runs), .psl 1 (List.map (dA .i64) vs1.At), .psl 2 (List.map cA.enc vs1.Tree.Keys), .psl 1 (List.map (dA .i64) vs1.Tree.Lose), .int .i64 vs1.Tree.Win]]⟩)], 136, []⟩ from ?_)
    refine xS 144 [1, 6, 18, 19, 20, 21] ?_
    refine kA ?_
    refine xI h1 rfl (fun h1 hb15 => ?_) (fun h1 hb15 => ?_)
    ·
     refine qA (iA (kA (nC ?_)))
     obtain ⟨e16, he16, h1⟩ := fA h1
     obtain ⟨he16a, he16b, he16c⟩ := dB he16
     refine nA 184 [1, 6, 7, 8, 18, 19, 20] (fun _ => none) rfl (fun _ _ => rS (rA he16a (rA he16b he16c))) ?_
     obtain ⟨e17, he17, h1⟩ := fA h1
     obtain ⟨he17a, he17b, he17c⟩ := dB he17
     refine eC 272 [1, 6, 18, 19, 20] (fun _ => none) rfl (fun _ _ => rS (rA he16a (rA he16b (rA he16c (rA he17a (rA he17b he17c)))))) ?_
     refine fC (iA ?_)
     refine eC 288 [1, 6, 18, 19, 20] (fun _ => none) rfl (fun _ _ => rS (rA he16a (rA he16b (rA he16c (rA he17a (rA he17b he17c)))))) ?_
     refine iA ?_
     exact ⟨⟨(fu, (IntKind.i64.wrap (n13 + (IntKind.i64.wrap ((e16.length : Int) - e17)))), (IntKind.i64.wrap (v14 + 1))), h1⟩, ⟨rF, rE, rfl, rfl, trivial, trivial⟩, Nat.lt_succ_self _⟩
    ·
     refine fD (kB (kB (kD ?_)))
     obtain rfl := Option.some.inj h1
     exact ⟨rL, ⟨rF, rE, rfl, rfl, trivial, trivial⟩⟩
theorem lW {fu : Nat} {vs1 : vB} {r : Int × Int} (h0 : oL fu vs1 = some r) : jB Try.prog 25 [.agg (vB.enc vs1)] (.tup [.int .i64 r.1, .int .i64 r.2]) [] := by
 refine tB Try.func25 rfl (by decide) rL ?_
 dsimp only [Try.f25]
 rw [oL] at h0
 refine (show pA _ _ _ _ ⟨iB 0 _, [], 0, []⟩ from ?_)
 refine xS 24 [1] ?_
 refine kA ?_
 obtain ⟨vr2, hvr2, h0⟩ := fA h0
 refine nA 48 [1, 4] (fun | 1 => some (.int .i64 vr2, []) | _ => none) rfl (fun _ _ => rC (zkG hvr2)) ?_
 refine xS 64 [1, 4, 8] ?_
 refine xI h0 rfl (fun h0 hb3 => ?_) (fun h0 hb3 => ?_)
 ·
  refine xS 88 [2, 3] ?_
  refine jA (oA ?_)
  obtain rfl := Option.some.inj h0
  refine mA [] ?_
  exact rG
 ·
  refine qA (iA ?_)
  obtain ⟨vr4, hvr4, h0⟩ := fA h0
  refine nA 120 [2, 3] (fun | 2 => some (.tup [.int .i64 vr4.1, .int .i64 vr4.2], []) | _ => none) rfl (fun _ _ => rC (zot hvr4)) ?_
  refine jA ?_
  obtain rfl := Option.some.inj h0
  refine mA [] ?_
  exact rG
theorem znn {fu : Nat} {vs1 : gB} {r : aA × Int × gB × Int} (h0 : sO fu vs1 = some r) : jB Try.prog 69 [.agg (gB.enc vs1)] (.tup [.agg (aA.enc r.1), .int .i64 r.2.1, .agg (gB.enc r.2.2.1), .int .i64 r.2.2.2]) [] := by
 refine tB Try.func69 rfl (by decide) rL ?_
 dsimp only [Try.f69]
 rw [sO] at h0
 refine (show pA _ _ _ _ ⟨iB 0 _, [], 0, []⟩ from ?_)
 refine xS 40 [1, 2, 4] ?_
 refine sH 7 rfl ?_
 refine kC (l' := List.range' 0 1 ++ (1 :: (List.range' 2 5 ++ []))) rfl ?_
 refine pC 0 1 48 (1 :: (List.range' 2 5 ++ [])) (fun _ => none) rfl rfl rfl (fun _ _ => rT) ?_
 refine dK rfl rfl rfl rfl rfl Try.func88 rfl (by decide) rfl rL ?_
 dsimp only [Try.f88]
 refine xE ⟨[(0, .agg [.psl 1 (List.map (sA 4 aA.enc) vs1.Runs), .psl 1 (List.map (dA .i64) vs1.At), .psl 2 (List.map cA.enc vs1.Tree.Keys), .psl 1 (List.map (dA .i64) vs1.Tree.Lose), .int .i64 vs1.Tree.Win])], [(0, ⟨0, true, true, 5, [[.psl 1 (List.map (sA 4 aA.enc) vs1.Runs), .psl 1 (List.map (dA .i64) vs1.At), .psl 2 (List.map cA.enc vs1.Tree.Keys), .psl 1 (List.map (dA .i64) vs1.Tree.Lose), .int .i64 vs1.Tree.Win]]⟩), (8, ⟨0, true, true, 4, [[.str [], .str [], .bool false, .int .i64 0]]⟩), (24, ⟨0, true, true, 5, [[.nils, .nils, .nils, .nils, .int .i64 0]]⟩)], 48, []⟩ ?_
 refine xS 72 [1] ?_
 refine kA ?_
 obtain ⟨vr2, hvr2, h0⟩ := fA h0
 refine nA 128 [1, 5] (fun | 1 => some (.tup [.int .i64 vr2.1, .int .i64 vr2.2], []) | _ => none) rfl (fun _ _ => rC (zaE hvr2)) ?_
 refine xS 144 [1, 5, 12] ?_
 refine xI h0 rfl (fun h0 hb3 => ?_) (fun h0 hb3 => ?_)
 ·
  refine xS 168 [2, 3] ?_
  refine jA (oA ?_)
  refine qE (fun _ _ => rT) ?_
  refine xF ⟨[(1, .ref 0 0 0 0), (2, .ref 8 0 0 0), (4, .ref 24 0 0 0), (8, .agg [.psl 1 (List.map (sA 4 aA.enc) vs1.Runs), .psl 1 (List.map (dA .i64) vs1.At), .psl 2 (List.map cA.enc vs1.Tree.Keys), .psl 1 (List.map (dA .i64) vs1.Tree.Lose), .int .i64 vs1.Tree.Win]), (9, .tup [.nilp, .int .i64 vr2.2])], [(0, ⟨0, true, true, 5, [[.psl 1 (List.map (sA 4 aA.enc) vs1.Runs), .psl 1 (List.map (dA .i64) vs1.At), .psl 2 (List.map cA.enc vs1.Tree.Keys), .psl 1 (List.map (dA .i64) vs1.Tree.Lose), .int .i64 vs1.Tree.Win]]⟩), (8, ⟨0, true, true, 4, [[.str [], .str [], .bool false, .int .i64 0]]⟩), (24, ⟨0, true, true, 5, [[.nils, .nils, .nils, .nils, .int .i64 0]]⟩)], 168, []⟩ ?_
  refine kC (l' := List.range' 2 5 ++ []) rfl ?_
  refine pC 2 5 208 [] (fun _ => none) rfl rfl rfl (fun _ _ => rT) ?_
  refine iD ?_
  refine iA ?_
  refine xE ⟨[(2, .ref 8 0 0 0), (4, .ref 24 0 0 0), (5, .int .i64 vr2.2), (6, .nilp)], [(0, ⟨0, true, true, 5, [[.psl 1 (List.map (sA 4 aA.enc) vs1.Runs), .psl 1 (List.map (dA .i64) vs1.At), .psl 2 (List.map cA.enc vs1.Tree.Keys), .psl 1 (List.map (dA .i64) vs1.Tree.Lose), .int .i64 vs1.Tree.Win]]⟩), (8, ⟨0, true, true, 4, [[.str [], .str [], .bool false, .int .i64 0]]⟩), (24, ⟨0, true, true, 5, [[.nils, .nils, .nils, .nils, .int .i64 0]]⟩)], 208, []⟩ ?_
  refine kA ?_
  refine xS 224 [2, 4, 5, 6, 13] ?_
  refine vO rfl hb3 ?_
  refine xS 280 [2, 3, 4, 5] ?_
  refine jA (oA ?_)
  obtain rfl := Option.some.inj h0
  refine mA [] ?_
  exact rG
 ·
  refine qA (iA ?_)
  obtain ⟨vr4, hvr4, h0⟩ := fA h0
  obtain ⟨vr5, hvr5, h0⟩ := fA h0
  refine nD 248 [2, 3] (fun | 2 => some (.psl 1 (vr4.map (sA 4 aA.enc)), []) | 5 => some (.sl 0 0 1 0 vr5.length, [⟨0, true, true, 1, vr5.map (dA .i64)⟩]) | _ => none) rfl rfl rfl (fun Kt hK => by
    try have q0 := zbi hvr4
    try have q1 := zde hvr5
    exact dG) ?_
  refine jA ?_
  refine qE (fun _ _ => rT) ?_
  refine xF ⟨[(1, .ref 0 0 0 0), (2, .ref 8 0 0 0), (4, .ref 24 0 0 0), (8, .agg [.psl 1 (List.map (sA 4 aA.enc) vs1.Runs), .psl 1 (List.map (dA .i64) vs1.At), .psl 2 (List.map cA.enc vs1.Tree.Keys), .psl 1 (List.map (dA .i64) vs1.Tree.Lose), .int .i64 vs1.Tree.Win]), (9, .tup [.ref 224 0 0 0, .int .i64 0])], [(0, ⟨0, true, true, 5, [[.psl 1 (List.map (sA 4 aA.enc) vs1.Runs), .psl 1 (List.map (dA .i64) vs1.At), .psl 2 (List.map cA.enc vs1.Tree.Keys), .psl 1 (List.map (dA .i64) vs1.Tree.Lose), .int .i64 vs1.Tree.Win]]⟩), (8, ⟨0, true, true, 4, [[.str [], .str [], .bool false, .int .i64 0]]⟩), (24, ⟨0, true, true, 5, [[.nils, .nils, .nils, .nils, .int .i64 0]]⟩), (184, ⟨0, true, true, 1, List.map (dA .i64) vr5⟩), (224, ⟨0, true, false, 5, [[.psl 1 (List.map (sA 4 aA.enc) vr4), .sl 184 0 1 0 vr5.length, .psl 2 (List.map cA.enc vs1.Tree.Keys), .psl 1 (List.map (dA .i64) vs1.Tree.Lose), .int .i64 vs1.Tree.Win]]⟩)], 248, []⟩ ?_
  refine kC (l' := List.range' 2 5 ++ []) rfl ?_
  refine pC 2 5 288 [] (fun _ => none) rfl rfl rfl (fun _ _ => rT) ?_
  refine iD ?_
  refine iA ?_
  refine xE ⟨[(2, .ref 8 0 0 0), (4, .ref 24 0 0 0), (5, .int .i64 0), (6, .ref 224 0 0 0)], [(0, ⟨0, true, true, 5, [[.psl 1 (List.map (sA 4 aA.enc) vs1.Runs), .psl 1 (List.map (dA .i64) vs1.At), .psl 2 (List.map cA.enc vs1.Tree.Keys), .psl 1 (List.map (dA .i64) vs1.Tree.Lose), .int .i64 vs1.Tree.Win]]⟩), (8, ⟨0, true, true, 4, [[.str [], .str [], .bool false, .int .i64 0]]⟩), (24, ⟨0, true, true, 5, [[.nils, .nils, .nils, .nils, .int .i64 0]]⟩), (184, ⟨0, true, true, 1, List.map (dA .i64) vr5⟩), (224, ⟨0, true, false, 5, [[.psl 1 (List.map (sA 4 aA.enc) vr4), .sl 184 0 1 0 vr5.length, .psl 2 (List.map cA.enc vs1.Tree.Keys), .psl 1 (List.map (dA .i64) vs1.Tree.Lose), .int .i64 vs1.Tree.Win]]⟩)], 288, []⟩ ?_
  refine kA ?_
  refine xS 304 [2, 4, 5, 6, 13] ?_
  refine bG rfl ?_
  refine qA (iA ?_)
  obtain ⟨vr6, hvr6, h0⟩ := fA h0
  refine nA 376 [2, 3, 4, 5, 6] (fun | 1 => some (.tup [.agg (aA.enc vr6.1), .int .i64 vr6.2.1, .int .i64 vr6.2.2], []) | _ => none) rfl (fun _ _ => rC (zc0 hvr6)) ?_
  refine kA ?_
  refine xS 392 [2, 3, 4, 5, 6, 24] ?_
  refine xI h0 rfl (fun h0 hb7 => ?_) (fun h0 hb7 => ?_)
  ·
   refine xS 448 [2, 3, 4, 5] ?_
   refine jA (oA ?_)
   obtain rfl := Option.some.inj h0
   refine mA [] ?_
   exact rG
  ·
   refine qA (iA ?_)
   refine sH 3 rfl ?_
   refine kC (l' := List.range' 0 2 ++ (2 :: (List.range' 3 0 ++ []))) rfl ?_
   refine pC 0 2 408 (2 :: (List.range' 3 0 ++ [])) (fun _ => none) rfl rfl rfl (fun _ _ => rT) ?_
   refine dK rfl rfl rfl rfl rfl Try.func90 rfl (by decide) rfl rL ?_
   dsimp only [Try.f90]
   refine xE ⟨[(0, .ref 224 0 0 0), (1, .int .i64 vr6.2.1)], [(0, ⟨0, true, true, 5, [[.psl 1 (List.map (sA 4 aA.enc) vs1.Runs), .psl 1 (List.map (dA .i64) vs1.At), .psl 2 (List.map cA.enc vs1.Tree.Keys), .psl 1 (List.map (dA .i64) vs1.Tree.Lose), .int .i64 vs1.Tree.Win]]⟩), (8, ⟨0, true, true, 4, [[.str vr6.1.Key, .str vr6.1.Val, .bool vr6.1.Dead, .int .i64 vr6.1.Seq]]⟩), (24, ⟨0, true, true, 5, [[.nils, .nils, .nils, .nils, .int .i64 0]]⟩), (184, ⟨0, true, true, 1, List.map (dA .i64) vr5⟩), (224, ⟨0, true, false, 5, [[.psl 1 (List.map (sA 4 aA.enc) vr4), .sl 184 0 1 0 vr5.length, .psl 2 (List.map cA.enc vs1.Tree.Keys), .psl 1 (List.map (dA .i64) vs1.Tree.Lose), .int .i64 vs1.Tree.Win]]⟩)], 408, []⟩ ?_
   obtain ⟨e8, he8, h0⟩ := fA h0
   obtain ⟨he8a, he8b, he8c⟩ := dB he8
   refine nA 496 [0, 1] (fun _ => none) rfl (fun _ _ => rS (rA he8a (rA he8b he8c))) ?_
   refine xE ⟨[(0, .ref 224 0 0 0), (1, .int .i64 vr6.2.1)], [(0, ⟨0, true, true, 5, [[.psl 1 (List.map (sA 4 aA.enc) vs1.Runs), .psl 1 (List.map (dA .i64) vs1.At), .psl 2 (List.map cA.enc vs1.Tree.Keys), .psl 1 (List.map (dA .i64) vs1.Tree.Lose), .int .i64 vs1.Tree.Win]]⟩), (8, ⟨0, true, true, 4, [[.str vr6.1.Key, .str vr6.1.Val, .bool vr6.1.Dead, .int .i64 vr6.1.Seq]]⟩), (24, ⟨0, true, true, 5, [[.nils, .nils, .nils, .nils, .int .i64 0]]⟩), (184, ⟨0, true, true, 1, List.map (dA .i64) (vr5.set vr6.2.1.toNat (IntKind.i64.wrap (e8 + 1)))⟩), (224, ⟨0, true, false, 5, [[.psl 1 (List.map (sA 4 aA.enc) vr4), .sl 184 0 1 0 ((vr5.set vr6.2.1.toNat (IntKind.i64.wrap (e8 + 1))).length), .psl 2 (List.map cA.enc vs1.Tree.Keys), .psl 1 (List.map (dA .i64) vs1.Tree.Lose), .int .i64 vs1.Tree.Win]]⟩)], 496, []⟩ ?_
   obtain ⟨e9, he9, h0⟩ := fA h0
   obtain ⟨he9a, he9b, he9c⟩ := dB he9
   obtain ⟨e10, he10, h0⟩ := fA h0
   obtain ⟨he10a, he10b, he10c⟩ := dB he10
   obtain ⟨vr11, hvr11, h0⟩ := fA h0
   obtain ⟨vr12, hvr12, h0⟩ := fA h0
   refine zI 752 [] (fun | 22 => some (.agg (cA.enc vr11), []) | 23 => some (.tup [.agg (cB.enc vr12.1), .int .i64 vr12.2.1, .int .i64 vr12.2.2], []) | _ => none) rfl rfl rfl (fun Kt hK => by
     try have q0 := yX hvr11
     try have q1 := zbV hvr12
     exact jF (rA he8a (rA he8b (rA he8c (rA he9a (rA he9b (rA he9c (rA he10a (rA he10b he10c))))))))) ?_
   refine wR (fun _ _ => rS (rA he8a (rA he8b (rA he8c (rA he9a (rA he9b (rA he9c (rA he10a (rA he10b he10c))))))))) ?_
   refine xF ⟨[(2, .ref 8 0 0 0), (3, .int .i64 vr6.2.1), (4, .ref 24 0 0 0), (5, .int .i64 vr6.2.2), (6, .ref 224 0 0 0), (24, .bool (!(decide (vr6.2.2 = 0)))), (28, .ref 224 0 0 0), (29, .int .i64 vr6.2.1), (30, .tup [])], [(0, ⟨0, true, true, 5, [[.psl 1 (List.map (sA 4 aA.enc) vs1.Runs), .psl 1 (List.map (dA .i64) vs1.At), .psl 2 (List.map cA.enc vs1.Tree.Keys), .psl 1 (List.map (dA .i64) vs1.Tree.Lose), .int .i64 vs1.Tree.Win]]⟩), (8, ⟨0, true, true, 4, [[.str vr6.1.Key, .str vr6.1.Val, .bool vr6.1.Dead, .int .i64 vr6.1.Seq]]⟩), (24, ⟨0, true, true, 5, [[.nils, .nils, .nils, .nils, .int .i64 0]]⟩), (184, ⟨0, true, true, 1, List.map (dA .i64) (vr5.set vr6.2.1.toNat (IntKind.i64.wrap (e8 + 1)))⟩), (224, ⟨0, true, false, 5, [[.psl 1 (List.map (sA 4 aA.enc) vr4), .sl 184 0 1 0 ((vr5.set vr6.2.1.toNat (IntKind.i64.wrap (e8 + 1))).length), .psl 2 (List.map cA.enc vr12.1.Keys), .psl 1 (List.map (dA .i64) vr12.1.Lose), .int .i64 vr12.1.Win]]⟩)], 752, []⟩ ?_
   refine kC (l' := []) rfl ?_
   refine iD ?_
   refine iA ?_
   refine xE ⟨[(2, .ref 8 0 0 0), (3, .int .i64 vr6.2.1), (4, .ref 24 0 0 0), (6, .ref 224 0 0 0)], [(0, ⟨0, true, true, 5, [[.psl 1 (List.map (sA 4 aA.enc) vs1.Runs), .psl 1 (List.map (dA .i64) vs1.At), .psl 2 (List.map cA.enc vs1.Tree.Keys), .psl 1 (List.map (dA .i64) vs1.Tree.Lose), .int .i64 vs1.Tree.Win]]⟩), (8, ⟨0, true, true, 4, [[.str vr6.1.Key, .str vr6.1.Val, .bool vr6.1.Dead, .int .i64 vr6.1.Seq]]⟩), (24, ⟨0, true, true, 5, [[.nils, .nils, .nils, .nils, .int .i64 0]]⟩), (184, ⟨0, true, true, 1, List.map (dA .i64) (vr5.set vr6.2.1.toNat (IntKind.i64.wrap (e8 + 1)))⟩), (224, ⟨0, true, false, 5, [[.psl 1 (List.map (sA 4 aA.enc) vr4), .sl 184 0 1 0 ((vr5.set vr6.2.1.toNat (IntKind.i64.wrap (e8 + 1))).length), .psl 2 (List.map cA.enc vr12.1.Keys), .psl 1 (List.map (dA .i64) vr12.1.Lose), .int .i64 vr12.1.Win]]⟩)], 752, []⟩ ?_
   refine nD 832 [2, 3, 4, 5] (fun _ => none) rfl rfl rfl (fun _ _ => jF (rA he8a (rA he8b (rA he8c (rA he9a (rA he9b (rA he9c (rA he10a (rA he10b he10c))))))))) ?_
   refine jA ?_
   obtain rfl := Option.some.inj h0
   refine mA [] ?_
   simp (maxSteps := 1000000) only [↓reduceIte, reduceCtorEq, Nat.reduceEqDiff, Nat.reduceLT, Nat.reduceLeDiff, Nat.reduceAdd, Nat.reduceMul, Int.reduceToNat, push_cast, mC, he8a, he8b, he8c, he9a, he9b, he9c, he10a, he10b, he10c]
   all_goals exact rH
theorem zl6 {fu : Nat} {vs1 : fB} {vx2 : aA} {r : Bool × fB × Int} (h0 : nM fu vs1 vx2 = some r) : jB Try.prog 70 [.agg (fB.enc vs1), .agg (aA.enc vx2)] (.tup [.bool r.1, .agg (fB.enc r.2.1), .int .i64 r.2.2]) [] := by
 refine tB Try.func70 rfl (by decide) rL ?_
 dsimp only [Try.f70]
 rw [nM] at h0
 refine (show pA _ _ _ _ ⟨iB 0 _, [], 0, []⟩ from ?_)
 refine xS 40 [2, 3, 5] ?_
 refine sH 10 rfl ?_
 refine kC (l' := List.range' 0 2 ++ (2 :: (List.range' 3 7 ++ []))) rfl ?_
 refine pC 0 2 56 (2 :: (List.range' 3 7 ++ [])) (fun _ => none) rfl rfl rfl (fun _ _ => rT) ?_
 refine dK rfl rfl rfl rfl rfl Try.func91 rfl (by decide) rfl rL ?_
 dsimp only [Try.f91]
 refine xE ⟨[(0, .agg [.bool vs1.Some, .str vs1.Last, .bool vs1.Bottom]), (1, .agg [.str vx2.Key, .str vx2.Val, .bool vx2.Dead, .int .i64 vx2.Seq])], [(0, ⟨0, true, true, 3, [[.bool vs1.Some, .str vs1.Last, .bool vs1.Bottom]]⟩), (8, ⟨0, true, true, 4, [[.str vx2.Key, .str vx2.Val, .bool vx2.Dead, .int .i64 vx2.Seq]]⟩), (24, ⟨0, true, true, 3, [[.bool false, .str [], .bool false]]⟩)], 56, []⟩ ?_
 refine xS 96 [2, 3, 5] ?_
 refine kA ?_
 obtain ⟨vr3, hvr3, h0⟩ := fA h0
 refine nA 120 [2, 3, 5, 7] (fun | 1 => some (.int .i64 vr3, []) | _ => none) rfl (fun _ _ => rC (zdl hvr3)) ?_
 refine xS 136 [2, 3, 5, 7, 13] ?_
 refine xI h0 rfl (fun h0 hb4 => ?_) (fun h0 hb4 => ?_)
 ·
  refine xS 176 [4, 5, 6] ?_
  refine jA (oA ?_)
  refine qE (fun _ _ => rT) ?_
  refine xF ⟨[(2, .ref 0 0 0 0), (3, .ref 8 0 0 0), (5, .ref 24 0 0 0), (9, .agg [.bool vs1.Some, .str vs1.Last, .bool vs1.Bottom]), (10, .agg [.str vx2.Key, .str vx2.Val, .bool vx2.Dead, .int .i64 vx2.Seq]), (11, .tup [.nili, .agg [.bool false, .str [], .bool false], .int .i64 vr3])], [(0, ⟨0, true, true, 3, [[.bool vs1.Some, .str vs1.Last, .bool vs1.Bottom]]⟩), (8, ⟨0, true, true, 4, [[.str vx2.Key, .str vx2.Val, .bool vx2.Dead, .int .i64 vx2.Seq]]⟩), (24, ⟨0, true, true, 3, [[.bool false, .str [], .bool false]]⟩)], 176, []⟩ ?_
  refine kC (l' := List.range' 3 7 ++ []) rfl ?_
  refine pC 3 7 232 [] (fun _ => none) rfl rfl rfl (fun _ _ => rT) ?_
  refine iD ?_
  refine iA ?_
  refine xE ⟨[(5, .ref 24 0 0 0), (6, .int .i64 vr3), (7, .nili)], [(0, ⟨0, true, true, 3, [[.bool vs1.Some, .str vs1.Last, .bool vs1.Bottom]]⟩), (8, ⟨0, true, true, 4, [[.str vx2.Key, .str vx2.Val, .bool vx2.Dead, .int .i64 vx2.Seq]]⟩), (24, ⟨0, true, true, 3, [[.bool false, .str [], .bool false]]⟩)], 232, []⟩ ?_
  refine xS 280 [4, 5, 6] ?_
  refine nD 328 [4, 5, 6] (fun _ => none) rfl rfl rfl (fun _ _ => dG) ?_
  refine jA ?_
  obtain rfl := Option.some.inj h0
  refine mA [] ?_
  exact rG
 ·
  refine qA (iA (kA ?_))
  obtain ⟨vr5, hvr5, h0⟩ := fA h0
  refine nA 160 [2, 3, 5, 8] (fun | 1 => some (.int .i64 vr5, []) | _ => none) rfl (fun _ _ => rC (vY hvr5)) ?_
  refine xS 176 [2, 3, 5, 8, 19] ?_
  refine xI h0 rfl (fun h0 hb6 => ?_) (fun h0 hb6 => ?_)
  ·
   refine xS 216 [4, 5, 6] ?_
   refine jA (oA ?_)
   refine qE (fun _ _ => rT) ?_
   refine xF ⟨[(2, .ref 0 0 0 0), (3, .ref 8 0 0 0), (5, .ref 24 0 0 0), (9, .agg [.bool vs1.Some, .str vs1.Last, .bool vs1.Bottom]), (10, .agg [.str vx2.Key, .str vx2.Val, .bool vx2.Dead, .int .i64 vx2.Seq]), (11, .tup [.nili, .agg [.bool false, .str [], .bool false], .int .i64 vr5])], [(0, ⟨0, true, true, 3, [[.bool vs1.Some, .str vs1.Last, .bool vs1.Bottom]]⟩), (8, ⟨0, true, true, 4, [[.str vx2.Key, .str vx2.Val, .bool vx2.Dead, .int .i64 vx2.Seq]]⟩), (24, ⟨0, true, true, 3, [[.bool false, .str [], .bool false]]⟩)], 216, []⟩ ?_
   refine kC (l' := List.range' 3 7 ++ []) rfl ?_
   refine pC 3 7 272 [] (fun _ => none) rfl rfl rfl (fun _ _ => rT) ?_
   refine iD ?_
   refine iA ?_
   refine xE ⟨[(5, .ref 24 0 0 0), (6, .int .i64 vr5), (7, .nili)], [(0, ⟨0, true, true, 3, [[.bool vs1.Some, .str vs1.Last, .bool vs1.Bottom]]⟩), (8, ⟨0, true, true, 4, [[.str vx2.Key, .str vx2.Val, .bool vx2.Dead, .int .i64 vx2.Seq]]⟩), (24, ⟨0, true, true, 3, [[.bool false, .str [], .bool false]]⟩)], 272, []⟩ ?_
   refine xS 320 [4, 5, 6] ?_
   refine nD 368 [4, 5, 6] (fun _ => none) rfl rfl rfl (fun _ _ => dG) ?_
   refine jA ?_
   obtain rfl := Option.some.inj h0
   refine mA [] ?_
   exact rG
  ·
   refine qA (iA (kA ?_))
   obtain ⟨b7, hb7, h0⟩ := fA h0
   refine eD (fr' := [(2, .ref 56 0 0 0), (3, .ref 64 0 0 0), (5, .ref 80 0 0 0), (30, .bool b7)]) (hp' := [(0, ⟨0, true, true, 3, [[.bool vs1.Some, .str vs1.Last, .bool vs1.Bottom]]⟩), (8, ⟨0, true, true, 4, [[.str vx2.Key, .str vx2.Val, .bool vx2.Dead, .int .i64 vx2.Seq]]⟩), (24, ⟨0, true, true, 3, [[.bool false, .str [], .bool false]]⟩), (56, ⟨0, true, true, 3, [[.bool vs1.Some, .str vs1.Last, .bool vs1.Bottom]]⟩), (64, ⟨0, true, true, 4, [[.str vx2.Key, .str vx2.Val, .bool vx2.Dead, .int .i64 vx2.Seq]]⟩), (80, ⟨0, true, true, 3, [[.bool false, .str [], .bool false]]⟩)]) [0, 8, 24, 56, 64, 80] 248 [2, 3, 5, 30] (fun _ => none) rfl (fun Kt hK => by
     cases hg8 : vs1.Some with
     | false =>
      replace hb7 := vA hb7 hg8
      have hqb7 := Option.some.inj hb7
      subst hqb7
      simp (maxSteps := 1000000) only [↓reduceIte, reduceCtorEq, Nat.reduceEqDiff, Nat.reduceLT, Nat.reduceLeDiff, Nat.reduceAdd, Nat.reduceMul, Int.reduceToNat, push_cast, ↓hg8]
      try simp only [↓hg8] at hK
      all_goals exact rU
     | true =>
      replace hb7 := lB hb7 hg8
      have hqb7 := Option.some.inj hb7
      subst hqb7
      simp (maxSteps := 1000000) only [↓reduceIte, reduceCtorEq, Nat.reduceEqDiff, Nat.reduceLT, Nat.reduceLeDiff, Nat.reduceAdd, Nat.reduceMul, Int.reduceToNat, push_cast, ↓hg8]
      try simp only [↓hg8] at hK
      all_goals exact rU) ?_
   refine xI h0 rfl (fun h0 hb9 => ?_) (fun h0 hb9 => ?_)
   ·
    refine xS 280 [4, 5, 6] ?_
    refine jA (oA ?_)
    refine qE (fun _ _ => rT) ?_
    refine xF ⟨[(2, .ref 0 0 0 0), (3, .ref 8 0 0 0), (5, .ref 24 0 0 0), (9, .agg [.bool vs1.Some, .str vs1.Last, .bool vs1.Bottom]), (10, .agg [.str vx2.Key, .str vx2.Val, .bool vx2.Dead, .int .i64 vx2.Seq]), (11, .tup [.nili, .agg [.bool false, .str [], .bool false], .int .i64 6])], [(0, ⟨0, true, true, 3, [[.bool vs1.Some, .str vs1.Last, .bool vs1.Bottom]]⟩), (8, ⟨0, true, true, 4, [[.str vx2.Key, .str vx2.Val, .bool vx2.Dead, .int .i64 vx2.Seq]]⟩), (24, ⟨0, true, true, 3, [[.bool false, .str [], .bool false]]⟩)], 280, []⟩ ?_
    refine kC (l' := List.range' 3 7 ++ []) rfl ?_
    refine pC 3 7 336 [] (fun _ => none) rfl rfl rfl (fun _ _ => rT) ?_
    refine iD ?_
    refine iA ?_
    refine xE ⟨[(5, .ref 24 0 0 0), (6, .int .i64 6), (7, .nili)], [(0, ⟨0, true, true, 3, [[.bool vs1.Some, .str vs1.Last, .bool vs1.Bottom]]⟩), (8, ⟨0, true, true, 4, [[.str vx2.Key, .str vx2.Val, .bool vx2.Dead, .int .i64 vx2.Seq]]⟩), (24, ⟨0, true, true, 3, [[.bool false, .str [], .bool false]]⟩)], 336, []⟩ ?_
    refine xS 384 [4, 5, 6] ?_
    refine nD 432 [4, 5, 6] (fun _ => none) rfl rfl rfl (fun _ _ => dG) ?_
    refine jA ?_
    obtain rfl := Option.some.inj h0
    refine mA [] ?_
    exact rG
   ·
    refine qA (iA ?_)
    refine xS 304 [2, 3, 5, 9] ?_
    refine kA (nC ?_)
    obtain ⟨b10, hb10, h0⟩ := fA h0
    refine eD (fr' := [(2, .ref 56 0 0 0), (3, .ref 64 0 0 0), (5, .ref 80 0 0 0), (9, .ref 288 0 0 0), (37, .bool b10)]) (hp' := [(0, ⟨0, true, true, 3, [[.bool vs1.Some, .str vs1.Last, .bool vs1.Bottom]]⟩), (8, ⟨0, true, true, 4, [[.str vx2.Key, .str vx2.Val, .bool vx2.Dead, .int .i64 vx2.Seq]]⟩), (24, ⟨0, true, true, 3, [[.bool false, .str [], .bool false]]⟩), (56, ⟨0, true, true, 3, [[.bool vs1.Some, .str vs1.Last, .bool vs1.Bottom]]⟩), (64, ⟨0, true, true, 4, [[.str vx2.Key, .str vx2.Val, .bool vx2.Dead, .int .i64 vx2.Seq]]⟩), (80, ⟨0, true, true, 3, [[.bool false, .str [], .bool false]]⟩), (288, ⟨0, true, true, 3, [[.bool true, .str vx2.Key, .bool vs1.Bottom]]⟩)]) [0, 8, 24, 56, 64, 80, 288] 384 [2, 3, 5, 9, 37] (fun _ => none) rfl (fun Kt hK => by
      cases hg11 : vs1.Some with
      | false =>
       replace hb10 := vA hb10 hg11
       have hqb10 := Option.some.inj hb10
       subst hqb10
       simp (maxSteps := 1000000) only [↓reduceIte, reduceCtorEq, Nat.reduceEqDiff, Nat.reduceLT, Nat.reduceLeDiff, Nat.reduceAdd, Nat.reduceMul, Int.reduceToNat, push_cast, ↓hg11]
       try simp only [↓hg11] at hK
       all_goals exact rU
      | true =>
       replace hb10 := lB hb10 hg11
       have hqb10 := Option.some.inj hb10
       subst hqb10
       simp (maxSteps := 1000000) only [↓reduceIte, reduceCtorEq, Nat.reduceEqDiff, Nat.reduceLT, Nat.reduceLeDiff, Nat.reduceAdd, Nat.reduceMul, Int.reduceToNat, push_cast, ↓hg11]
       try simp only [↓hg11] at hK
       all_goals exact rU) ?_
    refine xI h0 rfl (fun h0 hb12 => ?_) (fun h0 hb12 => ?_)
    ·
     refine nD 432 [4, 5, 6] (fun _ => none) rfl rfl rfl (fun _ _ => dG) ?_
     refine jA (oC (oA ?_))
     refine qE (fun _ _ => rT) ?_
     refine xF ⟨[(2, .ref 0 0 0 0), (3, .ref 8 0 0 0), (5, .ref 24 0 0 0), (9, .agg [.bool vs1.Some, .str vs1.Last, .bool vs1.Bottom]), (10, .agg [.str vx2.Key, .str vx2.Val, .bool vx2.Dead, .int .i64 vx2.Seq]), (11, .tup [.iface 163 (.agg [.str vx2.Key, .str vx2.Val, .bool vx2.Dead, .int .i64 vx2.Seq]), .agg [.bool true, .str vx2.Key, .bool vs1.Bottom], .int .i64 0])], [(0, ⟨0, true, true, 3, [[.bool vs1.Some, .str vs1.Last, .bool vs1.Bottom]]⟩), (8, ⟨0, true, true, 4, [[.str vx2.Key, .str vx2.Val, .bool vx2.Dead, .int .i64 vx2.Seq]]⟩), (24, ⟨0, true, true, 3, [[.bool false, .str [], .bool false]]⟩)], 432, []⟩ ?_
     refine kC (l' := List.range' 3 7 ++ []) rfl ?_
     refine pC 3 7 488 [] (fun _ => none) rfl rfl rfl (fun _ _ => rT) ?_
     refine iD ?_
     refine iA ?_
     refine xE ⟨[(5, .ref 24 0 0 0), (6, .int .i64 0), (7, .iface 163 (.agg [.str vx2.Key, .str vx2.Val, .bool vx2.Dead, .int .i64 vx2.Seq]))], [(0, ⟨0, true, true, 3, [[.bool vs1.Some, .str vs1.Last, .bool vs1.Bottom]]⟩), (8, ⟨0, true, true, 4, [[.str vx2.Key, .str vx2.Val, .bool vx2.Dead, .int .i64 vx2.Seq]]⟩), (24, ⟨0, true, true, 3, [[.bool true, .str vx2.Key, .bool vs1.Bottom]]⟩)], 488, []⟩ ?_
     refine xS 536 [4, 5, 6] ?_
     refine nD 584 [4, 5, 6] (fun _ => none) rfl rfl rfl (fun _ _ => dG) ?_
     refine jA ?_
     obtain rfl := Option.some.inj h0
     refine mA [] ?_
     exact rG
    ·
     obtain ⟨b13, hb13, h0⟩ := fA h0
     refine eD (fr' := [(3, .ref 64 0 0 0), (5, .ref 80 0 0 0), (9, .ref 288 0 0 0), (50, .bool b13)]) (hp' := [(0, ⟨0, true, true, 3, [[.bool vs1.Some, .str vs1.Last, .bool vs1.Bottom]]⟩), (8, ⟨0, true, true, 4, [[.str vx2.Key, .str vx2.Val, .bool vx2.Dead, .int .i64 vx2.Seq]]⟩), (24, ⟨0, true, true, 3, [[.bool false, .str [], .bool false]]⟩), (56, ⟨0, true, true, 3, [[.bool vs1.Some, .str vs1.Last, .bool vs1.Bottom]]⟩), (64, ⟨0, true, true, 4, [[.str vx2.Key, .str vx2.Val, .bool vx2.Dead, .int .i64 vx2.Seq]]⟩), (80, ⟨0, true, true, 3, [[.bool false, .str [], .bool false]]⟩), (288, ⟨0, true, true, 3, [[.bool true, .str vx2.Key, .bool vs1.Bottom]]⟩)]) [0, 8, 24, 56, 64, 80, 288] 440 [3, 5, 9, 50] (fun _ => none) rfl (fun Kt hK => by
       cases hg14 : vs1.Bottom with
       | false =>
        replace hb13 := vA hb13 hg14
        have hqb13 := Option.some.inj hb13
        subst hqb13
        simp (maxSteps := 1000000) only [↓reduceIte, reduceCtorEq, Nat.reduceEqDiff, Nat.reduceLT, Nat.reduceLeDiff, Nat.reduceAdd, Nat.reduceMul, Int.reduceToNat, push_cast, ↓hg14]
        try simp only [↓hg14] at hK
        all_goals exact rU
       | true =>
        replace hb13 := lB hb13 hg14
        have hqb13 := Option.some.inj hb13
        subst hqb13
        simp (maxSteps := 1000000) only [↓reduceIte, reduceCtorEq, Nat.reduceEqDiff, Nat.reduceLT, Nat.reduceLeDiff, Nat.reduceAdd, Nat.reduceMul, Int.reduceToNat, push_cast, ↓hg14]
        try simp only [↓hg14] at hK
        all_goals exact rU) ?_
     refine xI h0 rfl (fun h0 hb15 => ?_) (fun h0 hb15 => ?_)
     ·
      refine nD 488 [4, 5, 6] (fun _ => none) rfl rfl rfl (fun _ _ => dG) ?_
      refine jA (oC (oA ?_))
      refine qE (fun _ _ => rT) ?_
      refine xF ⟨[(2, .ref 0 0 0 0), (3, .ref 8 0 0 0), (5, .ref 24 0 0 0), (9, .agg [.bool vs1.Some, .str vs1.Last, .bool vs1.Bottom]), (10, .agg [.str vx2.Key, .str vx2.Val, .bool vx2.Dead, .int .i64 vx2.Seq]), (11, .tup [.iface 164 (.agg [.str vx2.Key, .str vx2.Val, .bool vx2.Dead, .int .i64 vx2.Seq]), .agg [.bool true, .str vx2.Key, .bool vs1.Bottom], .int .i64 0])], [(0, ⟨0, true, true, 3, [[.bool vs1.Some, .str vs1.Last, .bool vs1.Bottom]]⟩), (8, ⟨0, true, true, 4, [[.str vx2.Key, .str vx2.Val, .bool vx2.Dead, .int .i64 vx2.Seq]]⟩), (24, ⟨0, true, true, 3, [[.bool false, .str [], .bool false]]⟩)], 488, []⟩ ?_
      refine kC (l' := List.range' 3 7 ++ []) rfl ?_
      refine pC 3 7 544 [] (fun _ => none) rfl rfl rfl (fun _ _ => rT) ?_
      refine iD ?_
      refine iA ?_
      refine xE ⟨[(5, .ref 24 0 0 0), (6, .int .i64 0), (7, .iface 164 (.agg [.str vx2.Key, .str vx2.Val, .bool vx2.Dead, .int .i64 vx2.Seq]))], [(0, ⟨0, true, true, 3, [[.bool vs1.Some, .str vs1.Last, .bool vs1.Bottom]]⟩), (8, ⟨0, true, true, 4, [[.str vx2.Key, .str vx2.Val, .bool vx2.Dead, .int .i64 vx2.Seq]]⟩), (24, ⟨0, true, true, 3, [[.bool true, .str vx2.Key, .bool vs1.Bottom]]⟩)], 544, []⟩ ?_
      refine xS 592 [4, 5, 6] ?_
      refine nD 640 [4, 5, 6] (fun _ => none) rfl rfl rfl (fun _ _ => dG) ?_
      refine jA ?_
      obtain rfl := Option.some.inj h0
      refine mA [] ?_
      exact rG
     ·
      refine qA (fC (iA ?_))
      refine nD 488 [4, 5, 6] (fun _ => none) rfl rfl rfl (fun _ _ => dG) ?_
      refine jA ?_
      refine qE (fun _ _ => rT) ?_
      refine xF ⟨[(2, .ref 0 0 0 0), (3, .ref 8 0 0 0), (5, .ref 24 0 0 0), (9, .agg [.bool vs1.Some, .str vs1.Last, .bool vs1.Bottom]), (10, .agg [.str vx2.Key, .str vx2.Val, .bool vx2.Dead, .int .i64 vx2.Seq]), (11, .tup [.iface 143 (.agg [.str vx2.Key, .str vx2.Val, .bool vx2.Dead, .int .i64 vx2.Seq]), .agg [.bool true, .str vx2.Key, .bool vs1.Bottom], .int .i64 0])], [(0, ⟨0, true, true, 3, [[.bool vs1.Some, .str vs1.Last, .bool vs1.Bottom]]⟩), (8, ⟨0, true, true, 4, [[.str vx2.Key, .str vx2.Val, .bool vx2.Dead, .int .i64 vx2.Seq]]⟩), (24, ⟨0, true, true, 3, [[.bool false, .str [], .bool false]]⟩)], 488, []⟩ ?_
      refine kC (l' := List.range' 3 7 ++ []) rfl ?_
      refine pC 3 7 544 [] (fun _ => none) rfl rfl rfl (fun _ _ => rT) ?_
      refine iD ?_
      refine iA ?_
      refine xE ⟨[(5, .ref 24 0 0 0), (6, .int .i64 0), (7, .iface 143 (.agg [.str vx2.Key, .str vx2.Val, .bool vx2.Dead, .int .i64 vx2.Seq]))], [(0, ⟨0, true, true, 3, [[.bool vs1.Some, .str vs1.Last, .bool vs1.Bottom]]⟩), (8, ⟨0, true, true, 4, [[.str vx2.Key, .str vx2.Val, .bool vx2.Dead, .int .i64 vx2.Seq]]⟩), (24, ⟨0, true, true, 3, [[.bool true, .str vx2.Key, .bool vs1.Bottom]]⟩)], 544, []⟩ ?_
      refine xS 592 [4, 5, 6] ?_
      refine nD 640 [4, 5, 6] (fun _ => none) rfl rfl rfl (fun _ _ => dG) ?_
      refine jA ?_
      obtain rfl := Option.some.inj h0
      refine mA [] ?_
      exact rG
theorem zcL {fu : Nat} {vs1 : vB} {n2 : Int} {r : vB × Int × Int} (h0 : iO fu vs1 n2 = some r) : jB Try.prog 31 [.agg (vB.enc vs1), .int .i64 n2] (.tup [.agg (vB.enc r.1), .int .i64 r.2.1, .int .i64 r.2.2]) [] := by
 refine tB Try.func31 rfl (by decide) rL ?_
 dsimp only [Try.f31]
 rw [iO] at h0
 refine (show pA _ _ _ _ ⟨iB 0 _, [], 0, []⟩ from ?_)
 refine xS 32 [1, 2, 4] ?_
 obtain ⟨vr3, hvr3, h0⟩ := fA h0
 refine nA 88 [1, 2, 4, 6, 7] (fun | 1 => some (.tup [.int .i64 vr3.1, .int .i64 vr3.2], []) | _ => none) rfl (fun _ _ => rC (lW hvr3)) ?_
 refine kA (nC ?_)
 refine xS 112 [1, 2, 4, 6, 7, 15] ?_
 refine xI h0 rfl (fun h0 hb4 => ?_) (fun h0 hb4 => ?_)
 ·
  refine xS 152 [4, 5, 6] ?_
  refine jA (oC (oA ?_))
  obtain rfl := Option.some.inj h0
  refine mA [] ?_
  exact rG
 ·
  refine xS 136 [1, 2, 4, 7, 20] ?_
  refine xI h0 rfl (fun h0 hb5 => ?_) (fun h0 hb5 => ?_)
  ·
   refine xS 168 [4, 5, 6] ?_
   refine jA (oC (oA ?_))
   obtain rfl := Option.some.inj h0
   refine mA [] ?_
   exact rG
  ·
   refine qA (fC (iA ?_))
   refine xS 168 [2, 4, 5] ?_
   refine kA ?_
   refine xS 208 [2, 4, 5, 31] ?_
   refine xI h0 rfl (fun h0 hb6 => ?_) (fun h0 hb6 => ?_)
   ·
    refine xS 240 [4, 5, 6] ?_
    refine jA (oA ?_)
    obtain rfl := Option.some.inj h0
    refine mA [] ?_
    exact rG
   ·
    refine qA (iA ?_)
    refine xS 240 [2, 4, 5, 8] ?_
    obtain ⟨hc7, h0⟩ := pE h0
    refine xS 288 [2, 4, 5, 8] ?_
    refine xE ⟨[(2, .ref 0 0 0 0), (4, .ref 8 0 0 0), (5, .int .i64 (if vr3.1 < n2 then vr3.1 else n2)), (8, .ref 224 0 0 0)], [(0, ⟨0, true, true, 10, [[.psl 1 (List.map (sA 4 aA.enc) vs1.Merge.Runs), .psl 1 (List.map (dA .i64) vs1.Merge.At), .psl 2 (List.map cA.enc vs1.Merge.Tree.Keys), .psl 1 (List.map (dA .i64) vs1.Merge.Tree.Lose), .int .i64 vs1.Merge.Tree.Win, .bool vs1.Shadow.Some, .str vs1.Shadow.Last, .bool vs1.Shadow.Bottom, .psl 4 (List.map aA.enc vs1.Out), .int .i64 vs1.Steps]]⟩), (8, ⟨0, true, true, 10, [[.nils, .nils, .nils, .nils, .int .i64 0, .bool false, .str [], .bool false, .nils, .int .i64 0]]⟩), (224, ⟨0, true, false, 10, [[.psl 1 (List.map (sA 4 aA.enc) vs1.Merge.Runs), .psl 1 (List.map (dA .i64) vs1.Merge.At), .psl 2 (List.map cA.enc vs1.Merge.Tree.Keys), .psl 1 (List.map (dA .i64) vs1.Merge.Tree.Lose), .int .i64 vs1.Merge.Tree.Win, .bool vs1.Shadow.Some, .str vs1.Shadow.Last, .bool vs1.Shadow.Bottom, .sl 256 0 4 0 vs1.Out.length, .int .i64 vs1.Steps]]⟩), (256, ⟨0, true, true, 4, List.map aA.enc vs1.Out⟩)], 288, []⟩ ?_
    obtain ⟨hc8, h0⟩ := pE h0
    refine xS 352 [4, 5, 8] ?_
    refine xE ⟨[(4, .ref 8 0 0 0), (5, .int .i64 (if vr3.1 < n2 then vr3.1 else n2)), (8, .ref 224 0 0 0)], [(0, ⟨0, true, true, 10, [[.psl 1 (List.map (sA 4 aA.enc) vs1.Merge.Runs), .psl 1 (List.map (dA .i64) vs1.Merge.At), .psl 2 (List.map cA.enc vs1.Merge.Tree.Keys), .psl 1 (List.map (dA .i64) vs1.Merge.Tree.Lose), .int .i64 vs1.Merge.Tree.Win, .bool vs1.Shadow.Some, .str vs1.Shadow.Last, .bool vs1.Shadow.Bottom, .psl 4 (List.map aA.enc vs1.Out), .int .i64 vs1.Steps]]⟩), (8, ⟨0, true, true, 10, [[.nils, .nils, .nils, .nils, .int .i64 0, .bool false, .str [], .bool false, .nils, .int .i64 0]]⟩), (224, ⟨0, true, false, 10, [[.psl 1 (List.map (sA 4 aA.enc) vs1.Merge.Runs), .sl 312 0 1 0 vs1.Merge.At.length, .psl 2 (List.map cA.enc vs1.Merge.Tree.Keys), .psl 1 (List.map (dA .i64) vs1.Merge.Tree.Lose), .int .i64 vs1.Merge.Tree.Win, .bool vs1.Shadow.Some, .str vs1.Shadow.Last, .bool vs1.Shadow.Bottom, .sl 256 0 4 0 vs1.Out.length, .int .i64 vs1.Steps]]⟩), (256, ⟨0, true, true, 4, List.map aA.enc vs1.Out⟩), (312, ⟨0, true, true, 1, List.map (dA .i64) vs1.Merge.At⟩)], 352, []⟩ ?_
    refine kA ?_
    refine sH 4 rfl ?_
    refine kC (l' := List.range' 0 2 ++ (2 :: (List.range' 3 1 ++ []))) rfl ?_
    refine pC 0 2 368 (2 :: (List.range' 3 1 ++ [])) (fun _ => none) rfl rfl rfl (fun _ _ => rT) ?_
    refine dK rfl rfl rfl rfl rfl Try.func50 rfl (by decide) rfl rL ?_
    dsimp only [Try.f50]
    refine xE ⟨[(0, .int .i64 (if vr3.1 < n2 then vr3.1 else n2)), (1, .fn 51 [.ref 224 0 0 0] [])], [(0, ⟨0, true, true, 10, [[.psl 1 (List.map (sA 4 aA.enc) vs1.Merge.Runs), .psl 1 (List.map (dA .i64) vs1.Merge.At), .psl 2 (List.map cA.enc vs1.Merge.Tree.Keys), .psl 1 (List.map (dA .i64) vs1.Merge.Tree.Lose), .int .i64 vs1.Merge.Tree.Win, .bool vs1.Shadow.Some, .str vs1.Shadow.Last, .bool vs1.Shadow.Bottom, .psl 4 (List.map aA.enc vs1.Out), .int .i64 vs1.Steps]]⟩), (8, ⟨0, true, true, 10, [[.nils, .nils, .nils, .nils, .int .i64 0, .bool false, .str [], .bool false, .nils, .int .i64 0]]⟩), (224, ⟨0, true, false, 10, [[.psl 1 (List.map (sA 4 aA.enc) vs1.Merge.Runs), .sl 312 0 1 0 vs1.Merge.At.length, .psl 2 (List.map cA.enc vs1.Merge.Tree.Keys), .psl 1 (List.map (dA .i64) vs1.Merge.Tree.Lose), .int .i64 vs1.Merge.Tree.Win, .bool vs1.Shadow.Some, .str vs1.Shadow.Last, .bool vs1.Shadow.Bottom, .sl 256 0 4 0 vs1.Out.length, .int .i64 vs1.Steps]]⟩), (256, ⟨0, true, true, 4, List.map aA.enc vs1.Out⟩), (312, ⟨0, true, true, 1, List.map (dA .i64) vs1.Merge.At⟩)], 368, []⟩ ?_
    refine xS 376 [0, 1] ?_
    refine kA ?_
    refine xS 392 [1, 6, 7] ?_
    refine zeo [312] (fun Kt hK => by simp only [↓reduceIte, reduceCtorEq, Nat.reduceEqDiff, Nat.reduceLT, Nat.reduceLeDiff, Nat.reduceAdd, Nat.reduceMul, Int.reduceToNat, Nat.reduceBEq, push_cast]; exact hK) ?_
    refine xE ⟨[(1, .fn 51 [.ref 224 0 0 0] []), (6, .int .i64 (if vr3.1 < n2 then vr3.1 else n2)), (7, .int .i64 0)], [(0, ⟨0, true, true, 10, [[.psl 1 (List.map (sA 4 aA.enc) vs1.Merge.Runs), .psl 1 (List.map (dA .i64) vs1.Merge.At), .psl 2 (List.map cA.enc vs1.Merge.Tree.Keys), .psl 1 (List.map (dA .i64) vs1.Merge.Tree.Lose), .int .i64 vs1.Merge.Tree.Win, .bool vs1.Shadow.Some, .str vs1.Shadow.Last, .bool vs1.Shadow.Bottom, .psl 4 (List.map aA.enc vs1.Out), .int .i64 vs1.Steps]]⟩), (8, ⟨0, true, true, 10, [[.nils, .nils, .nils, .nils, .int .i64 0, .bool false, .str [], .bool false, .nils, .int .i64 0]]⟩), (224, ⟨0, true, false, 10, [[.psl 1 (List.map (sA 4 aA.enc) vs1.Merge.Runs), .psl 1 (List.map (dA .i64) vs1.Merge.At), .psl 2 (List.map cA.enc vs1.Merge.Tree.Keys), .psl 1 (List.map (dA .i64) vs1.Merge.Tree.Lose), .int .i64 vs1.Merge.Tree.Win, .bool vs1.Shadow.Some, .str vs1.Shadow.Last, .bool vs1.Shadow.Bottom, .sl 256 0 4 0 vs1.Out.length, .int .i64 vs1.Steps]]⟩), (256, ⟨0, true, true, 4, List.map aA.enc vs1.Out⟩), (312, ⟨0, false, true, 1, List.map (dA .i64) vs1.Merge.At⟩)], 392, []⟩ ?_
    obtain ⟨x42, hxx42, h0⟩ := fA h0
    refine sD (fun s' => ∃ o62 : List (List aA) × List Int × List cA × List Int × Int × Bool × List UInt8 × Bool × Int × List aA, ∃ g63 : Nat, x42 = .inl o62 ∧ s'.nx ≤ 400 ∧ LeN [] s' ⟨[], [(0, ⟨0, true, true, 10, [[.psl 1 (List.map (sA 4 aA.enc) vs1.Merge.Runs), .psl 1 (List.map (dA .i64) vs1.Merge.At), .psl 2 (List.map cA.enc vs1.Merge.Tree.Keys), .psl 1 (List.map (dA .i64) vs1.Merge.Tree.Lose), .int .i64 vs1.Merge.Tree.Win, .bool vs1.Shadow.Some, .str vs1.Shadow.Last, .bool vs1.Shadow.Bottom, .psl 4 (List.map aA.enc vs1.Out), .int .i64 vs1.Steps]]⟩), (8, ⟨0, true, true, 10, [[.nils, .nils, .nils, .nils, .int .i64 0, .bool false, .str [], .bool false, .nils, .int .i64 0]]⟩), (224, ⟨0, true, false, 10, [[.psl 1 (List.map (sA 4 aA.enc) o62.1), .psl 1 (List.map (dA .i64) o62.2.1), .psl 2 (List.map cA.enc o62.2.2.1), .psl 1 (List.map (dA .i64) o62.2.2.2.1), .int .i64 o62.2.2.2.2.1, .bool o62.2.2.2.2.2.1, .str o62.2.2.2.2.2.2.1, .bool o62.2.2.2.2.2.2.2.1, .sl 256 g63 4 0 o62.2.2.2.2.2.2.2.2.2.length, .int .i64 o62.2.2.2.2.2.2.2.2.1]]⟩), (256, ⟨g63, true, true, 4, List.map aA.enc o62.2.2.2.2.2.2.2.2.2⟩), (312, ⟨0, false, true, 1, List.map (dA .i64) vs1.Merge.At⟩)], 400, []⟩) ?_ ?_
    ·
     intro s' hs
     obtain ⟨o62, g63, rfl, hn, hs⟩ := hs
     refine iA ?_
     refine dC [] hn hs ?_
     refine xS 408 [4] ?_
     refine jA ?_
     refine qE (fun _ _ => rT) ?_
     refine xF ⟨[(4, .ref 8 0 0 0), (5, .int .i64 (if vr3.1 < n2 then vr3.1 else n2)), (8, .ref 224 0 0 0), (47, .int .i64 (if vr3.1 < n2 then vr3.1 else n2)), (48, .fn 51 [.ref 224 0 0 0] []), (49, .int .i64 0)], [(0, ⟨0, true, true, 10, [[.psl 1 (List.map (sA 4 aA.enc) vs1.Merge.Runs), .psl 1 (List.map (dA .i64) vs1.Merge.At), .psl 2 (List.map cA.enc vs1.Merge.Tree.Keys), .psl 1 (List.map (dA .i64) vs1.Merge.Tree.Lose), .int .i64 vs1.Merge.Tree.Win, .bool vs1.Shadow.Some, .str vs1.Shadow.Last, .bool vs1.Shadow.Bottom, .psl 4 (List.map aA.enc vs1.Out), .int .i64 vs1.Steps]]⟩), (8, ⟨0, true, true, 10, [[.nils, .nils, .nils, .nils, .int .i64 0, .bool false, .str [], .bool false, .nils, .int .i64 0]]⟩), (224, ⟨0, true, false, 10, [[.psl 1 (List.map (sA 4 aA.enc) o62.1), .psl 1 (List.map (dA .i64) o62.2.1), .psl 2 (List.map cA.enc o62.2.2.1), .psl 1 (List.map (dA .i64) o62.2.2.2.1), .int .i64 o62.2.2.2.2.1, .bool o62.2.2.2.2.2.1, .str o62.2.2.2.2.2.2.1, .bool o62.2.2.2.2.2.2.2.1, .sl 256 g63 4 0 o62.2.2.2.2.2.2.2.2.2.length, .int .i64 o62.2.2.2.2.2.2.2.2.1]]⟩), (256, ⟨g63, true, true, 4, List.map aA.enc o62.2.2.2.2.2.2.2.2.2⟩), (312, ⟨0, false, true, 1, List.map (dA .i64) vs1.Merge.At⟩)], 408, []⟩ ?_
     refine kC (l' := List.range' 3 1 ++ []) rfl ?_
     refine pC 3 1 416 [] (fun _ => none) rfl rfl rfl (fun _ _ => rT) ?_
     refine iD ?_
     refine iA ?_
     refine xE ⟨[(4, .ref 8 0 0 0), (5, .int .i64 (if vr3.1 < n2 then vr3.1 else n2)), (8, .ref 224 0 0 0), (9, .int .i64 0)], [(0, ⟨0, true, true, 10, [[.psl 1 (List.map (sA 4 aA.enc) vs1.Merge.Runs), .psl 1 (List.map (dA .i64) vs1.Merge.At), .psl 2 (List.map cA.enc vs1.Merge.Tree.Keys), .psl 1 (List.map (dA .i64) vs1.Merge.Tree.Lose), .int .i64 vs1.Merge.Tree.Win, .bool vs1.Shadow.Some, .str vs1.Shadow.Last, .bool vs1.Shadow.Bottom, .psl 4 (List.map aA.enc vs1.Out), .int .i64 vs1.Steps]]⟩), (8, ⟨0, true, true, 10, [[.nils, .nils, .nils, .nils, .int .i64 0, .bool false, .str [], .bool false, .nils, .int .i64 0]]⟩), (224, ⟨0, true, false, 10, [[.psl 1 (List.map (sA 4 aA.enc) o62.1), .psl 1 (List.map (dA .i64) o62.2.1), .psl 2 (List.map cA.enc o62.2.2.1), .psl 1 (List.map (dA .i64) o62.2.2.2.1), .int .i64 o62.2.2.2.2.1, .bool o62.2.2.2.2.2.1, .str o62.2.2.2.2.2.2.1, .bool o62.2.2.2.2.2.2.2.1, .sl 256 g63 4 0 o62.2.2.2.2.2.2.2.2.2.length, .int .i64 o62.2.2.2.2.2.2.2.2.1]]⟩), (256, ⟨g63, true, true, 4, List.map aA.enc o62.2.2.2.2.2.2.2.2.2⟩), (312, ⟨0, false, true, 1, List.map (dA .i64) vs1.Merge.At⟩)], 416, []⟩ ?_
     refine xS 432 [4, 5, 8, 9, 51] ?_
     refine bG rfl ?_
     refine qA (iA ?_)
     refine xS 480 [4, 5, 6] ?_
     refine jA ?_
     obtain rfl := Option.some.inj h0
     refine mA [] ?_
     exact rG
    ·
     refine oD (ι := { p : Nat × Int × List (List aA) × List Int × List cA × List Int × Int × Bool × List UInt8 × Bool × Int × List aA × Nat // vH vr3 n2 p.1 p.2.1 p.2.2.1 p.2.2.2.1 p.2.2.2.2.1 p.2.2.2.2.2.1 p.2.2.2.2.2.2.1 p.2.2.2.2.2.2.2.1 p.2.2.2.2.2.2.2.2.1 p.2.2.2.2.2.2.2.2.2.1 p.2.2.2.2.2.2.2.2.2.2.1 p.2.2.2.2.2.2.2.2.2.2.2.1 = some x42 }) (fun p => ⟨[(1, .fn 51 [.ref 224 0 0 0] []), (6, .int .i64 (if vr3.1 < n2 then vr3.1 else n2)), (7, .int .i64 p.1.2.1)], [(0, ⟨0, true, true, 10, [[.psl 1 (List.map (sA 4 aA.enc) vs1.Merge.Runs), .psl 1 (List.map (dA .i64) vs1.Merge.At), .psl 2 (List.map cA.enc vs1.Merge.Tree.Keys), .psl 1 (List.map (dA .i64) vs1.Merge.Tree.Lose), .int .i64 vs1.Merge.Tree.Win, .bool vs1.Shadow.Some, .str vs1.Shadow.Last, .bool vs1.Shadow.Bottom, .psl 4 (List.map aA.enc vs1.Out), .int .i64 vs1.Steps]]⟩), (8, ⟨0, true, true, 10, [[.nils, .nils, .nils, .nils, .int .i64 0, .bool false, .str [], .bool false, .nils, .int .i64 0]]⟩), (224, ⟨0, true, false, 10, [[.psl 1 (List.map (sA 4 aA.enc) p.1.2.2.1), .psl 1 (List.map (dA .i64) p.1.2.2.2.1), .psl 2 (List.map cA.enc p.1.2.2.2.2.1), .psl 1 (List.map (dA .i64) p.1.2.2.2.2.2.1), .int .i64 p.1.2.2.2.2.2.2.1, .bool p.1.2.2.2.2.2.2.2.1, .str p.1.2.2.2.2.2.2.2.2.1, .bool p.1.2.2.2.2.2.2.2.2.2.1, .sl 256 p.1.2.2.2.2.2.2.2.2.2.2.2.2 4 0 p.1.2.2.2.2.2.2.2.2.2.2.2.1.length, .int .i64 p.1.2.2.2.2.2.2.2.2.2.2.1]]⟩), (256, ⟨p.1.2.2.2.2.2.2.2.2.2.2.2.2, true, true, 4, List.map aA.enc p.1.2.2.2.2.2.2.2.2.2.2.2.1⟩), (312, ⟨0, false, true, 1, List.map (dA .i64) vs1.Merge.At⟩)], 392, []⟩) (fun p => p.1.1) ⟨(fu, 0, vs1.Merge.Runs, vs1.Merge.At, vs1.Merge.Tree.Keys, vs1.Merge.Tree.Lose, vs1.Merge.Tree.Win, vs1.Shadow.Some, vs1.Shadow.Last, vs1.Shadow.Bottom, vs1.Steps, vs1.Out, 0), hxx42⟩ ⟨rF, rE, rfl, rfl, trivial, trivial⟩ (fun _ => Nat.le_refl _) ?_
     rintro ⟨⟨fu, left43, v44, v45, v46, v47, v48, v49, v50, v51, v52, v53, g54⟩, h1⟩
     cases fu with
     | zero =>
   replace h1 : vH vr3 n2 0 left43 v44 v45 v46 v47 v48 v49 v50 v51 v52 v53 = some x42 := h1
   rw [vH] at h1; cases h1
     | succ fu =>
      replace h1 : vH vr3 n2 (fu + 1) left43 v44 v45 v46 v47 v48 v49 v50 v51 v52 v53 = some x42 := h1
      rw [vH] at h1
      refine (show pA _ _ _ _ ⟨[(1, .fn 51 [.ref 224 0 0 0] []), (6, .int .i64 (if vr3.1 < n2 then vr3.1 else n2)), (7, .int .i64 left43)], [(0, ⟨0, true, true, 10, [[.psl 1 (List.map (sA 4 aA.enc) vs1.Merge.Runs), .psl 1 (List.map (dA .i64) vs1.Merge.At), .psl 2 (List.map cA.enc vs1.Merge.Tree.Keys), .psl 1 (List.map (dA .i64) vs1.Merge.Tree.Lose), .int .i64 vs1.Merge.Tree.Win, .bool vs1.Shadow.Some, .str vs1.Shadow.Last, .bool vs1.Shadow.Bottom, .psl 4 (List.map aA.enc vs1.Out), .int .i64 vs1.Steps]]⟩), (8, ⟨0, true, true, 10, [[.nils, .nils, .nils, .nils, .int .i64 0, .bool false, .str [], .bool false, .nils, .int .i64 0]]⟩), (224, ⟨0, true, false, 10, [[.psl 1 (List.map (sA 4 aA.enc) v44), .psl 1 (List.map (dA .i64) v45), .psl 2 (List.map cA.enc v46), .psl 1 (List.map (dA .i64) v47), .int .i64 v48, .bool v49, .str v50, .bool v51, .sl 256 g54 4 0 v53.length, .int .i64 v52]]⟩), (256, ⟨g54, true, true, 4, List.map aA.enc v53⟩), (312, ⟨0, false, true, 1, List.map (dA .i64) vs1.Merge.At⟩)], 392, []⟩ from ?_)
      refine xS 400 [1, 6, 7, 8] ?_
      refine kA ?_
      refine xI h1 rfl (fun h1 hb55 => ?_) (fun h1 hb55 => ?_)
      ·
       refine qA (iA (kA (nC ?_)))
       refine sH 3 rfl ?_
       refine kC (l' := List.range' 0 1 ++ (1 :: (List.range' 2 1 ++ []))) rfl ?_
       refine pC 0 1 408 (1 :: (List.range' 2 1 ++ [])) (fun _ => none) rfl rfl rfl (fun _ _ => rT) ?_
       refine dK rfl rfl rfl rfl rfl Try.func51 rfl (by decide) rfl rL ?_
       dsimp only [Try.f51]
       refine xE ⟨[(0, .ref 224 0 0 0)], [(0, ⟨0, true, true, 10, [[.psl 1 (List.map (sA 4 aA.enc) vs1.Merge.Runs), .psl 1 (List.map (dA .i64) vs1.Merge.At), .psl 2 (List.map cA.enc vs1.Merge.Tree.Keys), .psl 1 (List.map (dA .i64) vs1.Merge.Tree.Lose), .int .i64 vs1.Merge.Tree.Win, .bool vs1.Shadow.Some, .str vs1.Shadow.Last, .bool vs1.Shadow.Bottom, .psl 4 (List.map aA.enc vs1.Out), .int .i64 vs1.Steps]]⟩), (8, ⟨0, true, true, 10, [[.nils, .nils, .nils, .nils, .int .i64 0, .bool false, .str [], .bool false, .nils, .int .i64 0]]⟩), (224, ⟨0, true, false, 10, [[.psl 1 (List.map (sA 4 aA.enc) v44), .psl 1 (List.map (dA .i64) v45), .psl 2 (List.map cA.enc v46), .psl 1 (List.map (dA .i64) v47), .int .i64 v48, .bool v49, .str v50, .bool v51, .sl 256 g54 4 0 v53.length, .int .i64 v52]]⟩), (256, ⟨g54, true, true, 4, List.map aA.enc v53⟩), (312, ⟨0, false, true, 1, List.map (dA .i64) vs1.Merge.At⟩)], 408, []⟩ ?_
       refine xS 416 [0] ?_
       obtain ⟨vr56, hvr56, h1⟩ := fA h1
       refine nA 552 [0, 3, 5, 6] (fun | 5 => some (.tup [.agg (aA.enc vr56.1), .int .i64 vr56.2.1, .agg (gB.enc vr56.2.2.1), .int .i64 vr56.2.2.2], []) | _ => none) rfl (fun _ _ => rC (znn hvr56)) ?_
       refine kA ?_
       refine xS 568 [0, 3, 5, 6, 21] ?_
       refine xI h1 rfl (fun h1 hb57 => ?_) (fun h1 hb57 => ?_)
       ·
        refine xS 584 [2] ?_
        refine jA (oA ?_)
        refine qE (fun _ _ => rT) ?_
        refine xF ⟨[(1, .fn 51 [.ref 224 0 0 0] []), (6, .int .i64 (if vr3.1 < n2 then vr3.1 else n2)), (7, .int .i64 left43), (8, .bool (decide (left43 < (if vr3.1 < n2 then vr3.1 else n2)))), (9, .fn 51 [.ref 224 0 0 0] []), (10, .int .i64 vr56.2.2.2)], [(0, ⟨0, true, true, 10, [[.psl 1 (List.map (sA 4 aA.enc) vs1.Merge.Runs), .psl 1 (List.map (dA .i64) vs1.Merge.At), .psl 2 (List.map cA.enc vs1.Merge.Tree.Keys), .psl 1 (List.map (dA .i64) vs1.Merge.Tree.Lose), .int .i64 vs1.Merge.Tree.Win, .bool vs1.Shadow.Some, .str vs1.Shadow.Last, .bool vs1.Shadow.Bottom, .psl 4 (List.map aA.enc vs1.Out), .int .i64 vs1.Steps]]⟩), (8, ⟨0, true, true, 10, [[.nils, .nils, .nils, .nils, .int .i64 0, .bool false, .str [], .bool false, .nils, .int .i64 0]]⟩), (224, ⟨0, true, false, 10, [[.psl 1 (List.map (sA 4 aA.enc) v44), .psl 1 (List.map (dA .i64) v45), .psl 2 (List.map cA.enc v46), .psl 1 (List.map (dA .i64) v47), .int .i64 v48, .bool v49, .str v50, .bool v51, .sl 256 g54 4 0 v53.length, .int .i64 v52]]⟩), (256, ⟨g54, true, true, 4, List.map aA.enc v53⟩), (312, ⟨0, false, true, 1, List.map (dA .i64) vs1.Merge.At⟩)], 584, []⟩ ?_
        refine kC (l' := List.range' 2 1 ++ []) rfl ?_
        refine pC 2 1 592 [] (fun _ => none) rfl rfl rfl (fun _ _ => rT) ?_
        refine iD ?_
        refine iA ?_
        refine xE ⟨[(1, .fn 51 [.ref 224 0 0 0] []), (5, .int .i64 vr56.2.2.2), (6, .int .i64 (if vr3.1 < n2 then vr3.1 else n2)), (7, .int .i64 left43)], [(0, ⟨0, true, true, 10, [[.psl 1 (List.map (sA 4 aA.enc) vs1.Merge.Runs), .psl 1 (List.map (dA .i64) vs1.Merge.At), .psl 2 (List.map cA.enc vs1.Merge.Tree.Keys), .psl 1 (List.map (dA .i64) vs1.Merge.Tree.Lose), .int .i64 vs1.Merge.Tree.Win, .bool vs1.Shadow.Some, .str vs1.Shadow.Last, .bool vs1.Shadow.Bottom, .psl 4 (List.map aA.enc vs1.Out), .int .i64 vs1.Steps]]⟩), (8, ⟨0, true, true, 10, [[.nils, .nils, .nils, .nils, .int .i64 0, .bool false, .str [], .bool false, .nils, .int .i64 0]]⟩), (224, ⟨0, true, false, 10, [[.psl 1 (List.map (sA 4 aA.enc) v44), .psl 1 (List.map (dA .i64) v45), .psl 2 (List.map cA.enc v46), .psl 1 (List.map (dA .i64) v47), .int .i64 v48, .bool v49, .str v50, .bool v51, .sl 256 g54 4 0 v53.length, .int .i64 v52]]⟩), (256, ⟨g54, true, true, 4, List.map aA.enc v53⟩), (312, ⟨0, false, true, 1, List.map (dA .i64) vs1.Merge.At⟩)], 592, []⟩ ?_
        refine xS 608 [1, 5, 6, 7, 12] ?_
        refine vO rfl hb57 ?_
        refine xS 624 [4] ?_
        refine jA ?_
        obtain rfl := Option.some.inj h1
        refine oC (oA (oA (zD (oA ?_))))
        refine qE (fun _ _ => rT) ?_
        refine xF ⟨[(4, .ref 8 0 0 0), (5, .int .i64 (if vr3.1 < n2 then vr3.1 else n2)), (8, .ref 224 0 0 0), (47, .int .i64 (if vr3.1 < n2 then vr3.1 else n2)), (48, .fn 51 [.ref 224 0 0 0] []), (49, .int .i64 vr56.2.2.2)], [(0, ⟨0, true, true, 10, [[.psl 1 (List.map (sA 4 aA.enc) vs1.Merge.Runs), .psl 1 (List.map (dA .i64) vs1.Merge.At), .psl 2 (List.map cA.enc vs1.Merge.Tree.Keys), .psl 1 (List.map (dA .i64) vs1.Merge.Tree.Lose), .int .i64 vs1.Merge.Tree.Win, .bool vs1.Shadow.Some, .str vs1.Shadow.Last, .bool vs1.Shadow.Bottom, .psl 4 (List.map aA.enc vs1.Out), .int .i64 vs1.Steps]]⟩), (8, ⟨0, true, true, 10, [[.nils, .nils, .nils, .nils, .int .i64 0, .bool false, .str [], .bool false, .nils, .int .i64 0]]⟩), (224, ⟨0, true, false, 10, [[.psl 1 (List.map (sA 4 aA.enc) v44), .psl 1 (List.map (dA .i64) v45), .psl 2 (List.map cA.enc v46), .psl 1 (List.map (dA .i64) v47), .int .i64 v48, .bool v49, .str v50, .bool v51, .sl 256 g54 4 0 v53.length, .int .i64 v52]]⟩), (256, ⟨g54, true, true, 4, List.map aA.enc v53⟩), (312, ⟨0, false, true, 1, List.map (dA .i64) vs1.Merge.At⟩)], 624, []⟩ ?_
        refine kC (l' := List.range' 3 1 ++ []) rfl ?_
        refine pC 3 1 632 [] (fun _ => none) rfl rfl rfl (fun _ _ => rT) ?_
        refine iD ?_
        refine iA ?_
        refine xE ⟨[(4, .ref 8 0 0 0), (5, .int .i64 (if vr3.1 < n2 then vr3.1 else n2)), (8, .ref 224 0 0 0), (9, .int .i64 vr56.2.2.2)], [(0, ⟨0, true, true, 10, [[.psl 1 (List.map (sA 4 aA.enc) vs1.Merge.Runs), .psl 1 (List.map (dA .i64) vs1.Merge.At), .psl 2 (List.map cA.enc vs1.Merge.Tree.Keys), .psl 1 (List.map (dA .i64) vs1.Merge.Tree.Lose), .int .i64 vs1.Merge.Tree.Win, .bool vs1.Shadow.Some, .str vs1.Shadow.Last, .bool vs1.Shadow.Bottom, .psl 4 (List.map aA.enc vs1.Out), .int .i64 vs1.Steps]]⟩), (8, ⟨0, true, true, 10, [[.nils, .nils, .nils, .nils, .int .i64 0, .bool false, .str [], .bool false, .nils, .int .i64 0]]⟩), (224, ⟨0, true, false, 10, [[.psl 1 (List.map (sA 4 aA.enc) v44), .psl 1 (List.map (dA .i64) v45), .psl 2 (List.map cA.enc v46), .psl 1 (List.map (dA .i64) v47), .int .i64 v48, .bool v49, .str v50, .bool v51, .sl 256 g54 4 0 v53.length, .int .i64 v52]]⟩), (256, ⟨g54, true, true, 4, List.map aA.enc v53⟩), (312, ⟨0, false, true, 1, List.map (dA .i64) vs1.Merge.At⟩)], 632, []⟩ ?_
        refine xS 648 [4, 5, 8, 9, 51] ?_
        refine vO rfl hb57 ?_
        refine xS 688 [4, 5, 6] ?_
        refine jA (oA ?_)
        obtain rfl := Option.some.inj h0
        refine mA [] ?_
        exact rG
       ·
        refine qA (iA ?_)
        obtain ⟨vr58, hvr58, h1⟩ := fA h1
        refine nD 688 [0, 3, 5, 6, 7, 8] (fun | 6 => some (.tup [.bool vr58.1, .agg (fB.enc vr58.2.1), .int .i64 vr58.2.2], []) | _ => none) rfl rfl rfl (fun _ _ => rCd (zl6 hvr58)) ?_
        refine kA ?_
        refine xS 704 [0, 3, 5, 6, 7, 8, 35] ?_
        refine xI h1 rfl (fun h1 hb59 => ?_) (fun h1 hb59 => ?_)
        ·
         refine xS 720 [2] ?_
         refine jA (oA ?_)
         refine qE (fun _ _ => rT) ?_
         refine xF ⟨[(1, .fn 51 [.ref 224 0 0 0] []), (6, .int .i64 (if vr3.1 < n2 then vr3.1 else n2)), (7, .int .i64 left43), (8, .bool (decide (left43 < (if vr3.1 < n2 then vr3.1 else n2)))), (9, .fn 51 [.ref 224 0 0 0] []), (10, .int .i64 vr58.2.2)], [(0, ⟨0, true, true, 10, [[.psl 1 (List.map (sA 4 aA.enc) vs1.Merge.Runs), .psl 1 (List.map (dA .i64) vs1.Merge.At), .psl 2 (List.map cA.enc vs1.Merge.Tree.Keys), .psl 1 (List.map (dA .i64) vs1.Merge.Tree.Lose), .int .i64 vs1.Merge.Tree.Win, .bool vs1.Shadow.Some, .str vs1.Shadow.Last, .bool vs1.Shadow.Bottom, .psl 4 (List.map aA.enc vs1.Out), .int .i64 vs1.Steps]]⟩), (8, ⟨0, true, true, 10, [[.nils, .nils, .nils, .nils, .int .i64 0, .bool false, .str [], .bool false, .nils, .int .i64 0]]⟩), (224, ⟨0, true, false, 10, [[.psl 1 (List.map (sA 4 aA.enc) v44), .psl 1 (List.map (dA .i64) v45), .psl 2 (List.map cA.enc v46), .psl 1 (List.map (dA .i64) v47), .int .i64 v48, .bool v49, .str v50, .bool v51, .sl 256 g54 4 0 v53.length, .int .i64 v52]]⟩), (256, ⟨g54, true, true, 4, List.map aA.enc v53⟩), (312, ⟨0, false, true, 1, List.map (dA .i64) vs1.Merge.At⟩)], 720, []⟩ ?_
         refine kC (l' := List.range' 2 1 ++ []) rfl ?_
         refine pC 2 1 728 [] (fun _ => none) rfl rfl rfl (fun _ _ => rT) ?_
         refine iD ?_
         refine iA ?_
         refine xE ⟨[(1, .fn 51 [.ref 224 0 0 0] []), (5, .int .i64 vr58.2.2), (6, .int .i64 (if vr3.1 < n2 then vr3.1 else n2)), (7, .int .i64 left43)], [(0, ⟨0, true, true, 10, [[.psl 1 (List.map (sA 4 aA.enc) vs1.Merge.Runs), .psl 1 (List.map (dA .i64) vs1.Merge.At), .psl 2 (List.map cA.enc vs1.Merge.Tree.Keys), .psl 1 (List.map (dA .i64) vs1.Merge.Tree.Lose), .int .i64 vs1.Merge.Tree.Win, .bool vs1.Shadow.Some, .str vs1.Shadow.Last, .bool vs1.Shadow.Bottom, .psl 4 (List.map aA.enc vs1.Out), .int .i64 vs1.Steps]]⟩), (8, ⟨0, true, true, 10, [[.nils, .nils, .nils, .nils, .int .i64 0, .bool false, .str [], .bool false, .nils, .int .i64 0]]⟩), (224, ⟨0, true, false, 10, [[.psl 1 (List.map (sA 4 aA.enc) v44), .psl 1 (List.map (dA .i64) v45), .psl 2 (List.map cA.enc v46), .psl 1 (List.map (dA .i64) v47), .int .i64 v48, .bool v49, .str v50, .bool v51, .sl 256 g54 4 0 v53.length, .int .i64 v52]]⟩), (256, ⟨g54, true, true, 4, List.map aA.enc v53⟩), (312, ⟨0, false, true, 1, List.map (dA .i64) vs1.Merge.At⟩)], 728, []⟩ ?_
         refine xS 744 [1, 5, 6, 7, 12] ?_
         refine vO rfl hb59 ?_
         refine xS 760 [4] ?_
         refine jA ?_
         obtain rfl := Option.some.inj h1
         refine oC (oA (oA (zD (oA ?_))))
         refine qE (fun _ _ => rT) ?_
         refine xF ⟨[(4, .ref 8 0 0 0), (5, .int .i64 (if vr3.1 < n2 then vr3.1 else n2)), (8, .ref 224 0 0 0), (47, .int .i64 (if vr3.1 < n2 then vr3.1 else n2)), (48, .fn 51 [.ref 224 0 0 0] []), (49, .int .i64 vr58.2.2)], [(0, ⟨0, true, true, 10, [[.psl 1 (List.map (sA 4 aA.enc) vs1.Merge.Runs), .psl 1 (List.map (dA .i64) vs1.Merge.At), .psl 2 (List.map cA.enc vs1.Merge.Tree.Keys), .psl 1 (List.map (dA .i64) vs1.Merge.Tree.Lose), .int .i64 vs1.Merge.Tree.Win, .bool vs1.Shadow.Some, .str vs1.Shadow.Last, .bool vs1.Shadow.Bottom, .psl 4 (List.map aA.enc vs1.Out), .int .i64 vs1.Steps]]⟩), (8, ⟨0, true, true, 10, [[.nils, .nils, .nils, .nils, .int .i64 0, .bool false, .str [], .bool false, .nils, .int .i64 0]]⟩), (224, ⟨0, true, false, 10, [[.psl 1 (List.map (sA 4 aA.enc) v44), .psl 1 (List.map (dA .i64) v45), .psl 2 (List.map cA.enc v46), .psl 1 (List.map (dA .i64) v47), .int .i64 v48, .bool v49, .str v50, .bool v51, .sl 256 g54 4 0 v53.length, .int .i64 v52]]⟩), (256, ⟨g54, true, true, 4, List.map aA.enc v53⟩), (312, ⟨0, false, true, 1, List.map (dA .i64) vs1.Merge.At⟩)], 760, []⟩ ?_
         refine kC (l' := List.range' 3 1 ++ []) rfl ?_
         refine pC 3 1 768 [] (fun _ => none) rfl rfl rfl (fun _ _ => rT) ?_
         refine iD ?_
         refine iA ?_
         refine xE ⟨[(4, .ref 8 0 0 0), (5, .int .i64 (if vr3.1 < n2 then vr3.1 else n2)), (8, .ref 224 0 0 0), (9, .int .i64 vr58.2.2)], [(0, ⟨0, true, true, 10, [[.psl 1 (List.map (sA 4 aA.enc) vs1.Merge.Runs), .psl 1 (List.map (dA .i64) vs1.Merge.At), .psl 2 (List.map cA.enc vs1.Merge.Tree.Keys), .psl 1 (List.map (dA .i64) vs1.Merge.Tree.Lose), .int .i64 vs1.Merge.Tree.Win, .bool vs1.Shadow.Some, .str vs1.Shadow.Last, .bool vs1.Shadow.Bottom, .psl 4 (List.map aA.enc vs1.Out), .int .i64 vs1.Steps]]⟩), (8, ⟨0, true, true, 10, [[.nils, .nils, .nils, .nils, .int .i64 0, .bool false, .str [], .bool false, .nils, .int .i64 0]]⟩), (224, ⟨0, true, false, 10, [[.psl 1 (List.map (sA 4 aA.enc) v44), .psl 1 (List.map (dA .i64) v45), .psl 2 (List.map cA.enc v46), .psl 1 (List.map (dA .i64) v47), .int .i64 v48, .bool v49, .str v50, .bool v51, .sl 256 g54 4 0 v53.length, .int .i64 v52]]⟩), (256, ⟨g54, true, true, 4, List.map aA.enc v53⟩), (312, ⟨0, false, true, 1, List.map (dA .i64) vs1.Merge.At⟩)], 768, []⟩ ?_
         refine xS 784 [4, 5, 8, 9, 51] ?_
         refine vO rfl hb59 ?_
         refine xS 824 [4, 5, 6] ?_
         refine jA (oA ?_)
         obtain rfl := Option.some.inj h0
         refine mA [] ?_
         exact rG
        ·
         refine qA (iA ?_)
         refine nD 800 [0, 3, 7] (fun _ => none) rfl rfl rfl (fun _ _ => dG) ?_
         refine xS 880 [0, 3, 7] ?_
         refine kA ?_
         refine xS 888 [0, 3, 56] ?_
         refine xI h1 rfl (fun h1 hb60 => ?_) (fun h1 hb60 => ?_)
         ·
          obtain ⟨hc61, h1⟩ := pE h1
          refine zI 992 [] (fun _ => none) rfl rfl rfl (fun _ _ => dG) ?_
          refine iA ?_
          refine xE ⟨[], [(0, ⟨0, true, true, 10, [[.psl 1 (List.map (sA 4 aA.enc) vs1.Merge.Runs), .psl 1 (List.map (dA .i64) vs1.Merge.At), .psl 2 (List.map cA.enc vs1.Merge.Tree.Keys), .psl 1 (List.map (dA .i64) vs1.Merge.Tree.Lose), .int .i64 vs1.Merge.Tree.Win, .bool vs1.Shadow.Some, .str vs1.Shadow.Last, .bool vs1.Shadow.Bottom, .psl 4 (List.map aA.enc vs1.Out), .int .i64 vs1.Steps]]⟩), (8, ⟨0, true, true, 10, [[.nils, .nils, .nils, .nils, .int .i64 0, .bool false, .str [], .bool false, .nils, .int .i64 0]]⟩), (224, ⟨0, true, false, 10, [[.psl 1 (List.map (sA 4 aA.enc) vr56.2.2.1.Runs), .psl 1 (List.map (dA .i64) vr56.2.2.1.At), .psl 2 (List.map cA.enc vr56.2.2.1.Tree.Keys), .psl 1 (List.map (dA .i64) vr56.2.2.1.Tree.Lose), .int .i64 vr56.2.2.1.Tree.Win, .bool vr58.2.1.Some, .str vr58.2.1.Last, .bool vr58.2.1.Bottom, .sl 256 (g54 + 1) 4 0 ((v53 ++ [vr56.1]).length), .int .i64 (IntKind.i64.wrap (v52 + 1))]]⟩), (256, ⟨(g54 + 1), true, true, 4, List.map aA.enc (v53 ++ [vr56.1])⟩), (312, ⟨0, false, true, 1, List.map (dA .i64) vs1.Merge.At⟩), (504, ⟨0, true, true, 4, [[.str vr56.1.Key, .str vr56.1.Val, .bool vr56.1.Dead, .int .i64 vr56.1.Seq]]⟩), (512, ⟨0, true, true, 5, [[.psl 1 (List.map (sA 4 aA.enc) vr56.2.2.1.Runs), .psl 1 (List.map (dA .i64) vr56.2.2.1.At), .psl 2 (List.map cA.enc vr56.2.2.1.Tree.Keys), .psl 1 (List.map (dA .i64) vr56.2.2.1.Tree.Lose), .int .i64 vr56.2.2.1.Tree.Win]]⟩), (656, ⟨0, true, true, 3, [[.bool vr58.2.1.Some, .str vr58.2.1.Last, .bool vr58.2.1.Bottom]]⟩), (944, ⟨0, true, true, 4, List.map aA.enc [vr56.1]⟩)], 992, []⟩ ?_
          refine xS 1000 [2] ?_
          refine jA ?_
          refine qE (fun _ _ => rT) ?_
          refine xF ⟨[(1, .fn 51 [.ref 224 0 0 0] []), (6, .int .i64 (if vr3.1 < n2 then vr3.1 else n2)), (7, .int .i64 left43), (8, .bool (decide (left43 < (if vr3.1 < n2 then vr3.1 else n2)))), (9, .fn 51 [.ref 224 0 0 0] []), (10, .int .i64 0)], [(0, ⟨0, true, true, 10, [[.psl 1 (List.map (sA 4 aA.enc) vs1.Merge.Runs), .psl 1 (List.map (dA .i64) vs1.Merge.At), .psl 2 (List.map cA.enc vs1.Merge.Tree.Keys), .psl 1 (List.map (dA .i64) vs1.Merge.Tree.Lose), .int .i64 vs1.Merge.Tree.Win, .bool vs1.Shadow.Some, .str vs1.Shadow.Last, .bool vs1.Shadow.Bottom, .psl 4 (List.map aA.enc vs1.Out), .int .i64 vs1.Steps]]⟩), (8, ⟨0, true, true, 10, [[.nils, .nils, .nils, .nils, .int .i64 0, .bool false, .str [], .bool false, .nils, .int .i64 0]]⟩), (224, ⟨0, true, false, 10, [[.psl 1 (List.map (sA 4 aA.enc) vr56.2.2.1.Runs), .psl 1 (List.map (dA .i64) vr56.2.2.1.At), .psl 2 (List.map cA.enc vr56.2.2.1.Tree.Keys), .psl 1 (List.map (dA .i64) vr56.2.2.1.Tree.Lose), .int .i64 vr56.2.2.1.Tree.Win, .bool vr58.2.1.Some, .str vr58.2.1.Last, .bool vr58.2.1.Bottom, .sl 256 (g54 + 1) 4 0 ((v53 ++ [vr56.1]).length), .int .i64 (IntKind.i64.wrap (v52 + 1))]]⟩), (256, ⟨(g54 + 1), true, true, 4, List.map aA.enc (v53 ++ [vr56.1])⟩), (312, ⟨0, false, true, 1, List.map (dA .i64) vs1.Merge.At⟩)], 1000, []⟩ ?_
          refine kC (l' := List.range' 2 1 ++ []) rfl ?_
          refine pC 2 1 1008 [] (fun _ => none) rfl rfl rfl (fun _ _ => rT) ?_
          refine iD ?_
          refine iA ?_
          refine xE ⟨[(1, .fn 51 [.ref 224 0 0 0] []), (5, .int .i64 0), (6, .int .i64 (if vr3.1 < n2 then vr3.1 else n2)), (7, .int .i64 left43)], [(0, ⟨0, true, true, 10, [[.psl 1 (List.map (sA 4 aA.enc) vs1.Merge.Runs), .psl 1 (List.map (dA .i64) vs1.Merge.At), .psl 2 (List.map cA.enc vs1.Merge.Tree.Keys), .psl 1 (List.map (dA .i64) vs1.Merge.Tree.Lose), .int .i64 vs1.Merge.Tree.Win, .bool vs1.Shadow.Some, .str vs1.Shadow.Last, .bool vs1.Shadow.Bottom, .psl 4 (List.map aA.enc vs1.Out), .int .i64 vs1.Steps]]⟩), (8, ⟨0, true, true, 10, [[.nils, .nils, .nils, .nils, .int .i64 0, .bool false, .str [], .bool false, .nils, .int .i64 0]]⟩), (224, ⟨0, true, false, 10, [[.psl 1 (List.map (sA 4 aA.enc) vr56.2.2.1.Runs), .psl 1 (List.map (dA .i64) vr56.2.2.1.At), .psl 2 (List.map cA.enc vr56.2.2.1.Tree.Keys), .psl 1 (List.map (dA .i64) vr56.2.2.1.Tree.Lose), .int .i64 vr56.2.2.1.Tree.Win, .bool vr58.2.1.Some, .str vr58.2.1.Last, .bool vr58.2.1.Bottom, .sl 256 (g54 + 1) 4 0 ((v53 ++ [vr56.1]).length), .int .i64 (IntKind.i64.wrap (v52 + 1))]]⟩), (256, ⟨(g54 + 1), true, true, 4, List.map aA.enc (v53 ++ [vr56.1])⟩), (312, ⟨0, false, true, 1, List.map (dA .i64) vs1.Merge.At⟩)], 1008, []⟩ ?_
          refine xS 1024 [1, 5, 6, 7, 12] ?_
          refine bG rfl ?_
          refine qA (fC (iA ?_))
          refine xR 1040 [1, 6, 7] ?_
          refine iA ?_
          exact ⟨⟨(fu, (IntKind.i64.wrap (left43 + 1)), vr56.2.2.1.Runs, vr56.2.2.1.At, vr56.2.2.1.Tree.Keys, vr56.2.2.1.Tree.Lose, vr56.2.2.1.Tree.Win, vr58.2.1.Some, vr58.2.1.Last, vr58.2.1.Bottom, (IntKind.i64.wrap (v52 + 1)), (v53 ++ [vr56.1]), (g54 + 1)), h1⟩, ⟨rF, rE, rfl, rfl, trivial, trivial⟩, Nat.lt_succ_self _⟩
         ·
          refine qA (iA ?_)
          refine xS 896 [2] ?_
          refine jA ?_
          refine qE (fun _ _ => rT) ?_
          refine xF ⟨[(1, .fn 51 [.ref 224 0 0 0] []), (6, .int .i64 (if vr3.1 < n2 then vr3.1 else n2)), (7, .int .i64 left43), (8, .bool (decide (left43 < (if vr3.1 < n2 then vr3.1 else n2)))), (9, .fn 51 [.ref 224 0 0 0] []), (10, .int .i64 0)], [(0, ⟨0, true, true, 10, [[.psl 1 (List.map (sA 4 aA.enc) vs1.Merge.Runs), .psl 1 (List.map (dA .i64) vs1.Merge.At), .psl 2 (List.map cA.enc vs1.Merge.Tree.Keys), .psl 1 (List.map (dA .i64) vs1.Merge.Tree.Lose), .int .i64 vs1.Merge.Tree.Win, .bool vs1.Shadow.Some, .str vs1.Shadow.Last, .bool vs1.Shadow.Bottom, .psl 4 (List.map aA.enc vs1.Out), .int .i64 vs1.Steps]]⟩), (8, ⟨0, true, true, 10, [[.nils, .nils, .nils, .nils, .int .i64 0, .bool false, .str [], .bool false, .nils, .int .i64 0]]⟩), (224, ⟨0, true, false, 10, [[.psl 1 (List.map (sA 4 aA.enc) vr56.2.2.1.Runs), .psl 1 (List.map (dA .i64) vr56.2.2.1.At), .psl 2 (List.map cA.enc vr56.2.2.1.Tree.Keys), .psl 1 (List.map (dA .i64) vr56.2.2.1.Tree.Lose), .int .i64 vr56.2.2.1.Tree.Win, .bool vr58.2.1.Some, .str vr58.2.1.Last, .bool vr58.2.1.Bottom, .sl 256 g54 4 0 v53.length, .int .i64 (IntKind.i64.wrap (v52 + 1))]]⟩), (256, ⟨g54, true, true, 4, List.map aA.enc v53⟩), (312, ⟨0, false, true, 1, List.map (dA .i64) vs1.Merge.At⟩)], 896, []⟩ ?_
          refine kC (l' := List.range' 2 1 ++ []) rfl ?_
          refine pC 2 1 904 [] (fun _ => none) rfl rfl rfl (fun _ _ => rT) ?_
          refine iD ?_
          refine iA ?_
          refine xE ⟨[(1, .fn 51 [.ref 224 0 0 0] []), (5, .int .i64 0), (6, .int .i64 (if vr3.1 < n2 then vr3.1 else n2)), (7, .int .i64 left43)], [(0, ⟨0, true, true, 10, [[.psl 1 (List.map (sA 4 aA.enc) vs1.Merge.Runs), .psl 1 (List.map (dA .i64) vs1.Merge.At), .psl 2 (List.map cA.enc vs1.Merge.Tree.Keys), .psl 1 (List.map (dA .i64) vs1.Merge.Tree.Lose), .int .i64 vs1.Merge.Tree.Win, .bool vs1.Shadow.Some, .str vs1.Shadow.Last, .bool vs1.Shadow.Bottom, .psl 4 (List.map aA.enc vs1.Out), .int .i64 vs1.Steps]]⟩), (8, ⟨0, true, true, 10, [[.nils, .nils, .nils, .nils, .int .i64 0, .bool false, .str [], .bool false, .nils, .int .i64 0]]⟩), (224, ⟨0, true, false, 10, [[.psl 1 (List.map (sA 4 aA.enc) vr56.2.2.1.Runs), .psl 1 (List.map (dA .i64) vr56.2.2.1.At), .psl 2 (List.map cA.enc vr56.2.2.1.Tree.Keys), .psl 1 (List.map (dA .i64) vr56.2.2.1.Tree.Lose), .int .i64 vr56.2.2.1.Tree.Win, .bool vr58.2.1.Some, .str vr58.2.1.Last, .bool vr58.2.1.Bottom, .sl 256 g54 4 0 v53.length, .int .i64 (IntKind.i64.wrap (v52 + 1))]]⟩), (256, ⟨g54, true, true, 4, List.map aA.enc v53⟩), (312, ⟨0, false, true, 1, List.map (dA .i64) vs1.Merge.At⟩)], 904, []⟩ ?_
          refine xS 920 [1, 5, 6, 7, 12] ?_
          refine bG rfl ?_
          refine qA (fC (iA ?_))
          refine xR 936 [1, 6, 7] ?_
          refine iA ?_
          exact ⟨⟨(fu, (IntKind.i64.wrap (left43 + 1)), vr56.2.2.1.Runs, vr56.2.2.1.At, vr56.2.2.1.Tree.Keys, vr56.2.2.1.Tree.Lose, vr56.2.2.1.Tree.Win, vr58.2.1.Some, vr58.2.1.Last, vr58.2.1.Bottom, (IntKind.i64.wrap (v52 + 1)), v53, g54), h1⟩, ⟨rF, rE, rfl, rfl, trivial, trivial⟩, Nat.lt_succ_self _⟩
      ·
       refine fD (kB (kB (kD ?_)))
       obtain rfl := Option.some.inj h1
       exact ⟨_, g54, rfl, rL, ⟨rF, rE, rfl, rfl, trivial, trivial⟩⟩
theorem zhs {fu : Nat} {s11 : List aA} {s22 : List aA} {r : Bool} (h0 : kR fu s11 s22 = some r) : jB Try.prog 87 [.psl 4 (s11.map aA.enc), .psl 4 (s22.map aA.enc)] (.bool r) [] := by
 refine tB Try.func87 rfl (by decide) rL ?_
 dsimp only [Try.f87]
 rw [kR] at h0
 refine (show pA _ _ _ _ ⟨iB 0 _, [], 0, []⟩ from ?_)
 refine xS 8 [0, 1] ?_
 refine kA ?_
 refine xS 48 [0, 1, 10] ?_
 refine xI h0 rfl (fun h0 hb3 => ?_) (fun h0 hb3 => ?_)
 ·
  refine xS 56 [4] ?_
  refine jA (oA ?_)
  obtain rfl := Option.some.inj h0
  refine mA [] ?_
  exact rG
 ·
  refine qA (iA (kA ?_))
  refine xS 72 [0, 1, 12, 13] ?_
  obtain ⟨x13, hxx13, h0⟩ := fA h0
  refine sD (fun s' => ∃ o19 : Unit, x13 = .inl o19 ∧ s'.nx ≤ 80 ∧ LeN [] s' ⟨[], [], 80, []⟩) ?_ ?_
  ·
   intro s' hs
   obtain ⟨o19, rfl, hn, hs⟩ := hs
   refine iA ?_
   refine dC [] hn hs ?_
   refine xS 88 [4] ?_
   refine jA ?_
   obtain rfl := Option.some.inj h0
   refine mA [] ?_
   exact rG
  ·
   refine oD (ι := { p : Nat × Int // fI s11 s22 p.1 p.2 = some x13 }) (fun p => ⟨[(0, .psl 4 (List.map aA.enc s11)), (1, .psl 4 (List.map aA.enc s22)), (12, .int .i64 (s11.length : Int)), (13, .int .i64 p.1.2)], [], 72, []⟩) (fun p => p.1.1) ⟨(fu, 0), hxx13⟩ ⟨rF, rE, rfl, rfl, trivial, trivial⟩ (fun _ => Nat.le_refl _) ?_
   rintro ⟨⟨fu, v14⟩, h1⟩
   cases fu with
   | zero =>
   replace h1 : fI s11 s22 0 v14 = some x13 := h1
   rw [fI] at h1; cases h1
   | succ fu =>
    replace h1 : fI s11 s22 (fu + 1) v14 = some x13 := h1
    rw [fI] at h1
    refine (show pA _ _ _ _ ⟨[(0, .psl 4 (List.map aA.enc s11)), (1, .psl 4 (List.map aA.enc s22)), (12, .int .i64 (s11.length : Int)), (13, .int .i64 v14)], [], 72, []⟩ from ?_)
    refine xS 80 [0, 1, 12, 13, 14] ?_
    refine kA ?_
    refine xI h1 rfl (fun h1 hb15 => ?_) (fun h1 hb15 => ?_)
    ·
     refine qA (iA (kA (nC ?_)))
     refine xS 96 [0, 1, 5, 12, 13] ?_
     obtain ⟨e16, he16, h1⟩ := fA h1
     obtain ⟨he16a, he16b, he16c⟩ := dB he16
     obtain ⟨e17, he17, h1⟩ := fA h1
     obtain ⟨he17a, he17b, he17c⟩ := dB he17
     refine nD 168 [0, 1, 12, 13, 24] (fun _ => none) rfl rfl rfl (fun _ _ => jF (rA he16a (rA he16b (rA he16c (rA he17a (rA he17b he17c)))))) ?_
     refine xI h1 rfl (fun h1 hb18 => ?_) (fun h1 hb18 => ?_)
     ·
      refine nA 176 [4] (fun _ => none) rfl (fun _ _ => rS (rA he16a (rA he16b (rA he16c (rA he17a (rA he17b he17c)))))) ?_
      refine jA ?_
      obtain rfl := Option.some.inj h1
      refine oC (oA (oA (zD (oA ?_))))
      obtain rfl := Option.some.inj h0
      refine mA [] ?_
      simp (maxSteps := 1000000) only [↓reduceIte, reduceCtorEq, Nat.reduceEqDiff, Nat.reduceLT, Nat.reduceLeDiff, Nat.reduceAdd, Nat.reduceMul, Int.reduceToNat, push_cast, mC, he16a, he16b, he16c, he17a, he17b, he17c]
      all_goals exact rH
     ·
      refine qA (fC (iA ?_))
      refine eC 184 [0, 1, 12, 13] (fun _ => none) rfl (fun _ _ => rS (rA he16a (rA he16b (rA he16c (rA he17a (rA he17b he17c)))))) ?_
      refine iA ?_
      exact ⟨⟨(fu, (IntKind.i64.wrap (v14 + 1))), h1⟩, ⟨rF, rE, rfl, rfl, trivial, trivial⟩, Nat.lt_succ_self _⟩
    ·
     refine fD (kB (kB (kD ?_)))
     obtain rfl := Option.some.inj h1
     exact ⟨_, rfl, rL, ⟨rF, rE, rfl, rfl, trivial, trivial⟩⟩
theorem pN {fu : Nat} {a1 : List aA} {b2 : List aA} {r : Bool} (h0 : bN fu a1 b2 = some r) : jB Try.prog 66 [.psl 4 (a1.map aA.enc), .psl 4 (b2.map aA.enc)] (.bool r) [] := by
 refine tB Try.func66 rfl (by decide) rL ?_
 dsimp only [Try.f66]
 rw [bN] at h0
 refine (show pA _ _ _ _ ⟨iB 0 _, [], 0, []⟩ from ?_)
 refine xS 8 [0, 1] ?_
 obtain ⟨vr3, hvr3, h0⟩ := fA h0
 refine nA 40 [4] (fun | 2 => some (.bool vr3, []) | _ => none) rfl (fun _ _ => rC (zhs hvr3)) ?_
 refine jA ?_
 obtain rfl := Option.some.inj h0
 refine mA [] ?_
 exact rG
theorem qP {fu : Nat} {s11 : List (List aA)} {s22 : List (List aA)} {r : Bool} (h0 : fQ fu s11 s22 = some r) : jB Try.prog 65 [.psl 1 (s11.map (sA 4 aA.enc)), .psl 1 (s22.map (sA 4 aA.enc)), .fn 66 [] []] (.bool r) [] := by
 refine tB Try.func65 rfl (by decide) rL ?_
 dsimp only [Try.f65]
 rw [fQ] at h0
 refine (show pA _ _ _ _ ⟨iB 0 _, [], 0, []⟩ from ?_)
 refine xS 8 [0, 1, 2] ?_
 refine kA ?_
 refine xS 48 [0, 1, 2, 14] ?_
 refine xI h0 rfl (fun h0 hb3 => ?_) (fun h0 hb3 => ?_)
 ·
  refine xS 56 [6] ?_
  refine jA (oA ?_)
  obtain rfl := Option.some.inj h0
  refine mA [] ?_
  exact rG
 ·
  refine qA (iA (kA ?_))
  refine xS 72 [1, 2, 15, 16, 17] ?_
  obtain ⟨x15, hxx15, h0⟩ := fA h0
  refine sD (fun s' => ∃ o22 : Unit, x15 = .inl o22 ∧ s'.nx ≤ 80 ∧ LeN [] s' ⟨[], [], 80, []⟩) ?_ ?_
  ·
   intro s' hs
   obtain ⟨o22, rfl, hn, hs⟩ := hs
   refine iA ?_
   refine dC [] hn hs ?_
   refine xS 88 [6] ?_
   refine jA ?_
   obtain rfl := Option.some.inj h0
   refine mA [] ?_
   exact rG
  ·
   refine oD (ι := { p : Nat × Int // uH s11 s22 p.1 p.2 = some x15 }) (fun p => ⟨[(1, .psl 1 (List.map (sA 4 aA.enc) s22)), (2, .fn 66 [] []), (15, .psl 1 (List.map (sA 4 aA.enc) s11)), (16, .int .i64 (s11.length : Int)), (17, .int .i64 p.1.2)], [], 72, []⟩) (fun p => p.1.1) ⟨(fu, 0), hxx15⟩ ⟨rF, rE, rfl, rfl, trivial, trivial⟩ (fun _ => Nat.le_refl _) ?_
   rintro ⟨⟨fu, v16⟩, h1⟩
   cases fu with
   | zero =>
   replace h1 : uH s11 s22 0 v16 = some x15 := h1
   rw [uH] at h1; cases h1
   | succ fu =>
    replace h1 : uH s11 s22 (fu + 1) v16 = some x15 := h1
    rw [uH] at h1
    refine (show pA _ _ _ _ ⟨[(1, .psl 1 (List.map (sA 4 aA.enc) s22)), (2, .fn 66 [] []), (15, .psl 1 (List.map (sA 4 aA.enc) s11)), (16, .int .i64 (s11.length : Int)), (17, .int .i64 v16)], [], 72, []⟩ from ?_)
    refine xS 80 [1, 2, 15, 16, 17, 18] ?_
    refine kA ?_
    refine xI h1 rfl (fun h1 hb17 => ?_) (fun h1 hb17 => ?_)
    ·
     refine qA (iA (kA (nC ?_)))
     obtain ⟨e18, he18, h1⟩ := fA h1
     obtain ⟨he18a, he18b, he18c⟩ := dB he18
     refine nA 120 [1, 2, 7, 8, 15, 16, 17] (fun _ => none) rfl (fun _ _ => rS (rA he18a (rA he18b he18c))) ?_
     obtain ⟨e19, he19, h1⟩ := fA h1
     obtain ⟨he19a, he19b, he19c⟩ := dB he19
     refine nA 160 [1, 2, 8, 9, 15, 16, 17] (fun _ => none) rfl (fun _ _ => rS (rA he18a (rA he18b (rA he18c (rA he19a (rA he19b he19c)))))) ?_
     obtain ⟨vr20, hvr20, h1⟩ := fA h1
     refine nA 200 [1, 2, 15, 16, 17, 30] (fun | 3 => some (.bool vr20, []) | _ => none) rfl (fun _ _ => rB (rA he18a (rA he18b (rA he18c (rA he19a (rA he19b he19c))))) (pN hvr20)) ?_
     refine xI h1 rfl (fun h1 hb21 => ?_) (fun h1 hb21 => ?_)
     ·
      refine nA 208 [6] (fun _ => none) rfl (fun _ _ => rS (rA he18a (rA he18b (rA he18c (rA he19a (rA he19b he19c)))))) ?_
      refine jA ?_
      obtain rfl := Option.some.inj h1
      refine oC (oA (oA (zD (oA ?_))))
      obtain rfl := Option.some.inj h0
      refine mA [] ?_
      simp (maxSteps := 1000000) only [↓reduceIte, reduceCtorEq, Nat.reduceEqDiff, Nat.reduceLT, Nat.reduceLeDiff, Nat.reduceAdd, Nat.reduceMul, Int.reduceToNat, push_cast, mC, he18a, he18b, he18c, he19a, he19b, he19c]
      all_goals exact rH
     ·
      refine qA (fC (iA ?_))
      refine eC 216 [1, 2, 15, 16, 17] (fun _ => none) rfl (fun _ _ => rS (rA he18a (rA he18b (rA he18c (rA he19a (rA he19b he19c)))))) ?_
      refine iA ?_
      exact ⟨⟨(fu, (IntKind.i64.wrap (v16 + 1))), h1⟩, ⟨rF, rE, rfl, rfl, trivial, trivial⟩, Nat.lt_succ_self _⟩
    ·
     refine fD (kB (kB (kD ?_)))
     obtain rfl := Option.some.inj h1
     exact ⟨_, rfl, rL, ⟨rF, rE, rfl, rfl, trivial, trivial⟩⟩
theorem zjY {fu : Nat} {a1 : vB} {b2 : vB} {r : Bool} (h0 : iP fu a1 b2 = some r) : jB Try.prog 49 [.agg (vB.enc a1), .agg (vB.enc b2)] (.bool r) [] := by
 refine tB Try.func49 rfl (by decide) rL ?_
 dsimp only [Try.f49, List.append]
 rw [iP] at h0
 refine (show pA _ _ _ _ ⟨iB 0 _, [], 0, []⟩ from ?_)
 refine xS 24 [2, 3] ?_
 refine nD 88 [2, 3, 5, 6] (fun _ => none) rfl rfl rfl (fun _ _ => dG) ?_
 obtain ⟨vr3, hvr3, h0⟩ := fA h0
 obtain ⟨b5, hb5, h0⟩ := fA h0
 obtain ⟨b7, hb7, h0⟩ := fA h0
 obtain ⟨b9, hb9, h0⟩ := fA h0
 obtain ⟨b10, hb10, h0⟩ := fA h0
 obtain ⟨b11, hb11, h0⟩ := fA h0
 obtain ⟨b13, hb13, h0⟩ := fA h0
 obtain ⟨b14, hb14, h0⟩ := fA h0
 refine eD (fr' := [(4, .bool b14)]) (hp' := [(0, ⟨0, true, true, 10, [[.psl 1 (List.map (sA 4 aA.enc) a1.Merge.Runs), .psl 1 (List.map (dA .i64) a1.Merge.At), .psl 2 (List.map cA.enc a1.Merge.Tree.Keys), .psl 1 (List.map (dA .i64) a1.Merge.Tree.Lose), .int .i64 a1.Merge.Tree.Win, .bool a1.Shadow.Some, .str a1.Shadow.Last, .bool a1.Shadow.Bottom, .psl 4 (List.map aA.enc a1.Out), .int .i64 a1.Steps]]⟩), (8, ⟨0, true, true, 10, [[.psl 1 (List.map (sA 4 aA.enc) b2.Merge.Runs), .psl 1 (List.map (dA .i64) b2.Merge.At), .psl 2 (List.map cA.enc b2.Merge.Tree.Keys), .psl 1 (List.map (dA .i64) b2.Merge.Tree.Lose), .int .i64 b2.Merge.Tree.Win, .bool b2.Shadow.Some, .str b2.Shadow.Last, .bool b2.Shadow.Bottom, .psl 4 (List.map aA.enc b2.Out), .int .i64 b2.Steps]]⟩), (56, ⟨0, true, true, 5, [[.psl 1 (List.map (sA 4 aA.enc) a1.Merge.Runs), .psl 1 (List.map (dA .i64) a1.Merge.At), .psl 2 (List.map cA.enc a1.Merge.Tree.Keys), .psl 1 (List.map (dA .i64) a1.Merge.Tree.Lose), .int .i64 a1.Merge.Tree.Win]]⟩), (64, ⟨0, true, true, 5, [[.psl 1 (List.map (sA 4 aA.enc) b2.Merge.Runs), .psl 1 (List.map (dA .i64) b2.Merge.At), .psl 2 (List.map cA.enc b2.Merge.Tree.Keys), .psl 1 (List.map (dA .i64) b2.Merge.Tree.Lose), .int .i64 b2.Merge.Tree.Win]]⟩)]) [0, 8, 56, 64] 576 [4] (fun | 4 => some (.bool vr3, []) | 10 => (vJ fu a1.Merge.At b2.Merge.At).bind fun vr4 => some (.bool vr4, []) | 19 => (pL fu a1.Merge.Tree.Keys b2.Merge.Tree.Keys).bind fun vr6 => some (.bool vr6, []) | 28 => (vJ fu a1.Merge.Tree.Lose b2.Merge.Tree.Lose).bind fun vr8 => some (.bool vr8, []) | 51 => (bN fu a1.Out b2.Out).bind fun vr12 => some (.bool vr12, []) | _ => none) rfl (fun Kt hK => by
   cases vr3 with
   | false =>
    replace hb5 := vA hb5 rfl
    have hqb5 := Option.some.inj hb5
    cases b5 with
    | false =>
     replace hb7 := vA hb7 rfl
     have hqb7 := Option.some.inj hb7
     cases b7 with
     | false =>
      replace hb9 := vA hb9 rfl
      have hqb9 := Option.some.inj hb9
      cases b9 with
      | false =>
       replace hb10 := vA hb10 rfl
       have hqb10 := Option.some.inj hb10
       cases b10 with
       | false =>
        replace hb11 := vA hb11 rfl
        have hqb11 := Option.some.inj hb11
        cases b11 with
        | false =>
         replace hb13 := vA hb13 rfl
         have hqb13 := Option.some.inj hb13
         cases b13 with
         | false =>
          replace hb14 := vA hb14 rfl
          have hqb14 := Option.some.inj hb14
          subst hqb14
          try have q0 := qP hvr3
          try have q1 := oG hvr4
          try have q2 := wL hvr6
          try have q3 := oG hvr8
          try have q4 := pN hvr12
          exact rT
         | true =>
          cases hqb13
        | true =>
         cases hqb11
       | true =>
        cases hqb10
      | true =>
       cases hqb9
     | true =>
      cases hqb7
    | true =>
     cases hqb5
   | true =>
    replace hb5 := lB hb5 rfl
    obtain ⟨vr4, hvr4, hb5⟩ := fA hb5
    have hqb5 := Option.some.inj hb5
    cases b5 with
    | false =>
     subst hqb5
     replace hb7 := vA hb7 rfl
     have hqb7 := Option.some.inj hb7
     cases b7 with
     | false =>
      replace hb9 := vA hb9 rfl
      have hqb9 := Option.some.inj hb9
      cases b9 with
      | false =>
       replace hb10 := vA hb10 rfl
       have hqb10 := Option.some.inj hb10
       cases b10 with
       | false =>
        replace hb11 := vA hb11 rfl
        have hqb11 := Option.some.inj hb11
        cases b11 with
        | false =>
         replace hb13 := vA hb13 rfl
         have hqb13 := Option.some.inj hb13
         cases b13 with
         | false =>
          replace hb14 := vA hb14 rfl
          have hqb14 := Option.some.inj hb14
          subst hqb14
          try have q0 := qP hvr3
          try have q1 := oG hvr4
          try have q2 := wL hvr6
          try have q3 := oG hvr8
          try have q4 := pN hvr12
          exact rS hvr4
         | true =>
          cases hqb13
        | true =>
         cases hqb11
       | true =>
        cases hqb10
      | true =>
       cases hqb9
     | true =>
      cases hqb7
    | true =>
     subst hqb5
     replace hb7 := lB hb7 rfl
     obtain ⟨vr6, hvr6, hb7⟩ := fA hb7
     have hqb7 := Option.some.inj hb7
     cases b7 with
     | false =>
      subst hqb7
      replace hb9 := vA hb9 rfl
      have hqb9 := Option.some.inj hb9
      cases b9 with
      | false =>
       replace hb10 := vA hb10 rfl
       have hqb10 := Option.some.inj hb10
       cases b10 with
       | false =>
        replace hb11 := vA hb11 rfl
        have hqb11 := Option.some.inj hb11
        cases b11 with
        | false =>
         replace hb13 := vA hb13 rfl
         have hqb13 := Option.some.inj hb13
         cases b13 with
         | false =>
          replace hb14 := vA hb14 rfl
          have hqb14 := Option.some.inj hb14
          subst hqb14
          try have q0 := qP hvr3
          try have q1 := oG hvr4
          try have q2 := wL hvr6
          try have q3 := oG hvr8
          try have q4 := pN hvr12
          exact rS (rA hvr4 hvr6)
         | true =>
          cases hqb13
        | true =>
         cases hqb11
       | true =>
        cases hqb10
      | true =>
       cases hqb9
     | true =>
      subst hqb7
      replace hb9 := lB hb9 rfl
      obtain ⟨vr8, hvr8, hb9⟩ := fA hb9
      have hqb9 := Option.some.inj hb9
      cases b9 with
      | false =>
       subst hqb9
       replace hb10 := vA hb10 rfl
       have hqb10 := Option.some.inj hb10
       cases b10 with
       | false =>
        replace hb11 := vA hb11 rfl
        have hqb11 := Option.some.inj hb11
        cases b11 with
        | false =>
         replace hb13 := vA hb13 rfl
         have hqb13 := Option.some.inj hb13
         cases b13 with
         | false =>
          replace hb14 := vA hb14 rfl
          have hqb14 := Option.some.inj hb14
          subst hqb14
          try have q0 := qP hvr3
          try have q1 := oG hvr4
          try have q2 := wL hvr6
          try have q3 := oG hvr8
          try have q4 := pN hvr12
          exact rS (rA hvr4 (rA hvr6 hvr8))
         | true =>
          cases hqb13
        | true =>
         cases hqb11
       | true =>
        cases hqb10
      | true =>
       subst hqb9
       replace hb10 := lB hb10 rfl
       have hqb10 := Option.some.inj hb10
       cases b10 with
       | false =>
        replace hb11 := vA hb11 rfl
        have hqb11 := Option.some.inj hb11
        cases b11 with
        | false =>
         replace hb13 := vA hb13 rfl
         have hqb13 := Option.some.inj hb13
         cases b13 with
         | false =>
          replace hb14 := vA hb14 rfl
          have hqb14 := Option.some.inj hb14
          subst hqb14
          simp (maxSteps := 1000000) only [↓reduceIte, reduceCtorEq, Nat.reduceEqDiff, Nat.reduceLT, Nat.reduceLeDiff, Nat.reduceAdd, Nat.reduceMul, Int.reduceToNat, push_cast, hvr4, hvr6, hvr8, ↓hqb10]
          try simp only [↓hqb10] at hK
          try have q0 := qP hvr3
          try have q1 := oG hvr4
          try have q2 := wL hvr6
          try have q3 := oG hvr8
          try have q4 := pN hvr12
          all_goals exact rU
         | true =>
          cases hqb13
        | true =>
         cases hqb11
       | true =>
        replace hb11 := lB hb11 rfl
        have hqb11 := Option.some.inj hb11
        cases b11 with
        | false =>
         replace hb13 := vA hb13 rfl
         have hqb13 := Option.some.inj hb13
         cases b13 with
         | false =>
          replace hb14 := vA hb14 rfl
          have hqb14 := Option.some.inj hb14
          subst hqb14
          simp (maxSteps := 1000000) only [↓reduceIte, reduceCtorEq, Nat.reduceEqDiff, Nat.reduceLT, Nat.reduceLeDiff, Nat.reduceAdd, Nat.reduceMul, Int.reduceToNat, push_cast, hvr4, hvr6, hvr8, ↓hqb10, ↓hqb11]
          try simp only [↓hqb10, ↓hqb11] at hK
          try have q0 := qP hvr3
          try have q1 := oG hvr4
          try have q2 := wL hvr6
          try have q3 := oG hvr8
          try have q4 := pN hvr12
          all_goals exact rU
         | true =>
          cases hqb13
        | true =>
         replace hb13 := lB hb13 rfl
         obtain ⟨vr12, hvr12, hb13⟩ := fA hb13
         have hqb13 := Option.some.inj hb13
         cases b13 with
         | false =>
          subst hqb13
          replace hb14 := vA hb14 rfl
          have hqb14 := Option.some.inj hb14
          subst hqb14
          simp (maxSteps := 1000000) only [↓reduceIte, reduceCtorEq, Nat.reduceEqDiff, Nat.reduceLT, Nat.reduceLeDiff, Nat.reduceAdd, Nat.reduceMul, Int.reduceToNat, push_cast, hvr4, hvr6, hvr8, ↓hqb10, ↓hqb11, hvr12]
          try simp only [↓hqb10, ↓hqb11] at hK
          try have q0 := qP hvr3
          try have q1 := oG hvr4
          try have q2 := wL hvr6
          try have q3 := oG hvr8
          try have q4 := pN hvr12
          all_goals exact rU
         | true =>
          subst hqb13
          replace hb14 := lB hb14 rfl
          have hqb14 := Option.some.inj hb14
          subst hqb14
          simp (maxSteps := 1000000) only [↓reduceIte, reduceCtorEq, Nat.reduceEqDiff, Nat.reduceLT, Nat.reduceLeDiff, Nat.reduceAdd, Nat.reduceMul, Int.reduceToNat, push_cast, hvr4, hvr6, hvr8, ↓hqb10, ↓hqb11, hvr12]
          try simp only [↓hqb10, ↓hqb11] at hK
          try have q0 := qP hvr3
          try have q1 := oG hvr4
          try have q2 := wL hvr6
          try have q3 := oG hvr8
          try have q4 := pN hvr12
          all_goals exact rU) ?_
 refine jA ?_
 obtain rfl := Option.some.inj h0
 refine mA [] ?_
 exact rG
theorem zdn {fu : Nat} {vs1 : oB} {r : Int × Int} (h0 : xK fu vs1 = some r) : jB Try.prog 30 [.agg (oB.enc vs1)] (.tup [.int .i64 r.1, .int .i64 r.2]) [] := by
 refine tB Try.func30 rfl (by decide) rL ?_
 dsimp only [Try.f30]
 rw [xK] at h0
 refine (show pA _ _ _ _ ⟨iB 0 _, [], 0, []⟩ from ?_)
 refine xS 24 [1] ?_
 obtain ⟨vr2, hvr2, h0⟩ := fA h0
 refine nA 88 [1, 3] (fun | 2 => some (.tup [.int .i64 vr2.1, .int .i64 vr2.2.1, .int .i64 vr2.2.2], []) | _ => none) rfl (fun _ _ => rC (zcq hvr2)) ?_
 refine kA (nC ?_)
 refine xS 112 [1, 3, 21] ?_
 refine xI h0 rfl (fun h0 hb3 => ?_) (fun h0 hb3 => ?_)
 ·
  refine xS 136 [2, 3] ?_
  refine jA (oC (oA ?_))
  obtain rfl := Option.some.inj h0
  refine mA [] ?_
  exact rG
 ·
  obtain ⟨b4, hb4, h0⟩ := fA h0
  refine eD (fr' := [(1, .ref 0 0 0 0), (25, .bool b4)]) (hp' := [(0, ⟨0, true, true, 4, [[.int .i64 vs1.Levels.B, .psl 1 (List.map tA.enc vs1.Levels.Levels), .psl 11 (List.map bB.enc vs1.Jobs), .int .i64 vs1.NextId]]⟩)]) [0] 184 [1, 25] (fun _ => none) rfl (fun Kt hK => by
    cases hg5 : (decide (vs1.NextId < 1)) with
    | false =>
     replace hb4 := vA hb4 hg5
     have hqb4 := Option.some.inj hb4
     subst hqb4
     simp (maxSteps := 1000000) only [↓reduceIte, reduceCtorEq, Nat.reduceEqDiff, Nat.reduceLT, Nat.reduceLeDiff, Nat.reduceAdd, Nat.reduceMul, Int.reduceToNat, push_cast, ↓hg5]
     try simp only [↓hg5] at hK
     all_goals exact rU
    | true =>
     replace hb4 := lB hb4 hg5
     have hqb4 := Option.some.inj hb4
     subst hqb4
     simp (maxSteps := 1000000) only [↓reduceIte, reduceCtorEq, Nat.reduceEqDiff, Nat.reduceLT, Nat.reduceLeDiff, Nat.reduceAdd, Nat.reduceMul, Int.reduceToNat, push_cast, ↓hg5]
     try simp only [↓hg5] at hK
     all_goals exact rU) ?_
  refine xI h0 rfl (fun h0 hb6 => ?_) (fun h0 hb6 => ?_)
  ·
   refine xS 200 [2, 3] ?_
   refine jA (oC (oA ?_))
   obtain rfl := Option.some.inj h0
   refine mA [] ?_
   exact rG
  ·
   obtain ⟨vr7, hvr7, h0⟩ := fA h0
   refine nD 240 [1, 34] (fun | 4 => some (.int .i64 vr7, []) | _ => none) rfl rfl rfl (fun _ _ => rCd (zdy hvr7)) ?_
   refine xI h0 rfl (fun h0 hb8 => ?_) (fun h0 hb8 => ?_)
   ·
    refine xS 256 [2, 3] ?_
    refine jA (oC (oA ?_))
    obtain rfl := Option.some.inj h0
    refine mA [] ?_
    exact rG
   ·
    refine qA (fC (iA ?_))
    obtain ⟨vr9, hvr9, h0⟩ := fA h0
    obtain ⟨vr10, hvr10, h0⟩ := fA h0
    refine nA 280 [1, 4] (fun | 2 => some (.fn 41 [] [.pp [.int .i64 vr9.1, .psl 1 (vr9.2.map tA.enc)]], []) | 3 => some (.psl 1 (vr10.map (dA .i64)), []) | _ => none) rfl (fun Kt hK => by
      try have q0 := zc7 hvr9
      try have q1 := zkv hvr10
      exact rT) ?_
    refine kA ?_
    refine xS 312 [1, 4, 46, 47, 48] ?_
    obtain ⟨x48, hxx48, h0⟩ := fA h0
    refine sD (fun s' => ∃ o68 : Unit, x48 = .inl o68 ∧ s'.nx ≤ 320 ∧ LeN [] s' ⟨[(1, .ref 0 0 0 0), (4, .psl 1 (List.map (dA .i64) vr10))], [(0, ⟨0, true, true, 4, [[.int .i64 vs1.Levels.B, .psl 1 (List.map tA.enc vs1.Levels.Levels), .psl 11 (List.map bB.enc vs1.Jobs), .int .i64 vs1.NextId]]⟩)], 320, []⟩) ?_ ?_
    ·
     intro s' hs
     obtain ⟨o68, rfl, hn, hs⟩ := hs
     refine iA ?_
     refine dC [] hn hs ?_
     refine kA ?_
     refine xS 368 [126] ?_
     refine xI h0 rfl (fun h0 hb69 => ?_) (fun h0 hb69 => ?_)
     ·
      refine xS 384 [2, 3] ?_
      refine jA (oA ?_)
      obtain rfl := Option.some.inj h0
      refine mA [] ?_
      exact rG
     ·
      refine qA (iA ?_)
      refine xS 384 [2, 3] ?_
      refine jA ?_
      obtain rfl := Option.some.inj h0
      refine mA [] ?_
      exact rG
    ·
     refine oD (ι := { p : Nat × Int // kF vs1 vr10 p.1 p.2 = some x48 }) (fun p => ⟨[(1, .ref 0 0 0 0), (4, .psl 1 (List.map (dA .i64) vr10)), (46, .psl 11 (List.map bB.enc vs1.Jobs)), (47, .int .i64 (vs1.Jobs.length : Int)), (48, .int .i64 p.1.2)], [(0, ⟨0, true, true, 4, [[.int .i64 vs1.Levels.B, .psl 1 (List.map tA.enc vs1.Levels.Levels), .psl 11 (List.map bB.enc vs1.Jobs), .int .i64 vs1.NextId]]⟩)], 312, []⟩) (fun p => p.1.1) ⟨(fu, 0), hxx48⟩ ⟨rF, rE, rfl, rfl, trivial, trivial⟩ (fun _ => Nat.le_refl _) ?_
     rintro ⟨⟨fu, v49⟩, h1⟩
     cases fu with
     | zero =>
   replace h1 : kF vs1 vr10 0 v49 = some x48 := h1
   rw [kF] at h1; cases h1
     | succ fu =>
      replace h1 : kF vs1 vr10 (fu + 1) v49 = some x48 := h1
      rw [kF] at h1
      refine (show pA _ _ _ _ ⟨[(1, .ref 0 0 0 0), (4, .psl 1 (List.map (dA .i64) vr10)), (46, .psl 11 (List.map bB.enc vs1.Jobs)), (47, .int .i64 (vs1.Jobs.length : Int)), (48, .int .i64 v49)], [(0, ⟨0, true, true, 4, [[.int .i64 vs1.Levels.B, .psl 1 (List.map tA.enc vs1.Levels.Levels), .psl 11 (List.map bB.enc vs1.Jobs), .int .i64 vs1.NextId]]⟩)], 312, []⟩ from ?_)
      refine xS 320 [1, 4, 46, 47, 48, 49] ?_
      refine kA ?_
      refine xI h1 rfl (fun h1 hb50 => ?_) (fun h1 hb50 => ?_)
      ·
       refine qA (iA (kA (nC ?_)))
       obtain ⟨e51, he51, h1⟩ := fA h1
       obtain ⟨he51a, he51b, he51c⟩ := dB he51
       refine nA 368 [1, 4, 5, 6, 46, 47, 48] (fun _ => none) rfl (fun _ _ => rS (rA he51a (rA he51b he51c))) ?_
       refine kA ?_
       obtain ⟨b53, hb53, h1⟩ := fA h1
       refine eO (fr' := [(1, .ref 0 0 0 0), (4, .psl 1 (List.map (dA .i64) vr10)), (5, .int .i64 v49), (6, .ref 344 0 0 0), (46, .psl 11 (List.map bB.enc vs1.Jobs)), (47, .int .i64 (vs1.Jobs.length : Int)), (48, .int .i64 v49), (65, .bool b53)]) (hp' := [(0, ⟨0, true, true, 4, [[.int .i64 vs1.Levels.B, .psl 1 (List.map tA.enc vs1.Levels.Levels), .psl 11 (List.map bB.enc vs1.Jobs), .int .i64 vs1.NextId]]⟩), (344, ⟨0, true, true, 11, [[.int .i64 e51.Level, .psl 1 (List.map (sA 4 aA.enc) e51.Work.Merge.Runs), .psl 1 (List.map (dA .i64) e51.Work.Merge.At), .psl 2 (List.map cA.enc e51.Work.Merge.Tree.Keys), .psl 1 (List.map (dA .i64) e51.Work.Merge.Tree.Lose), .int .i64 e51.Work.Merge.Tree.Win, .bool e51.Work.Shadow.Some, .str e51.Work.Shadow.Last, .bool e51.Work.Shadow.Bottom, .psl 4 (List.map aA.enc e51.Work.Out), .int .i64 e51.Work.Steps]]⟩)]) [0, 344] 472 [1, 4, 5, 6, 46, 47, 48, 65] (fun _ => none) rfl rfl rfl (fun Kt hK => by
         cases hg54 : (decide ((vr10.length : Int) ≤ v49)) with
         | false =>
          replace hb53 := vA hb53 hg54
          obtain ⟨e52, he52, hb53⟩ := fA hb53
          obtain ⟨he52a, he52b, he52c⟩ := dB he52
          have hqb53 := Option.some.inj hb53
          subst hqb53
          simp (maxSteps := 1000000) only [↓reduceIte, reduceCtorEq, Nat.reduceEqDiff, Nat.reduceLT, Nat.reduceLeDiff, Nat.reduceAdd, Nat.reduceMul, Int.reduceToNat, push_cast, he51a, he51b, he51c, ↓hg54, he52a, he52b, he52c, he52]
          try simp only [↓hg54] at hK
          all_goals exact tF
         | true =>
          replace hb53 := lB hb53 hg54
          have hqb53 := Option.some.inj hb53
          subst hqb53
          simp (maxSteps := 1000000) only [↓reduceIte, reduceCtorEq, Nat.reduceEqDiff, Nat.reduceLT, Nat.reduceLeDiff, Nat.reduceAdd, Nat.reduceMul, Int.reduceToNat, push_cast, he51a, he51b, he51c, ↓hg54]
          try simp only [↓hg54] at hK
          all_goals exact tF) ?_
       refine xI h1 rfl (fun h1 hb55 => ?_) (fun h1 hb55 => ?_)
       ·
        refine nA 496 [2, 3] (fun _ => none) rfl (fun _ _ => rS (rA he51a (rA he51b he51c))) ?_
        refine jA ?_
        obtain rfl := Option.some.inj h1
        refine oA (oC (oA (oA (zD (oA ?_)))))
        obtain rfl := Option.some.inj h0
        refine mA [] ?_
        simp (maxSteps := 1000000) only [↓reduceIte, reduceCtorEq, Nat.reduceEqDiff, Nat.reduceLT, Nat.reduceLeDiff, Nat.reduceAdd, Nat.reduceMul, Int.reduceToNat, push_cast, mC, he51a, he51b, he51c]
        all_goals exact rH
       ·
        refine qA (iA ?_)
        refine nA 512 [1, 4, 5, 6, 7, 46, 47, 48] (fun _ => none) rfl (fun _ _ => rS (rA he51a (rA he51b he51c))) ?_
        refine kA ?_
        obtain ⟨b57, hb57, h1⟩ := fA h1
        refine eD (fr' := [(1, .ref 0 0 0 0), (4, .psl 1 (List.map (dA .i64) vr10)), (5, .int .i64 v49), (6, .ref 344 0 0 0), (7, .bool e51.Work.Shadow.Bottom), (46, .psl 11 (List.map bB.enc vs1.Jobs)), (47, .int .i64 (vs1.Jobs.length : Int)), (48, .int .i64 v49), (79, .bool b57)]) (hp' := [(0, ⟨0, true, true, 4, [[.int .i64 vs1.Levels.B, .psl 1 (List.map tA.enc vs1.Levels.Levels), .psl 11 (List.map bB.enc vs1.Jobs), .int .i64 vs1.NextId]]⟩), (344, ⟨0, true, true, 11, [[.int .i64 e51.Level, .psl 1 (List.map (sA 4 aA.enc) e51.Work.Merge.Runs), .psl 1 (List.map (dA .i64) e51.Work.Merge.At), .psl 2 (List.map cA.enc e51.Work.Merge.Tree.Keys), .psl 1 (List.map (dA .i64) e51.Work.Merge.Tree.Lose), .int .i64 e51.Work.Merge.Tree.Win, .bool e51.Work.Shadow.Some, .str e51.Work.Shadow.Last, .bool e51.Work.Shadow.Bottom, .psl 4 (List.map aA.enc e51.Work.Out), .int .i64 e51.Work.Steps]]⟩)]) [0, 344] 584 [1, 4, 5, 6, 7, 46, 47, 48, 79] (fun | 6 => (jL fu vs1.Levels e51.Level).bind fun vr56 => some (.bool vr56, []) | _ => none) rfl (fun Kt hK => by
          cases hg58 : e51.Work.Shadow.Bottom with
          | false =>
           replace hb57 := vA hb57 hg58
           have hqb57 := Option.some.inj hb57
           subst hqb57
           simp (maxSteps := 1000000) only [↓reduceIte, reduceCtorEq, Nat.reduceEqDiff, Nat.reduceLT, Nat.reduceLeDiff, Nat.reduceAdd, Nat.reduceMul, Int.reduceToNat, push_cast, he51a, he51b, he51c, ↓hg58]
           try simp only [↓hg58] at hK
           try have q0 := gZ hvr56
           all_goals exact rU
          | true =>
           replace hb57 := lB hb57 hg58
           obtain ⟨vr56, hvr56, hb57⟩ := fA hb57
           have hqb57 := Option.some.inj hb57
           subst hqb57
           simp (maxSteps := 1000000) only [↓reduceIte, reduceCtorEq, Nat.reduceEqDiff, Nat.reduceLT, Nat.reduceLeDiff, Nat.reduceAdd, Nat.reduceMul, Int.reduceToNat, push_cast, he51a, he51b, he51c, ↓hg58, hvr56]
           try simp only [↓hg58] at hK
           try have q0 := gZ hvr56
           all_goals exact rU) ?_
        refine xI h1 rfl (fun h1 hb59 => ?_) (fun h1 hb59 => ?_)
        ·
         refine nA 608 [2, 3] (fun _ => none) rfl (fun _ _ => rS (rA he51a (rA he51b he51c))) ?_
         refine jA ?_
         obtain rfl := Option.some.inj h1
         refine oA (oC (oA (oA (zD (oA ?_)))))
         obtain rfl := Option.some.inj h0
         refine mA [] ?_
         simp (maxSteps := 1000000) only [↓reduceIte, reduceCtorEq, Nat.reduceEqDiff, Nat.reduceLT, Nat.reduceLeDiff, Nat.reduceAdd, Nat.reduceMul, Int.reduceToNat, push_cast, mC, he51a, he51b, he51c]
         all_goals exact rH
        ·
         refine qA (iA ?_)
         obtain ⟨vr60, hvr60, h1⟩ := fA h1
         refine nA 656 [1, 4, 5, 6, 8, 46, 47, 48] (fun | 5 => some (.agg (bB.enc vr60), []) | _ => none) rfl (fun _ _ => rB (rA he51a (rA he51b he51c)) (zec hvr60)) ?_
         obtain ⟨vr61, hvr61, h1⟩ := fA h1
         refine nA 712 [1, 4, 5, 6, 8, 9, 46, 47, 48] (fun | 1 => some (.tup [.int .i64 vr61.1, .int .i64 vr61.2], []) | _ => none) rfl (fun _ _ => rB (rA he51a (rA he51b he51c)) (lW hvr61)) ?_
         refine kA ?_
         obtain ⟨b62, hb62, h1⟩ := fA h1
         refine eD (fr' := [(1, .ref 0 0 0 0), (4, .psl 1 (List.map (dA .i64) vr10)), (5, .int .i64 v49), (6, .ref 344 0 0 0), (8, .ref 640 0 0 0), (46, .psl 11 (List.map bB.enc vs1.Jobs)), (47, .int .i64 (vs1.Jobs.length : Int)), (48, .int .i64 v49), (103, .bool b62)]) (hp' := [(0, ⟨0, true, true, 4, [[.int .i64 vs1.Levels.B, .psl 1 (List.map tA.enc vs1.Levels.Levels), .psl 11 (List.map bB.enc vs1.Jobs), .int .i64 vs1.NextId]]⟩), (344, ⟨0, true, true, 11, [[.int .i64 e51.Level, .psl 1 (List.map (sA 4 aA.enc) e51.Work.Merge.Runs), .psl 1 (List.map (dA .i64) e51.Work.Merge.At), .psl 2 (List.map cA.enc e51.Work.Merge.Tree.Keys), .psl 1 (List.map (dA .i64) e51.Work.Merge.Tree.Lose), .int .i64 e51.Work.Merge.Tree.Win, .bool e51.Work.Shadow.Some, .str e51.Work.Shadow.Last, .bool e51.Work.Shadow.Bottom, .psl 4 (List.map aA.enc e51.Work.Out), .int .i64 e51.Work.Steps]]⟩), (640, ⟨0, true, true, 10, [[.psl 1 (List.map (sA 4 aA.enc) vr60.Work.Merge.Runs), .psl 1 (List.map (dA .i64) vr60.Work.Merge.At), .psl 2 (List.map cA.enc vr60.Work.Merge.Tree.Keys), .psl 1 (List.map (dA .i64) vr60.Work.Merge.Tree.Lose), .int .i64 vr60.Work.Merge.Tree.Win, .bool vr60.Work.Shadow.Some, .str vr60.Work.Shadow.Last, .bool vr60.Work.Shadow.Bottom, .psl 4 (List.map aA.enc vr60.Work.Out), .int .i64 vr60.Work.Steps]]⟩)]) [0, 344, 640] 800 [1, 4, 5, 6, 8, 46, 47, 48, 103] (fun _ => none) rfl (fun Kt hK => by
           cases hg63 : (decide (e51.Work.Steps < 0)) with
           | false =>
            replace hb62 := vA hb62 hg63
            have hqb62 := Option.some.inj hb62
            subst hqb62
            simp (maxSteps := 1000000) only [↓reduceIte, reduceCtorEq, Nat.reduceEqDiff, Nat.reduceLT, Nat.reduceLeDiff, Nat.reduceAdd, Nat.reduceMul, Int.reduceToNat, push_cast, he51a, he51b, he51c, ↓hg63]
            try simp only [↓hg63] at hK
            all_goals exact rU
           | true =>
            replace hb62 := lB hb62 hg63
            have hqb62 := Option.some.inj hb62
            subst hqb62
            simp (maxSteps := 1000000) only [↓reduceIte, reduceCtorEq, Nat.reduceEqDiff, Nat.reduceLT, Nat.reduceLeDiff, Nat.reduceAdd, Nat.reduceMul, Int.reduceToNat, push_cast, he51a, he51b, he51c, ↓hg63]
            try simp only [↓hg63] at hK
            all_goals exact rU) ?_
         refine xI h1 rfl (fun h1 hb64 => ?_) (fun h1 hb64 => ?_)
         ·
          refine nA 824 [2, 3] (fun _ => none) rfl (fun _ _ => rS (rA he51a (rA he51b he51c))) ?_
          refine jA ?_
          obtain rfl := Option.some.inj h1
          refine oA (oC (oA (oA (zD (oA ?_)))))
          obtain rfl := Option.some.inj h0
          refine mA [] ?_
          simp (maxSteps := 1000000) only [↓reduceIte, reduceCtorEq, Nat.reduceEqDiff, Nat.reduceLT, Nat.reduceLeDiff, Nat.reduceAdd, Nat.reduceMul, Int.reduceToNat, push_cast, mC, he51a, he51b, he51c]
          all_goals exact rH
         ·
          refine qA (iA ?_)
          obtain ⟨vr65, hvr65, h1⟩ := fA h1
          refine nA 904 [1, 4, 5, 6, 11, 46, 47, 48] (fun | 4 => some (.tup [.agg (vB.enc vr65.1), .int .i64 vr65.2.1, .int .i64 vr65.2.2], []) | _ => none) rfl (fun _ _ => rB (rA he51a (rA he51b he51c)) (zcL hvr65)) ?_
          obtain ⟨vr66, hvr66, h1⟩ := fA h1
          refine nA 944 [1, 4, 5, 46, 47, 48, 118] (fun | 3 => some (.bool vr66, []) | _ => none) rfl (fun _ _ => rB (rA he51a (rA he51b he51c)) (zjY hvr66)) ?_
          refine xI h1 rfl (fun h1 hb67 => ?_) (fun h1 hb67 => ?_)
          ·
           refine nA 968 [2, 3] (fun _ => none) rfl (fun _ _ => rS (rA he51a (rA he51b he51c))) ?_
           refine jA ?_
           obtain rfl := Option.some.inj h1
           refine oC (oA (oA (zD (oA ?_))))
           obtain rfl := Option.some.inj h0
           refine mA [] ?_
           simp (maxSteps := 1000000) only [↓reduceIte, reduceCtorEq, Nat.reduceEqDiff, Nat.reduceLT, Nat.reduceLeDiff, Nat.reduceAdd, Nat.reduceMul, Int.reduceToNat, push_cast, mC, he51a, he51b, he51c]
           all_goals exact rH
          ·
           refine qA (fC (iA ?_))
           refine eC 960 [1, 4, 46, 47, 48] (fun _ => none) rfl (fun _ _ => rS (rA he51a (rA he51b he51c))) ?_
           refine iA ?_
           exact ⟨⟨(fu, (IntKind.i64.wrap (v49 + 1))), h1⟩, ⟨rF, rE, rfl, rfl, trivial, trivial⟩, Nat.lt_succ_self _⟩
      ·
       refine fD (kB (kB (kD ?_)))
       obtain rfl := Option.some.inj h1
       exact ⟨_, rfl, rL, ⟨rF, rE, rfl, rfl, trivial, trivial⟩⟩
theorem zho {fu : Nat} {j1 : bB} {p2 : Int} {r : Bool} (h0 : zM fu j1 p2 = some r) : jB Try.prog 34 [.agg (bB.enc j1), .pp [.int .i64 p2]] (.bool r) [] := by
 refine tB Try.func34 rfl (by decide) rL ?_
 dsimp only [Try.f34]
 rw [zM] at h0
 refine (show pA _ _ _ _ ⟨iB 0 _, [], 0, []⟩ from ?_)
 refine xS 16 [1, 2] ?_
 refine xS 56 [3] ?_
 refine jA ?_
 obtain rfl := Option.some.inj h0
 refine mA [] ?_
 exact rG
theorem zj1 {fu : Nat} {vs1 : List bB} {f2 : Int} {r : Int} (h0 : kM fu vs1 f2 = some r) : jB Try.prog 52 [.psl 11 (vs1.map bB.enc), .fn 34 [] [.pp [.int .i64 f2]]] (.int .i64 r) [] := by
 refine tB Try.func52 rfl (by decide) rL ?_
 dsimp only [Try.f52]
 rw [kM] at h0
 refine (show pA _ _ _ _ ⟨iB 0 _, [], 0, []⟩ from ?_)
 refine xS 8 [0, 1] ?_
 refine kA ?_
 refine xS 32 [0, 1, 7, 8] ?_
 obtain ⟨x12, hxx12, h0⟩ := fA h0
 refine sD (fun s' => ∃ o18 : Unit, x12 = .inl o18 ∧ s'.nx ≤ 40 ∧ LeN [] s' ⟨[], [], 40, []⟩) ?_ ?_
 ·
  intro s' hs
  obtain ⟨o18, rfl, hn, hs⟩ := hs
  refine iA ?_
  refine dC [] hn hs ?_
  refine xS 48 [4] ?_
  refine jA ?_
  obtain rfl := Option.some.inj h0
  refine mA [] ?_
  exact rG
 ·
  refine oD (ι := { p : Nat × Int // iG vs1 f2 p.1 p.2 = some x12 }) (fun p => ⟨[(0, .psl 11 (List.map bB.enc vs1)), (1, .fn 34 [] [.pp [.int .i64 f2]]), (7, .int .i64 (vs1.length : Int)), (8, .int .i64 p.1.2)], [], 32, []⟩) (fun p => p.1.1) ⟨(fu, 0), hxx12⟩ ⟨rF, rE, rfl, rfl, trivial, trivial⟩ (fun _ => Nat.le_refl _) ?_
  rintro ⟨⟨fu, v13⟩, h1⟩
  cases fu with
  | zero =>
   replace h1 : iG vs1 f2 0 v13 = some x12 := h1
   rw [iG] at h1; cases h1
  | succ fu =>
   replace h1 : iG vs1 f2 (fu + 1) v13 = some x12 := h1
   rw [iG] at h1
   refine (show pA _ _ _ _ ⟨[(0, .psl 11 (List.map bB.enc vs1)), (1, .fn 34 [] [.pp [.int .i64 f2]]), (7, .int .i64 (vs1.length : Int)), (8, .int .i64 v13)], [], 32, []⟩ from ?_)
   refine xS 40 [0, 1, 7, 8, 9] ?_
   refine kA ?_
   refine xI h1 rfl (fun h1 hb14 => ?_) (fun h1 hb14 => ?_)
   ·
    refine qA (iA (kA (nC ?_)))
    refine xS 56 [0, 1, 5, 7, 8] ?_
    obtain ⟨e15, he15, h1⟩ := fA h1
    obtain ⟨he15a, he15b, he15c⟩ := dB he15
    obtain ⟨vr16, hvr16, h1⟩ := fA h1
    refine nA 104 [0, 1, 5, 7, 8, 16] (fun | 5 => some (.bool vr16, []) | _ => none) rfl (fun _ _ => rB (rA he15a (rA he15b he15c)) (zho hvr16)) ?_
    refine xI h1 rfl (fun h1 hb17 => ?_) (fun h1 hb17 => ?_)
    ·
     refine nA 120 [4] (fun _ => none) rfl (fun _ _ => rS (rA he15a (rA he15b he15c))) ?_
     refine jA ?_
     obtain rfl := Option.some.inj h1
     refine oC (oA (oA (zD (oA ?_))))
     obtain rfl := Option.some.inj h0
     refine mA [] ?_
     simp (maxSteps := 1000000) only [↓reduceIte, reduceCtorEq, Nat.reduceEqDiff, Nat.reduceLT, Nat.reduceLeDiff, Nat.reduceAdd, Nat.reduceMul, Int.reduceToNat, push_cast, mC, he15a, he15b, he15c]
     all_goals exact rH
    ·
     refine qA (fC (iA ?_))
     refine eC 120 [0, 1, 7, 8] (fun _ => none) rfl (fun _ _ => rS (rA he15a (rA he15b he15c))) ?_
     refine iA ?_
     exact ⟨⟨(fu, (IntKind.i64.wrap (v13 + 1))), h1⟩, ⟨rF, rE, rfl, rfl, trivial, trivial⟩, Nat.lt_succ_self _⟩
   ·
    refine fD (kB (kB (kD ?_)))
    obtain rfl := Option.some.inj h1
    exact ⟨_, rfl, rL, ⟨rF, rE, rfl, rfl, trivial, trivial⟩⟩
theorem zlG {fu : Nat} {l1 : List bB} {is2 : Int} {r : Int × Int} (h0 : qO fu l1 is2 = some r) : jB Try.prog 33 [.psl 11 (l1.map bB.enc), .fn 34 [] [.pp [.int .i64 is2]]] (.tup [.int .i64 r.1, .int .i64 r.2]) [] := by
 refine tB Try.func33 rfl (by decide) rL ?_
 dsimp only [Try.f33]
 rw [qO] at h0
 refine (show pA _ _ _ _ ⟨iB 0 _, [], 0, []⟩ from ?_)
 refine xS 16 [0, 1] ?_
 obtain ⟨vr3, hvr3, h0⟩ := fA h0
 refine nA 48 [6] (fun | 2 => some (.int .i64 vr3, []) | _ => none) rfl (fun _ _ => rC (zj1 hvr3)) ?_
 refine kA ?_
 refine xS 64 [6, 11] ?_
 refine xI h0 rfl (fun h0 hb4 => ?_) (fun h0 hb4 => ?_)
 ·
  refine xS 80 [4, 5] ?_
  refine jA (oA ?_)
  obtain rfl := Option.some.inj h0
  refine mA [] ?_
  exact rG
 ·
  refine qA (iA ?_)
  refine xS 88 [4, 5] ?_
  refine jA ?_
  obtain rfl := Option.some.inj h0
  refine mA [] ?_
  exact rG
theorem zW {fu : Nat} {vs1 : oB} {level2 : Int} {r : Int × Int} (h0 : bH fu vs1 level2 = some r) : jB Try.prog 13 [.agg (oB.enc vs1), .int .i64 level2] (.tup [.int .i64 r.1, .int .i64 r.2]) [] := by
 refine tB Try.func13 rfl (by decide) rL ?_
 dsimp only [Try.f13]
 rw [bH] at h0
 refine (show pA _ _ _ _ ⟨iB 0 _, [], 0, []⟩ from ?_)
 refine xS 32 [2, 3] ?_
 refine kA ?_
 obtain ⟨vr3, hvr3, h0⟩ := fA h0
 refine nA 88 [2, 3, 7] (fun | 1 => some (.tup [.int .i64 vr3.1, .int .i64 vr3.2], []) | _ => none) rfl (fun _ _ => rC (zdn hvr3)) ?_
 refine xS 104 [2, 3, 7, 14] ?_
 refine xI h0 rfl (fun h0 hb4 => ?_) (fun h0 hb4 => ?_)
 ·
  refine xS 128 [4, 5] ?_
  refine jA (oA ?_)
  obtain rfl := Option.some.inj h0
  refine mA [] ?_
  exact rG
 ·
  refine qA (iA ?_)
  obtain ⟨vr5, hvr5, h0⟩ := fA h0
  refine nA 168 [4, 5] (fun | 3 => some (.tup [.int .i64 vr5.1, .int .i64 vr5.2], []) | _ => none) rfl (fun _ _ => rC (zlG hvr5)) ?_
  refine jA ?_
  obtain rfl := Option.some.inj h0
  refine mA [] ?_
  exact rG
theorem rZ {fu : Nat} {vs1 : oB} {level2 : Int} {r : Int × Int} (h0 : mJ fu vs1 level2 = some r) : jB Try.prog 9 [.agg (oB.enc vs1), .int .i64 level2] (.tup [.int .i64 r.1, .int .i64 r.2]) [] := by
 refine tB Try.func9 rfl (by decide) rL ?_
 dsimp only [Try.f9]
 rw [mJ] at h0
 refine (show pA _ _ _ _ ⟨iB 0 _, [], 0, []⟩ from ?_)
 refine xS 24 [1, 2] ?_
 obtain ⟨vr3, hvr3, h0⟩ := fA h0
 refine nA 88 [2, 5, 6] (fun | 2 => some (.tup [.int .i64 vr3.1, .int .i64 vr3.2], []) | _ => none) rfl (fun _ _ => rC (zW hvr3)) ?_
 refine kA ?_
 refine xS 104 [2, 5, 6, 14] ?_
 refine xI h0 rfl (fun h0 hb4 => ?_) (fun h0 hb4 => ?_)
 ·
  refine xS 128 [4, 5] ?_
  refine jA (oA ?_)
  obtain rfl := Option.some.inj h0
  refine mA [] ?_
  exact rG
 ·
  refine qA (iA ?_)
  obtain ⟨e5, he5, h0⟩ := fA h0
  obtain ⟨he5a, he5b, he5c⟩ := dB he5
  obtain ⟨vr6, hvr6, h0⟩ := fA h0
  refine nA 192 [4, 5] (fun | 6 => some (.tup [.int .i64 vr6.1, .int .i64 vr6.2], []) | _ => none) rfl (fun _ _ => rB (rA he5a (rA he5b he5c)) (lW hvr6)) ?_
  refine jA ?_
  obtain rfl := Option.some.inj h0
  refine mA [] ?_
  simp (maxSteps := 1000000) only [↓reduceIte, reduceCtorEq, Nat.reduceEqDiff, Nat.reduceLT, Nat.reduceLeDiff, Nat.reduceAdd, Nat.reduceMul, Int.reduceToNat, push_cast, mC, he5a, he5b, he5c]
  all_goals exact rH
theorem zf1 {fu : Nat} {vs1 : List bB} {r : List bB} (h0 : yR fu vs1 = some r) : jB Try.prog 32 [.psl 11 (vs1.map bB.enc)] (.sl 0 0 11 0 r.length) [⟨0, true, true, 11, r.map bB.enc⟩] := by
 refine tB Try.func32 rfl (by decide) rL ?_
 dsimp only [Try.f32]
 rw [yR] at h0
 refine (show pA _ _ _ _ ⟨iB 0 _, [], 0, []⟩ from ?_)
 refine xS 8 [0] ?_
 refine kA ?_
 cases hb2 : vs1.isEmpty with
 | true =>
  replace h0 := lB h0 hb2
  obtain rfl : vs1 = [] := List.isEmpty_iff.1 hb2
  refine xS 24 [0, 4] ?_
  refine xU rfl ?_ ?_
  ·
   skip
   refine xS 32 [2] ?_
   refine dC (s2 := ⟨[(2, .sl 32 0 11 0 0)], [(32, ⟨0, true, true, 11, List.map bB.enc []⟩)], 33, []⟩) [(32, 11)] rL ⟨rF, rE, rfl, rfl, trivial, rN⟩ ?_
   refine jA (oA ?_)
   obtain rfl := Option.some.inj h0
   refine mA [32] ?_
   exact rG
  ·
   skip
   refine qA (iA ?_)
   refine xS 56 [2] ?_
   refine xE ⟨[(2, .sl 24 1 11 0 0)], [(24, ⟨1, true, true, 11, List.map bB.enc []⟩)], 56, []⟩ ?_
   refine jA ?_
   obtain rfl := Option.some.inj h0
   refine mA [24] ?_
   exact rG
 | false =>
  replace h0 := vA h0 hb2
  refine nA 24 [0, 4] (fun _ => none) rfl (fun _ _ => rS hb2) ?_
  refine bG rfl ?_
  refine qA (iA ?_)
  obtain ⟨hc3, h0⟩ := pE h0
  refine nA 56 [2] (fun _ => none) rfl (fun _ _ => rS hb2) ?_
  refine xE ⟨[(2, .sl 24 1 11 0 vs1.length)], [(24, ⟨1, true, true, 11, List.map bB.enc vs1⟩)], 56, []⟩ ?_
  refine jA ?_
  obtain rfl := Option.some.inj h0
  refine mA [24] ?_
  simp (maxSteps := 1000000) only [↓reduceIte, reduceCtorEq, Nat.reduceEqDiff, Nat.reduceLT, Nat.reduceLeDiff, Nat.reduceAdd, Nat.reduceMul, Int.reduceToNat, push_cast, mC, hb2]
  all_goals exact rH
theorem vW {fu : Nat} {vs1 : oB} {level2 : Int} {most3 : Int} {r : oB × Int × Int} (h0 : mL fu vs1 level2 most3 = some r) : jB Try.prog 12 [.agg (oB.enc vs1), .int .i64 level2, .int .i64 most3] (.tup [.agg (oB.enc r.1), .int .i64 r.2.1, .int .i64 r.2.2]) [] := by
 refine tB Try.func12 rfl (by decide) rL ?_
 dsimp only [Try.f12]
 rw [mL] at h0
 refine (show pA _ _ _ _ ⟨iB 0 _, [], 0, []⟩ from ?_)
 refine xS 32 [1, 2, 3, 6] ?_
 refine kA ?_
 obtain ⟨vr4, hvr4, h0⟩ := fA h0
 refine nA 88 [1, 2, 3, 6, 10] (fun | 1 => some (.tup [.int .i64 vr4.1, .int .i64 vr4.2], []) | _ => none) rfl (fun _ _ => rC (zdn hvr4)) ?_
 refine xS 104 [1, 2, 3, 6, 10, 21] ?_
 refine xI h0 rfl (fun h0 hb5 => ?_) (fun h0 hb5 => ?_)
 ·
  refine xS 144 [6, 7, 8] ?_
  refine jA (oA ?_)
  obtain rfl := Option.some.inj h0
  refine mA [] ?_
  exact rG
 ·
  refine qA (iA (kA ?_))
  refine xS 120 [1, 2, 3, 6, 25] ?_
  refine xI h0 rfl (fun h0 hb6 => ?_) (fun h0 hb6 => ?_)
  ·
   refine xS 152 [6, 7, 8] ?_
   refine jA (oA ?_)
   obtain rfl := Option.some.inj h0
   refine mA [] ?_
   exact rG
  ·
   refine qA (iA ?_)
   obtain ⟨vr7, hvr7, h0⟩ := fA h0
   refine nA 184 [2, 3, 6, 8, 11] (fun | 2 => some (.tup [.int .i64 vr7.1, .int .i64 vr7.2], []) | _ => none) rfl (fun _ _ => rC (zW hvr7)) ?_
   refine kA ?_
   refine xS 200 [2, 3, 6, 8, 11, 34] ?_
   refine xI h0 rfl (fun h0 hb8 => ?_) (fun h0 hb8 => ?_)
   ·
    refine xS 240 [6, 7, 8] ?_
    refine jA (oA ?_)
    obtain rfl := Option.some.inj h0
    refine mA [] ?_
    exact rG
   ·
    refine qA (iA (kA ?_))
    obtain ⟨e9, he9, h0⟩ := fA h0
    obtain ⟨he9a, he9b, he9c⟩ := dB he9
    obtain ⟨vr10, hvr10, h0⟩ := fA h0
    refine nA 296 [2, 3, 6, 11, 12] (fun | 6 => some (.tup [.int .i64 vr10.1, .int .i64 vr10.2], []) | _ => none) rfl (fun _ _ => rB (rA he9a (rA he9b he9c)) (lW hvr10)) ?_
    refine nA 312 [2, 3, 6, 11, 48] (fun _ => none) rfl (fun _ _ => rS (rA he9a (rA he9b he9c))) ?_
    refine xI h0 rfl (fun h0 hb11 => ?_) (fun h0 hb11 => ?_)
    ·
     refine nA 344 [6, 7, 8] (fun _ => none) rfl (fun _ _ => rS (rA he9a (rA he9b he9c))) ?_
     refine jA (oA ?_)
     obtain rfl := Option.some.inj h0
     refine mA [] ?_
     simp (maxSteps := 1000000) only [↓reduceIte, reduceCtorEq, Nat.reduceEqDiff, Nat.reduceLT, Nat.reduceLeDiff, Nat.reduceAdd, Nat.reduceMul, Int.reduceToNat, push_cast, mC, he9a, he9b, he9c]
     all_goals exact rH
    ·
     refine qA (iA ?_)
     obtain ⟨vr12, hvr12, h0⟩ := fA h0
     refine nA 440 [3, 6, 7, 8, 11, 14] (fun | 7 => some (.tup [.agg (vB.enc vr12.1), .int .i64 vr12.2.1, .int .i64 vr12.2.2], []) | _ => none) rfl (fun _ _ => rB (rA he9a (rA he9b he9c)) (zcL hvr12)) ?_
     refine kA ?_
     refine nA 456 [3, 6, 7, 8, 11, 14, 63] (fun _ => none) rfl (fun _ _ => rS (rA he9a (rA he9b he9c))) ?_
     refine xI h0 rfl (fun h0 hb13 => ?_) (fun h0 hb13 => ?_)
     ·
      refine nA 496 [6, 7, 8] (fun _ => none) rfl (fun _ _ => rS (rA he9a (rA he9b he9c))) ?_
      refine jA (oA ?_)
      obtain rfl := Option.some.inj h0
      refine mA [] ?_
      simp (maxSteps := 1000000) only [↓reduceIte, reduceCtorEq, Nat.reduceEqDiff, Nat.reduceLT, Nat.reduceLeDiff, Nat.reduceAdd, Nat.reduceMul, Int.reduceToNat, push_cast, mC, he9a, he9b, he9c]
      all_goals exact rH
     ·
      refine qA (iA ?_)
      refine nA 472 [3, 6, 7, 11, 14] (fun _ => none) rfl (fun _ _ => rS (rA he9a (rA he9b he9c))) ?_
      obtain ⟨vr14, hvr14, h0⟩ := fA h0
      refine nA 512 [6, 7, 11, 14] (fun | 2 => some (.sl 0 0 11 0 vr14.length, [⟨0, true, true, 11, vr14.map bB.enc⟩]) | _ => none) rfl (fun _ _ => rB (rA he9a (rA he9b he9c)) (zf1 hvr14)) ?_
      obtain ⟨e15, he15, h0⟩ := fA h0
      obtain ⟨he15a, he15b, he15c⟩ := dB he15
      refine nA 568 [6, 7] (fun _ => none) rfl (fun _ _ => rS (rA he9a (rA he9b (rA he9c (rA he15a (rA he15b he15c)))))) ?_
      refine xE ⟨[(6, .ref 8 0 0 0), (7, .int .i64 vr12.2.1)], [(0, ⟨0, true, true, 4, [[.int .i64 vs1.Levels.B, .psl 1 (List.map tA.enc vs1.Levels.Levels), .psl 11 (List.map bB.enc vs1.Jobs), .int .i64 vs1.NextId]]⟩), (8, ⟨0, true, false, 4, [[.int .i64 vs1.Levels.B, .psl 1 (List.map tA.enc vs1.Levels.Levels), .sl 488 0 11 0 ((vr14.set vr7.1.toNat (bB.mk e15.Level vr12.1)).length), .int .i64 vs1.NextId]]⟩), (408, ⟨0, true, true, 10, [[.psl 1 (List.map (sA 4 aA.enc) vr12.1.Merge.Runs), .psl 1 (List.map (dA .i64) vr12.1.Merge.At), .psl 2 (List.map cA.enc vr12.1.Merge.Tree.Keys), .psl 1 (List.map (dA .i64) vr12.1.Merge.Tree.Lose), .int .i64 vr12.1.Merge.Tree.Win, .bool vr12.1.Shadow.Some, .str vr12.1.Shadow.Last, .bool vr12.1.Shadow.Bottom, .psl 4 (List.map aA.enc vr12.1.Out), .int .i64 vr12.1.Steps]]⟩), (488, ⟨0, true, true, 11, List.map bB.enc (vr14.set vr7.1.toNat (bB.mk e15.Level vr12.1))⟩)], 568, []⟩ ?_
      refine nA 608 [6, 7, 8] (fun _ => none) rfl (fun _ _ => rS (rA he9a (rA he9b (rA he9c (rA he15a (rA he15b he15c)))))) ?_
      refine jA ?_
      obtain rfl := Option.some.inj h0
      refine mA [] ?_
      simp (maxSteps := 1000000) only [↓reduceIte, reduceCtorEq, Nat.reduceEqDiff, Nat.reduceLT, Nat.reduceLeDiff, Nat.reduceAdd, Nat.reduceMul, Int.reduceToNat, push_cast, mC, he9a, he9b, he9c, he15a, he15b, he15c]
      all_goals exact rH
theorem zcx {fu : Nat} {id1 : Int} {dead2 : Bool} {keys3 : List UInt8} {r : eB} (h0 : aR fu id1 dead2 keys3 = some r) : jB Try.prog 39 [.int .i64 id1, .bool dead2, .str keys3] (.agg (eB.enc r)) [] := by
 refine tB Try.func39 rfl (by decide) rL ?_
 dsimp only [Try.f39]
 rw [aR] at h0
 refine (show pA _ _ _ _ ⟨iB 0 _, [], 0, []⟩ from ?_)
 refine xS 8 [0, 1, 2, 6] ?_
 refine xS 40 [0, 1, 2, 6, 7] ?_
 refine kA ?_
 refine xS 48 [0, 1, 2, 6, 7, 8] ?_
 refine dC (s2 := ⟨[(0, .int .i64 id1), (1, .bool dead2), (2, .str keys3), (6, .ref 0 0 0 0), (7, .ref 24 0 0 0), (8, .int .i64 0)], [(0, ⟨0, true, true, 2, [[.int .i64 0, .nils]]⟩), (24, ⟨0, true, false, 2, [[.int .i64 id1, .sl 48 0 4 0 0]]⟩), (48, ⟨0, true, true, 4, List.map aA.enc []⟩)], 49, []⟩) [(48, 4)] rL ⟨rF, rE, rfl, rfl, trivial, rN⟩ ?_
 obtain ⟨x14, hxx14, h0⟩ := fA h0
 refine sD (fun s' => ∃ g21 : Nat, s'.nx ≤ 81 ∧ LeN [] s' ⟨[(6, .ref 0 0 0 0), (7, .ref 24 0 0 0)], [(0, ⟨0, true, true, 2, [[.int .i64 0, .nils]]⟩), (24, ⟨0, true, false, 2, [[.int .i64 id1, .sl 48 g21 4 0 x14.length]]⟩), (48, ⟨g21, true, true, 4, List.map aA.enc x14⟩)], 81, []⟩) ?_ ?_
 ·
  intro s' hs
  obtain ⟨g21, hn, hs⟩ := hs
  refine iA ?_
  refine dC [] hn hs ?_
  refine xS 97 [6] ?_
  refine jA ?_
  obtain rfl := Option.some.inj h0
  refine mA [] ?_
  exact rG
 ·
  refine oD (ι := { p : Nat × Int × List aA × Nat // gK keys3 dead2 id1 p.1 p.2.1 p.2.2.1 = some x14 }) (fun p => ⟨[(0, .int .i64 id1), (1, .bool dead2), (2, .str keys3), (6, .ref 0 0 0 0), (7, .ref 24 0 0 0), (8, .int .i64 p.1.2.1)], [(0, ⟨0, true, true, 2, [[.int .i64 0, .nils]]⟩), (24, ⟨0, true, false, 2, [[.int .i64 id1, .sl 48 p.1.2.2.2 4 0 p.1.2.2.1.length]]⟩), (48, ⟨p.1.2.2.2, true, true, 4, List.map aA.enc p.1.2.2.1⟩)], 49, []⟩) (fun p => p.1.1) ⟨(fu, 0, [], 0), hxx14⟩ ⟨rF, rE, rfl, rfl, trivial, trivial⟩ (fun _ => Nat.le_refl _) ?_
  rintro ⟨⟨fu, i15, v16, g17⟩, h1⟩
  cases fu with
  | zero =>
   replace h1 : gK keys3 dead2 id1 0 i15 v16 = some x14 := h1
   rw [gK] at h1; cases h1
  | succ fu =>
   replace h1 : gK keys3 dead2 id1 (fu + 1) i15 v16 = some x14 := h1
   rw [gK] at h1
   refine (show pA _ _ _ _ ⟨[(0, .int .i64 id1), (1, .bool dead2), (2, .str keys3), (6, .ref 0 0 0 0), (7, .ref 24 0 0 0), (8, .int .i64 i15)], [(0, ⟨0, true, true, 2, [[.int .i64 0, .nils]]⟩), (24, ⟨0, true, false, 2, [[.int .i64 id1, .sl 48 g17 4 0 v16.length]]⟩), (48, ⟨g17, true, true, 4, List.map aA.enc v16⟩)], 49, []⟩ from ?_)
   refine kA ?_
   refine xS 81 [0, 1, 2, 6, 7, 8, 14] ?_
   refine xI h1 rfl (fun h1 hb18 => ?_) (fun h1 hb18 => ?_)
   ·
    refine qA (iA (kA (nC ?_)))
    obtain ⟨hc19, h1⟩ := pE h1
    obtain ⟨hc20, h1⟩ := pE h1
    refine zI 225 [0, 1, 2, 6, 7, 8] (fun _ => none) rfl rfl rfl (fun _ _ => dG) ?_
    refine fC (iA ?_)
    refine xE ⟨[(0, .int .i64 id1), (1, .bool dead2), (2, .str keys3), (6, .ref 0 0 0 0), (7, .ref 24 0 0 0), (8, .int .i64 i15)], [(0, ⟨0, true, true, 2, [[.int .i64 0, .nils]]⟩), (24, ⟨0, true, false, 2, [[.int .i64 id1, .sl 48 (g17 + 1) 4 0 ((v16 ++ [(aA.mk ((keys3.drop i15.toNat).take ((IntKind.i64.wrap (i15 + 1)).toNat - i15.toNat)) [] dead2 (IntKind.i64.wrap ((IntKind.i64.wrap ((IntKind.i64.wrap (10 * id1)) + i15)) + 1)))]).length)]]⟩), (48, ⟨(g17 + 1), true, true, 4, List.map aA.enc (v16 ++ [(aA.mk ((keys3.drop i15.toNat).take ((IntKind.i64.wrap (i15 + 1)).toNat - i15.toNat)) [] dead2 (IntKind.i64.wrap ((IntKind.i64.wrap ((IntKind.i64.wrap (10 * id1)) + i15)) + 1)))])⟩), (193, ⟨0, true, true, 4, List.map aA.enc [(aA.mk ((keys3.drop i15.toNat).take ((IntKind.i64.wrap (i15 + 1)).toNat - i15.toNat)) [] dead2 (IntKind.i64.wrap ((IntKind.i64.wrap ((IntKind.i64.wrap (10 * id1)) + i15)) + 1)))]⟩)], 225, []⟩ ?_
    refine xR 249 [0, 1, 2, 6, 7, 8] ?_
    refine iA ?_
    exact ⟨⟨(fu, (IntKind.i64.wrap (i15 + 1)), (v16 ++ [(aA.mk ((keys3.drop i15.toNat).take ((IntKind.i64.wrap (i15 + 1)).toNat - i15.toNat)) [] dead2 (IntKind.i64.wrap ((IntKind.i64.wrap ((IntKind.i64.wrap (10 * id1)) + i15)) + 1)))]), (g17 + 1)), h1⟩, ⟨rF, rE, rfl, rfl, trivial, trivial⟩, Nat.lt_succ_self _⟩
   ·
    refine fD (kB (kB (kD ?_)))
    obtain rfl := Option.some.inj h1
    exact ⟨g17, rL, ⟨rF, rE, rfl, rfl, trivial, trivial⟩⟩
theorem zks {fu : Nat} {r : yA} (h0 : cT fu = some r) : jB Try.prog 19 [] (.agg (yA.enc r)) [] := by
 refine tB Try.func19 rfl (by decide) rL ?_
 dsimp only [Try.f19]
 rw [cT] at h0
 refine (show pA _ _ _ _ ⟨iB 0 _, [], 0, []⟩ from ?_)
 refine xS 8 [0] ?_
 obtain ⟨vr1, hvr1, h0⟩ := fA h0
 obtain ⟨vr2, hvr2, h0⟩ := fA h0
 refine nA 64 [0] (fun | 0 => some (.agg (eB.enc vr1), []) | 1 => some (.agg (eB.enc vr2), []) | _ => none) rfl (fun Kt hK => by
   try have q0 := zcx hvr1
   try have q1 := zcx hvr2
   exact rT) ?_
 refine zeo [24] (fun Kt hK => by simp only [↓reduceIte, reduceCtorEq, Nat.reduceEqDiff, Nat.reduceLT, Nat.reduceLeDiff, Nat.reduceAdd, Nat.reduceMul, Int.reduceToNat, Nat.reduceBEq, push_cast]; exact hK) ?_
 refine xE ⟨[(0, .ref 0 0 0 0)], [(0, ⟨0, true, false, 2, [[.int .i64 2, .sl 40 0 1 0 1]]⟩), (24, ⟨0, false, true, 2, List.map eB.enc [vr1, vr2]⟩), (40, ⟨0, true, true, 1, List.map tA.enc [(tA.mk [vr1, vr2])]⟩)], 64, []⟩ ?_
 refine jA ?_
 obtain rfl := Option.some.inj h0
 refine mA [] ?_
 exact rG
theorem rK {fu : Nat} {r : Bool} (h0 : zH fu = some r) : jB Try.prog 7 [] (.bool r) [] := by
 refine tB Try.func7 rfl (by decide) rL ?_
 dsimp only [Try.f7, List.append]
 rw [zH] at h0
 refine (show pA _ _ _ _ ⟨iB 0 _, [], 0, []⟩ from ?_)
 refine xS 8 [] ?_
 obtain ⟨vr1, hvr1, h0⟩ := fA h0
 obtain ⟨vr2, hvr2, h0⟩ := fA h0
 refine nA 72 [1, 2] (fun | 0 => some (.agg (yA.enc vr1), []) | 1 => some (.tup [.agg (oB.enc vr2.1), .int .i64 vr2.2], []) | _ => none) rfl (fun Kt hK => by
   try have q0 := zks hvr1
   try have q1 := zbP hvr2
   exact rT) ?_
 refine kA ?_
 obtain ⟨b3, hb3, h0⟩ := fA h0
 obtain ⟨b4, hb4, h0⟩ := fA h0
 obtain ⟨b6, hb6, h0⟩ := fA h0
 refine eD (fr' := [(1, .ref 48 0 0 0), (37, .bool b6)]) (hp' := [(48, ⟨0, true, true, 4, [[.int .i64 vr2.1.Levels.B, .psl 1 (List.map tA.enc vr2.1.Levels.Levels), .psl 11 (List.map bB.enc vr2.1.Jobs), .int .i64 vr2.1.NextId]]⟩)]) [48] 240 [1, 37] (fun _ => none) rfl (fun Kt hK => by
   cases hg7 : (!(decide (vr2.2 = 0))) with
   | false =>
    replace hb3 := vA hb3 hg7
    have hqb3 := Option.some.inj hb3
    cases b3 with
    | false =>
     replace hb4 := vA hb4 rfl
     have hqb4 := Option.some.inj hb4
     cases b4 with
     | false =>
      replace hb6 := vA hb6 rfl
      obtain ⟨e5, he5, hb6⟩ := fA hb6
      have he5b := (dB he5).2.1
      have he5c := (kG 0 he5 rfl).1
      have he5a := (kG 0 he5 rfl).2
      have hqb6 := Option.some.inj hb6
      subst hqb6
      simp (maxSteps := 1000000) only [↓reduceIte, reduceCtorEq, Nat.reduceEqDiff, Nat.reduceLT, Nat.reduceLeDiff, Nat.reduceAdd, Nat.reduceMul, Int.reduceToNat, push_cast, ↓hg7, ↓hqb3, ↓hqb4, he5a, he5b, he5c, he5]
      try simp only [↓hg7, ↓hqb3, ↓hqb4] at hK
      all_goals exact rU
     | true =>
      replace hb6 := lB hb6 rfl
      have hqb6 := Option.some.inj hb6
      subst hqb6
      simp (maxSteps := 1000000) only [↓reduceIte, reduceCtorEq, Nat.reduceEqDiff, Nat.reduceLT, Nat.reduceLeDiff, Nat.reduceAdd, Nat.reduceMul, Int.reduceToNat, push_cast, ↓hg7, ↓hqb3, ↓hqb4]
      try simp only [↓hg7, ↓hqb3, ↓hqb4] at hK
      all_goals exact rU
    | true =>
     replace hb4 := lB hb4 rfl
     have hqb4 := Option.some.inj hb4
     cases b4 with
     | false =>
      cases hqb4
     | true =>
      replace hb6 := lB hb6 rfl
      have hqb6 := Option.some.inj hb6
      subst hqb6
      simp (maxSteps := 1000000) only [↓reduceIte, reduceCtorEq, Nat.reduceEqDiff, Nat.reduceLT, Nat.reduceLeDiff, Nat.reduceAdd, Nat.reduceMul, Int.reduceToNat, push_cast, ↓hg7, ↓hqb3]
      try simp only [↓hg7, ↓hqb3] at hK
      all_goals exact rU
   | true =>
    replace hb3 := lB hb3 hg7
    have hqb3 := Option.some.inj hb3
    cases b3 with
    | false =>
     cases hqb3
    | true =>
     replace hb4 := lB hb4 rfl
     have hqb4 := Option.some.inj hb4
     cases b4 with
     | false =>
      cases hqb4
     | true =>
      replace hb6 := lB hb6 rfl
      have hqb6 := Option.some.inj hb6
      subst hqb6
      simp (maxSteps := 1000000) only [↓reduceIte, reduceCtorEq, Nat.reduceEqDiff, Nat.reduceLT, Nat.reduceLeDiff, Nat.reduceAdd, Nat.reduceMul, Int.reduceToNat, push_cast, ↓hg7]
      try simp only [↓hg7] at hK
      all_goals exact rU) ?_
 refine xI h0 rfl (fun h0 hb13 => ?_) (fun h0 hb13 => ?_)
 ·
  refine xS 248 [0] ?_
  refine jA (oA ?_)
  obtain rfl := Option.some.inj h0
  refine mA [] ?_
  exact rG
 ·
  refine qA (iA ?_)
  obtain ⟨vr14, hvr14, h0⟩ := fA h0
  refine nA 296 [1, 2, 3] (fun | 1 => some (.tup [.int .i64 vr14.1, .int .i64 vr14.2], []) | _ => none) rfl (fun _ _ => rC (rZ hvr14)) ?_
  obtain ⟨vr15, hvr15, h0⟩ := fA h0
  refine nA 376 [2, 3, 4, 5, 6] (fun | 1 => some (.tup [.agg (oB.enc vr15.1), .int .i64 vr15.2.1, .int .i64 vr15.2.2], []) | _ => none) rfl (fun _ _ => rC (vW hvr15)) ?_
  obtain ⟨vr16, hvr16, h0⟩ := fA h0
  refine nA 432 [2, 3, 4, 5, 6, 7, 8] (fun | 1 => some (.tup [.int .i64 vr16.1, .int .i64 vr16.2], []) | _ => none) rfl (fun _ _ => rC (rZ hvr16)) ?_
  obtain ⟨vr17, hvr17, h0⟩ := fA h0
  refine nA 512 [2, 3, 4, 5, 6, 7, 8, 11] (fun | 1 => some (.tup [.agg (oB.enc vr17.1), .int .i64 vr17.2.1, .int .i64 vr17.2.2], []) | _ => none) rfl (fun _ _ => rC (vW hvr17)) ?_
  obtain ⟨b18, hb18, h0⟩ := fA h0
  obtain ⟨b19, hb19, h0⟩ := fA h0
  obtain ⟨b20, hb20, h0⟩ := fA h0
  obtain ⟨b21, hb21, h0⟩ := fA h0
  obtain ⟨b22, hb22, h0⟩ := fA h0
  obtain ⟨b23, hb23, h0⟩ := fA h0
  obtain ⟨b24, hb24, h0⟩ := fA h0
  obtain ⟨b26, hb26, h0⟩ := fA h0
  obtain ⟨b29, hb29, h0⟩ := fA h0
  refine eD (fr' := [(0, .bool b29)]) (hp' := [(48, ⟨0, true, true, 4, [[.int .i64 vr2.1.Levels.B, .psl 1 (List.map tA.enc vr2.1.Levels.Levels), .psl 11 (List.map bB.enc vr2.1.Jobs), .int .i64 vr2.1.NextId]]⟩), (344, ⟨0, true, true, 4, [[.int .i64 vr15.1.Levels.B, .psl 1 (List.map tA.enc vr15.1.Levels.Levels), .psl 11 (List.map bB.enc vr15.1.Jobs), .int .i64 vr15.1.NextId]]⟩), (480, ⟨0, true, true, 4, [[.int .i64 vr17.1.Levels.B, .psl 1 (List.map tA.enc vr17.1.Levels.Levels), .psl 11 (List.map bB.enc vr17.1.Jobs), .int .i64 vr17.1.NextId]]⟩)]) [48, 344, 480] 952 [0] (fun _ => none) rfl (fun Kt hK => by
    cases hg30 : (decide (vr14.1 = 3)) with
    | false =>
     replace hb18 := vA hb18 hg30
     have hqb18 := Option.some.inj hb18
     cases b18 with
     | false =>
      replace hb19 := vA hb19 rfl
      have hqb19 := Option.some.inj hb19
      cases b19 with
      | false =>
       replace hb20 := vA hb20 rfl
       have hqb20 := Option.some.inj hb20
       cases b20 with
       | false =>
        replace hb21 := vA hb21 rfl
        have hqb21 := Option.some.inj hb21
        cases b21 with
        | false =>
         replace hb22 := vA hb22 rfl
         have hqb22 := Option.some.inj hb22
         cases b22 with
         | false =>
          replace hb23 := vA hb23 rfl
          have hqb23 := Option.some.inj hb23
          cases b23 with
          | false =>
           replace hb24 := vA hb24 rfl
           have hqb24 := Option.some.inj hb24
           cases b24 with
           | false =>
            replace hb26 := vA hb26 rfl
            have hqb26 := Option.some.inj hb26
            cases b26 with
            | false =>
             replace hb29 := vA hb29 rfl
             have hqb29 := Option.some.inj hb29
             subst hqb29
             simp (maxSteps := 1000000) only [↓reduceIte, reduceCtorEq, Nat.reduceEqDiff, Nat.reduceLT, Nat.reduceLeDiff, Nat.reduceAdd, Nat.reduceMul, Int.reduceToNat, push_cast, ↓hg30]
             try simp only [↓hg30] at hK
             all_goals exact rU
            | true =>
             cases hqb26
           | true =>
            cases hqb24
          | true =>
           cases hqb23
         | true =>
          cases hqb22
        | true =>
         cases hqb21
       | true =>
        cases hqb20
      | true =>
       cases hqb19
     | true =>
      cases hqb18
    | true =>
     replace hb18 := lB hb18 hg30
     have hqb18 := Option.some.inj hb18
     cases b18 with
     | false =>
      replace hb19 := vA hb19 rfl
      have hqb19 := Option.some.inj hb19
      cases b19 with
      | false =>
       replace hb20 := vA hb20 rfl
       have hqb20 := Option.some.inj hb20
       cases b20 with
       | false =>
        replace hb21 := vA hb21 rfl
        have hqb21 := Option.some.inj hb21
        cases b21 with
        | false =>
         replace hb22 := vA hb22 rfl
         have hqb22 := Option.some.inj hb22
         cases b22 with
         | false =>
          replace hb23 := vA hb23 rfl
          have hqb23 := Option.some.inj hb23
          cases b23 with
          | false =>
           replace hb24 := vA hb24 rfl
           have hqb24 := Option.some.inj hb24
           cases b24 with
           | false =>
            replace hb26 := vA hb26 rfl
            have hqb26 := Option.some.inj hb26
            cases b26 with
            | false =>
             replace hb29 := vA hb29 rfl
             have hqb29 := Option.some.inj hb29
             subst hqb29
             simp (maxSteps := 1000000) only [↓reduceIte, reduceCtorEq, Nat.reduceEqDiff, Nat.reduceLT, Nat.reduceLeDiff, Nat.reduceAdd, Nat.reduceMul, Int.reduceToNat, push_cast, ↓hg30, ↓hqb18]
             try simp only [↓hg30, ↓hqb18] at hK
             all_goals exact rU
            | true =>
             cases hqb26
           | true =>
            cases hqb24
          | true =>
           cases hqb23
         | true =>
          cases hqb22
        | true =>
         cases hqb21
       | true =>
        cases hqb20
      | true =>
       cases hqb19
     | true =>
      replace hb19 := lB hb19 rfl
      have hqb19 := Option.some.inj hb19
      cases b19 with
      | false =>
       replace hb20 := vA hb20 rfl
       have hqb20 := Option.some.inj hb20
       cases b20 with
       | false =>
        replace hb21 := vA hb21 rfl
        have hqb21 := Option.some.inj hb21
        cases b21 with
        | false =>
         replace hb22 := vA hb22 rfl
         have hqb22 := Option.some.inj hb22
         cases b22 with
         | false =>
          replace hb23 := vA hb23 rfl
          have hqb23 := Option.some.inj hb23
          cases b23 with
          | false =>
           replace hb24 := vA hb24 rfl
           have hqb24 := Option.some.inj hb24
           cases b24 with
           | false =>
            replace hb26 := vA hb26 rfl
            have hqb26 := Option.some.inj hb26
            cases b26 with
            | false =>
             replace hb29 := vA hb29 rfl
             have hqb29 := Option.some.inj hb29
             subst hqb29
             simp (maxSteps := 1000000) only [↓reduceIte, reduceCtorEq, Nat.reduceEqDiff, Nat.reduceLT, Nat.reduceLeDiff, Nat.reduceAdd, Nat.reduceMul, Int.reduceToNat, push_cast, ↓hg30, ↓hqb18, ↓hqb19]
             try simp only [↓hg30, ↓hqb18, ↓hqb19] at hK
             all_goals exact rU
            | true =>
             cases hqb26
           | true =>
            cases hqb24
          | true =>
           cases hqb23
         | true =>
          cases hqb22
        | true =>
         cases hqb21
       | true =>
        cases hqb20
      | true =>
       replace hb20 := lB hb20 rfl
       have hqb20 := Option.some.inj hb20
       cases b20 with
       | false =>
        replace hb21 := vA hb21 rfl
        have hqb21 := Option.some.inj hb21
        cases b21 with
        | false =>
         replace hb22 := vA hb22 rfl
         have hqb22 := Option.some.inj hb22
         cases b22 with
         | false =>
          replace hb23 := vA hb23 rfl
          have hqb23 := Option.some.inj hb23
          cases b23 with
          | false =>
           replace hb24 := vA hb24 rfl
           have hqb24 := Option.some.inj hb24
           cases b24 with
           | false =>
            replace hb26 := vA hb26 rfl
            have hqb26 := Option.some.inj hb26
            cases b26 with
            | false =>
             replace hb29 := vA hb29 rfl
             have hqb29 := Option.some.inj hb29
             subst hqb29
             simp (maxSteps := 1000000) only [↓reduceIte, reduceCtorEq, Nat.reduceEqDiff, Nat.reduceLT, Nat.reduceLeDiff, Nat.reduceAdd, Nat.reduceMul, Int.reduceToNat, push_cast, ↓hg30, ↓hqb18, ↓hqb19, ↓hqb20]
             try simp only [↓hg30, ↓hqb18, ↓hqb19, ↓hqb20] at hK
             all_goals exact rU
            | true =>
             cases hqb26
           | true =>
            cases hqb24
          | true =>
           cases hqb23
         | true =>
          cases hqb22
        | true =>
         cases hqb21
       | true =>
        replace hb21 := lB hb21 rfl
        have hqb21 := Option.some.inj hb21
        cases b21 with
        | false =>
         replace hb22 := vA hb22 rfl
         have hqb22 := Option.some.inj hb22
         cases b22 with
         | false =>
          replace hb23 := vA hb23 rfl
          have hqb23 := Option.some.inj hb23
          cases b23 with
          | false =>
           replace hb24 := vA hb24 rfl
           have hqb24 := Option.some.inj hb24
           cases b24 with
           | false =>
            replace hb26 := vA hb26 rfl
            have hqb26 := Option.some.inj hb26
            cases b26 with
            | false =>
             replace hb29 := vA hb29 rfl
             have hqb29 := Option.some.inj hb29
             subst hqb29
             simp (maxSteps := 1000000) only [↓reduceIte, reduceCtorEq, Nat.reduceEqDiff, Nat.reduceLT, Nat.reduceLeDiff, Nat.reduceAdd, Nat.reduceMul, Int.reduceToNat, push_cast, ↓hg30, ↓hqb18, ↓hqb19, ↓hqb20, ↓hqb21]
             try simp only [↓hg30, ↓hqb18, ↓hqb19, ↓hqb20, ↓hqb21] at hK
             all_goals exact rU
            | true =>
             cases hqb26
           | true =>
            cases hqb24
          | true =>
           cases hqb23
         | true =>
          cases hqb22
        | true =>
         replace hb22 := lB hb22 rfl
         have hqb22 := Option.some.inj hb22
         cases b22 with
         | false =>
          replace hb23 := vA hb23 rfl
          have hqb23 := Option.some.inj hb23
          cases b23 with
          | false =>
           replace hb24 := vA hb24 rfl
           have hqb24 := Option.some.inj hb24
           cases b24 with
           | false =>
            replace hb26 := vA hb26 rfl
            have hqb26 := Option.some.inj hb26
            cases b26 with
            | false =>
             replace hb29 := vA hb29 rfl
             have hqb29 := Option.some.inj hb29
             subst hqb29
             simp (maxSteps := 1000000) only [↓reduceIte, reduceCtorEq, Nat.reduceEqDiff, Nat.reduceLT, Nat.reduceLeDiff, Nat.reduceAdd, Nat.reduceMul, Int.reduceToNat, push_cast, ↓hg30, ↓hqb18, ↓hqb19, ↓hqb20, ↓hqb21, ↓hqb22]
             try simp only [↓hg30, ↓hqb18, ↓hqb19, ↓hqb20, ↓hqb21, ↓hqb22] at hK
             all_goals exact rU
            | true =>
             cases hqb26
           | true =>
            cases hqb24
          | true =>
           cases hqb23
         | true =>
          replace hb23 := lB hb23 rfl
          have hqb23 := Option.some.inj hb23
          cases b23 with
          | false =>
           replace hb24 := vA hb24 rfl
           have hqb24 := Option.some.inj hb24
           cases b24 with
           | false =>
            replace hb26 := vA hb26 rfl
            have hqb26 := Option.some.inj hb26
            cases b26 with
            | false =>
             replace hb29 := vA hb29 rfl
             have hqb29 := Option.some.inj hb29
             subst hqb29
             simp (maxSteps := 1000000) only [↓reduceIte, reduceCtorEq, Nat.reduceEqDiff, Nat.reduceLT, Nat.reduceLeDiff, Nat.reduceAdd, Nat.reduceMul, Int.reduceToNat, push_cast, ↓hg30, ↓hqb18, ↓hqb19, ↓hqb20, ↓hqb21, ↓hqb22, ↓hqb23]
             try simp only [↓hg30, ↓hqb18, ↓hqb19, ↓hqb20, ↓hqb21, ↓hqb22, ↓hqb23] at hK
             all_goals exact rU
            | true =>
             cases hqb26
           | true =>
            cases hqb24
          | true =>
           replace hb24 := lB hb24 rfl
           have hqb24 := Option.some.inj hb24
           cases b24 with
           | false =>
            replace hb26 := vA hb26 rfl
            have hqb26 := Option.some.inj hb26
            cases b26 with
            | false =>
             replace hb29 := vA hb29 rfl
             have hqb29 := Option.some.inj hb29
             subst hqb29
             simp (maxSteps := 1000000) only [↓reduceIte, reduceCtorEq, Nat.reduceEqDiff, Nat.reduceLT, Nat.reduceLeDiff, Nat.reduceAdd, Nat.reduceMul, Int.reduceToNat, push_cast, ↓hg30, ↓hqb18, ↓hqb19, ↓hqb20, ↓hqb21, ↓hqb22, ↓hqb23, ↓hqb24]
             try simp only [↓hg30, ↓hqb18, ↓hqb19, ↓hqb20, ↓hqb21, ↓hqb22, ↓hqb23, ↓hqb24] at hK
             all_goals exact rU
            | true =>
             cases hqb26
           | true =>
            replace hb26 := lB hb26 rfl
            obtain ⟨e25, he25, hb26⟩ := fA hb26
            have he25b := (dB he25).2.1
            have he25c := (kG 0 he25 rfl).1
            have he25a := (kG 0 he25 rfl).2
            have hqb26 := Option.some.inj hb26
            cases b26 with
            | false =>
             replace hb29 := vA hb29 rfl
             have hqb29 := Option.some.inj hb29
             subst hqb29
             simp (maxSteps := 1000000) only [↓reduceIte, reduceCtorEq, Nat.reduceEqDiff, Nat.reduceLT, Nat.reduceLeDiff, Nat.reduceAdd, Nat.reduceMul, Int.reduceToNat, push_cast, ↓hg30, ↓hqb18, ↓hqb19, ↓hqb20, ↓hqb21, ↓hqb22, ↓hqb23, ↓hqb24, he25a, he25b, he25c, he25, ↓hqb26]
             try simp only [↓hg30, ↓hqb18, ↓hqb19, ↓hqb20, ↓hqb21, ↓hqb22, ↓hqb23, ↓hqb24, ↓hqb26] at hK
             all_goals exact rU
            | true =>
             replace hb29 := lB hb29 rfl
             obtain ⟨e27, he27, hb29⟩ := fA hb29
             have he27b := (dB he27).2.1
             have he27c := (kG 0 he27 rfl).1
             have he27a := (kG 0 he27 rfl).2
             obtain rfl := Option.some.inj (he25.symm.trans he27)
             obtain ⟨e28, he28, hb29⟩ := fA hb29
             have he28b := (dB he28).2.1
             have he28c := (kG 0 he28 rfl).1
             have he28a := (kG 0 he28 rfl).2
             have hqb29 := Option.some.inj hb29
             subst hqb29
             simp (maxSteps := 1000000) only [↓reduceIte, reduceCtorEq, Nat.reduceEqDiff, Nat.reduceLT, Nat.reduceLeDiff, Nat.reduceAdd, Nat.reduceMul, Int.reduceToNat, push_cast, ↓hg30, ↓hqb18, ↓hqb19, ↓hqb20, ↓hqb21, ↓hqb22, ↓hqb23, ↓hqb24, he25a, he25b, he25c, he25, ↓hqb26, he27a, he27b, he27c, he27, he28a, he28b, he28c, he28]
             try simp only [↓hg30, ↓hqb18, ↓hqb19, ↓hqb20, ↓hqb21, ↓hqb22, ↓hqb23, ↓hqb24, ↓hqb26] at hK
             all_goals exact rU) ?_
  refine jA ?_
  obtain rfl := Option.some.inj h0
  refine mA [] ?_
  exact rG
theorem zbU {fu : Nat} {vx1 : aA} {r : Int} (h0 : aT fu vx1 = some r) : jB Try.prog 47 [.agg (aA.enc vx1)] (.int .i64 r) [] := by
 refine tB Try.func47 rfl (by decide) rL ?_
 dsimp only [Try.f47]
 rw [aT] at h0
 refine (show pA _ _ _ _ ⟨iB 0 _, [], 0, []⟩ from ?_)
 refine xS 16 [1] ?_
 refine kA ?_
 obtain ⟨b2, hb2, h0⟩ := fA h0
 refine eD (fr' := [(1, .ref 0 0 0 0), (12, .bool b2)]) (hp' := [(0, ⟨0, true, true, 4, [[.str vx1.Key, .str vx1.Val, .bool vx1.Dead, .int .i64 vx1.Seq]]⟩)]) [0] 96 [1, 12] (fun _ => none) rfl (fun Kt hK => by
   cases hg3 : (decide (32 < (vx1.Key.length : Int))) with
   | false =>
    replace hb2 := vA hb2 hg3
    have hqb2 := Option.some.inj hb2
    subst hqb2
    simp (maxSteps := 1000000) only [↓reduceIte, reduceCtorEq, Nat.reduceEqDiff, Nat.reduceLT, Nat.reduceLeDiff, Nat.reduceAdd, Nat.reduceMul, Int.reduceToNat, push_cast, ↓hg3]
    try simp only [↓hg3] at hK
    all_goals exact rU
   | true =>
    replace hb2 := lB hb2 hg3
    have hqb2 := Option.some.inj hb2
    subst hqb2
    simp (maxSteps := 1000000) only [↓reduceIte, reduceCtorEq, Nat.reduceEqDiff, Nat.reduceLT, Nat.reduceLeDiff, Nat.reduceAdd, Nat.reduceMul, Int.reduceToNat, push_cast, ↓hg3]
    try simp only [↓hg3] at hK
    all_goals exact rU) ?_
 refine xI h0 rfl (fun h0 hb4 => ?_) (fun h0 hb4 => ?_)
 ·
  refine xS 104 [2] ?_
  refine jA (oA ?_)
  obtain rfl := Option.some.inj h0
  refine mA [] ?_
  exact rG
 ·
  refine qA (iA (kA ?_))
  obtain ⟨b5, hb5, h0⟩ := fA h0
  refine eD (fr' := [(1, .ref 0 0 0 0), (19, .bool b5)]) (hp' := [(0, ⟨0, true, true, 4, [[.str vx1.Key, .str vx1.Val, .bool vx1.Dead, .int .i64 vx1.Seq]]⟩)]) [0] 152 [1, 19] (fun _ => none) rfl (fun Kt hK => by
    cases hg6 : vx1.Dead with
    | false =>
     replace hb5 := vA hb5 hg6
     have hqb5 := Option.some.inj hb5
     subst hqb5
     simp (maxSteps := 1000000) only [↓reduceIte, reduceCtorEq, Nat.reduceEqDiff, Nat.reduceLT, Nat.reduceLeDiff, Nat.reduceAdd, Nat.reduceMul, Int.reduceToNat, push_cast, ↓hg6]
     try simp only [↓hg6] at hK
     all_goals exact rU
    | true =>
     replace hb5 := lB hb5 hg6
     have hqb5 := Option.some.inj hb5
     subst hqb5
     simp (maxSteps := 1000000) only [↓reduceIte, reduceCtorEq, Nat.reduceEqDiff, Nat.reduceLT, Nat.reduceLeDiff, Nat.reduceAdd, Nat.reduceMul, Int.reduceToNat, push_cast, ↓hg6]
     try simp only [↓hg6] at hK
     all_goals exact rU) ?_
  refine xI h0 rfl (fun h0 hb7 => ?_) (fun h0 hb7 => ?_)
  ·
   refine xS 160 [2] ?_
   refine jA (oA ?_)
   obtain rfl := Option.some.inj h0
   refine mA [] ?_
   exact rG
  ·
   refine qA (iA (kA ?_))
   obtain ⟨b8, hb8, h0⟩ := fA h0
   refine eD (fr' := [(27, .bool b8)]) (hp' := [(0, ⟨0, true, true, 4, [[.str vx1.Key, .str vx1.Val, .bool vx1.Dead, .int .i64 vx1.Seq]]⟩)]) [0] 216 [27] (fun _ => none) rfl (fun Kt hK => by
     cases hg9 : (decide (vx1.Seq < 1)) with
     | false =>
      replace hb8 := vA hb8 hg9
      have hqb8 := Option.some.inj hb8
      subst hqb8
      simp (maxSteps := 1000000) only [↓reduceIte, reduceCtorEq, Nat.reduceEqDiff, Nat.reduceLT, Nat.reduceLeDiff, Nat.reduceAdd, Nat.reduceMul, Int.reduceToNat, push_cast, ↓hg9]
      try simp only [↓hg9] at hK
      all_goals exact rU
     | true =>
      replace hb8 := lB hb8 hg9
      have hqb8 := Option.some.inj hb8
      subst hqb8
      simp (maxSteps := 1000000) only [↓reduceIte, reduceCtorEq, Nat.reduceEqDiff, Nat.reduceLT, Nat.reduceLeDiff, Nat.reduceAdd, Nat.reduceMul, Int.reduceToNat, push_cast, ↓hg9]
      try simp only [↓hg9] at hK
      all_goals exact rU) ?_
   refine xI h0 rfl (fun h0 hb10 => ?_) (fun h0 hb10 => ?_)
   ·
    refine xS 224 [2] ?_
    refine jA (oA ?_)
    obtain rfl := Option.some.inj h0
    refine mA [] ?_
    exact rG
   ·
    refine qA (iA ?_)
    refine xS 224 [2] ?_
    refine jA ?_
    obtain rfl := Option.some.inj h0
    refine mA [] ?_
    exact rG
theorem zfB {fu : Nat} {a1 : List UInt8} {b2 : List UInt8} {r : Int} (h0 : sV fu a1 b2 = some r) : jB Try.prog 86 [.str a1, .str b2] (.int .i64 r) [] := by
 refine tB Try.func86 rfl (by decide) rL ?_
 dsimp only [Try.f86]
 rw [sV] at h0
 refine (show pA _ _ _ _ ⟨iB 0 _, [], 0, []⟩ from ?_)
 refine xS 8 [0, 1] ?_
 refine xS 16 [0, 1, 5] ?_
 obtain ⟨x20, hxx20, h0⟩ := fA h0
 refine zd4 (fun s' => s'.nx ≤ 168 ∧ LeN [] s' ⟨[(5, .int .i64 x20)], [], 168, []⟩) ?_ ?_
 ·
  intro s' hs
  obtain ⟨hn, hs⟩ := hs
  refine dC [] hn hs ?_
  refine xS 184 [4] ?_
  refine jA ?_
  obtain rfl := Option.some.inj h0
  refine mA [] ?_
  exact rG
 ·
  refine oD (ι := { p : Nat × Int // qJ a1 b2 p.1 p.2 = some x20 }) (fun p => ⟨[(0, .str a1), (1, .str b2), (5, .int .i64 p.1.2)], [], 16, []⟩) (fun p => p.1.1) ⟨(fu, 0), hxx20⟩ ⟨rF, rE, rfl, rfl, trivial, trivial⟩ (fun _ => Nat.le_refl _) ?_
  rintro ⟨⟨fu, n21⟩, h1⟩
  cases fu with
  | zero =>
   replace h1 : qJ a1 b2 0 n21 = some x20 := h1
   rw [qJ] at h1; cases h1
  | succ fu =>
   replace h1 : qJ a1 b2 (fu + 1) n21 = some x20 := h1
   rw [qJ] at h1
   refine (show pA _ _ _ _ ⟨[(0, .str a1), (1, .str b2), (5, .int .i64 n21)], [], 16, []⟩ from ?_)
   refine kA ?_
   obtain ⟨b22, hb22, h1⟩ := fA h1
   obtain ⟨b25, hb25, h1⟩ := fA h1
   refine eO (fr' := [(0, .str a1), (1, .str b2), (5, .int .i64 n21), (24, .bool b25)]) (hp' := []) [] 168 [0, 1, 5, 24] (fun _ => none) rfl rfl rfl (fun Kt hK => by
     cases hg26 : (decide (n21 < (a1.length : Int))) with
     | false =>
      replace hb22 := vA hb22 hg26
      have hqb22 := Option.some.inj hb22
      cases b22 with
      | false =>
       replace hb25 := vA hb25 rfl
       have hqb25 := Option.some.inj hb25
       subst hqb25
       simp (maxSteps := 1000000) only [↓reduceIte, reduceCtorEq, Nat.reduceEqDiff, Nat.reduceLT, Nat.reduceLeDiff, Nat.reduceAdd, Nat.reduceMul, Int.reduceToNat, push_cast, ↓hg26]
       try simp only [↓hg26] at hK
       all_goals exact tF
      | true =>
       cases hqb22
     | true =>
      replace hb22 := lB hb22 hg26
      have hqb22 := Option.some.inj hb22
      cases b22 with
      | false =>
       replace hb25 := vA hb25 rfl
       have hqb25 := Option.some.inj hb25
       subst hqb25
       simp (maxSteps := 1000000) only [↓reduceIte, reduceCtorEq, Nat.reduceEqDiff, Nat.reduceLT, Nat.reduceLeDiff, Nat.reduceAdd, Nat.reduceMul, Int.reduceToNat, push_cast, ↓hg26, ↓hqb22]
       try simp only [↓hg26, ↓hqb22] at hK
       all_goals exact tF
      | true =>
       replace hb25 := lB hb25 rfl
       obtain ⟨e23, he23, hb25⟩ := fA hb25
       obtain ⟨he23a, he23b, he23c⟩ := dB he23
       obtain ⟨e24, he24, hb25⟩ := fA hb25
       obtain ⟨he24a, he24b, he24c⟩ := dB he24
       have hqb25 := Option.some.inj hb25
       subst hqb25
       simp (maxSteps := 1000000) only [↓reduceIte, reduceCtorEq, Nat.reduceEqDiff, Nat.reduceLT, Nat.reduceLeDiff, Nat.reduceAdd, Nat.reduceMul, Int.reduceToNat, push_cast, ↓hg26, ↓hqb22, he23a, he23b, he23c, he23, he24a, he24b, he24c, he24]
       try simp only [↓hg26, ↓hqb22] at hK
       all_goals exact tF) ?_
   refine xI h1 rfl (fun h1 hb29 => ?_) (fun h1 hb29 => ?_)
   ·
    refine qA (iA (nC ?_))
    refine xR 192 [0, 1, 5] ?_
    refine fC (iA ?_)
    exact ⟨⟨(fu, (IntKind.i64.wrap (n21 + 1))), h1⟩, ⟨rF, rE, rfl, rfl, trivial, trivial⟩, Nat.lt_succ_self _⟩
   ·
    refine fD (kB (kB (kD ?_)))
    obtain rfl := Option.some.inj h1
    exact ⟨rL, ⟨rF, rE, rfl, rfl, trivial, trivial⟩⟩
theorem fZ {fu : Nat} {a1 : List UInt8} {b2 : List UInt8} {r : Int} (h0 : cM fu a1 b2 = some r) : jB Try.prog 63 [.str a1, .str b2] (.int .i64 r) [] := by
 refine tB Try.func63 rfl (by decide) rL ?_
 dsimp only [Try.f63]
 rw [cM] at h0
 refine (show pA _ _ _ _ ⟨iB 0 _, [], 0, []⟩ from ?_)
 refine xS 8 [0, 1] ?_
 obtain ⟨vr3, hvr3, h0⟩ := fA h0
 refine nA 40 [0, 1, 5] (fun | 2 => some (.int .i64 vr3, []) | _ => none) rfl (fun _ _ => rC (zfB hvr3)) ?_
 refine kA ?_
 obtain ⟨b4, hb4, h0⟩ := fA h0
 refine eD (fr' := [(0, .str a1), (1, .str b2), (5, .int .i64 vr3), (18, .bool b4)]) (hp' := []) [] 120 [0, 1, 5, 18] (fun _ => none) rfl (fun Kt hK => by
   cases hg5 : (decide (vr3 = (a1.length : Int))) with
   | false =>
    replace hb4 := vA hb4 hg5
    have hqb4 := Option.some.inj hb4
    subst hqb4
    simp (maxSteps := 1000000) only [↓reduceIte, reduceCtorEq, Nat.reduceEqDiff, Nat.reduceLT, Nat.reduceLeDiff, Nat.reduceAdd, Nat.reduceMul, Int.reduceToNat, push_cast, ↓hg5]
    try simp only [↓hg5] at hK
    all_goals exact rU
   | true =>
    replace hb4 := lB hb4 hg5
    have hqb4 := Option.some.inj hb4
    subst hqb4
    simp (maxSteps := 1000000) only [↓reduceIte, reduceCtorEq, Nat.reduceEqDiff, Nat.reduceLT, Nat.reduceLeDiff, Nat.reduceAdd, Nat.reduceMul, Int.reduceToNat, push_cast, ↓hg5]
    try simp only [↓hg5] at hK
    all_goals exact rU) ?_
 refine xI h0 rfl (fun h0 hb6 => ?_) (fun h0 hb6 => ?_)
 ·
  refine xS 128 [4] ?_
  refine jA (oA ?_)
  obtain rfl := Option.some.inj h0
  refine mA [] ?_
  exact rG
 ·
  refine qA (iA (kA ?_))
  obtain ⟨b10, hb10, h0⟩ := fA h0
  refine eO (fr' := [(37, .bool b10)]) (hp' := []) [] 272 [37] (fun _ => none) rfl rfl rfl (fun Kt hK => by
    cases hg11 : (decide (vr3 = (a1.length : Int))) with
    | false =>
     replace hb10 := vA hb10 hg11
     obtain ⟨b9, hb9, hb10⟩ := fA hb10
     have hqb10 := Option.some.inj hb10
     cases hg12 : (decide (vr3 < (b2.length : Int))) with
     | false =>
      replace hb9 := vA hb9 hg12
      have hqb9 := Option.some.inj hb9
      subst hqb10
      subst hqb9
      simp (maxSteps := 1000000) only [↓reduceIte, reduceCtorEq, Nat.reduceEqDiff, Nat.reduceLT, Nat.reduceLeDiff, Nat.reduceAdd, Nat.reduceMul, Int.reduceToNat, push_cast, ↓hg11, ↓hg12]
      try simp only [↓hg11, ↓hg12] at hK
      all_goals exact tF
     | true =>
      replace hb9 := lB hb9 hg12
      obtain ⟨e7, he7, hb9⟩ := fA hb9
      obtain ⟨he7a, he7b, he7c⟩ := dB he7
      obtain ⟨e8, he8, hb9⟩ := fA hb9
      obtain ⟨he8a, he8b, he8c⟩ := dB he8
      have hqb9 := Option.some.inj hb9
      subst hqb10
      subst hqb9
      simp (maxSteps := 1000000) only [↓reduceIte, reduceCtorEq, Nat.reduceEqDiff, Nat.reduceLT, Nat.reduceLeDiff, Nat.reduceAdd, Nat.reduceMul, Int.reduceToNat, push_cast, ↓hg11, ↓hg12, he7a, he7b, he7c, he7, he8a, he8b, he8c, he8]
      try simp only [↓hg11, ↓hg12] at hK
      all_goals exact tF
    | true =>
     replace hb10 := lB hb10 hg11
     have hqb10 := Option.some.inj hb10
     subst hqb10
     simp (maxSteps := 1000000) only [↓reduceIte, reduceCtorEq, Nat.reduceEqDiff, Nat.reduceLT, Nat.reduceLeDiff, Nat.reduceAdd, Nat.reduceMul, Int.reduceToNat, push_cast, ↓hg11]
     try simp only [↓hg11] at hK
     all_goals exact tF) ?_
  refine xI h0 rfl (fun h0 hb13 => ?_) (fun h0 hb13 => ?_)
  ·
   refine xS 280 [4] ?_
   refine jA (oA ?_)
   obtain rfl := Option.some.inj h0
   refine mA [] ?_
   exact rG
  ·
   refine qA (iA ?_)
   refine xS 280 [4] ?_
   refine jA ?_
   obtain rfl := Option.some.inj h0
   refine mA [] ?_
   exact rG
end Go.T
end
