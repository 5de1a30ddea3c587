/- New, Of and Begin return what the document says, of levels that are not long; no other condition. -/
import Derived.Test.YtnlggkiekcpahaaGreatCLkJobsMakes
import Derived.Test.YtnlggkiekcpahaaGreatC3
set_option linter.unusedSimpArgs false
set_option linter.unusedVariables false
section
namespace Go.T
open Go Go.AM Go.Proofs
set_option maxRecDepth 100000
set_option maxHeartbeats 4000000
set_option linter.unusedVariables false
theorem zll {fu : Nat} {l1 : uA} {level2 : Int} {r : yA × Int} (h0 : sT fu l1 level2 = some r) : bB Tryz.prog 26 [.agg (uA.enc l1), .int .i64 level2] (.tup [.agg (yA.enc r.1), .int .i64 r.2]) [] := by
 refine gB Tryz.func26 rfl (by decide) rL ?_
 dsimp only [Tryz.f26]
 rw [sT] at h0
 refine (show pA _ _ _ _ ⟨aB 0 _, [], 0, []⟩ from ?_)
 refine xS 24 [1, 2, 4] ?_
 obtain ⟨vr3, hvr3, h0⟩ := cA h0
 refine nA 96 [1, 2, 4, 8] (fun | 1 => some (.tup [.int .i64 vr3.1, .int .i64 vr3.2.1, .int .i64 vr3.2.2], []) | _ => none) rfl (fun _ _ => rC (wW hvr3)) ?_
 refine kA ?_
 obtain ⟨b5, hb5, h0⟩ := cA h0
 refine nC (fr' := [(1, .int .i64 level2), (2, .ref 0 0 0 0), (4, .ref 8 0 0 0), (8, .int .i64 vr3.2.2), (24, .bool b5)]) (hp' := [(0, ⟨0, true, true, 2, [[.int .i64 l1.B, .psl 1 (List.map sA.enc l1.Levels)]]⟩), (8, ⟨0, true, true, 11, [[.int .i64 0, .nils, .nils, .nils, .nils, .int .i64 0, .bool false, .str [], .bool false, .nils, .int .i64 0]]⟩)]) [0, 8] 176 [1, 2, 4, 8, 24] (fun _ => none) rfl (fun Kt hK => by
   cases hg6 : (decide (vr3.2.2 = 0)) with
   | false =>
    replace hb5 := wA hb5 hg6
    have hqb5 := Option.some.inj hb5
    subst hqb5
    simp (maxSteps := 1000000) only [↓reduceIte, reduceCtorEq, Nat.reduceEqDiff, Nat.reduceLT, Nat.reduceLeDiff, Nat.reduceAdd, Nat.reduceMul, Int.reduceToNat, push_cast, ↓hg6]
    try simp only [↓hg6] at hK
    all_goals exact rU
   | true =>
    replace hb5 := jB hb5 hg6
    obtain ⟨b4, hb4, hb5⟩ := cA hb5
    have hqb5 := Option.some.inj hb5
    cases hg7 : (decide (level2 < 0)) with
    | false =>
     replace hb4 := wA hb4 hg7
     have hqb4 := Option.some.inj hb4
     subst hqb5
     subst hqb4
     simp (maxSteps := 1000000) only [↓reduceIte, reduceCtorEq, Nat.reduceEqDiff, Nat.reduceLT, Nat.reduceLeDiff, Nat.reduceAdd, Nat.reduceMul, Int.reduceToNat, push_cast, ↓hg6, ↓hg7]
     try simp only [↓hg6, ↓hg7] at hK
     all_goals exact rU
    | true =>
     replace hb4 := jB hb4 hg7
     have hqb4 := Option.some.inj hb4
     subst hqb5
     subst hqb4
     simp (maxSteps := 1000000) only [↓reduceIte, reduceCtorEq, Nat.reduceEqDiff, Nat.reduceLT, Nat.reduceLeDiff, Nat.reduceAdd, Nat.reduceMul, Int.reduceToNat, push_cast, ↓hg6, ↓hg7]
     try simp only [↓hg6, ↓hg7] at hK
     all_goals exact rU) ?_
 refine xI h0 rfl (fun h0 hb8 => ?_) (fun h0 hb8 => ?_)
 ·
  refine xR 184 [1, 2, 4, 8] ?_
  refine dA (kA ?_)
  refine nA 256 [1, 2, 4, 8, 33] (fun _ => none) rfl (fun _ _ => rQ) ?_
  refine eF rfl ?_
  refine qA (dA (kA ?_))
  refine nA 272 [1, 2, 4, 8, 35] (fun _ => none) rfl (fun _ _ => rQ) ?_
  refine zK rfl ?_
  refine nA 304 [4, 5] (fun _ => none) rfl (fun _ _ => rQ) ?_
  refine jA (mA ?_)
  obtain rfl := Option.some.inj h0
  refine lA [] ?_
  simp (maxSteps := 1000000) only [↓reduceIte, reduceCtorEq, Nat.reduceEqDiff, Nat.reduceLT, Nat.reduceLeDiff, Nat.reduceAdd, Nat.reduceMul, Int.reduceToNat, push_cast, bC, (Eq.refl false : decide ((7 : Int) = 0) = false)]
  all_goals exact rH
 ·
  refine qA (dA (kA ?_))
  obtain ⟨b10, hb10, h0⟩ := cA h0
  refine nC (fr' := [(1, .int .i64 level2), (2, .ref 0 0 0 0), (4, .ref 8 0 0 0), (8, .int .i64 vr3.2.2), (33, .bool b10)]) (hp' := [(0, ⟨0, true, true, 2, [[.int .i64 l1.B, .psl 1 (List.map sA.enc l1.Levels)]]⟩), (8, ⟨0, true, true, 11, [[.int .i64 0, .nils, .nils, .nils, .nils, .int .i64 0, .bool false, .str [], .bool false, .nils, .int .i64 0]]⟩)]) [0, 8] 248 [1, 2, 4, 8, 33] (fun | 5 => (wM fu l1 level2).bind fun vr9 => some (.psl 2 (vr9.map zA.enc), []) | _ => none) rfl (fun Kt hK => by
    cases hg11 : (decide (vr3.2.2 = 0)) with
    | false =>
     replace hb10 := wA hb10 hg11
     have hqb10 := Option.some.inj hb10
     subst hqb10
     simp (maxSteps := 1000000) only [↓reduceIte, reduceCtorEq, Nat.reduceEqDiff, Nat.reduceLT, Nat.reduceLeDiff, Nat.reduceAdd, Nat.reduceMul, Int.reduceToNat, push_cast, ↓hg11]
     try simp only [↓hg11] at hK
     try have q0 := cZ hvr9
     all_goals exact rU
    | true =>
     replace hb10 := jB hb10 hg11
     obtain ⟨vr9, hvr9, hb10⟩ := cA hb10
     have hqb10 := Option.some.inj hb10
     subst hqb10
     simp (maxSteps := 1000000) only [↓reduceIte, reduceCtorEq, Nat.reduceEqDiff, Nat.reduceLT, Nat.reduceLeDiff, Nat.reduceAdd, Nat.reduceMul, Int.reduceToNat, push_cast, ↓hg11, hvr9]
     try simp only [↓hg11] at hK
     try have q0 := cZ hvr9
     all_goals exact rU) ?_
  refine xI h0 rfl (fun h0 hb12 => ?_) (fun h0 hb12 => ?_)
  ·
   refine xR 256 [1, 2, 4, 8] ?_
   refine dA (kA ?_)
   refine xS 272 [1, 2, 4, 8, 35] ?_
   refine zK rfl ?_
   refine xS 304 [4, 5] ?_
   refine jA (mA ?_)
   obtain rfl := Option.some.inj h0
   refine lA [] ?_
   exact rG
  ·
   refine qA (dA (kA ?_))
   refine xS 264 [1, 2, 4, 8, 35] ?_
   refine xI h0 rfl (fun h0 hb13 => ?_) (fun h0 hb13 => ?_)
   ·
    refine xS 296 [4, 5] ?_
    refine jA (mA ?_)
    obtain rfl := Option.some.inj h0
    refine lA [] ?_
    exact rG
   ·
    refine qA (dA ?_)
    obtain ⟨vr14, hvr14, h0⟩ := cA h0
    obtain ⟨vr15, hvr15, h0⟩ := cA h0
    refine oC 328 [4, 5] (fun | 4 => some (.bool vr14, []) | 5 => some (.agg (yA.enc vr15), []) | _ => none) rfl rfl rfl (fun Kt hK => by
      try have q0 := zc2 hvr14
      try have q1 := zcK hvr15
      exact jF) ?_
    refine jA ?_
    obtain rfl := Option.some.inj h0
    refine lA [] ?_
    exact rG
theorem zfd {fu : Nat} {l1 : uA} {b2 : Int} {level3 : Int} {r : Bool} (h0 : uV fu l1 b2 level3 = some r) : bB Tryz.prog 5 [.agg (uA.enc l1), .int .i64 b2, .int .i64 level3] (.bool r) [] := by
 refine gB Tryz.func5 rfl (by decide) rL ?_
 dsimp only [Tryz.f5]
 rw [uV] at h0
 refine (show pA _ _ _ _ ⟨aB 0 _, [], 0, []⟩ from ?_)
 refine xS 16 [1, 2, 3] ?_
 refine kA ?_
 obtain ⟨vr4, hvr4, h0⟩ := cA h0
 refine nA 32 [1, 2, 3, 14] (fun | 1 => some (.bool vr4, []) | _ => none) rfl (fun _ _ => rC (zkM hvr4)) ?_
 refine xI h0 rfl (fun h0 hb5 => ?_) (fun h0 hb5 => ?_)
 ·
  obtain ⟨vr6, hvr6, h0⟩ := cA h0
  refine nA 48 [6] (fun | 0 => some (.bool vr6, []) | _ => none) rfl (fun _ _ => rC (wX hvr6)) ?_
  refine jA (mA ?_)
  obtain rfl := Option.some.inj h0
  refine lA [] ?_
  exact rG
 ·
  refine qA (dA ?_)
  obtain ⟨vr7, hvr7, h0⟩ := cA h0
  refine nA 96 [1, 2, 3, 7, 8] (fun | 1 => some (.tup [.agg (oB.enc vr7.1), .int .i64 vr7.2], []) | _ => none) rfl (fun _ _ => rC (zlD hvr7)) ?_
  obtain ⟨vr8, hvr8, h0⟩ := cA h0
  refine nA 160 [2, 3, 7, 8, 9, 10] (fun | 1 => some (.tup [.agg (oB.enc vr8.1), .int .i64 vr8.2], []) | _ => none) rfl (fun _ _ => rC (zdI hvr8)) ?_
  refine kA ?_
  obtain ⟨vr9, hvr9, h0⟩ := cA h0
  obtain ⟨b10, hb10, h0⟩ := cA h0
  refine nC (fr' := [(2, .int .i64 level3), (3, .ref 0 0 0 0), (7, .ref 72 0 0 0), (9, .ref 136 0 0 0), (34, .bool b10)]) (hp' := [(0, ⟨0, true, true, 2, [[.int .i64 l1.B, .psl 1 (List.map sA.enc l1.Levels)]]⟩), (72, ⟨0, true, true, 4, [[.int .i64 vr7.1.Levels.B, .psl 1 (List.map sA.enc vr7.1.Levels.Levels), .psl 11 (List.map yA.enc vr7.1.Jobs), .int .i64 vr7.1.NextId]]⟩), (136, ⟨0, true, true, 4, [[.int .i64 vr8.1.Levels.B, .psl 1 (List.map sA.enc vr8.1.Levels.Levels), .psl 11 (List.map yA.enc vr8.1.Jobs), .int .i64 vr8.1.NextId]]⟩)]) [0, 72, 136] 232 [2, 3, 7, 9, 34] (fun | 2 => some (.bool vr9, []) | _ => none) rfl (fun Kt hK => by
    cases hg11 : (!vr9) with
    | false =>
     replace hb10 := wA hb10 hg11
     have hqb10 := Option.some.inj hb10
     subst hqb10
     simp (maxSteps := 1000000) only [↓reduceIte, reduceCtorEq, Nat.reduceEqDiff, Nat.reduceLT, Nat.reduceLeDiff, Nat.reduceAdd, Nat.reduceMul, Int.reduceToNat, push_cast, ↓hg11]
     try simp only [↓hg11] at hK
     try have q0 := xW hvr9
     all_goals exact rU
    | true =>
     replace hb10 := jB hb10 hg11
     have hqb10 := Option.some.inj hb10
     subst hqb10
     simp (maxSteps := 1000000) only [↓reduceIte, reduceCtorEq, Nat.reduceEqDiff, Nat.reduceLT, Nat.reduceLeDiff, Nat.reduceAdd, Nat.reduceMul, Int.reduceToNat, push_cast, ↓hg11]
     try simp only [↓hg11] at hK
     try have q0 := xW hvr9
     all_goals exact rU) ?_
  refine xI h0 rfl (fun h0 hb12 => ?_) (fun h0 hb12 => ?_)
  ·
   refine xS 240 [6] ?_
   refine jA (mA ?_)
   obtain rfl := Option.some.inj h0
   refine lA [] ?_
   exact rG
  ·
   refine qA (dA ?_)
   obtain ⟨vr13, hvr13, h0⟩ := cA h0
   refine nA 288 [2, 3, 7, 8, 9] (fun | 1 => some (.tup [.agg (oB.enc vr13.1), .int .i64 vr13.2], []) | _ => none) rfl (fun _ _ => rC (zbZ hvr13)) ?_
   obtain ⟨vr14, hvr14, h0⟩ := cA h0
   refine nA 344 [2, 3, 7, 8, 9, 10] (fun | 1 => some (.tup [.agg (oB.enc vr14.1), .int .i64 vr14.2], []) | _ => none) rfl (fun _ _ => rC (zeg hvr14)) ?_
   refine kA ?_
   obtain ⟨vr15, hvr15, h0⟩ := cA h0
   obtain ⟨b16, hb16, h0⟩ := cA h0
   refine nC (fr' := [(2, .int .i64 level3), (3, .ref 0 0 0 0), (53, .bool b16)]) (hp' := [(0, ⟨0, true, true, 2, [[.int .i64 l1.B, .psl 1 (List.map sA.enc l1.Levels)]]⟩), (72, ⟨0, true, true, 4, [[.int .i64 vr13.1.Levels.B, .psl 1 (List.map sA.enc vr13.1.Levels.Levels), .psl 11 (List.map yA.enc vr13.1.Jobs), .int .i64 vr13.1.NextId]]⟩), (136, ⟨0, true, true, 4, [[.int .i64 vr14.1.Levels.B, .psl 1 (List.map sA.enc vr14.1.Levels.Levels), .psl 11 (List.map yA.enc vr14.1.Jobs), .int .i64 vr14.1.NextId]]⟩)]) [0, 72, 136] 416 [2, 3, 53] (fun | 2 => some (.bool vr15, []) | _ => none) rfl (fun Kt hK => by
     cases hg17 : (!vr15) with
     | false =>
      replace hb16 := wA hb16 hg17
      have hqb16 := Option.some.inj hb16
      subst hqb16
      simp (maxSteps := 1000000) only [↓reduceIte, reduceCtorEq, Nat.reduceEqDiff, Nat.reduceLT, Nat.reduceLeDiff, Nat.reduceAdd, Nat.reduceMul, Int.reduceToNat, push_cast, ↓hg17]
      try simp only [↓hg17] at hK
      try have q0 := xW hvr15
      all_goals exact rU
     | true =>
      replace hb16 := jB hb16 hg17
      have hqb16 := Option.some.inj hb16
      subst hqb16
      simp (maxSteps := 1000000) only [↓reduceIte, reduceCtorEq, Nat.reduceEqDiff, Nat.reduceLT, Nat.reduceLeDiff, Nat.reduceAdd, Nat.reduceMul, Int.reduceToNat, push_cast, ↓hg17]
      try simp only [↓hg17] at hK
      try have q0 := xW hvr15
      all_goals exact rU) ?_
   refine xI h0 rfl (fun h0 hb18 => ?_) (fun h0 hb18 => ?_)
   ·
    refine xS 424 [6] ?_
    refine jA (mA ?_)
    obtain rfl := Option.some.inj h0
    refine lA [] ?_
    exact rG
   ·
    refine qA (dA ?_)
    obtain ⟨vr19, hvr19, h0⟩ := cA h0
    refine nA 488 [2, 3, 8, 11] (fun | 2 => some (.tup [.agg (yA.enc vr19.1), .int .i64 vr19.2], []) | _ => none) rfl (fun _ _ => rC (zfg hvr19)) ?_
    obtain ⟨vr20, hvr20, h0⟩ := cA h0
    refine nA 560 [8, 10, 11, 12] (fun | 2 => some (.tup [.agg (yA.enc vr20.1), .int .i64 vr20.2], []) | _ => none) rfl (fun _ _ => rC (zll hvr20)) ?_
    obtain ⟨vr21, hvr21, h0⟩ := cA h0
    obtain ⟨b22, hb22, h0⟩ := cA h0
    obtain ⟨b24, hb24, h0⟩ := cA h0
    refine nC (fr' := [(6, .bool b24)]) (hp' := [(0, ⟨0, true, true, 2, [[.int .i64 l1.B, .psl 1 (List.map sA.enc l1.Levels)]]⟩), (72, ⟨0, true, true, 4, [[.int .i64 vr13.1.Levels.B, .psl 1 (List.map sA.enc vr13.1.Levels.Levels), .psl 11 (List.map yA.enc vr13.1.Jobs), .int .i64 vr13.1.NextId]]⟩), (136, ⟨0, true, true, 4, [[.int .i64 vr14.1.Levels.B, .psl 1 (List.map sA.enc vr14.1.Levels.Levels), .psl 11 (List.map yA.enc vr14.1.Jobs), .int .i64 vr14.1.NextId]]⟩), (464, ⟨0, true, true, 11, [[.int .i64 vr19.1.Level, .psl 1 (List.map (vA 4 aA.enc) vr19.1.Work.Merge.Runs), .psl 1 (List.map (gA .i64) vr19.1.Work.Merge.At), .psl 2 (List.map eA.enc vr19.1.Work.Merge.Tree.Keys), .psl 1 (List.map (gA .i64) vr19.1.Work.Merge.Tree.Lose), .int .i64 vr19.1.Work.Merge.Tree.Win, .bool vr19.1.Work.Shadow.Some, .str vr19.1.Work.Shadow.Last, .bool vr19.1.Work.Shadow.Bottom, .psl 4 (List.map aA.enc vr19.1.Work.Out), .int .i64 vr19.1.Work.Steps]]⟩), (536, ⟨0, true, true, 11, [[.int .i64 vr20.1.Level, .psl 1 (List.map (vA 4 aA.enc) vr20.1.Work.Merge.Runs), .psl 1 (List.map (gA .i64) vr20.1.Work.Merge.At), .psl 2 (List.map eA.enc vr20.1.Work.Merge.Tree.Keys), .psl 1 (List.map (gA .i64) vr20.1.Work.Merge.Tree.Lose), .int .i64 vr20.1.Work.Merge.Tree.Win, .bool vr20.1.Work.Shadow.Some, .str vr20.1.Work.Shadow.Last, .bool vr20.1.Work.Shadow.Bottom, .psl 4 (List.map aA.enc vr20.1.Work.Out), .int .i64 vr20.1.Work.Steps]]⟩)]) [0, 72, 136, 464, 536] 656 [6] (fun | 2 => some (.bool vr21, []) | 9 => (lL fu).bind fun vr23 => some (.bool vr23, []) | _ => none) rfl (fun Kt hK => by
      cases vr21 with
      | false =>
       replace hb22 := wA hb22 rfl
       have hqb22 := Option.some.inj hb22
       cases b22 with
       | false =>
        replace hb24 := wA hb24 rfl
        have hqb24 := Option.some.inj hb24
        subst hqb24
        try have q0 := lV hvr21
        try have q1 := wX hvr23
        exact rT
       | true =>
        cases hqb22
      | true =>
       replace hb22 := jB hb22 rfl
       have hqb22 := Option.some.inj hb22
       cases b22 with
       | false =>
        replace hb24 := wA hb24 rfl
        have hqb24 := Option.some.inj hb24
        subst hqb24
        simp (maxSteps := 1000000) only [↓reduceIte, reduceCtorEq, Nat.reduceEqDiff, Nat.reduceLT, Nat.reduceLeDiff, Nat.reduceAdd, Nat.reduceMul, Int.reduceToNat, push_cast, ↓hqb22]
        try simp only [↓hqb22] at hK
        try have q0 := lV hvr21
        try have q1 := wX hvr23
        all_goals exact rU
       | true =>
        replace hb24 := jB hb24 rfl
        obtain ⟨vr23, hvr23, hb24⟩ := cA hb24
        have hqb24 := Option.some.inj hb24
        subst hqb24
        simp (maxSteps := 1000000) only [↓reduceIte, reduceCtorEq, Nat.reduceEqDiff, Nat.reduceLT, Nat.reduceLeDiff, Nat.reduceAdd, Nat.reduceMul, Int.reduceToNat, push_cast, ↓hqb22, hvr23]
        try simp only [↓hqb22] at hK
        try have q0 := lV hvr21
        try have q1 := wX hvr23
        all_goals exact rU) ?_
    refine jA ?_
    obtain rfl := Option.some.inj h0
    refine lA [] ?_
    exact rG
end Go.T
end
section
namespace Go.Proofs.YtnlggkiekcpahaaGreat
open Go.T
theorem jobsMakes : Rows.JobsMakesSaid :=
  zkC (fun x0 x1 x2 w0 w1 w2 => by
    obtain ⟨fu, h⟩ := (zhX x0 x1 x2).one
    exact ⟨_, zfd h⟩)
end Go.Proofs.YtnlggkiekcpahaaGreat
end
