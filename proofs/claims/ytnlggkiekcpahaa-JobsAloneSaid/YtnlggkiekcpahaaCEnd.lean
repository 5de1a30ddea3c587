/- Read changes nothing but its job, what was left is what Read uses and what is left then, and reading twice is reading the sum, of states that are not long and numbers up to 255; no other condition. -/
import Derived.Test.YtnlggkiekcpahaaCGt
import Derived.Test.YtnlggkiekcpahaaCLkJobsAlone
import Derived.Test.YtnlggkiekcpahaaC3
set_option linter.unusedSimpArgs false
set_option linter.unusedVariables false
section
namespace Go.T
open Go Go.AM Go.Proofs
set_option maxRecDepth 100000
set_option maxHeartbeats 4000000
set_option linter.unusedVariables false
theorem zb8 {fu : Nat} {a1 : pB} {b2 : pB} {r : Bool} (h0 : rQ fu a1 b2 = some r) : lB Try.prog 36 [.agg (pB.enc a1), .agg (pB.enc b2)] (.bool r) [] := by
 refine sB Try.func36 rfl (by decide) rL ?_
 dsimp only [Try.f36]
 rw [rQ] at h0
 refine (show pA _ _ _ _ ⟨kB 0 _, [], 0, []⟩ from ?_)
 refine xS 24 [2, 3] ?_
 obtain ⟨vr3, hvr3, h0⟩ := eA h0
 obtain ⟨b4, hb4, h0⟩ := eA h0
 obtain ⟨b6, hb6, h0⟩ := eA h0
 obtain ⟨b7, hb7, h0⟩ := eA h0
 refine dD (fr' := [(4, .bool b7)]) (hp' := [(0, ⟨0, true, true, 10, [[.psl 1 (List.map (wA 4 aA.enc) a1.Merge.Runs), .psl 1 (List.map (iA .i64) a1.Merge.At), .psl 2 (List.map cA.enc a1.Merge.Tree.Keys), .psl 1 (List.map (iA .i64) a1.Merge.Tree.Lose), .int .i64 a1.Merge.Tree.Win, .bool a1.Shadow.Some, .str a1.Shadow.Last, .bool a1.Shadow.Bottom, .psl 4 (List.map aA.enc a1.Out), .int .i64 a1.Steps]]⟩), (8, ⟨0, true, true, 10, [[.psl 1 (List.map (wA 4 aA.enc) b2.Merge.Runs), .psl 1 (List.map (iA .i64) b2.Merge.At), .psl 2 (List.map cA.enc b2.Merge.Tree.Keys), .psl 1 (List.map (iA .i64) b2.Merge.Tree.Lose), .int .i64 b2.Merge.Tree.Win, .bool b2.Shadow.Some, .str b2.Shadow.Last, .bool b2.Shadow.Bottom, .psl 4 (List.map aA.enc b2.Out), .int .i64 b2.Steps]]⟩)]) [0, 8] 240 [4] (fun | 4 => some (.bool vr3, []) | 17 => (rO fu a1.Out b2.Out).bind fun vr5 => some (.bool vr5, []) | _ => none) rfl (fun Kt hK => by
   cases vr3 with
   | false =>
    replace hb4 := vA hb4 rfl
    have hqb4 := Option.some.inj hb4
    cases b4 with
    | false =>
     replace hb6 := vA hb6 rfl
     have hqb6 := Option.some.inj hb6
     cases b6 with
     | false =>
      replace hb7 := vA hb7 rfl
      have hqb7 := Option.some.inj hb7
      subst hqb7
      try have q0 := gX hvr3
      try have q1 := rW hvr5
      exact rT
     | true =>
      cases hqb6
    | true =>
     cases hqb4
   | true =>
    replace hb4 := iB hb4 rfl
    have hqb4 := Option.some.inj hb4
    cases b4 with
    | false =>
     replace hb6 := vA hb6 rfl
     have hqb6 := Option.some.inj hb6
     cases b6 with
     | false =>
      replace hb7 := vA hb7 rfl
      have hqb7 := Option.some.inj hb7
      subst hqb7
      simp (maxSteps := 1000000) only [↓reduceIte, reduceCtorEq, Nat.reduceEqDiff, Nat.reduceLT, Nat.reduceLeDiff, Nat.reduceAdd, Nat.reduceMul, Int.reduceToNat, push_cast, ↓hqb4]
      try simp only [↓hqb4] at hK
      try have q0 := gX hvr3
      try have q1 := rW hvr5
      all_goals exact rU
     | true =>
      cases hqb6
    | true =>
     replace hb6 := iB hb6 rfl
     obtain ⟨vr5, hvr5, hb6⟩ := eA hb6
     have hqb6 := Option.some.inj hb6
     cases b6 with
     | false =>
      subst hqb6
      replace hb7 := vA hb7 rfl
      have hqb7 := Option.some.inj hb7
      subst hqb7
      simp (maxSteps := 1000000) only [↓reduceIte, reduceCtorEq, Nat.reduceEqDiff, Nat.reduceLT, Nat.reduceLeDiff, Nat.reduceAdd, Nat.reduceMul, Int.reduceToNat, push_cast, ↓hqb4, hvr5]
      try simp only [↓hqb4] at hK
      try have q0 := gX hvr3
      try have q1 := rW hvr5
      all_goals exact rU
     | true =>
      subst hqb6
      replace hb7 := iB hb7 rfl
      have hqb7 := Option.some.inj hb7
      subst hqb7
      simp (maxSteps := 1000000) only [↓reduceIte, reduceCtorEq, Nat.reduceEqDiff, Nat.reduceLT, Nat.reduceLeDiff, Nat.reduceAdd, Nat.reduceMul, Int.reduceToNat, push_cast, ↓hqb4, hvr5]
      try simp only [↓hqb4] at hK
      try have q0 := gX hvr3
      try have q1 := rW hvr5
      all_goals exact rU) ?_
 refine jA ?_
 obtain rfl := Option.some.inj h0
 refine nA [] ?_
 exact rG
theorem zaE {fu : Nat} {a1 : xA} {b2 : xA} {r : Bool} (h0 : zQ fu a1 b2 = some r) : lB Try.prog 16 [.agg (xA.enc a1), .agg (xA.enc b2)] (.bool r) [] := by
 refine sB Try.func16 rfl (by decide) rL ?_
 dsimp only [Try.f16]
 rw [zQ] at h0
 refine (show pA _ _ _ _ ⟨kB 0 _, [], 0, []⟩ from ?_)
 refine xS 24 [2, 3] ?_
 obtain ⟨b4, hb4, h0⟩ := eA h0
 refine dD (fr' := [(4, .bool b4)]) (hp' := [(0, ⟨0, true, true, 11, [[.int .i64 a1.Level, .psl 1 (List.map (wA 4 aA.enc) a1.Work.Merge.Runs), .psl 1 (List.map (iA .i64) a1.Work.Merge.At), .psl 2 (List.map cA.enc a1.Work.Merge.Tree.Keys), .psl 1 (List.map (iA .i64) a1.Work.Merge.Tree.Lose), .int .i64 a1.Work.Merge.Tree.Win, .bool a1.Work.Shadow.Some, .str a1.Work.Shadow.Last, .bool a1.Work.Shadow.Bottom, .psl 4 (List.map aA.enc a1.Work.Out), .int .i64 a1.Work.Steps]]⟩), (8, ⟨0, true, true, 11, [[.int .i64 b2.Level, .psl 1 (List.map (wA 4 aA.enc) b2.Work.Merge.Runs), .psl 1 (List.map (iA .i64) b2.Work.Merge.At), .psl 2 (List.map cA.enc b2.Work.Merge.Tree.Keys), .psl 1 (List.map (iA .i64) b2.Work.Merge.Tree.Lose), .int .i64 b2.Work.Merge.Tree.Win, .bool b2.Work.Shadow.Some, .str b2.Work.Shadow.Last, .bool b2.Work.Shadow.Bottom, .psl 4 (List.map aA.enc b2.Work.Out), .int .i64 b2.Work.Steps]]⟩)]) [0, 8] 128 [4] (fun | 10 => (rQ fu a1.Work b2.Work).bind fun vr3 => some (.bool vr3, []) | _ => none) rfl (fun Kt hK => by
   cases hg5 : (decide (a1.Level = b2.Level)) with
   | false =>
    replace hb4 := vA hb4 hg5
    have hqb4 := Option.some.inj hb4
    subst hqb4
    simp (maxSteps := 1000000) only [↓reduceIte, reduceCtorEq, Nat.reduceEqDiff, Nat.reduceLT, Nat.reduceLeDiff, Nat.reduceAdd, Nat.reduceMul, Int.reduceToNat, push_cast, ↓hg5]
    try simp only [↓hg5] at hK
    try have q0 := zb8 hvr3
    all_goals exact rU
   | true =>
    replace hb4 := iB hb4 hg5
    obtain ⟨vr3, hvr3, hb4⟩ := eA hb4
    have hqb4 := Option.some.inj hb4
    subst hqb4
    simp (maxSteps := 1000000) only [↓reduceIte, reduceCtorEq, Nat.reduceEqDiff, Nat.reduceLT, Nat.reduceLeDiff, Nat.reduceAdd, Nat.reduceMul, Int.reduceToNat, push_cast, ↓hg5, hvr3]
    try simp only [↓hg5] at hK
    try have q0 := zb8 hvr3
    all_goals exact rU) ?_
 refine jA ?_
 obtain rfl := Option.some.inj h0
 refine nA [] ?_
 exact rG
theorem zd4 {fu : Nat} {a1 : List aA} {b2 : List aA} {r : Bool} (h0 : yT fu a1 b2 = some r) : lB Try.prog 14 [.psl 4 (a1.map aA.enc), .psl 4 (b2.map aA.enc)] (.bool r) [] := by
 refine sB Try.func14 rfl (by decide) rL ?_
 dsimp only [Try.f14]
 rw [yT] at h0
 refine (show pA _ _ _ _ ⟨kB 0 _, [], 0, []⟩ from ?_)
 refine xS 8 [0, 1] ?_
 refine kA ?_
 refine xS 16 [0, 1, 5] ?_
 obtain ⟨x16, hxx16, h0⟩ := eA h0
 refine lD (fun s' => ∃ o24 : Unit, x16 = .inl o24 ∧ s'.nx ≤ 96 ∧ LeN [] s' ⟨[(0, .psl 4 (List.map aA.enc a1)), (1, .psl 4 (List.map aA.enc b2))], [], 96, []⟩) ?_ ?_
 ·
  intro s' hs
  obtain ⟨o24, rfl, hn, hs⟩ := hs
  refine gA ?_
  refine zB [] hn hs ?_
  refine xS 144 [4] ?_
  refine jA ?_
  obtain rfl := Option.some.inj h0
  refine nA [] ?_
  exact rG
 ·
  refine kD (ι := { p : Nat × Int // uL a1 b2 p.1 p.2 = some x16 }) (fun p => ⟨[(0, .psl 4 (List.map aA.enc a1)), (1, .psl 4 (List.map aA.enc b2)), (5, .int .i64 p.1.2)], [], 16, []⟩) (fun p => p.1.1) ⟨(fu, 0), hxx16⟩ ⟨rF, rE, rfl, rfl, trivial, trivial⟩ (fun _ => Nat.le_refl _) ?_
  rintro ⟨⟨fu, i17⟩, h1⟩
  cases fu with
  | zero =>
   replace h1 : uL a1 b2 0 i17 = some x16 := h1
   rw [uL] at h1; cases h1
  | succ fu =>
   replace h1 : uL a1 b2 (fu + 1) i17 = some x16 := h1
   rw [uL] at h1
   refine (show pA _ _ _ _ ⟨[(0, .psl 4 (List.map aA.enc a1)), (1, .psl 4 (List.map aA.enc b2)), (5, .int .i64 i17)], [], 16, []⟩ from ?_)
   refine kA ?_
   obtain ⟨b18, hb18, h1⟩ := eA h1
   refine dD (fr' := [(0, .psl 4 (List.map aA.enc a1)), (1, .psl 4 (List.map aA.enc b2)), (5, .int .i64 i17), (15, .bool b18)]) (hp' := []) [] 96 [0, 1, 5, 15] (fun _ => none) rfl (fun Kt hK => by
     cases hg19 : (decide (i17 < (a1.length : Int))) with
     | false =>
      replace hb18 := vA hb18 hg19
      have hqb18 := Option.some.inj hb18
      subst hqb18
      simp (maxSteps := 1000000) only [↓reduceIte, reduceCtorEq, Nat.reduceEqDiff, Nat.reduceLT, Nat.reduceLeDiff, Nat.reduceAdd, Nat.reduceMul, Int.reduceToNat, push_cast, ↓hg19]
      try simp only [↓hg19] at hK
      all_goals exact rU
     | true =>
      replace hb18 := iB hb18 hg19
      have hqb18 := Option.some.inj hb18
      subst hqb18
      simp (maxSteps := 1000000) only [↓reduceIte, reduceCtorEq, Nat.reduceEqDiff, Nat.reduceLT, Nat.reduceLeDiff, Nat.reduceAdd, Nat.reduceMul, Int.reduceToNat, push_cast, ↓hg19]
      try simp only [↓hg19] at hK
      all_goals exact rU) ?_
   refine xI h1 rfl (fun h1 hb20 => ?_) (fun h1 hb20 => ?_)
   ·
    refine qA (gA (kA (jC ?_)))
    obtain ⟨e21, he21, h1⟩ := eA h1
    obtain ⟨he21a, he21b, he21c⟩ := fB he21
    obtain ⟨e22, he22, h1⟩ := eA h1
    obtain ⟨he22a, he22b, he22c⟩ := fB he22
    refine jD 168 [0, 1, 5, 26] (fun _ => none) rfl rfl rfl (fun _ _ => uE (rA he21a (rA he21b (rA he21c (rA he22a (rA he22b he22c)))))) ?_
    refine xI h1 rfl (fun h1 hb23 => ?_) (fun h1 hb23 => ?_)
    ·
     refine oA 176 [4] (fun _ => none) rfl (fun _ _ => rS (rA he21a (rA he21b (rA he21c (rA he22a (rA he22b he22c)))))) ?_
     refine jA ?_
     obtain rfl := Option.some.inj h1
     refine kC (mA (mA (uD (mA ?_))))
     obtain rfl := Option.some.inj h0
     refine nA [] ?_
     simp (maxSteps := 1000000) only [↓reduceIte, reduceCtorEq, Nat.reduceEqDiff, Nat.reduceLT, Nat.reduceLeDiff, Nat.reduceAdd, Nat.reduceMul, Int.reduceToNat, push_cast, lC, he21a, he21b, he21c, he22a, he22b, he22c]
     all_goals exact rH
    ·
     refine qA (cC (gA ?_))
     refine iC 192 [0, 1, 5] (fun _ => none) rfl (fun _ _ => rS (rA he21a (rA he21b (rA he21c (rA he22a (rA he22b he22c)))))) ?_
     refine gA ?_
     exact ⟨⟨(fu, (IntKind.i64.wrap (i17 + 1))), h1⟩, ⟨rF, rE, rfl, rfl, trivial, trivial⟩, Nat.lt_succ_self _⟩
   ·
    refine vC (jB (jB (bD ?_)))
    obtain rfl := Option.some.inj h1
    exact ⟨_, rfl, rL, ⟨rF, rE, rfl, rfl, trivial, trivial⟩⟩
theorem zhx {fu : Nat} {a1 : eB} {b2 : eB} {r : Bool} (h0 : tY fu a1 b2 = some r) : lB Try.prog 73 [.agg (eB.enc a1), .agg (eB.enc b2)] (.bool r) [] := by
 refine sB Try.func73 rfl (by decide) rL ?_
 dsimp only [Try.f73]
 rw [tY] at h0
 refine (show pA _ _ _ _ ⟨kB 0 _, [], 0, []⟩ from ?_)
 refine xS 24 [2, 3] ?_
 obtain ⟨b4, hb4, h0⟩ := eA h0
 refine dD (fr' := [(4, .bool b4)]) (hp' := [(0, ⟨0, true, true, 2, [[.int .i64 a1.Id, .psl 4 (List.map aA.enc a1.Entries)]]⟩), (8, ⟨0, true, true, 2, [[.int .i64 b2.Id, .psl 4 (List.map aA.enc b2.Entries)]]⟩)]) [0, 8] 128 [4] (fun | 10 => (yT fu a1.Entries b2.Entries).bind fun vr3 => some (.bool vr3, []) | _ => none) rfl (fun Kt hK => by
   cases hg5 : (decide (a1.Id = b2.Id)) with
   | false =>
    replace hb4 := vA hb4 hg5
    have hqb4 := Option.some.inj hb4
    subst hqb4
    simp (maxSteps := 1000000) only [↓reduceIte, reduceCtorEq, Nat.reduceEqDiff, Nat.reduceLT, Nat.reduceLeDiff, Nat.reduceAdd, Nat.reduceMul, Int.reduceToNat, push_cast, ↓hg5]
    try simp only [↓hg5] at hK
    try have q0 := zd4 hvr3
    all_goals exact rU
   | true =>
    replace hb4 := iB hb4 hg5
    obtain ⟨vr3, hvr3, hb4⟩ := eA hb4
    have hqb4 := Option.some.inj hb4
    subst hqb4
    simp (maxSteps := 1000000) only [↓reduceIte, reduceCtorEq, Nat.reduceEqDiff, Nat.reduceLT, Nat.reduceLeDiff, Nat.reduceAdd, Nat.reduceMul, Int.reduceToNat, push_cast, ↓hg5, hvr3]
    try simp only [↓hg5] at hK
    try have q0 := zd4 hvr3
    all_goals exact rU) ?_
 refine jA ?_
 obtain rfl := Option.some.inj h0
 refine nA [] ?_
 exact rG
theorem zfi {fu : Nat} {a1 : List eB} {b2 : List eB} {r : Bool} (h0 : dW fu a1 b2 = some r) : lB Try.prog 55 [.psl 2 (a1.map eB.enc), .psl 2 (b2.map eB.enc)] (.bool r) [] := by
 refine sB Try.func55 rfl (by decide) rL ?_
 dsimp only [Try.f55]
 rw [dW] at h0
 refine (show pA _ _ _ _ ⟨kB 0 _, [], 0, []⟩ from ?_)
 refine xS 8 [0, 1] ?_
 refine kA ?_
 refine xS 48 [0, 1, 10] ?_
 refine xI h0 rfl (fun h0 hb3 => ?_) (fun h0 hb3 => ?_)
 ·
  refine xS 56 [4] ?_
  refine jA (mA ?_)
  obtain rfl := Option.some.inj h0
  refine nA [] ?_
  exact rG
 ·
  refine qA (gA (kA ?_))
  refine xS 56 [0, 1, 5] ?_
  obtain ⟨x15, hxx15, h0⟩ := eA h0
  refine lD (fun s' => ∃ o22 : Unit, x15 = .inl o22 ∧ s'.nx ≤ 88 ∧ LeN [] s' ⟨[], [], 88, []⟩) ?_ ?_
  ·
   intro s' hs
   obtain ⟨o22, rfl, hn, hs⟩ := hs
   refine gA ?_
   refine zB [] hn hs ?_
   refine xS 96 [4] ?_
   refine jA ?_
   obtain rfl := Option.some.inj h0
   refine nA [] ?_
   exact rG
  ·
   refine kD (ι := { p : Nat × Int // vM a1 b2 p.1 p.2 = some x15 }) (fun p => ⟨[(0, .psl 2 (List.map eB.enc a1)), (1, .psl 2 (List.map eB.enc b2)), (5, .int .i64 p.1.2)], [], 56, []⟩) (fun p => p.1.1) ⟨(fu, 0), hxx15⟩ ⟨rF, rE, rfl, rfl, trivial, trivial⟩ (fun _ => Nat.le_refl _) ?_
   rintro ⟨⟨fu, i16⟩, h1⟩
   cases fu with
   | zero =>
   replace h1 : vM a1 b2 0 i16 = some x15 := h1
   rw [vM] at h1; cases h1
   | succ fu =>
    replace h1 : vM a1 b2 (fu + 1) i16 = some x15 := h1
    rw [vM] at h1
    refine (show pA _ _ _ _ ⟨[(0, .psl 2 (List.map eB.enc a1)), (1, .psl 2 (List.map eB.enc b2)), (5, .int .i64 i16)], [], 56, []⟩ from ?_)
    refine kA ?_
    refine xS 88 [0, 1, 5, 14] ?_
    refine xI h1 rfl (fun h1 hb17 => ?_) (fun h1 hb17 => ?_)
    ·
     refine qA (gA (kA (jC ?_)))
     obtain ⟨e18, he18, h1⟩ := eA h1
     obtain ⟨he18a, he18b, he18c⟩ := fB he18
     obtain ⟨e19, he19, h1⟩ := eA h1
     obtain ⟨he19a, he19b, he19c⟩ := fB he19
     obtain ⟨vr20, hvr20, h1⟩ := eA h1
     refine jD 168 [0, 1, 5, 26] (fun | 8 => some (.bool vr20, []) | _ => none) rfl rfl rfl (fun _ _ => cQ (rA he18a (rA he18b (rA he18c (rA he19a (rA he19b he19c))))) (zhx hvr20)) ?_
     refine xI h1 rfl (fun h1 hb21 => ?_) (fun h1 hb21 => ?_)
     ·
      refine oA 176 [4] (fun _ => none) rfl (fun _ _ => rS (rA he18a (rA he18b (rA he18c (rA he19a (rA he19b he19c)))))) ?_
      refine jA ?_
      obtain rfl := Option.some.inj h1
      refine kC (mA (mA (uD (mA ?_))))
      obtain rfl := Option.some.inj h0
      refine nA [] ?_
      simp (maxSteps := 1000000) only [↓reduceIte, reduceCtorEq, Nat.reduceEqDiff, Nat.reduceLT, Nat.reduceLeDiff, Nat.reduceAdd, Nat.reduceMul, Int.reduceToNat, push_cast, lC, he18a, he18b, he18c, he19a, he19b, he19c]
      all_goals exact rH
     ·
      refine qA (cC (gA ?_))
      refine iC 192 [0, 1, 5] (fun _ => none) rfl (fun _ _ => rS (rA he18a (rA he18b (rA he18c (rA he19a (rA he19b he19c)))))) ?_
      refine gA ?_
      exact ⟨⟨(fu, (IntKind.i64.wrap (i16 + 1))), h1⟩, ⟨rF, rE, rfl, rfl, trivial, trivial⟩, Nat.lt_succ_self _⟩
    ·
     refine vC (jB (jB (bD ?_)))
     obtain rfl := Option.some.inj h1
     exact ⟨_, rfl, rL, ⟨rF, rE, rfl, rfl, trivial, trivial⟩⟩
theorem zbH {fu : Nat} {a1 : dB} {b2 : dB} {r : Bool} (h0 : fW fu a1 b2 = some r) : lB Try.prog 37 [.agg (dB.enc a1), .agg (dB.enc b2)] (.bool r) [] := by
 refine sB Try.func37 rfl (by decide) rL ?_
 dsimp only [Try.f37]
 rw [fW] at h0
 refine (show pA _ _ _ _ ⟨kB 0 _, [], 0, []⟩ from ?_)
 refine xS 24 [2, 3] ?_
 refine kA ?_
 obtain ⟨b3, hb3, h0⟩ := eA h0
 refine dD (fr' := [(2, .ref 0 0 0 0), (3, .ref 8 0 0 0), (19, .bool b3)]) (hp' := [(0, ⟨0, true, true, 2, [[.int .i64 a1.B, .psl 1 (List.map sA.enc a1.Levels)]]⟩), (8, ⟨0, true, true, 2, [[.int .i64 b2.B, .psl 1 (List.map sA.enc b2.Levels)]]⟩)]) [0, 8] 136 [2, 3, 19] (fun _ => none) rfl (fun Kt hK => by
   cases hg4 : (!(decide (a1.B = b2.B))) with
   | false =>
    replace hb3 := vA hb3 hg4
    have hqb3 := Option.some.inj hb3
    subst hqb3
    simp (maxSteps := 1000000) only [↓reduceIte, reduceCtorEq, Nat.reduceEqDiff, Nat.reduceLT, Nat.reduceLeDiff, Nat.reduceAdd, Nat.reduceMul, Int.reduceToNat, push_cast, ↓hg4]
    try simp only [↓hg4] at hK
    all_goals exact rU
   | true =>
    replace hb3 := iB hb3 hg4
    have hqb3 := Option.some.inj hb3
    subst hqb3
    simp (maxSteps := 1000000) only [↓reduceIte, reduceCtorEq, Nat.reduceEqDiff, Nat.reduceLT, Nat.reduceLeDiff, Nat.reduceAdd, Nat.reduceMul, Int.reduceToNat, push_cast, ↓hg4]
    try simp only [↓hg4] at hK
    all_goals exact rU) ?_
 refine xI h0 rfl (fun h0 hb5 => ?_) (fun h0 hb5 => ?_)
 ·
  refine xS 144 [4] ?_
  refine jA (mA ?_)
  obtain rfl := Option.some.inj h0
  refine nA [] ?_
  exact rG
 ·
  refine qA (gA (kA ?_))
  refine xS 144 [2, 3, 5] ?_
  obtain ⟨x17, hxx17, h0⟩ := eA h0
  refine lD (fun s' => ∃ o24 : Unit, x17 = .inl o24 ∧ s'.nx ≤ 184 ∧ LeN [] s' ⟨[], [(0, ⟨0, true, true, 2, [[.int .i64 a1.B, .psl 1 (List.map sA.enc a1.Levels)]]⟩), (8, ⟨0, true, true, 2, [[.int .i64 b2.B, .psl 1 (List.map sA.enc b2.Levels)]]⟩)], 184, []⟩) ?_ ?_
  ·
   intro s' hs
   obtain ⟨o24, rfl, hn, hs⟩ := hs
   refine gA ?_
   refine zB [] hn hs ?_
   refine xS 192 [4] ?_
   refine jA ?_
   obtain rfl := Option.some.inj h0
   refine nA [] ?_
   exact rG
  ·
   refine kD (ι := { p : Nat × Int // uM a1 b2 p.1 p.2 = some x17 }) (fun p => ⟨[(2, .ref 0 0 0 0), (3, .ref 8 0 0 0), (5, .int .i64 p.1.2)], [(0, ⟨0, true, true, 2, [[.int .i64 a1.B, .psl 1 (List.map sA.enc a1.Levels)]]⟩), (8, ⟨0, true, true, 2, [[.int .i64 b2.B, .psl 1 (List.map sA.enc b2.Levels)]]⟩)], 144, []⟩) (fun p => p.1.1) ⟨(fu, 0), hxx17⟩ ⟨rF, rE, rfl, rfl, trivial, trivial⟩ (fun _ => Nat.le_refl _) ?_
   rintro ⟨⟨fu, i18⟩, h1⟩
   cases fu with
   | zero =>
   replace h1 : uM a1 b2 0 i18 = some x17 := h1
   rw [uM] at h1; cases h1
   | succ fu =>
    replace h1 : uM a1 b2 (fu + 1) i18 = some x17 := h1
    rw [uM] at h1
    refine (show pA _ _ _ _ ⟨[(2, .ref 0 0 0 0), (3, .ref 8 0 0 0), (5, .int .i64 i18)], [(0, ⟨0, true, true, 2, [[.int .i64 a1.B, .psl 1 (List.map sA.enc a1.Levels)]]⟩), (8, ⟨0, true, true, 2, [[.int .i64 b2.B, .psl 1 (List.map sA.enc b2.Levels)]]⟩)], 144, []⟩ from ?_)
    refine kA ?_
    refine xS 184 [2, 3, 5, 24] ?_
    refine xI h1 rfl (fun h1 hb19 => ?_) (fun h1 hb19 => ?_)
    ·
     refine qA (gA (kA (jC ?_)))
     obtain ⟨e20, he20, h1⟩ := eA h1
     obtain ⟨he20a, he20b, he20c⟩ := fB he20
     obtain ⟨e21, he21, h1⟩ := eA h1
     obtain ⟨he21a, he21b, he21c⟩ := fB he21
     obtain ⟨vr22, hvr22, h1⟩ := eA h1
     refine jD 296 [2, 3, 5, 40] (fun | 12 => some (.bool vr22, []) | _ => none) rfl rfl rfl (fun _ _ => cQ (rA he20a (rA he20b (rA he20c (rA he21a (rA he21b he21c))))) (zfi hvr22)) ?_
     refine xI h1 rfl (fun h1 hb23 => ?_) (fun h1 hb23 => ?_)
     ·
      refine oA 304 [4] (fun _ => none) rfl (fun _ _ => rS (rA he20a (rA he20b (rA he20c (rA he21a (rA he21b he21c)))))) ?_
      refine jA ?_
      obtain rfl := Option.some.inj h1
      refine kC (mA (mA (uD (mA ?_))))
      obtain rfl := Option.some.inj h0
      refine nA [] ?_
      simp (maxSteps := 1000000) only [↓reduceIte, reduceCtorEq, Nat.reduceEqDiff, Nat.reduceLT, Nat.reduceLeDiff, Nat.reduceAdd, Nat.reduceMul, Int.reduceToNat, push_cast, lC, he20a, he20b, he20c, he21a, he21b, he21c]
      all_goals exact rH
     ·
      refine qA (cC (gA ?_))
      refine iC 320 [2, 3, 5] (fun _ => none) rfl (fun _ _ => rS (rA he20a (rA he20b (rA he20c (rA he21a (rA he21b he21c)))))) ?_
      refine gA ?_
      exact ⟨⟨(fu, (IntKind.i64.wrap (i18 + 1))), h1⟩, ⟨rF, rE, rfl, rfl, trivial, trivial⟩, Nat.lt_succ_self _⟩
    ·
     refine vC (jB (jB (bD ?_)))
     obtain rfl := Option.some.inj h1
     exact ⟨_, rfl, rL, ⟨rF, rE, rfl, rfl, trivial, trivial⟩⟩
theorem eS {fu : Nat} {a1 : bB} {b2 : bB} {r : Bool} (h0 : jO fu a1 b2 = some r) : lB Try.prog 17 [.agg (bB.enc a1), .agg (bB.enc b2)] (.bool r) [] := by
 refine sB Try.func17 rfl (by decide) rL ?_
 dsimp only [Try.f17]
 rw [jO] at h0
 refine (show pA _ _ _ _ ⟨kB 0 _, [], 0, []⟩ from ?_)
 refine xS 24 [2, 3] ?_
 refine kA ?_
 obtain ⟨vr3, hvr3, h0⟩ := eA h0
 obtain ⟨b4, hb4, h0⟩ := eA h0
 obtain ⟨b5, hb5, h0⟩ := eA h0
 refine dD (fr' := [(2, .ref 0 0 0 0), (3, .ref 8 0 0 0), (27, .bool b5)]) (hp' := [(0, ⟨0, true, true, 4, [[.int .i64 a1.Levels.B, .psl 1 (List.map sA.enc a1.Levels.Levels), .psl 11 (List.map xA.enc a1.Jobs), .int .i64 a1.NextId]]⟩), (8, ⟨0, true, true, 4, [[.int .i64 b2.Levels.B, .psl 1 (List.map sA.enc b2.Levels.Levels), .psl 11 (List.map xA.enc b2.Jobs), .int .i64 b2.NextId]]⟩)]) [0, 8] 200 [2, 3, 27] (fun | 4 => some (.bool vr3, []) | _ => none) rfl (fun Kt hK => by
   cases hg6 : (!vr3) with
   | false =>
    replace hb4 := vA hb4 hg6
    have hqb4 := Option.some.inj hb4
    cases b4 with
    | false =>
     replace hb5 := vA hb5 rfl
     have hqb5 := Option.some.inj hb5
     subst hqb5
     simp (maxSteps := 1000000) only [↓reduceIte, reduceCtorEq, Nat.reduceEqDiff, Nat.reduceLT, Nat.reduceLeDiff, Nat.reduceAdd, Nat.reduceMul, Int.reduceToNat, push_cast, ↓hg6, ↓hqb4]
     try simp only [↓hg6, ↓hqb4] at hK
     try have q0 := zbH hvr3
     all_goals exact rU
    | true =>
     replace hb5 := iB hb5 rfl
     have hqb5 := Option.some.inj hb5
     subst hqb5
     simp (maxSteps := 1000000) only [↓reduceIte, reduceCtorEq, Nat.reduceEqDiff, Nat.reduceLT, Nat.reduceLeDiff, Nat.reduceAdd, Nat.reduceMul, Int.reduceToNat, push_cast, ↓hg6, ↓hqb4]
     try simp only [↓hg6, ↓hqb4] at hK
     try have q0 := zbH hvr3
     all_goals exact rU
   | true =>
    replace hb4 := iB hb4 hg6
    have hqb4 := Option.some.inj hb4
    cases b4 with
    | false =>
     cases hqb4
    | true =>
     replace hb5 := iB hb5 rfl
     have hqb5 := Option.some.inj hb5
     subst hqb5
     simp (maxSteps := 1000000) only [↓reduceIte, reduceCtorEq, Nat.reduceEqDiff, Nat.reduceLT, Nat.reduceLeDiff, Nat.reduceAdd, Nat.reduceMul, Int.reduceToNat, push_cast, ↓hg6]
     try simp only [↓hg6] at hK
     try have q0 := zbH hvr3
     all_goals exact rU) ?_
 refine xI h0 rfl (fun h0 hb9 => ?_) (fun h0 hb9 => ?_)
 ·
  refine xS 208 [4] ?_
  refine jA (mA ?_)
  obtain rfl := Option.some.inj h0
  refine nA [] ?_
  exact rG
 ·
  refine qA (gA (kA ?_))
  refine xS 208 [2, 3, 5] ?_
  obtain ⟨x21, hxx21, h0⟩ := eA h0
  refine lD (fun s' => ∃ o28 : Unit, x21 = .inl o28 ∧ s'.nx ≤ 248 ∧ LeN [] s' ⟨[], [(0, ⟨0, true, true, 4, [[.int .i64 a1.Levels.B, .psl 1 (List.map sA.enc a1.Levels.Levels), .psl 11 (List.map xA.enc a1.Jobs), .int .i64 a1.NextId]]⟩), (8, ⟨0, true, true, 4, [[.int .i64 b2.Levels.B, .psl 1 (List.map sA.enc b2.Levels.Levels), .psl 11 (List.map xA.enc b2.Jobs), .int .i64 b2.NextId]]⟩)], 248, []⟩) ?_ ?_
  ·
   intro s' hs
   obtain ⟨o28, rfl, hn, hs⟩ := hs
   refine gA ?_
   refine zB [] hn hs ?_
   refine xS 256 [4] ?_
   refine jA ?_
   obtain rfl := Option.some.inj h0
   refine nA [] ?_
   exact rG
  ·
   refine kD (ι := { p : Nat × Int // bN a1 b2 p.1 p.2 = some x21 }) (fun p => ⟨[(2, .ref 0 0 0 0), (3, .ref 8 0 0 0), (5, .int .i64 p.1.2)], [(0, ⟨0, true, true, 4, [[.int .i64 a1.Levels.B, .psl 1 (List.map sA.enc a1.Levels.Levels), .psl 11 (List.map xA.enc a1.Jobs), .int .i64 a1.NextId]]⟩), (8, ⟨0, true, true, 4, [[.int .i64 b2.Levels.B, .psl 1 (List.map sA.enc b2.Levels.Levels), .psl 11 (List.map xA.enc b2.Jobs), .int .i64 b2.NextId]]⟩)], 208, []⟩) (fun p => p.1.1) ⟨(fu, 0), hxx21⟩ ⟨rF, rE, rfl, rfl, trivial, trivial⟩ (fun _ => Nat.le_refl _) ?_
   rintro ⟨⟨fu, i22⟩, h1⟩
   cases fu with
   | zero =>
   replace h1 : bN a1 b2 0 i22 = some x21 := h1
   rw [bN] at h1; cases h1
   | succ fu =>
    replace h1 : bN a1 b2 (fu + 1) i22 = some x21 := h1
    rw [bN] at h1
    refine (show pA _ _ _ _ ⟨[(2, .ref 0 0 0 0), (3, .ref 8 0 0 0), (5, .int .i64 i22)], [(0, ⟨0, true, true, 4, [[.int .i64 a1.Levels.B, .psl 1 (List.map sA.enc a1.Levels.Levels), .psl 11 (List.map xA.enc a1.Jobs), .int .i64 a1.NextId]]⟩), (8, ⟨0, true, true, 4, [[.int .i64 b2.Levels.B, .psl 1 (List.map sA.enc b2.Levels.Levels), .psl 11 (List.map xA.enc b2.Jobs), .int .i64 b2.NextId]]⟩)], 208, []⟩ from ?_)
    refine kA ?_
    refine xS 248 [2, 3, 5, 32] ?_
    refine xI h1 rfl (fun h1 hb23 => ?_) (fun h1 hb23 => ?_)
    ·
     refine qA (gA (kA (jC ?_)))
     obtain ⟨e24, he24, h1⟩ := eA h1
     obtain ⟨he24a, he24b, he24c⟩ := fB he24
     obtain ⟨e25, he25, h1⟩ := eA h1
     obtain ⟨he25a, he25b, he25c⟩ := fB he25
     obtain ⟨vr26, hvr26, h1⟩ := eA h1
     refine jD 344 [2, 3, 5, 46] (fun | 10 => some (.bool vr26, []) | _ => none) rfl rfl rfl (fun _ _ => cQ (rA he24a (rA he24b (rA he24c (rA he25a (rA he25b he25c))))) (zaE hvr26)) ?_
     refine xI h1 rfl (fun h1 hb27 => ?_) (fun h1 hb27 => ?_)
     ·
      refine oA 352 [4] (fun _ => none) rfl (fun _ _ => rS (rA he24a (rA he24b (rA he24c (rA he25a (rA he25b he25c)))))) ?_
      refine jA ?_
      obtain rfl := Option.some.inj h1
      refine kC (mA (mA (uD (mA ?_))))
      obtain rfl := Option.some.inj h0
      refine nA [] ?_
      simp (maxSteps := 1000000) only [↓reduceIte, reduceCtorEq, Nat.reduceEqDiff, Nat.reduceLT, Nat.reduceLeDiff, Nat.reduceAdd, Nat.reduceMul, Int.reduceToNat, push_cast, lC, he24a, he24b, he24c, he25a, he25b, he25c]
      all_goals exact rH
     ·
      refine qA (cC (gA ?_))
      refine iC 368 [2, 3, 5] (fun _ => none) rfl (fun _ _ => rS (rA he24a (rA he24b (rA he24c (rA he25a (rA he25b he25c)))))) ?_
      refine gA ?_
      exact ⟨⟨(fu, (IntKind.i64.wrap (i22 + 1))), h1⟩, ⟨rF, rE, rfl, rfl, trivial, trivial⟩, Nat.lt_succ_self _⟩
    ·
     refine vC (jB (jB (bD ?_)))
     obtain rfl := Option.some.inj h1
     exact ⟨_, rfl, rL, ⟨rF, rE, rfl, rfl, trivial, trivial⟩⟩
theorem zfz {fu : Nat} {vs1 : bB} {level2 : Int} {vby3 : fE} {r : Bool} (h0 : nY fu vs1 level2 vby3 = some r) : lB Try.prog 4 [.agg (bB.enc vs1), .int .i64 level2, .agg (fE.enc vby3)] (.bool r) [] := by
 refine sB Try.func4 rfl (by decide) rL ?_
 dsimp only [Try.f4]
 rw [nY] at h0
 refine (show pA _ _ _ _ ⟨kB 0 _, [], 0, []⟩ from ?_)
 refine xS 24 [1, 3, 5] ?_
 refine kA ?_
 obtain ⟨vr4, hvr4, h0⟩ := eA h0
 refine oA 40 [1, 3, 5, 20] (fun | 1 => some (.bool vr4, []) | _ => none) rfl (fun _ _ => rC (zjJ hvr4)) ?_
 refine xI h0 rfl (fun h0 hb5 => ?_) (fun h0 hb5 => ?_)
 ·
  obtain ⟨vr6, hvr6, h0⟩ := eA h0
  refine oA 56 [6] (fun | 0 => some (.bool vr6, []) | _ => none) rfl (fun _ _ => rC (uN hvr6)) ?_
  refine jA (mA ?_)
  obtain rfl := Option.some.inj h0
  refine nA [] ?_
  exact rG
 ·
  refine qA (gA ?_)
  obtain ⟨vr7, hvr7, h0⟩ := eA h0
  refine oA 104 [1, 3, 5, 7, 8] (fun | 2 => some (.tup [.int .i64 vr7.1, .int .i64 vr7.2], []) | _ => none) rfl (fun _ _ => rC (sY hvr7)) ?_
  refine kA ?_
  obtain ⟨b8, hb8, h0⟩ := eA h0
  refine dD (fr' := [(1, .int .i64 level2), (3, .ref 0 0 0 0), (5, .ref 8 0 0 0), (7, .int .i64 vr7.1), (33, .bool b8)]) (hp' := [(0, ⟨0, true, true, 4, [[.int .i64 vs1.Levels.B, .psl 1 (List.map sA.enc vs1.Levels.Levels), .psl 11 (List.map xA.enc vs1.Jobs), .int .i64 vs1.NextId]]⟩), (8, ⟨0, true, true, 2, [[.int .u8 vby3.e0, .int .u8 vby3.e1]]⟩)]) [0, 8] 152 [1, 3, 5, 7, 33] (fun _ => none) rfl (fun Kt hK => by
    cases hg9 : (!(decide (vr7.2 = 0))) with
    | false =>
     replace hb8 := vA hb8 hg9
     have hqb8 := Option.some.inj hb8
     subst hqb8
     simp (maxSteps := 1000000) only [↓reduceIte, reduceCtorEq, Nat.reduceEqDiff, Nat.reduceLT, Nat.reduceLeDiff, Nat.reduceAdd, Nat.reduceMul, Int.reduceToNat, push_cast, ↓hg9]
     try simp only [↓hg9] at hK
     all_goals exact rU
    | true =>
     replace hb8 := iB hb8 hg9
     have hqb8 := Option.some.inj hb8
     subst hqb8
     simp (maxSteps := 1000000) only [↓reduceIte, reduceCtorEq, Nat.reduceEqDiff, Nat.reduceLT, Nat.reduceLeDiff, Nat.reduceAdd, Nat.reduceMul, Int.reduceToNat, push_cast, ↓hg9]
     try simp only [↓hg9] at hK
     all_goals exact rU) ?_
  refine xI h0 rfl (fun h0 hb10 => ?_) (fun h0 hb10 => ?_)
  ·
   obtain ⟨vr11, hvr11, h0⟩ := eA h0
   refine oA 168 [6] (fun | 0 => some (.bool vr11, []) | _ => none) rfl (fun _ _ => rC (uN hvr11)) ?_
   refine jA (mA ?_)
   obtain rfl := Option.some.inj h0
   refine nA [] ?_
   exact rG
  ·
   refine qA (gA ?_)
   obtain ⟨vr12, hvr12, h0⟩ := eA h0
   refine oA 216 [1, 3, 5, 7, 9] (fun | 2 => some (.tup [.int .i64 vr12.1, .int .i64 vr12.2], []) | _ => none) rfl (fun _ _ => rC (zba hvr12)) ?_
   obtain ⟨vr13, hvr13, h0⟩ := eA h0
   refine oA 328 [1, 3, 5, 7, 8, 9, 11, 12] (fun | 5 => some (.tup [.agg (bB.enc vr13.1), .int .i64 vr13.2.1, .int .i64 vr13.2.2], []) | _ => none) rfl (fun _ _ => rC (iW hvr13)) ?_
   refine kA ?_
   obtain ⟨b14, hb14, h0⟩ := eA h0
   obtain ⟨b15, hb15, h0⟩ := eA h0
   refine dD (fr' := [(1, .int .i64 level2), (3, .ref 0 0 0 0), (5, .ref 8 0 0 0), (7, .int .i64 vr7.1), (9, .int .i64 vr12.1), (11, .ref 296 0 0 0), (12, .int .i64 vr13.2.1), (68, .bool b15)]) (hp' := [(0, ⟨0, true, true, 4, [[.int .i64 vs1.Levels.B, .psl 1 (List.map sA.enc vs1.Levels.Levels), .psl 11 (List.map xA.enc vs1.Jobs), .int .i64 vs1.NextId]]⟩), (8, ⟨0, true, true, 2, [[.int .u8 vby3.e0, .int .u8 vby3.e1]]⟩), (296, ⟨0, true, true, 4, [[.int .i64 vr13.1.Levels.B, .psl 1 (List.map sA.enc vr13.1.Levels.Levels), .psl 11 (List.map xA.enc vr13.1.Jobs), .int .i64 vr13.1.NextId]]⟩)]) [0, 8, 296] 472 [1, 3, 5, 7, 9, 11, 12, 68] (fun _ => none) rfl (fun Kt hK => by
     cases hg16 : (!(decide (vr13.2.2 = 0))) with
     | false =>
      replace hb14 := vA hb14 hg16
      have hqb14 := Option.some.inj hb14
      cases b14 with
      | false =>
       replace hb15 := vA hb15 rfl
       have hqb15 := Option.some.inj hb15
       subst hqb15
       simp (maxSteps := 1000000) only [↓reduceIte, reduceCtorEq, Nat.reduceEqDiff, Nat.reduceLT, Nat.reduceLeDiff, Nat.reduceAdd, Nat.reduceMul, Int.reduceToNat, push_cast, ↓hg16, ↓hqb14]
       try simp only [↓hg16, ↓hqb14] at hK
       all_goals exact rU
      | true =>
       replace hb15 := iB hb15 rfl
       have hqb15 := Option.some.inj hb15
       subst hqb15
       simp (maxSteps := 1000000) only [↓reduceIte, reduceCtorEq, Nat.reduceEqDiff, Nat.reduceLT, Nat.reduceLeDiff, Nat.reduceAdd, Nat.reduceMul, Int.reduceToNat, push_cast, ↓hg16, ↓hqb14]
       try simp only [↓hg16, ↓hqb14] at hK
       all_goals exact rU
     | true =>
      replace hb14 := iB hb14 hg16
      have hqb14 := Option.some.inj hb14
      cases b14 with
      | false =>
       cases hqb14
      | true =>
       replace hb15 := iB hb15 rfl
       have hqb15 := Option.some.inj hb15
       subst hqb15
       simp (maxSteps := 1000000) only [↓reduceIte, reduceCtorEq, Nat.reduceEqDiff, Nat.reduceLT, Nat.reduceLeDiff, Nat.reduceAdd, Nat.reduceMul, Int.reduceToNat, push_cast, ↓hg16]
       try simp only [↓hg16] at hK
       all_goals exact rU) ?_
   refine xI h0 rfl (fun h0 hb19 => ?_) (fun h0 hb19 => ?_)
   ·
    refine xS 480 [6] ?_
    refine jA (mA ?_)
    obtain rfl := Option.some.inj h0
    refine nA [] ?_
    exact rG
   ·
    refine qA (gA (kA ?_))
    refine xS 480 [1, 3, 5, 7, 9, 11, 12, 13] ?_
    obtain ⟨x35, hxx35, h0⟩ := eA h0
    refine lD (fun s' => ∃ o44 : Unit, x35 = .inl o44 ∧ s'.nx ≤ 520 ∧ LeN [] s' ⟨[(1, .int .i64 level2), (3, .ref 0 0 0 0), (5, .ref 8 0 0 0), (7, .int .i64 vr7.1), (11, .ref 296 0 0 0), (12, .int .i64 vr13.2.1)], [(0, ⟨0, true, true, 4, [[.int .i64 vs1.Levels.B, .psl 1 (List.map sA.enc vs1.Levels.Levels), .psl 11 (List.map xA.enc vs1.Jobs), .int .i64 vs1.NextId]]⟩), (8, ⟨0, true, true, 2, [[.int .u8 vby3.e0, .int .u8 vby3.e1]]⟩), (296, ⟨0, true, true, 4, [[.int .i64 vr13.1.Levels.B, .psl 1 (List.map sA.enc vr13.1.Levels.Levels), .psl 11 (List.map xA.enc vr13.1.Jobs), .int .i64 vr13.1.NextId]]⟩)], 520, []⟩) ?_ ?_
    ·
     intro s' hs
     obtain ⟨o44, rfl, hn, hs⟩ := hs
     refine gA ?_
     refine zB [] hn hs ?_
     obtain ⟨vr45, hvr45, h0⟩ := eA h0
     refine oA 584 [1, 3, 5, 7, 8, 11, 12, 14] (fun | 2 => some (.tup [.int .i64 vr45.1, .int .i64 vr45.2], []) | _ => none) rfl (fun _ _ => rC (sY hvr45)) ?_
     refine kA ?_
     obtain ⟨b46, hb46, h0⟩ := eA h0
     refine dD (fr' := [(1, .int .i64 level2), (3, .ref 0 0 0 0), (5, .ref 8 0 0 0), (7, .int .i64 vr7.1), (11, .ref 296 0 0 0), (12, .int .i64 vr13.2.1), (14, .int .i64 vr45.1), (107, .bool b46)]) (hp' := [(0, ⟨0, true, true, 4, [[.int .i64 vs1.Levels.B, .psl 1 (List.map sA.enc vs1.Levels.Levels), .psl 11 (List.map xA.enc vs1.Jobs), .int .i64 vs1.NextId]]⟩), (8, ⟨0, true, true, 2, [[.int .u8 vby3.e0, .int .u8 vby3.e1]]⟩), (296, ⟨0, true, true, 4, [[.int .i64 vr13.1.Levels.B, .psl 1 (List.map sA.enc vr13.1.Levels.Levels), .psl 11 (List.map xA.enc vr13.1.Jobs), .int .i64 vr13.1.NextId]]⟩)]) [0, 8, 296] 656 [1, 3, 5, 7, 11, 12, 14, 107] (fun _ => none) rfl (fun Kt hK => by
       cases hg47 : (!(decide (vr45.2 = 0))) with
       | false =>
        replace hb46 := vA hb46 hg47
        have hqb46 := Option.some.inj hb46
        subst hqb46
        simp (maxSteps := 1000000) only [↓reduceIte, reduceCtorEq, Nat.reduceEqDiff, Nat.reduceLT, Nat.reduceLeDiff, Nat.reduceAdd, Nat.reduceMul, Int.reduceToNat, push_cast, ↓hg47]
        try simp only [↓hg47] at hK
        all_goals exact rU
       | true =>
        replace hb46 := iB hb46 hg47
        have hqb46 := Option.some.inj hb46
        subst hqb46
        simp (maxSteps := 1000000) only [↓reduceIte, reduceCtorEq, Nat.reduceEqDiff, Nat.reduceLT, Nat.reduceLeDiff, Nat.reduceAdd, Nat.reduceMul, Int.reduceToNat, push_cast, ↓hg47]
        try simp only [↓hg47] at hK
        all_goals exact rU) ?_
     refine xI h0 rfl (fun h0 hb48 => ?_) (fun h0 hb48 => ?_)
     ·
      refine xS 664 [6] ?_
      refine jA (mA ?_)
      obtain rfl := Option.some.inj h0
      refine nA [] ?_
      exact rG
     ·
      refine qA (gA ?_)
      obtain ⟨vr49, hvr49, h0⟩ := eA h0
      refine oA 800 [1, 5, 7, 8, 11, 12, 14, 15, 16] (fun | 9 => some (.tup [.agg (bB.enc vr49.1), .int .i64 vr49.2.1, .int .i64 vr49.2.2], []) | _ => none) rfl (fun _ _ => rC (iW hvr49)) ?_
      refine kA ?_
      refine xS 816 [1, 5, 7, 11, 12, 14, 15, 16, 123] ?_
      refine xI h0 rfl (fun h0 hb50 => ?_) (fun h0 hb50 => ?_)
      ·
       refine xS 824 [6] ?_
       refine jA (mA ?_)
       obtain rfl := Option.some.inj h0
       refine nA [] ?_
       exact rG
      ·
       refine qA (gA (kA ?_))
       refine xS 832 [1, 5, 7, 11, 12, 15, 16, 125] ?_
       refine xI h0 rfl (fun h0 hb51 => ?_) (fun h0 hb51 => ?_)
       ·
        obtain ⟨b53, hb53, h0⟩ := eA h0
        obtain ⟨b55, hb55, h0⟩ := eA h0
        refine dD (fr' := [(6, .bool b55)]) (hp' := [(0, ⟨0, true, true, 4, [[.int .i64 vs1.Levels.B, .psl 1 (List.map sA.enc vs1.Levels.Levels), .psl 11 (List.map xA.enc vs1.Jobs), .int .i64 vs1.NextId]]⟩), (8, ⟨0, true, true, 2, [[.int .u8 vby3.e0, .int .u8 vby3.e1]]⟩), (296, ⟨0, true, true, 4, [[.int .i64 vr13.1.Levels.B, .psl 1 (List.map sA.enc vr13.1.Levels.Levels), .psl 11 (List.map xA.enc vr13.1.Jobs), .int .i64 vr13.1.NextId]]⟩), (768, ⟨0, true, true, 4, [[.int .i64 vr49.1.Levels.B, .psl 1 (List.map sA.enc vr49.1.Levels.Levels), .psl 11 (List.map xA.enc vr49.1.Jobs), .int .i64 vr49.1.NextId]]⟩)]) [0, 8, 296, 768] 928 [6] (fun | 6 => (jO fu vr49.1 vr13.1).bind fun vr52 => some (.bool vr52, []) | 9 => (tI fu).bind fun vr54 => some (.bool vr54, []) | _ => none) rfl (fun Kt hK => by
          cases hg56 : (decide (vr49.2.1 = vr7.1)) with
          | false =>
           replace hb53 := vA hb53 hg56
           have hqb53 := Option.some.inj hb53
           cases b53 with
           | false =>
            replace hb55 := vA hb55 rfl
            have hqb55 := Option.some.inj hb55
            subst hqb55
            simp (maxSteps := 1000000) only [↓reduceIte, reduceCtorEq, Nat.reduceEqDiff, Nat.reduceLT, Nat.reduceLeDiff, Nat.reduceAdd, Nat.reduceMul, Int.reduceToNat, push_cast, ↓hg56]
            try simp only [↓hg56] at hK
            try have q0 := eS hvr52
            try have q1 := uN hvr54
            all_goals exact rU
           | true =>
            cases hqb53
          | true =>
           replace hb53 := iB hb53 hg56
           obtain ⟨vr52, hvr52, hb53⟩ := eA hb53
           have hqb53 := Option.some.inj hb53
           cases b53 with
           | false =>
            subst hqb53
            replace hb55 := vA hb55 rfl
            have hqb55 := Option.some.inj hb55
            subst hqb55
            simp (maxSteps := 1000000) only [↓reduceIte, reduceCtorEq, Nat.reduceEqDiff, Nat.reduceLT, Nat.reduceLeDiff, Nat.reduceAdd, Nat.reduceMul, Int.reduceToNat, push_cast, ↓hg56, hvr52]
            try simp only [↓hg56] at hK
            try have q0 := eS hvr52
            try have q1 := uN hvr54
            all_goals exact rU
           | true =>
            subst hqb53
            replace hb55 := iB hb55 rfl
            obtain ⟨vr54, hvr54, hb55⟩ := eA hb55
            have hqb55 := Option.some.inj hb55
            subst hqb55
            simp (maxSteps := 1000000) only [↓reduceIte, reduceCtorEq, Nat.reduceEqDiff, Nat.reduceLT, Nat.reduceLeDiff, Nat.reduceAdd, Nat.reduceMul, Int.reduceToNat, push_cast, ↓hg56, hvr52, hvr54]
            try simp only [↓hg56] at hK
            try have q0 := eS hvr52
            try have q1 := uN hvr54
            all_goals exact rU) ?_
        refine jA (mA ?_)
        obtain rfl := Option.some.inj h0
        refine nA [] ?_
        exact rG
       ·
        refine qA (gA ?_)
        obtain ⟨vr59, hvr59, h0⟩ := eA h0
        refine oA 944 [8, 12, 15, 16, 17, 18] (fun | 5 => some (.tup [.agg (bB.enc vr59.1), .int .i64 vr59.2.1, .int .i64 vr59.2.2], []) | _ => none) rfl (fun _ _ => rC (iW hvr59)) ?_
        obtain ⟨b60, hb60, h0⟩ := eA h0
        obtain ⟨b62, hb62, h0⟩ := eA h0
        obtain ⟨b64, hb64, h0⟩ := eA h0
        refine dD (fr' := [(6, .bool b64)]) (hp' := [(0, ⟨0, true, true, 4, [[.int .i64 vs1.Levels.B, .psl 1 (List.map sA.enc vs1.Levels.Levels), .psl 11 (List.map xA.enc vs1.Jobs), .int .i64 vs1.NextId]]⟩), (8, ⟨0, true, true, 2, [[.int .u8 vby3.e0, .int .u8 vby3.e1]]⟩), (296, ⟨0, true, true, 4, [[.int .i64 vr13.1.Levels.B, .psl 1 (List.map sA.enc vr13.1.Levels.Levels), .psl 11 (List.map xA.enc vr13.1.Jobs), .int .i64 vr13.1.NextId]]⟩), (768, ⟨0, true, true, 4, [[.int .i64 vr49.1.Levels.B, .psl 1 (List.map sA.enc vr49.1.Levels.Levels), .psl 11 (List.map xA.enc vr49.1.Jobs), .int .i64 vr49.1.NextId]]⟩), (912, ⟨0, true, true, 4, [[.int .i64 vr59.1.Levels.B, .psl 1 (List.map sA.enc vr59.1.Levels.Levels), .psl 11 (List.map xA.enc vr59.1.Jobs), .int .i64 vr59.1.NextId]]⟩)]) [0, 8, 296, 768, 912] 1088 [6] (fun | 12 => (jO fu vr59.1 vr49.1).bind fun vr61 => some (.bool vr61, []) | 15 => (tI fu).bind fun vr63 => some (.bool vr63, []) | _ => none) rfl (fun Kt hK => by
          cases hg65 : (decide (vr59.2.2 = 0)) with
          | false =>
           replace hb60 := vA hb60 hg65
           have hqb60 := Option.some.inj hb60
           cases b60 with
           | false =>
            replace hb62 := vA hb62 rfl
            have hqb62 := Option.some.inj hb62
            cases b62 with
            | false =>
             replace hb64 := vA hb64 rfl
             have hqb64 := Option.some.inj hb64
             subst hqb64
             simp (maxSteps := 1000000) only [↓reduceIte, reduceCtorEq, Nat.reduceEqDiff, Nat.reduceLT, Nat.reduceLeDiff, Nat.reduceAdd, Nat.reduceMul, Int.reduceToNat, push_cast, ↓hg65]
             try simp only [↓hg65] at hK
             try have q0 := eS hvr61
             try have q1 := uN hvr63
             all_goals exact rU
            | true =>
             cases hqb62
           | true =>
            cases hqb60
          | true =>
           replace hb60 := iB hb60 hg65
           have hqb60 := Option.some.inj hb60
           cases b60 with
           | false =>
            replace hb62 := vA hb62 rfl
            have hqb62 := Option.some.inj hb62
            cases b62 with
            | false =>
             replace hb64 := vA hb64 rfl
             have hqb64 := Option.some.inj hb64
             subst hqb64
             simp (maxSteps := 1000000) only [↓reduceIte, reduceCtorEq, Nat.reduceEqDiff, Nat.reduceLT, Nat.reduceLeDiff, Nat.reduceAdd, Nat.reduceMul, Int.reduceToNat, push_cast, ↓hg65, ↓hqb60]
             try simp only [↓hg65, ↓hqb60] at hK
             try have q0 := eS hvr61
             try have q1 := uN hvr63
             all_goals exact rU
            | true =>
             cases hqb62
           | true =>
            replace hb62 := iB hb62 rfl
            obtain ⟨vr61, hvr61, hb62⟩ := eA hb62
            have hqb62 := Option.some.inj hb62
            cases b62 with
            | false =>
             subst hqb62
             replace hb64 := vA hb64 rfl
             have hqb64 := Option.some.inj hb64
             subst hqb64
             simp (maxSteps := 1000000) only [↓reduceIte, reduceCtorEq, Nat.reduceEqDiff, Nat.reduceLT, Nat.reduceLeDiff, Nat.reduceAdd, Nat.reduceMul, Int.reduceToNat, push_cast, ↓hg65, ↓hqb60, hvr61]
             try simp only [↓hg65, ↓hqb60] at hK
             try have q0 := eS hvr61
             try have q1 := uN hvr63
             all_goals exact rU
            | true =>
             subst hqb62
             replace hb64 := iB hb64 rfl
             obtain ⟨vr63, hvr63, hb64⟩ := eA hb64
             have hqb64 := Option.some.inj hb64
             subst hqb64
             simp (maxSteps := 1000000) only [↓reduceIte, reduceCtorEq, Nat.reduceEqDiff, Nat.reduceLT, Nat.reduceLeDiff, Nat.reduceAdd, Nat.reduceMul, Int.reduceToNat, push_cast, ↓hg65, ↓hqb60, hvr61, hvr63]
             try simp only [↓hg65, ↓hqb60] at hK
             try have q0 := eS hvr61
             try have q1 := uN hvr63
             all_goals exact rU) ?_
        refine jA ?_
        obtain rfl := Option.some.inj h0
        refine nA [] ?_
        exact rG
    ·
     refine kD (ι := { p : Nat × Int // gM vs1 vr12 vr13 p.1 p.2 = some x35 }) (fun p => ⟨[(1, .int .i64 level2), (3, .ref 0 0 0 0), (5, .ref 8 0 0 0), (7, .int .i64 vr7.1), (9, .int .i64 vr12.1), (11, .ref 296 0 0 0), (12, .int .i64 vr13.2.1), (13, .int .i64 p.1.2)], [(0, ⟨0, true, true, 4, [[.int .i64 vs1.Levels.B, .psl 1 (List.map sA.enc vs1.Levels.Levels), .psl 11 (List.map xA.enc vs1.Jobs), .int .i64 vs1.NextId]]⟩), (8, ⟨0, true, true, 2, [[.int .u8 vby3.e0, .int .u8 vby3.e1]]⟩), (296, ⟨0, true, true, 4, [[.int .i64 vr13.1.Levels.B, .psl 1 (List.map sA.enc vr13.1.Levels.Levels), .psl 11 (List.map xA.enc vr13.1.Jobs), .int .i64 vr13.1.NextId]]⟩)], 480, []⟩) (fun p => p.1.1) ⟨(fu, 0), hxx35⟩ ⟨rF, rE, rfl, rfl, trivial, trivial⟩ (fun _ => Nat.le_refl _) ?_
     rintro ⟨⟨fu, k36⟩, h1⟩
     cases fu with
     | zero =>
   replace h1 : gM vs1 vr12 vr13 0 k36 = some x35 := h1
   rw [gM] at h1; cases h1
     | succ fu =>
      replace h1 : gM vs1 vr12 vr13 (fu + 1) k36 = some x35 := h1
      rw [gM] at h1
      refine (show pA _ _ _ _ ⟨[(1, .int .i64 level2), (3, .ref 0 0 0 0), (5, .ref 8 0 0 0), (7, .int .i64 vr7.1), (9, .int .i64 vr12.1), (11, .ref 296 0 0 0), (12, .int .i64 vr13.2.1), (13, .int .i64 k36)], [(0, ⟨0, true, true, 4, [[.int .i64 vs1.Levels.B, .psl 1 (List.map sA.enc vs1.Levels.Levels), .psl 11 (List.map xA.enc vs1.Jobs), .int .i64 vs1.NextId]]⟩), (8, ⟨0, true, true, 2, [[.int .u8 vby3.e0, .int .u8 vby3.e1]]⟩), (296, ⟨0, true, true, 4, [[.int .i64 vr13.1.Levels.B, .psl 1 (List.map sA.enc vr13.1.Levels.Levels), .psl 11 (List.map xA.enc vr13.1.Jobs), .int .i64 vr13.1.NextId]]⟩)], 480, []⟩ from ?_)
      refine kA ?_
      refine xS 520 [1, 3, 5, 7, 9, 11, 12, 13, 73] ?_
      refine xI h1 rfl (fun h1 hb37 => ?_) (fun h1 hb37 => ?_)
      ·
       refine qA (gA (kA (jC ?_)))
       obtain ⟨b41, hb41, h1⟩ := eA h1
       refine uY (fr' := [(1, .int .i64 level2), (3, .ref 0 0 0 0), (5, .ref 8 0 0 0), (7, .int .i64 vr7.1), (9, .int .i64 vr12.1), (11, .ref 296 0 0 0), (12, .int .i64 vr13.2.1), (13, .int .i64 k36), (92, .bool b41)]) (hp' := [(0, ⟨0, true, true, 4, [[.int .i64 vs1.Levels.B, .psl 1 (List.map sA.enc vs1.Levels.Levels), .psl 11 (List.map xA.enc vs1.Jobs), .int .i64 vs1.NextId]]⟩), (8, ⟨0, true, true, 2, [[.int .u8 vby3.e0, .int .u8 vby3.e1]]⟩), (296, ⟨0, true, true, 4, [[.int .i64 vr13.1.Levels.B, .psl 1 (List.map sA.enc vr13.1.Levels.Levels), .psl 11 (List.map xA.enc vr13.1.Jobs), .int .i64 vr13.1.NextId]]⟩)]) [0, 8, 296] 656 [1, 3, 5, 7, 9, 11, 12, 13, 92] (fun | 14 => (ix vs1.Jobs k36).bind fun e38 => (ix vr13.1.Jobs k36).bind fun e39 => (zQ fu e38 e39).bind fun vr40 => some (.bool vr40, []) | _ => none) rfl rfl rfl (fun Kt hK => by
         cases hg42 : (!(decide (k36 = vr12.1))) with
         | false =>
          replace hb41 := vA hb41 hg42
          have hqb41 := Option.some.inj hb41
          subst hqb41
          simp (maxSteps := 1000000) only [↓reduceIte, reduceCtorEq, Nat.reduceEqDiff, Nat.reduceLT, Nat.reduceLeDiff, Nat.reduceAdd, Nat.reduceMul, Int.reduceToNat, push_cast, ↓hg42]
          try simp only [↓hg42] at hK
          try have q0 := zaE hvr40
          all_goals exact dP
         | true =>
          replace hb41 := iB hb41 hg42
          obtain ⟨e38, he38, hb41⟩ := eA hb41
          obtain ⟨he38a, he38b, he38c⟩ := fB he38
          obtain ⟨e39, he39, hb41⟩ := eA hb41
          obtain ⟨he39a, he39b, he39c⟩ := fB he39
          obtain ⟨vr40, hvr40, hb41⟩ := eA hb41
          have hqb41 := Option.some.inj hb41
          subst hqb41
          simp (maxSteps := 1000000) only [↓reduceIte, reduceCtorEq, Nat.reduceEqDiff, Nat.reduceLT, Nat.reduceLeDiff, Nat.reduceAdd, Nat.reduceMul, Int.reduceToNat, push_cast, ↓hg42, he38a, he38b, he38c, he38, he39a, he39b, he39c, he39, hvr40]
          try simp only [↓hg42] at hK
          try have q0 := zaE hvr40
          all_goals exact dP) ?_
       refine xI h1 rfl (fun h1 hb43 => ?_) (fun h1 hb43 => ?_)
       ·
        refine xS 664 [6] ?_
        refine jA ?_
        obtain rfl := Option.some.inj h1
        refine kC (mA (mA (uD (mA ?_))))
        obtain rfl := Option.some.inj h0
        refine nA [] ?_
        exact rG
       ·
        refine qA (cC (gA ?_))
        refine xR 680 [1, 3, 5, 7, 9, 11, 12, 13] ?_
        refine gA ?_
        exact ⟨⟨(fu, (IntKind.i64.wrap (k36 + 1))), h1⟩, ⟨rF, rE, rfl, rfl, trivial, trivial⟩, Nat.lt_succ_self _⟩
      ·
       refine vC (jB (jB (bD ?_)))
       obtain rfl := Option.some.inj h1
       exact ⟨_, rfl, rL, ⟨rF, rE, rfl, rfl, trivial, trivial⟩⟩
end Go.T
end
section
namespace Go.Proofs.Ytnlggkiekcpahaa
open Go.T
theorem jobsAlone : Rows.JobsAloneSaid :=
  znv (fun x0 x1 x2 w0 w1 w2 => by
    have u8 : ∀ v : Int, (Lit.int .u8 v).wf = true → 0 ≤ v ∧ v ≤ 255 := fun v hw => by
      simp [Lit.wf, IntKind.min, IntKind.max, IntKind.signed, IntKind.bits] at hw
      omega
    obtain ⟨fu, h⟩ := (zj0 x0 x1 x2 (u8 _ w2.1) (u8 _ w2.2)).one
    exact ⟨_, zfz h⟩)
end Go.Proofs.Ytnlggkiekcpahaa
end
