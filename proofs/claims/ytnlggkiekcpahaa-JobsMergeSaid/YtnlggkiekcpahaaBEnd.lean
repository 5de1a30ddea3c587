/- However the steps of a job are cut, its output is what the merge of both runs leaves, of levels that are not long and at most 70 cuts; no other condition. -/
import Derived.Test.YtnlggkiekcpahaaBGt
import Derived.Test.YtnlggkiekcpahaaBLkJobsMerge
import Derived.Test.YtnlggkiekcpahaaB3
set_option linter.unusedSimpArgs false
set_option linter.unusedVariables false
section
namespace Go.T
open Go Go.AM Go.Proofs
set_option maxRecDepth 100000
set_option maxHeartbeats 4000000
set_option linter.unusedVariables false
theorem zn7 {fu : Nat} {l1 : List aA} {r : Int × Int} (h0 : vR fu l1 = some r) : jB Try.prog 45 [.psl 4 (l1.map aA.enc)] (.tup [.int .i64 r.1, .int .i64 r.2]) [] := by
 refine tB Try.func45 rfl (by decide) rL ?_
 dsimp only [Try.f45]
 rw [vR] at h0
 refine (show pA _ _ _ _ ⟨iB 0 _, [], 0, []⟩ from ?_)
 refine xS 16 [0] ?_
 refine kA ?_
 refine xS 40 [0, 8] ?_
 refine xI h0 rfl (fun h0 hb2 => ?_) (fun h0 hb2 => ?_)
 ·
  refine xS 56 [2, 3] ?_
  refine jA (oA ?_)
  obtain rfl := Option.some.inj h0
  refine mA [] ?_
  exact rG
 ·
  refine qA (iA (kA ?_))
  refine xS 48 [0, 4] ?_
  obtain ⟨x28, hxx28, h0⟩ := fA h0
  refine sD (fun s' => ∃ o42 : Unit, x28 = .inl o42 ∧ s'.nx ≤ 80 ∧ LeN [] s' ⟨[], [], 80, []⟩) ?_ ?_
  ·
   intro s' hs
   obtain ⟨o42, rfl, hn, hs⟩ := hs
   refine iA ?_
   refine dC [] hn hs ?_
   refine xS 96 [2, 3] ?_
   refine jA ?_
   obtain rfl := Option.some.inj h0
   refine mA [] ?_
   exact rG
  ·
   refine oD (ι := { p : Nat × Int // qI l1 p.1 p.2 = some x28 }) (fun p => ⟨[(0, .psl 4 (List.map aA.enc l1)), (4, .int .i64 p.1.2)], [], 48, []⟩) (fun p => p.1.1) ⟨(fu, 0), hxx28⟩ ⟨rF, rE, rfl, rfl, trivial, trivial⟩ (fun _ => Nat.le_refl _) ?_
   rintro ⟨⟨fu, i29⟩, h1⟩
   cases fu with
   | zero =>
   replace h1 : qI l1 0 i29 = some x28 := h1
   rw [qI] at h1; cases h1
   | succ fu =>
    replace h1 : qI l1 (fu + 1) i29 = some x28 := h1
    rw [qI] at h1
    refine (show pA _ _ _ _ ⟨[(0, .psl 4 (List.map aA.enc l1)), (4, .int .i64 i29)], [], 48, []⟩ from ?_)
    refine kA ?_
    refine xS 80 [0, 4, 12] ?_
    refine xI h1 rfl (fun h1 hb30 => ?_) (fun h1 hb30 => ?_)
    ·
     refine qA (iA (kA (nC ?_)))
     obtain ⟨e31, he31, h1⟩ := fA h1
     obtain ⟨he31a, he31b, he31c⟩ := dB he31
     obtain ⟨vr32, hvr32, h1⟩ := fA h1
     refine nA 128 [0, 4, 5] (fun | 4 => some (.int .i64 vr32, []) | _ => none) rfl (fun _ _ => rB (rA he31a (rA he31b he31c)) (zbU hvr32)) ?_
     refine kA ?_
     obtain ⟨b33, hb33, h1⟩ := fA h1
     obtain ⟨b36, hb36, h1⟩ := fA h1
     refine eO (fr' := [(0, .psl 4 (List.map aA.enc l1)), (4, .int .i64 i29), (5, .int .i64 vr32), (40, .bool b36)]) (hp' := []) [] 296 [0, 4, 5, 40] (fun | 18 => (ix l1 (IntKind.i64.wrap (i29 - 1))).bind fun e34 => (cM fu e34.Key e31.Key).bind fun vr35 => some (.int .i64 vr35, []) | _ => none) rfl rfl rfl (fun Kt hK => by
       cases hg37 : (decide (vr32 = 0)) with
       | false =>
        replace hb33 := vA hb33 hg37
        have hqb33 := Option.some.inj hb33
        cases b33 with
        | false =>
         replace hb36 := vA hb36 rfl
         have hqb36 := Option.some.inj hb36
         subst hqb36
         simp (maxSteps := 1000000) only [↓reduceIte, reduceCtorEq, Nat.reduceEqDiff, Nat.reduceLT, Nat.reduceLeDiff, Nat.reduceAdd, Nat.reduceMul, Int.reduceToNat, push_cast, he31a, he31b, he31c, ↓hg37]
         try simp only [↓hg37] at hK
         try have q0 := fZ hvr35
         all_goals exact tF
        | true =>
         cases hqb33
       | true =>
        replace hb33 := lB hb33 hg37
        have hqb33 := Option.some.inj hb33
        cases b33 with
        | false =>
         replace hb36 := vA hb36 rfl
         have hqb36 := Option.some.inj hb36
         subst hqb36
         simp (maxSteps := 1000000) only [↓reduceIte, reduceCtorEq, Nat.reduceEqDiff, Nat.reduceLT, Nat.reduceLeDiff, Nat.reduceAdd, Nat.reduceMul, Int.reduceToNat, push_cast, he31a, he31b, he31c, ↓hg37, ↓hqb33]
         try simp only [↓hg37, ↓hqb33] at hK
         try have q0 := fZ hvr35
         all_goals exact tF
        | true =>
         replace hb36 := lB hb36 rfl
         obtain ⟨e34, he34, hb36⟩ := fA hb36
         obtain ⟨he34a, he34b, he34c⟩ := dB he34
         obtain ⟨vr35, hvr35, hb36⟩ := fA hb36
         have hqb36 := Option.some.inj hb36
         subst hqb36
         simp (maxSteps := 1000000) only [↓reduceIte, reduceCtorEq, Nat.reduceEqDiff, Nat.reduceLT, Nat.reduceLeDiff, Nat.reduceAdd, Nat.reduceMul, Int.reduceToNat, push_cast, he31a, he31b, he31c, ↓hg37, ↓hqb33, he34a, he34b, he34c, he34, hvr35]
         try simp only [↓hg37, ↓hqb33] at hK
         try have q0 := fZ hvr35
         all_goals exact tF) ?_
     refine xI h1 rfl (fun h1 hb40 => ?_) (fun h1 hb40 => ?_)
     ·
      refine eC 304 [0, 4, 5] (fun _ => none) rfl (fun _ _ => rS (rA he31a (rA he31b he31c))) ?_
      refine iA ?_
      refine nA 320 [0, 4, 5, 42] (fun _ => none) rfl (fun _ _ => rS (rA he31a (rA he31b he31c))) ?_
      refine aM rfl ?_
      refine nA 352 [2, 3] (fun _ => none) rfl (fun _ _ => rS (rA he31a (rA he31b he31c))) ?_
      refine jA ?_
      obtain rfl := Option.some.inj h1
      refine oC (oA (oA (zD (oA ?_))))
      obtain rfl := Option.some.inj h0
      refine mA [] ?_
      simp (maxSteps := 1000000) only [↓reduceIte, reduceCtorEq, Nat.reduceEqDiff, Nat.reduceLT, Nat.reduceLeDiff, Nat.reduceAdd, Nat.reduceMul, Int.reduceToNat, push_cast, mC, he31a, he31b, he31c]
      all_goals exact rH
     ·
      refine qA (iA ?_)
      refine nA 312 [0, 4, 5, 42] (fun _ => none) rfl (fun _ _ => rS (rA he31a (rA he31b he31c))) ?_
      refine xI h1 rfl (fun h1 hb41 => ?_) (fun h1 hb41 => ?_)
      ·
       refine nA 344 [2, 3] (fun _ => none) rfl (fun _ _ => rS (rA he31a (rA he31b he31c))) ?_
       refine jA ?_
       obtain rfl := Option.some.inj h1
       refine oC (oA (oA (zD (oA ?_))))
       obtain rfl := Option.some.inj h0
       refine mA [] ?_
       simp (maxSteps := 1000000) only [↓reduceIte, reduceCtorEq, Nat.reduceEqDiff, Nat.reduceLT, Nat.reduceLeDiff, Nat.reduceAdd, Nat.reduceMul, Int.reduceToNat, push_cast, mC, he31a, he31b, he31c]
       all_goals exact rH
      ·
       refine qA (fC (iA ?_))
       refine eC 336 [0, 4] (fun _ => none) rfl (fun _ _ => rS (rA he31a (rA he31b he31c))) ?_
       refine iA ?_
       exact ⟨⟨(fu, (IntKind.i64.wrap (i29 + 1))), h1⟩, ⟨rF, rE, rfl, rfl, trivial, trivial⟩, Nat.lt_succ_self _⟩
    ·
     refine fD (kB (kB (kD ?_)))
     obtain rfl := Option.some.inj h1
     exact ⟨_, rfl, rL, ⟨rF, rE, rfl, rfl, trivial, trivial⟩⟩
theorem zkm {fu : Nat} {runs1 : List (List aA)} {r : Int × Int} (h0 : fP fu runs1 = some r) : jB Try.prog 26 [.psl 1 (runs1.map (sA 4 aA.enc))] (.tup [.int .i64 r.1, .int .i64 r.2]) [] := by
 refine tB Try.func26 rfl (by decide) rL ?_
 dsimp only [Try.f26]
 rw [fP] at h0
 refine (show pA _ _ _ _ ⟨iB 0 _, [], 0, []⟩ from ?_)
 refine xS 16 [0] ?_
 refine kA ?_
 refine xS 40 [0, 9] ?_
 refine xI h0 rfl (fun h0 hb2 => ?_) (fun h0 hb2 => ?_)
 ·
  refine xS 56 [2, 3] ?_
  refine jA (oA ?_)
  obtain rfl := Option.some.inj h0
  refine mA [] ?_
  exact rG
 ·
  refine qA (iA (kA ?_))
  refine xS 64 [0, 12] ?_
  refine xI h0 rfl (fun h0 hb3 => ?_) (fun h0 hb3 => ?_)
  ·
   refine xS 80 [2, 3] ?_
   refine jA (oA ?_)
   obtain rfl := Option.some.inj h0
   refine mA [] ?_
   exact rG
  ·
   refine qA (iA (kA ?_))
   refine xS 72 [0, 4] ?_
   obtain ⟨x13, hxx13, h0⟩ := fA h0
   refine sD (fun s' => ∃ o19 : Unit, x13 = .inl o19 ∧ s'.nx ≤ 104 ∧ LeN [] s' ⟨[], [], 104, []⟩) ?_ ?_
   ·
    intro s' hs
    obtain ⟨o19, rfl, hn, hs⟩ := hs
    refine iA ?_
    refine dC [] hn hs ?_
    refine xS 120 [2, 3] ?_
    refine jA ?_
    obtain rfl := Option.some.inj h0
    refine mA [] ?_
    exact rG
   ·
    refine oD (ι := { p : Nat × Int // iK runs1 p.1 p.2 = some x13 }) (fun p => ⟨[(0, .psl 1 (List.map (sA 4 aA.enc) runs1)), (4, .int .i64 p.1.2)], [], 72, []⟩) (fun p => p.1.1) ⟨(fu, 0), hxx13⟩ ⟨rF, rE, rfl, rfl, trivial, trivial⟩ (fun _ => Nat.le_refl _) ?_
    rintro ⟨⟨fu, i14⟩, h1⟩
    cases fu with
    | zero =>
   replace h1 : iK runs1 0 i14 = some x13 := h1
   rw [iK] at h1; cases h1
    | succ fu =>
     replace h1 : iK runs1 (fu + 1) i14 = some x13 := h1
     rw [iK] at h1
     refine (show pA _ _ _ _ ⟨[(0, .psl 1 (List.map (sA 4 aA.enc) runs1)), (4, .int .i64 i14)], [], 72, []⟩ from ?_)
     refine kA ?_
     refine xS 104 [0, 4, 16] ?_
     refine xI h1 rfl (fun h1 hb15 => ?_) (fun h1 hb15 => ?_)
     ·
      refine qA (iA (kA (nC ?_)))
      obtain ⟨e16, he16, h1⟩ := fA h1
      obtain ⟨he16a, he16b, he16c⟩ := dB he16
      obtain ⟨vr17, hvr17, h1⟩ := fA h1
      refine nA 184 [0, 4, 6] (fun | 4 => some (.tup [.int .i64 vr17.1, .int .i64 vr17.2], []) | _ => none) rfl (fun _ _ => rB (rA he16a (rA he16b he16c)) (zn7 hvr17)) ?_
      refine nA 200 [0, 4, 6, 28] (fun _ => none) rfl (fun _ _ => rS (rA he16a (rA he16b he16c))) ?_
      refine xI h1 rfl (fun h1 hb18 => ?_) (fun h1 hb18 => ?_)
      ·
       refine nA 232 [2, 3] (fun _ => none) rfl (fun _ _ => rS (rA he16a (rA he16b he16c))) ?_
       refine jA ?_
       obtain rfl := Option.some.inj h1
       refine oC (oA (oA (zD (oA ?_))))
       obtain rfl := Option.some.inj h0
       refine mA [] ?_
       simp (maxSteps := 1000000) only [↓reduceIte, reduceCtorEq, Nat.reduceEqDiff, Nat.reduceLT, Nat.reduceLeDiff, Nat.reduceAdd, Nat.reduceMul, Int.reduceToNat, push_cast, mC, he16a, he16b, he16c]
       all_goals exact rH
      ·
       refine qA (fC (iA ?_))
       refine eC 224 [0, 4] (fun _ => none) rfl (fun _ _ => rS (rA he16a (rA he16b he16c))) ?_
       refine iA ?_
       exact ⟨⟨(fu, (IntKind.i64.wrap (i14 + 1))), h1⟩, ⟨rF, rE, rfl, rfl, trivial, trivial⟩, Nat.lt_succ_self _⟩
     ·
      refine fD (kB (kB (kD ?_)))
      obtain rfl := Option.some.inj h1
      exact ⟨_, rfl, rL, ⟨rF, rE, rfl, rfl, trivial, trivial⟩⟩
theorem zjz {fu : Nat} {runs1 : List (List aA)} {vat2 : List Int} {r : Int} (h0 : sR fu runs1 vat2 = some r) : jB Try.prog 27 [.psl 1 (runs1.map (sA 4 aA.enc)), .psl 1 (vat2.map (dA .i64))] (.int .i64 r) [] := by
 refine tB Try.func27 rfl (by decide) rL ?_
 dsimp only [Try.f27]
 rw [sR] at h0
 refine (show pA _ _ _ _ ⟨iB 0 _, [], 0, []⟩ from ?_)
 refine xS 8 [0, 1] ?_
 refine xS 16 [0, 1, 5] ?_
 refine kA ?_
 refine xS 24 [0, 1, 5, 6] ?_
 obtain ⟨x23, hxx23, h0⟩ := fA h0
 refine sD (fun s' => s'.nx ≤ 56 ∧ LeN [] s' ⟨[(5, .int .i64 x23)], [], 56, []⟩) ?_ ?_
 ·
  intro s' hs
  obtain ⟨hn, hs⟩ := hs
  refine iA ?_
  refine dC [] hn hs ?_
  refine xS 72 [4] ?_
  refine jA ?_
  obtain rfl := Option.some.inj h0
  refine mA [] ?_
  exact rG
 ·
  refine oD (ι := { p : Nat × Int × Int // wJ runs1 vat2 p.1 p.2.1 p.2.2 = some x23 }) (fun p => ⟨[(0, .psl 1 (List.map (sA 4 aA.enc) runs1)), (1, .psl 1 (List.map (dA .i64) vat2)), (5, .int .i64 p.1.2.1), (6, .int .i64 p.1.2.2)], [], 24, []⟩) (fun p => p.1.1) ⟨(fu, (-1), 0), hxx23⟩ ⟨rF, rE, rfl, rfl, trivial, trivial⟩ (fun _ => Nat.le_refl _) ?_
  rintro ⟨⟨fu, best24, i25⟩, h1⟩
  cases fu with
  | zero =>
   replace h1 : wJ runs1 vat2 0 best24 i25 = some x23 := h1
   rw [wJ] at h1; cases h1
  | succ fu =>
   replace h1 : wJ runs1 vat2 (fu + 1) best24 i25 = some x23 := h1
   rw [wJ] at h1
   refine (show pA _ _ _ _ ⟨[(0, .psl 1 (List.map (sA 4 aA.enc) runs1)), (1, .psl 1 (List.map (dA .i64) vat2)), (5, .int .i64 best24), (6, .int .i64 i25)], [], 24, []⟩ from ?_)
   refine kA ?_
   refine xS 56 [0, 1, 5, 6, 10] ?_
   refine xI h1 rfl (fun h1 hb26 => ?_) (fun h1 hb26 => ?_)
   ·
    refine qA (iA (kA (nC ?_)))
    obtain ⟨e27, he27, h1⟩ := fA h1
    obtain ⟨he27a, he27b, he27c⟩ := dB he27
    obtain ⟨e28, he28, h1⟩ := fA h1
    obtain ⟨he28a, he28b, he28c⟩ := dB he28
    obtain ⟨b34, hb34, h1⟩ := fA h1
    refine eO (fr' := [(0, .psl 1 (List.map (sA 4 aA.enc) runs1)), (1, .psl 1 (List.map (dA .i64) vat2)), (5, .int .i64 best24), (6, .int .i64 i25), (51, .bool b34)]) (hp' := []) [] 368 [0, 1, 5, 6, 51] (fun _ => none) rfl rfl rfl (fun Kt hK => by
      cases hg35 : (decide (e27 < (e28.length : Int))) with
      | false =>
       replace hb34 := vA hb34 hg35
       have hqb34 := Option.some.inj hb34
       subst hqb34
       simp (maxSteps := 1000000) only [↓reduceIte, reduceCtorEq, Nat.reduceEqDiff, Nat.reduceLT, Nat.reduceLeDiff, Nat.reduceAdd, Nat.reduceMul, Int.reduceToNat, push_cast, he27a, he27b, he27c, he28a, he28b, he28c, ↓hg35]
       try simp only [↓hg35] at hK
       all_goals exact tF
      | true =>
       replace hb34 := lB hb34 hg35
       obtain ⟨b33, hb33, hb34⟩ := fA hb34
       have hqb34 := Option.some.inj hb34
       cases hg36 : (decide (best24 < 0)) with
       | false =>
        replace hb33 := vA hb33 hg36
        obtain ⟨e29, he29, hb33⟩ := fA hb33
        obtain ⟨he29a, he29b, he29c⟩ := dB he29
        obtain ⟨e30, he30, hb33⟩ := fA hb33
        obtain ⟨he30a, he30b, he30c⟩ := dB he30
        obtain ⟨e31, he31, hb33⟩ := fA hb33
        obtain ⟨he31a, he31b, he31c⟩ := dB he31
        obtain ⟨e32, he32, hb33⟩ := fA hb33
        obtain ⟨he32a, he32b, he32c⟩ := dB he32
        have hqb33 := Option.some.inj hb33
        subst hqb34
        subst hqb33
        simp (maxSteps := 1000000) only [↓reduceIte, reduceCtorEq, Nat.reduceEqDiff, Nat.reduceLT, Nat.reduceLeDiff, Nat.reduceAdd, Nat.reduceMul, Int.reduceToNat, push_cast, he27a, he27b, he27c, he28a, he28b, he28c, ↓hg35, ↓hg36, he29a, he29b, he29c, he29, he30a, he30b, he30c, he30, he31a, he31b, he31c, he31, he32a, he32b, he32c, he32]
        try simp only [↓hg35, ↓hg36] at hK
        all_goals exact tF
       | true =>
        replace hb33 := lB hb33 hg36
        have hqb33 := Option.some.inj hb33
        subst hqb34
        subst hqb33
        simp (maxSteps := 1000000) only [↓reduceIte, reduceCtorEq, Nat.reduceEqDiff, Nat.reduceLT, Nat.reduceLeDiff, Nat.reduceAdd, Nat.reduceMul, Int.reduceToNat, push_cast, he27a, he27b, he27c, he28a, he28b, he28c, ↓hg35, ↓hg36]
        try simp only [↓hg35, ↓hg36] at hK
        all_goals exact tF) ?_
    refine xI h1 rfl (fun h1 hb37 => ?_) (fun h1 hb37 => ?_)
    ·
     refine eC 384 [0, 1, 5, 6] (fun _ => none) rfl (fun _ _ => rS (rA he27a (rA he27b (rA he27c (rA he28a (rA he28b he28c)))))) ?_
     refine fC (iA ?_)
     refine eC 408 [0, 1, 5, 6] (fun _ => none) rfl (fun _ _ => rS (rA he27a (rA he27b (rA he27c (rA he28a (rA he28b he28c)))))) ?_
     refine iA ?_
     exact ⟨⟨(fu, i25, (IntKind.i64.wrap (i25 + 1))), h1⟩, ⟨rF, rE, rfl, rfl, trivial, trivial⟩, Nat.lt_succ_self _⟩
    ·
     refine qA (fC (iA ?_))
     refine eC 392 [0, 1, 5, 6] (fun _ => none) rfl (fun _ _ => rS (rA he27a (rA he27b (rA he27c (rA he28a (rA he28b he28c)))))) ?_
     refine iA ?_
     exact ⟨⟨(fu, best24, (IntKind.i64.wrap (i25 + 1))), h1⟩, ⟨rF, rE, rfl, rfl, trivial, trivial⟩, Nat.lt_succ_self _⟩
   ·
    refine fD (kB (kB (kD ?_)))
    obtain rfl := Option.some.inj h1
    exact ⟨rL, ⟨rF, rE, rfl, rfl, trivial, trivial⟩⟩
theorem zf6 {fu : Nat} {runs1 : List (List aA)} {r : List aA × List Int × Int} (h0 : bP fu runs1 = some r) : jB Try.prog 10 [.psl 1 (runs1.map (sA 4 aA.enc))] (.tup [.psl 4 (r.1.map aA.enc), .psl 1 (r.2.1.map (dA .i64)), .int .i64 r.2.2]) [] := by
 refine tB Try.func10 rfl (by decide) rL ?_
 dsimp only [Try.f10]
 rw [bP] at h0
 refine (show pA _ _ _ _ ⟨iB 0 _, [], 0, []⟩ from ?_)
 refine xS 24 [0] ?_
 obtain ⟨vr2, hvr2, h0⟩ := fA h0
 refine nA 80 [0, 6] (fun | 1 => some (.tup [.int .i64 vr2.1, .int .i64 vr2.2], []) | _ => none) rfl (fun _ _ => rC (zkm hvr2)) ?_
 refine kA ?_
 refine xS 96 [0, 6, 17] ?_
 refine xI h0 rfl (fun h0 hb3 => ?_) (fun h0 hb3 => ?_)
 ·
  refine xS 128 [2, 3, 4] ?_
  refine jA (oA ?_)
  obtain rfl := Option.some.inj h0
  refine mA [] ?_
  exact rG
 ·
  refine qA (iA ?_)
  refine xS 104 [0, 7] ?_
  refine xS 112 [0, 7, 8] ?_
  obtain ⟨hc4, h0⟩ := pE h0
  refine xS 144 [0, 7, 8, 9] ?_
  refine xE ⟨[(0, .psl 1 (List.map (sA 4 aA.enc) runs1)), (7, .nils), (8, .nils), (9, .sl 128 0 1 0 ((List.replicate runs1.length 0 : List Int).length))], [(128, ⟨0, true, true, 1, List.map (dA .i64) (List.replicate runs1.length 0 : List Int)⟩)], 144, []⟩ ?_
  refine dC (s2 := ⟨[(0, .psl 1 (List.map (sA 4 aA.enc) runs1)), (7, .sl 144 0 4 0 0), (8, .sl 145 0 1 0 0), (9, .sl 128 0 1 0 ((List.replicate runs1.length 0 : List Int).length))], [(128, ⟨0, true, true, 1, List.map (dA .i64) (List.replicate runs1.length 0 : List Int)⟩), (144, ⟨0, true, true, 4, List.map aA.enc []⟩), (145, ⟨0, true, true, 1, List.map (dA .i64) []⟩)], 146, []⟩) [(144, 4), (145, 1)] rL ⟨rF, rE, rfl, rfl, trivial, rN⟩ ?_
  obtain ⟨x28, hxx28, h0⟩ := fA h0
  refine sD (fun _ => False) ?_ ?_
  ·
   intro _ h; exact h.elim
  ·
   refine oD (ι := { p : Nat × List Int × List aA × List Int × Nat × Nat × Nat // sM runs1 p.1 p.2.1 p.2.2.1 p.2.2.2.1 = some x28 }) (fun p => ⟨[(0, .psl 1 (List.map (sA 4 aA.enc) runs1)), (7, .sl 144 p.1.2.2.2.2.2.1 4 0 p.1.2.2.1.length), (8, .sl 145 p.1.2.2.2.2.2.2 1 0 p.1.2.2.2.1.length), (9, .sl 128 p.1.2.2.2.2.1 1 0 p.1.2.1.length)], [(128, ⟨p.1.2.2.2.2.1, true, true, 1, List.map (dA .i64) p.1.2.1⟩), (144, ⟨p.1.2.2.2.2.2.1, true, true, 4, List.map aA.enc p.1.2.2.1⟩), (145, ⟨p.1.2.2.2.2.2.2, true, true, 1, List.map (dA .i64) p.1.2.2.2.1⟩)], 146, []⟩) (fun p => p.1.1) ⟨(fu, (List.replicate runs1.length 0 : List Int), [], [], 0, 0, 0), hxx28⟩ ⟨rF, rE, rfl, rfl, trivial, trivial⟩ (fun _ => Nat.le_refl _) ?_
   rintro ⟨⟨fu, vat29, l30, vfrom31, g32, g33, g34⟩, h1⟩
   cases fu with
   | zero =>
   replace h1 : sM runs1 0 vat29 l30 vfrom31 = some x28 := h1
   rw [sM] at h1; cases h1
   | succ fu =>
    replace h1 : sM runs1 (fu + 1) vat29 l30 vfrom31 = some x28 := h1
    rw [sM] at h1
    refine (show pA _ _ _ _ ⟨[(0, .psl 1 (List.map (sA 4 aA.enc) runs1)), (7, .sl 144 g33 4 0 l30.length), (8, .sl 145 g34 1 0 vfrom31.length), (9, .sl 128 g32 1 0 vat29.length)], [(128, ⟨g32, true, true, 1, List.map (dA .i64) vat29⟩), (144, ⟨g33, true, true, 4, List.map aA.enc l30⟩), (145, ⟨g34, true, true, 1, List.map (dA .i64) vfrom31⟩)], 146, []⟩ from ?_)
    refine nC ?_
    obtain ⟨vr35, hvr35, h1⟩ := fA h1
    refine nA 178 [0, 7, 8, 9, 10] (fun | 2 => some (.int .i64 vr35, []) | _ => none) rfl (fun _ _ => rC (zjz hvr35)) ?_
    refine kA ?_
    refine xS 194 [0, 7, 8, 9, 10, 26] ?_
    refine xI h1 rfl (fun h1 hb36 => ?_) (fun h1 hb36 => ?_)
    ·
     refine xS 234 [2, 3, 4] ?_
     refine jA ?_
     obtain rfl := Option.some.inj h1
     refine oA (oC (oA (zD ?_)))
     obtain rfl := Option.some.inj h0
     refine mA [] ?_
     exact rG
    ·
     refine qA (iA ?_)
     obtain ⟨e37, he37, h1⟩ := fA h1
     obtain ⟨he37a, he37b, he37c⟩ := dB he37
     obtain ⟨e38, he38, h1⟩ := fA h1
     obtain ⟨he38a, he38b, he38c⟩ := dB he38
     obtain ⟨e39, he39, h1⟩ := fA h1
     obtain ⟨he39a, he39b, he39c⟩ := dB he39
     obtain ⟨hc40, h1⟩ := pE h1
     obtain ⟨hc41, h1⟩ := pE h1
     refine nD 346 [0, 7, 8, 9, 10] (fun _ => none) rfl rfl rfl (fun _ _ => jF (rA he37a (rA he37b (rA he37c (rA he38a (rA he38b (rA he38c (rA he39a (rA he39b he39c))))))))) ?_
     refine xE ⟨[(0, .psl 1 (List.map (sA 4 aA.enc) runs1)), (7, .sl 144 (g33 + 1) 4 0 ((l30 ++ [e39]).length)), (8, .sl 145 (g34 + 1) 1 0 ((vfrom31 ++ [vr35]).length)), (9, .sl 128 g32 1 0 vat29.length), (10, .int .i64 vr35)], [(128, ⟨g32, true, true, 1, List.map (dA .i64) vat29⟩), (144, ⟨(g33 + 1), true, true, 4, List.map aA.enc (l30 ++ [e39])⟩), (145, ⟨(g34 + 1), true, true, 1, List.map (dA .i64) (vfrom31 ++ [vr35])⟩), (282, ⟨0, true, true, 4, List.map aA.enc [e39]⟩), (314, ⟨0, true, true, 1, List.map (dA .i64) [vr35]⟩)], 346, []⟩ ?_
     refine eC 402 [0, 7, 8, 9] (fun _ => none) rfl (fun _ _ => rS (rA he37a (rA he37b (rA he37c (rA he38a (rA he38b (rA he38c (rA he39a (rA he39b he39c))))))))) ?_
     refine fC (iA ?_)
     exact ⟨⟨(fu, (vat29.set vr35.toNat (IntKind.i64.wrap (e38 + 1))), (l30 ++ [e39]), (vfrom31 ++ [vr35]), g32, (g33 + 1), (g34 + 1)), h1⟩, ⟨rF, rE, rfl, rfl, trivial, trivial⟩, Nat.lt_succ_self _⟩
theorem zn6 {fu : Nat} {bottom1 : Bool} {r : fB} (h0 : zP fu bottom1 = some r) : jB Try.prog 28 [.bool bottom1] (.agg (fB.enc r)) [] := by
 refine tB Try.func28 rfl (by decide) rL ?_
 dsimp only [Try.f28]
 rw [zP] at h0
 refine (show pA _ _ _ _ ⟨iB 0 _, [], 0, []⟩ from ?_)
 refine xS 8 [0, 2] ?_
 refine xS 32 [2] ?_
 refine jA ?_
 obtain rfl := Option.some.inj h0
 refine mA [] ?_
 exact rG
theorem zeL {fu : Nat} {vs1 : fB} {r : Int} (h0 : jV fu vs1 = some r) : jB Try.prog 46 [.agg (fB.enc vs1)] (.int .i64 r) [] := by
 refine tB Try.func46 rfl (by decide) rL ?_
 dsimp only [Try.f46]
 rw [jV] at h0
 refine (show pA _ _ _ _ ⟨iB 0 _, [], 0, []⟩ from ?_)
 refine xS 16 [1] ?_
 refine kA ?_
 refine xS 48 [1, 6] ?_
 refine xI h0 rfl (fun h0 hb2 => ?_) (fun h0 hb2 => ?_)
 ·
  refine xS 56 [2] ?_
  refine jA (oA ?_)
  obtain rfl := Option.some.inj h0
  refine mA [] ?_
  exact rG
 ·
  refine qA (iA (kA ?_))
  obtain ⟨b3, hb3, h0⟩ := fA h0
  refine eD (fr' := [(14, .bool b3)]) (hp' := [(0, ⟨0, true, true, 3, [[.bool vs1.Some, .str vs1.Last, .bool vs1.Bottom]]⟩)]) [0] 112 [14] (fun _ => none) rfl (fun Kt hK => by
    cases hg4 : (!vs1.Some) with
    | false =>
     replace hb3 := vA hb3 hg4
     have hqb3 := Option.some.inj hb3
     subst hqb3
     simp (maxSteps := 1000000) only [↓reduceIte, reduceCtorEq, Nat.reduceEqDiff, Nat.reduceLT, Nat.reduceLeDiff, Nat.reduceAdd, Nat.reduceMul, Int.reduceToNat, push_cast, ↓hg4]
     try simp only [↓hg4] at hK
     all_goals exact rU
    | true =>
     replace hb3 := lB hb3 hg4
     have hqb3 := Option.some.inj hb3
     subst hqb3
     simp (maxSteps := 1000000) only [↓reduceIte, reduceCtorEq, Nat.reduceEqDiff, Nat.reduceLT, Nat.reduceLeDiff, Nat.reduceAdd, Nat.reduceMul, Int.reduceToNat, push_cast, ↓hg4]
     try simp only [↓hg4] at hK
     all_goals exact rU) ?_
  refine xI h0 rfl (fun h0 hb5 => ?_) (fun h0 hb5 => ?_)
  ·
   refine xS 120 [2] ?_
   refine jA (oA ?_)
   obtain rfl := Option.some.inj h0
   refine mA [] ?_
   exact rG
  ·
   refine qA (iA ?_)
   refine xS 120 [2] ?_
   refine jA ?_
   obtain rfl := Option.some.inj h0
   refine mA [] ?_
   exact rG
theorem ziC {fu : Nat} {vs1 : fB} {vx2 : aA} {r : Bool × fB × Int} (h0 : iU fu vs1 vx2 = some r) : jB Try.prog 29 [.agg (fB.enc vs1), .agg (aA.enc vx2)] (.tup [.bool r.1, .agg (fB.enc r.2.1), .int .i64 r.2.2]) [] := by
 refine tB Try.func29 rfl (by decide) rL ?_
 dsimp only [Try.f29]
 rw [iU] at h0
 refine (show pA _ _ _ _ ⟨iB 0 _, [], 0, []⟩ from ?_)
 refine xS 40 [2, 3, 5] ?_
 obtain ⟨vr3, hvr3, h0⟩ := fA h0
 refine nA 64 [2, 3, 5, 7] (fun | 1 => some (.int .i64 vr3, []) | _ => none) rfl (fun _ _ => rC (zeL hvr3)) ?_
 refine kA ?_
 refine xS 80 [2, 3, 5, 7, 12] ?_
 refine xI h0 rfl (fun h0 hb4 => ?_) (fun h0 hb4 => ?_)
 ·
  obtain ⟨vr5, hvr5, h0⟩ := fA h0
  refine eC 104 [2, 3, 5, 7] (fun | 1 => some (.int .i64 vr5, []) | _ => none) rfl (fun _ _ => rC (zbU hvr5)) ?_
  refine iA (kA ?_)
  obtain ⟨b6, hb6, h0⟩ := fA h0
  obtain ⟨b7, hb7, h0⟩ := fA h0
  refine eD (fr' := [(2, .ref 0 0 0 0), (3, .ref 8 0 0 0), (5, .ref 24 0 0 0), (7, .int .i64 vr5), (27, .bool b7)]) (hp' := [(0, ⟨0, true, true, 3, [[.bool vs1.Some, .str vs1.Last, .bool vs1.Bottom]]⟩), (8, ⟨0, true, true, 4, [[.str vx2.Key, .str vx2.Val, .bool vx2.Dead, .int .i64 vx2.Seq]]⟩), (24, ⟨0, true, true, 3, [[.bool false, .str [], .bool false]]⟩)]) [0, 8, 24] 208 [2, 3, 5, 7, 27] (fun _ => none) rfl (fun Kt hK => by
    cases hg8 : (decide (vr5 = 0)) with
    | false =>
     replace hb6 := vA hb6 hg8
     have hqb6 := Option.some.inj hb6
     cases b6 with
     | false =>
      replace hb7 := vA hb7 rfl
      have hqb7 := Option.some.inj hb7
      subst hqb7
      simp (maxSteps := 1000000) only [↓reduceIte, reduceCtorEq, Nat.reduceEqDiff, Nat.reduceLT, Nat.reduceLeDiff, Nat.reduceAdd, Nat.reduceMul, Int.reduceToNat, push_cast, ↓hg8]
      try simp only [↓hg8] at hK
      all_goals exact rU
     | true =>
      cases hqb6
    | true =>
     replace hb6 := lB hb6 hg8
     have hqb6 := Option.some.inj hb6
     cases b6 with
     | false =>
      replace hb7 := vA hb7 rfl
      have hqb7 := Option.some.inj hb7
      subst hqb7
      simp (maxSteps := 1000000) only [↓reduceIte, reduceCtorEq, Nat.reduceEqDiff, Nat.reduceLT, Nat.reduceLeDiff, Nat.reduceAdd, Nat.reduceMul, Int.reduceToNat, push_cast, ↓hg8, ↓hqb6]
      try simp only [↓hg8, ↓hqb6] at hK
      all_goals exact rU
     | true =>
      replace hb7 := lB hb7 rfl
      have hqb7 := Option.some.inj hb7
      subst hqb7
      simp (maxSteps := 1000000) only [↓reduceIte, reduceCtorEq, Nat.reduceEqDiff, Nat.reduceLT, Nat.reduceLeDiff, Nat.reduceAdd, Nat.reduceMul, Int.reduceToNat, push_cast, ↓hg8, ↓hqb6]
      try simp only [↓hg8, ↓hqb6] at hK
      all_goals exact rU) ?_
  refine xI h0 rfl (fun h0 hb11 => ?_) (fun h0 hb11 => ?_)
  ·
   refine xR 216 [2, 3, 5, 7] ?_
   refine iA (kA ?_)
   refine xS 232 [2, 3, 5, 7, 29] ?_
   refine aM rfl ?_
   refine xS 272 [4, 5, 6] ?_
   refine jA (oA ?_)
   obtain rfl := Option.some.inj h0
   refine mA [] ?_
   exact rG
  ·
   refine qA (iA (kA ?_))
   refine xS 224 [2, 3, 5, 7, 29] ?_
   refine xI h0 rfl (fun h0 hb12 => ?_) (fun h0 hb12 => ?_)
   ·
    refine xS 264 [4, 5, 6] ?_
    refine jA (oA ?_)
    obtain rfl := Option.some.inj h0
    refine mA [] ?_
    exact rG
   ·
    refine qA (iA ?_)
    obtain ⟨b13, hb13, h0⟩ := fA h0
    refine eD (fr' := [(2, .ref 0 0 0 0), (3, .ref 8 0 0 0), (5, .ref 24 0 0 0), (8, .bool b13)]) (hp' := [(0, ⟨0, true, true, 3, [[.bool vs1.Some, .str vs1.Last, .bool vs1.Bottom]]⟩), (8, ⟨0, true, true, 4, [[.str vx2.Key, .str vx2.Val, .bool vx2.Dead, .int .i64 vx2.Seq]]⟩), (24, ⟨0, true, true, 3, [[.bool false, .str [], .bool false]]⟩)]) [0, 8, 24] 312 [2, 3, 5, 8] (fun _ => none) rfl (fun Kt hK => by
      cases hg14 : (!vs1.Some) with
      | false =>
       replace hb13 := vA hb13 hg14
       have hqb13 := Option.some.inj hb13
       subst hqb13
       simp (maxSteps := 1000000) only [↓reduceIte, reduceCtorEq, Nat.reduceEqDiff, Nat.reduceLT, Nat.reduceLeDiff, Nat.reduceAdd, Nat.reduceMul, Int.reduceToNat, push_cast, ↓hg14]
       try simp only [↓hg14] at hK
       all_goals exact rU
      | true =>
       replace hb13 := lB hb13 hg14
       have hqb13 := Option.some.inj hb13
       subst hqb13
       simp (maxSteps := 1000000) only [↓reduceIte, reduceCtorEq, Nat.reduceEqDiff, Nat.reduceLT, Nat.reduceLeDiff, Nat.reduceAdd, Nat.reduceMul, Int.reduceToNat, push_cast, ↓hg14]
       try simp only [↓hg14] at hK
       all_goals exact rU) ?_
    obtain ⟨b16, hb16, h0⟩ := fA h0
    refine eO (fr' := [(4, .bool b16), (5, .ref 24 0 0 0), (6, .int .i64 0)]) (hp' := [(0, ⟨0, true, true, 3, [[.bool vs1.Some, .str vs1.Last, .bool vs1.Bottom]]⟩), (8, ⟨0, true, true, 4, [[.str vx2.Key, .str vx2.Val, .bool vx2.Dead, .int .i64 vx2.Seq]]⟩), (24, ⟨0, true, true, 3, [[.bool true, .str vx2.Key, .bool vs1.Bottom]]⟩)]) [0, 8, 24] 456 [4, 5, 6] (fun _ => none) rfl rfl rfl (fun Kt hK => by
      cases b13 with
      | false =>
       replace hb16 := vA hb16 rfl
       have hqb16 := Option.some.inj hb16
       subst hqb16
       exact dG
      | true =>
       replace hb16 := lB hb16 rfl
       obtain ⟨b15, hb15, hb16⟩ := fA hb16
       have hqb16 := Option.some.inj hb16
       cases hg18 : vs1.Bottom with
       | false =>
        replace hb15 := vA hb15 hg18
        have hqb15 := Option.some.inj hb15
        subst hqb16
        subst hqb15
        simp (maxSteps := 1000000) only [↓reduceIte, reduceCtorEq, Nat.reduceEqDiff, Nat.reduceLT, Nat.reduceLeDiff, Nat.reduceAdd, Nat.reduceMul, Int.reduceToNat, push_cast, ↓hg18]
        try simp only [↓hg18] at hK
        all_goals exact tF
       | true =>
        replace hb15 := lB hb15 hg18
        have hqb15 := Option.some.inj hb15
        subst hqb16
        subst hqb15
        simp (maxSteps := 1000000) only [↓reduceIte, reduceCtorEq, Nat.reduceEqDiff, Nat.reduceLT, Nat.reduceLeDiff, Nat.reduceAdd, Nat.reduceMul, Int.reduceToNat, push_cast, ↓hg18]
        try simp only [↓hg18] at hK
        all_goals exact tF) ?_
    refine jA ?_
    obtain rfl := Option.some.inj h0
    refine mA [] ?_
    exact rG
 ·
  refine qA (iA (kA ?_))
  obtain ⟨b19, hb19, h0⟩ := fA h0
  obtain ⟨b20, hb20, h0⟩ := fA h0
  refine eD (fr' := [(2, .ref 0 0 0 0), (3, .ref 8 0 0 0), (5, .ref 24 0 0 0), (7, .int .i64 vr3), (27, .bool b20)]) (hp' := [(0, ⟨0, true, true, 3, [[.bool vs1.Some, .str vs1.Last, .bool vs1.Bottom]]⟩), (8, ⟨0, true, true, 4, [[.str vx2.Key, .str vx2.Val, .bool vx2.Dead, .int .i64 vx2.Seq]]⟩), (24, ⟨0, true, true, 3, [[.bool false, .str [], .bool false]]⟩)]) [0, 8, 24] 184 [2, 3, 5, 7, 27] (fun _ => none) rfl (fun Kt hK => by
    cases hg21 : (decide (vr3 = 0)) with
    | false =>
     replace hb19 := vA hb19 hg21
     have hqb19 := Option.some.inj hb19
     cases b19 with
     | false =>
      replace hb20 := vA hb20 rfl
      have hqb20 := Option.some.inj hb20
      subst hqb20
      simp (maxSteps := 1000000) only [↓reduceIte, reduceCtorEq, Nat.reduceEqDiff, Nat.reduceLT, Nat.reduceLeDiff, Nat.reduceAdd, Nat.reduceMul, Int.reduceToNat, push_cast, ↓hg21]
      try simp only [↓hg21] at hK
      all_goals exact rU
     | true =>
      cases hqb19
    | true =>
     replace hb19 := lB hb19 hg21
     have hqb19 := Option.some.inj hb19
     cases b19 with
     | false =>
      replace hb20 := vA hb20 rfl
      have hqb20 := Option.some.inj hb20
      subst hqb20
      simp (maxSteps := 1000000) only [↓reduceIte, reduceCtorEq, Nat.reduceEqDiff, Nat.reduceLT, Nat.reduceLeDiff, Nat.reduceAdd, Nat.reduceMul, Int.reduceToNat, push_cast, ↓hg21, ↓hqb19]
      try simp only [↓hg21, ↓hqb19] at hK
      all_goals exact rU
     | true =>
      replace hb20 := lB hb20 rfl
      have hqb20 := Option.some.inj hb20
      subst hqb20
      simp (maxSteps := 1000000) only [↓reduceIte, reduceCtorEq, Nat.reduceEqDiff, Nat.reduceLT, Nat.reduceLeDiff, Nat.reduceAdd, Nat.reduceMul, Int.reduceToNat, push_cast, ↓hg21, ↓hqb19]
      try simp only [↓hg21, ↓hqb19] at hK
      all_goals exact rU) ?_
  refine xI h0 rfl (fun h0 hb24 => ?_) (fun h0 hb24 => ?_)
  ·
   refine xR 192 [2, 3, 5, 7] ?_
   refine iA (kA ?_)
   refine xS 208 [2, 3, 5, 7, 29] ?_
   refine aM rfl ?_
   refine xS 248 [4, 5, 6] ?_
   refine jA (oA ?_)
   obtain rfl := Option.some.inj h0
   refine mA [] ?_
   exact rG
  ·
   refine qA (iA (kA ?_))
   refine xS 200 [2, 3, 5, 7, 29] ?_
   refine xI h0 rfl (fun h0 hb25 => ?_) (fun h0 hb25 => ?_)
   ·
    refine xS 240 [4, 5, 6] ?_
    refine jA (oA ?_)
    obtain rfl := Option.some.inj h0
    refine mA [] ?_
    exact rG
   ·
    refine qA (iA ?_)
    obtain ⟨b26, hb26, h0⟩ := fA h0
    refine eD (fr' := [(2, .ref 0 0 0 0), (3, .ref 8 0 0 0), (5, .ref 24 0 0 0), (8, .bool b26)]) (hp' := [(0, ⟨0, true, true, 3, [[.bool vs1.Some, .str vs1.Last, .bool vs1.Bottom]]⟩), (8, ⟨0, true, true, 4, [[.str vx2.Key, .str vx2.Val, .bool vx2.Dead, .int .i64 vx2.Seq]]⟩), (24, ⟨0, true, true, 3, [[.bool false, .str [], .bool false]]⟩)]) [0, 8, 24] 288 [2, 3, 5, 8] (fun _ => none) rfl (fun Kt hK => by
      cases hg27 : (!vs1.Some) with
      | false =>
       replace hb26 := vA hb26 hg27
       have hqb26 := Option.some.inj hb26
       subst hqb26
       simp (maxSteps := 1000000) only [↓reduceIte, reduceCtorEq, Nat.reduceEqDiff, Nat.reduceLT, Nat.reduceLeDiff, Nat.reduceAdd, Nat.reduceMul, Int.reduceToNat, push_cast, ↓hg27]
       try simp only [↓hg27] at hK
       all_goals exact rU
      | true =>
       replace hb26 := lB hb26 hg27
       have hqb26 := Option.some.inj hb26
       subst hqb26
       simp (maxSteps := 1000000) only [↓reduceIte, reduceCtorEq, Nat.reduceEqDiff, Nat.reduceLT, Nat.reduceLeDiff, Nat.reduceAdd, Nat.reduceMul, Int.reduceToNat, push_cast, ↓hg27]
       try simp only [↓hg27] at hK
       all_goals exact rU) ?_
    obtain ⟨b29, hb29, h0⟩ := fA h0
    refine eO (fr' := [(4, .bool b29), (5, .ref 24 0 0 0), (6, .int .i64 0)]) (hp' := [(0, ⟨0, true, true, 3, [[.bool vs1.Some, .str vs1.Last, .bool vs1.Bottom]]⟩), (8, ⟨0, true, true, 4, [[.str vx2.Key, .str vx2.Val, .bool vx2.Dead, .int .i64 vx2.Seq]]⟩), (24, ⟨0, true, true, 3, [[.bool true, .str vx2.Key, .bool vs1.Bottom]]⟩)]) [0, 8, 24] 432 [4, 5, 6] (fun _ => none) rfl rfl rfl (fun Kt hK => by
      cases b26 with
      | false =>
       replace hb29 := vA hb29 rfl
       have hqb29 := Option.some.inj hb29
       subst hqb29
       exact dG
      | true =>
       replace hb29 := lB hb29 rfl
       obtain ⟨b28, hb28, hb29⟩ := fA hb29
       have hqb29 := Option.some.inj hb29
       cases hg31 : vs1.Bottom with
       | false =>
        replace hb28 := vA hb28 hg31
        have hqb28 := Option.some.inj hb28
        subst hqb29
        subst hqb28
        simp (maxSteps := 1000000) only [↓reduceIte, reduceCtorEq, Nat.reduceEqDiff, Nat.reduceLT, Nat.reduceLeDiff, Nat.reduceAdd, Nat.reduceMul, Int.reduceToNat, push_cast, ↓hg31]
        try simp only [↓hg31] at hK
        all_goals exact tF
       | true =>
        replace hb28 := lB hb28 hg31
        have hqb28 := Option.some.inj hb28
        subst hqb29
        subst hqb28
        simp (maxSteps := 1000000) only [↓reduceIte, reduceCtorEq, Nat.reduceEqDiff, Nat.reduceLT, Nat.reduceLeDiff, Nat.reduceAdd, Nat.reduceMul, Int.reduceToNat, push_cast, ↓hg31]
        try simp only [↓hg31] at hK
        all_goals exact tF) ?_
    refine jA ?_
    obtain rfl := Option.some.inj h0
    refine mA [] ?_
    exact rG
theorem zjF {fu : Nat} {l1 : List aA} {bottom2 : Bool} {r : List aA × Int × Int} (h0 : mT fu l1 bottom2 = some r) : jB Try.prog 11 [.psl 4 (l1.map aA.enc), .bool bottom2] (.tup [.psl 4 (r.1.map aA.enc), .int .i64 r.2.1, .int .i64 r.2.2]) [] := by
 refine tB Try.func11 rfl (by decide) rL ?_
 dsimp only [Try.f11]
 rw [mT] at h0
 refine (show pA _ _ _ _ ⟨iB 0 _, [], 0, []⟩ from ?_)
 refine xS 24 [0, 1] ?_
 refine kA ?_
 refine xS 48 [0, 1, 15] ?_
 refine xI h0 rfl (fun h0 hb3 => ?_) (fun h0 hb3 => ?_)
 ·
  refine xS 72 [4, 5, 6] ?_
  refine jA (oA ?_)
  obtain rfl := Option.some.inj h0
  refine mA [] ?_
  exact rG
 ·
  refine qA (iA ?_)
  obtain ⟨vr4, hvr4, h0⟩ := fA h0
  refine nA 80 [0, 7] (fun | 1 => some (.agg (fB.enc vr4), []) | _ => none) rfl (fun _ _ => rC (zn6 hvr4)) ?_
  refine xS 88 [0, 7, 8] ?_
  refine kA ?_
  refine xS 96 [0, 7, 8, 9] ?_
  refine dC (s2 := ⟨[(0, .psl 4 (List.map aA.enc l1)), (7, .ref 64 0 0 0), (8, .sl 96 0 4 0 0), (9, .int .i64 0)], [(64, ⟨0, true, true, 3, [[.bool vr4.Some, .str vr4.Last, .bool vr4.Bottom]]⟩), (96, ⟨0, true, true, 4, List.map aA.enc []⟩)], 97, []⟩) [(96, 4)] rL ⟨rF, rE, rfl, rfl, trivial, rN⟩ ?_
  obtain ⟨x27, hxx27, h0⟩ := fA h0
  refine sD (fun s' => ∃ o40 : Bool × List UInt8 × Bool × List aA, ∃ g41 : Nat, x27 = .inl o40 ∧ s'.nx ≤ 129 ∧ LeN [] s' ⟨[(8, .sl 96 g41 4 0 o40.2.2.2.length)], [(64, ⟨0, true, true, 3, [[.bool o40.1, .str o40.2.1, .bool o40.2.2.1]]⟩), (96, ⟨g41, true, true, 4, List.map aA.enc o40.2.2.2⟩)], 129, []⟩) ?_ ?_
  ·
   intro s' hs
   obtain ⟨o40, g41, rfl, hn, hs⟩ := hs
   refine iA ?_
   refine dC [] hn hs ?_
   refine xS 161 [4, 5, 6] ?_
   refine jA ?_
   obtain rfl := Option.some.inj h0
   refine mA [] ?_
   exact rG
  ·
   refine oD (ι := { p : Nat × Int × Bool × List UInt8 × Bool × List aA × Nat // vK l1 p.1 p.2.1 p.2.2.1 p.2.2.2.1 p.2.2.2.2.1 p.2.2.2.2.2.1 = some x27 }) (fun p => ⟨[(0, .psl 4 (List.map aA.enc l1)), (7, .ref 64 0 0 0), (8, .sl 96 p.1.2.2.2.2.2.2 4 0 p.1.2.2.2.2.2.1.length), (9, .int .i64 p.1.2.1)], [(64, ⟨0, true, true, 3, [[.bool p.1.2.2.1, .str p.1.2.2.2.1, .bool p.1.2.2.2.2.1]]⟩), (96, ⟨p.1.2.2.2.2.2.2, true, true, 4, List.map aA.enc p.1.2.2.2.2.2.1⟩)], 97, []⟩) (fun p => p.1.1) ⟨(fu, 0, vr4.Some, vr4.Last, vr4.Bottom, [], 0), hxx27⟩ ⟨rF, rE, rfl, rfl, trivial, trivial⟩ (fun _ => Nat.le_refl _) ?_
   rintro ⟨⟨fu, i28, vs29, vs30, vs31, out32, g33⟩, h1⟩
   cases fu with
   | zero =>
   replace h1 : vK l1 0 i28 vs29 vs30 vs31 out32 = some x27 := h1
   rw [vK] at h1; cases h1
   | succ fu =>
    replace h1 : vK l1 (fu + 1) i28 vs29 vs30 vs31 out32 = some x27 := h1
    rw [vK] at h1
    refine (show pA _ _ _ _ ⟨[(0, .psl 4 (List.map aA.enc l1)), (7, .ref 64 0 0 0), (8, .sl 96 g33 4 0 out32.length), (9, .int .i64 i28)], [(64, ⟨0, true, true, 3, [[.bool vs29, .str vs30, .bool vs31]]⟩), (96, ⟨g33, true, true, 4, List.map aA.enc out32⟩)], 97, []⟩ from ?_)
    refine kA ?_
    refine xS 129 [0, 7, 8, 9, 21] ?_
    refine xI h1 rfl (fun h1 hb34 => ?_) (fun h1 hb34 => ?_)
    ·
     refine qA (iA (kA (nC ?_)))
     obtain ⟨e35, he35, h1⟩ := fA h1
     obtain ⟨he35a, he35b, he35c⟩ := dB he35
     obtain ⟨vr36, hvr36, h1⟩ := fA h1
     refine nD 241 [0, 7, 8, 9, 10, 11, 12] (fun | 5 => some (.tup [.bool vr36.1, .agg (fB.enc vr36.2.1), .int .i64 vr36.2.2], []) | _ => none) rfl rfl rfl (fun _ _ => rBd (rA he35a (rA he35b he35c)) (ziC hvr36)) ?_
     refine kA ?_
     refine nA 257 [0, 7, 8, 9, 10, 11, 12, 35] (fun _ => none) rfl (fun _ _ => rS (rA he35a (rA he35b he35c))) ?_
     refine xI h1 rfl (fun h1 hb37 => ?_) (fun h1 hb37 => ?_)
     ·
      refine nA 297 [4, 5, 6] (fun _ => none) rfl (fun _ _ => rS (rA he35a (rA he35b he35c))) ?_
      refine jA ?_
      obtain rfl := Option.some.inj h1
      refine oA (oC (oA (oA (zD (oA ?_)))))
      obtain rfl := Option.some.inj h0
      refine mA [] ?_
      simp (maxSteps := 1000000) only [↓reduceIte, reduceCtorEq, Nat.reduceEqDiff, Nat.reduceLT, Nat.reduceLeDiff, Nat.reduceAdd, Nat.reduceMul, Int.reduceToNat, push_cast, mC, he35a, he35b, he35c]
      all_goals exact rH
     ·
      refine qA (iA (kA ?_))
      refine nA 265 [0, 7, 8, 9, 11, 38] (fun _ => none) rfl (fun _ _ => rS (rA he35a (rA he35b he35c))) ?_
      refine xI h1 rfl (fun h1 hb38 => ?_) (fun h1 hb38 => ?_)
      ·
       obtain ⟨hc39, h1⟩ := pE h1
       refine eC 329 [0, 7, 8, 9, 11] (fun _ => none) rfl (fun _ _ => rS (rA he35a (rA he35b he35c))) ?_
       refine iA ?_
       refine xE ⟨[(0, .psl 4 (List.map aA.enc l1)), (7, .ref 64 0 0 0), (8, .sl 96 (g33 + 1) 4 0 ((out32 ++ [e35]).length)), (9, .int .i64 i28), (11, .ref 209 0 0 0)], [(64, ⟨0, true, true, 3, [[.bool vs29, .str vs30, .bool vs31]]⟩), (96, ⟨(g33 + 1), true, true, 4, List.map aA.enc (out32 ++ [e35])⟩), (209, ⟨0, true, true, 3, [[.bool vr36.2.1.Some, .str vr36.2.1.Last, .bool vr36.2.1.Bottom]]⟩), (305, ⟨0, true, true, 4, List.map aA.enc [e35]⟩)], 329, []⟩ ?_
       refine eC 345 [0, 7, 8, 9] (fun _ => none) rfl (fun _ _ => rS (rA he35a (rA he35b he35c))) ?_
       refine fC (iA ?_)
       refine eC 369 [0, 7, 8, 9] (fun _ => none) rfl (fun _ _ => rS (rA he35a (rA he35b he35c))) ?_
       refine iA ?_
       exact ⟨⟨(fu, (IntKind.i64.wrap (i28 + 1)), vr36.2.1.Some, vr36.2.1.Last, vr36.2.1.Bottom, (out32 ++ [e35]), (g33 + 1)), h1⟩, ⟨rF, rE, rfl, rfl, trivial, trivial⟩, Nat.lt_succ_self _⟩
      ·
       refine qA (iA ?_)
       refine eC 281 [0, 7, 8, 9] (fun _ => none) rfl (fun _ _ => rS (rA he35a (rA he35b he35c))) ?_
       refine fC (iA ?_)
       refine eC 305 [0, 7, 8, 9] (fun _ => none) rfl (fun _ _ => rS (rA he35a (rA he35b he35c))) ?_
       refine iA ?_
       exact ⟨⟨(fu, (IntKind.i64.wrap (i28 + 1)), vr36.2.1.Some, vr36.2.1.Last, vr36.2.1.Bottom, out32, g33), h1⟩, ⟨rF, rE, rfl, rfl, trivial, trivial⟩, Nat.lt_succ_self _⟩
    ·
     refine fD (kB (kB (kD ?_)))
     obtain rfl := Option.some.inj h1
     exact ⟨_, g33, rfl, rL, ⟨rF, rE, rfl, rfl, trivial, trivial⟩⟩
theorem aQ {fu : Nat} {a1 : List aA} {b2 : List aA} {r : Bool} (h0 : qN fu a1 b2 = some r) : jB Try.prog 14 [.psl 4 (a1.map aA.enc), .psl 4 (b2.map aA.enc)] (.bool r) [] := by
 refine tB Try.func14 rfl (by decide) rL ?_
 dsimp only [Try.f14]
 rw [qN] at h0
 refine (show pA _ _ _ _ ⟨iB 0 _, [], 0, []⟩ from ?_)
 refine xS 8 [0, 1] ?_
 refine kA ?_
 refine xS 16 [0, 1, 5] ?_
 obtain ⟨x16, hxx16, h0⟩ := fA h0
 refine sD (fun s' => ∃ o24 : Unit, x16 = .inl o24 ∧ s'.nx ≤ 96 ∧ LeN [] s' ⟨[(0, .psl 4 (List.map aA.enc a1)), (1, .psl 4 (List.map aA.enc b2))], [], 96, []⟩) ?_ ?_
 ·
  intro s' hs
  obtain ⟨o24, rfl, hn, hs⟩ := hs
  refine iA ?_
  refine dC [] hn hs ?_
  refine xS 144 [4] ?_
  refine jA ?_
  obtain rfl := Option.some.inj h0
  refine mA [] ?_
  exact rG
 ·
  refine oD (ι := { p : Nat × Int // jN a1 b2 p.1 p.2 = some x16 }) (fun p => ⟨[(0, .psl 4 (List.map aA.enc a1)), (1, .psl 4 (List.map aA.enc b2)), (5, .int .i64 p.1.2)], [], 16, []⟩) (fun p => p.1.1) ⟨(fu, 0), hxx16⟩ ⟨rF, rE, rfl, rfl, trivial, trivial⟩ (fun _ => Nat.le_refl _) ?_
  rintro ⟨⟨fu, i17⟩, h1⟩
  cases fu with
  | zero =>
   replace h1 : jN a1 b2 0 i17 = some x16 := h1
   rw [jN] at h1; cases h1
  | succ fu =>
   replace h1 : jN a1 b2 (fu + 1) i17 = some x16 := h1
   rw [jN] at h1
   refine (show pA _ _ _ _ ⟨[(0, .psl 4 (List.map aA.enc a1)), (1, .psl 4 (List.map aA.enc b2)), (5, .int .i64 i17)], [], 16, []⟩ from ?_)
   refine kA ?_
   obtain ⟨b18, hb18, h1⟩ := fA h1
   refine eD (fr' := [(0, .psl 4 (List.map aA.enc a1)), (1, .psl 4 (List.map aA.enc b2)), (5, .int .i64 i17), (15, .bool b18)]) (hp' := []) [] 96 [0, 1, 5, 15] (fun _ => none) rfl (fun Kt hK => by
     cases hg19 : (decide (i17 < (a1.length : Int))) with
     | false =>
      replace hb18 := vA hb18 hg19
      have hqb18 := Option.some.inj hb18
      subst hqb18
      simp (maxSteps := 1000000) only [↓reduceIte, reduceCtorEq, Nat.reduceEqDiff, Nat.reduceLT, Nat.reduceLeDiff, Nat.reduceAdd, Nat.reduceMul, Int.reduceToNat, push_cast, ↓hg19]
      try simp only [↓hg19] at hK
      all_goals exact rU
     | true =>
      replace hb18 := lB hb18 hg19
      have hqb18 := Option.some.inj hb18
      subst hqb18
      simp (maxSteps := 1000000) only [↓reduceIte, reduceCtorEq, Nat.reduceEqDiff, Nat.reduceLT, Nat.reduceLeDiff, Nat.reduceAdd, Nat.reduceMul, Int.reduceToNat, push_cast, ↓hg19]
      try simp only [↓hg19] at hK
      all_goals exact rU) ?_
   refine xI h1 rfl (fun h1 hb20 => ?_) (fun h1 hb20 => ?_)
   ·
    refine qA (iA (kA (nC ?_)))
    obtain ⟨e21, he21, h1⟩ := fA h1
    obtain ⟨he21a, he21b, he21c⟩ := dB he21
    obtain ⟨e22, he22, h1⟩ := fA h1
    obtain ⟨he22a, he22b, he22c⟩ := dB he22
    refine nD 168 [0, 1, 5, 26] (fun _ => none) rfl rfl rfl (fun _ _ => jF (rA he21a (rA he21b (rA he21c (rA he22a (rA he22b he22c)))))) ?_
    refine xI h1 rfl (fun h1 hb23 => ?_) (fun h1 hb23 => ?_)
    ·
     refine nA 176 [4] (fun _ => none) rfl (fun _ _ => rS (rA he21a (rA he21b (rA he21c (rA he22a (rA he22b he22c)))))) ?_
     refine jA ?_
     obtain rfl := Option.some.inj h1
     refine oC (oA (oA (zD (oA ?_))))
     obtain rfl := Option.some.inj h0
     refine mA [] ?_
     simp (maxSteps := 1000000) only [↓reduceIte, reduceCtorEq, Nat.reduceEqDiff, Nat.reduceLT, Nat.reduceLeDiff, Nat.reduceAdd, Nat.reduceMul, Int.reduceToNat, push_cast, mC, he21a, he21b, he21c, he22a, he22b, he22c]
     all_goals exact rH
    ·
     refine qA (fC (iA ?_))
     refine eC 192 [0, 1, 5] (fun _ => none) rfl (fun _ _ => rS (rA he21a (rA he21b (rA he21c (rA he22a (rA he22b he22c)))))) ?_
     refine iA ?_
     exact ⟨⟨(fu, (IntKind.i64.wrap (i17 + 1))), h1⟩, ⟨rF, rE, rfl, rfl, trivial, trivial⟩, Nat.lt_succ_self _⟩
   ·
    refine fD (kB (kB (kD ?_)))
    obtain rfl := Option.some.inj h1
    exact ⟨_, rfl, rL, ⟨rF, rE, rfl, rfl, trivial, trivial⟩⟩
theorem zjN {fu : Nat} {l1 : yA} {level2 : Int} {cuts3 : List Int} {r : Bool} (h0 : mY fu l1 level2 cuts3 = some r) : jB Try.prog 3 [.agg (yA.enc l1), .int .i64 level2, .psl 1 (cuts3.map (dA .u8))] (.bool r) [] := by
 refine tB Try.func3 rfl (by decide) rL ?_
 dsimp only [Try.f3]
 rw [mY] at h0
 refine (show pA _ _ _ _ ⟨iB 0 _, [], 0, []⟩ from ?_)
 refine xS 16 [1, 2, 3] ?_
 refine kA ?_
 obtain ⟨vr4, hvr4, h0⟩ := fA h0
 obtain ⟨b5, hb5, h0⟩ := fA h0
 refine eD (fr' := [(1, .int .i64 level2), (2, .psl 1 (List.map (dA .u8) cuts3)), (3, .ref 0 0 0 0), (30, .bool b5)]) (hp' := [(0, ⟨0, true, true, 2, [[.int .i64 l1.B, .psl 1 (List.map tA.enc l1.Levels)]]⟩)]) [0] 72 [1, 2, 3, 30] (fun | 1 => some (.bool vr4, []) | _ => none) rfl (fun Kt hK => by
   cases vr4 with
   | false =>
    replace hb5 := vA hb5 rfl
    have hqb5 := Option.some.inj hb5
    subst hqb5
    try have q0 := zcK hvr4
    exact rT
   | true =>
    replace hb5 := lB hb5 rfl
    have hqb5 := Option.some.inj hb5
    subst hqb5
    try have q0 := zcK hvr4
    exact rT) ?_
 refine xI h0 rfl (fun h0 hb7 => ?_) (fun h0 hb7 => ?_)
 ·
  obtain ⟨vr8, hvr8, h0⟩ := fA h0
  refine nA 88 [6] (fun | 0 => some (.bool vr8, []) | _ => none) rfl (fun _ _ => rC (rK hvr8)) ?_
  refine jA (oA ?_)
  obtain rfl := Option.some.inj h0
  refine mA [] ?_
  exact rG
 ·
  refine qA (iA ?_)
  obtain ⟨vr9, hvr9, h0⟩ := fA h0
  refine nA 136 [1, 2, 3, 7, 8] (fun | 1 => some (.tup [.agg (oB.enc vr9.1), .int .i64 vr9.2], []) | _ => none) rfl (fun _ _ => rC (zbP hvr9)) ?_
  refine kA ?_
  refine xS 152 [1, 2, 3, 7, 38] ?_
  refine xI h0 rfl (fun h0 hb10 => ?_) (fun h0 hb10 => ?_)
  ·
   obtain ⟨vr11, hvr11, h0⟩ := fA h0
   refine nA 168 [6] (fun | 0 => some (.bool vr11, []) | _ => none) rfl (fun _ _ => rC (rK hvr11)) ?_
   refine jA (oA ?_)
   obtain rfl := Option.some.inj h0
   refine mA [] ?_
   exact rG
  ·
   refine qA (iA ?_)
   obtain ⟨vr12, hvr12, h0⟩ := fA h0
   refine nA 216 [1, 2, 3, 7, 8, 9] (fun | 2 => some (.tup [.int .i64 vr12.1, .int .i64 vr12.2], []) | _ => none) rfl (fun _ _ => rC (rZ hvr12)) ?_
   refine kA ?_
   refine xS 232 [1, 2, 3, 7, 9, 47] ?_
   refine xI h0 rfl (fun h0 hb13 => ?_) (fun h0 hb13 => ?_)
   ·
    obtain ⟨vr14, hvr14, h0⟩ := fA h0
    refine nA 248 [6] (fun | 0 => some (.bool vr14, []) | _ => none) rfl (fun _ _ => rC (rK hvr14)) ?_
    refine jA (oA ?_)
    obtain rfl := Option.some.inj h0
    refine mA [] ?_
    exact rG
   ·
    refine qA (iA ?_)
    obtain ⟨e15, he15, h0⟩ := fA h0
    obtain ⟨he15a, he15b, he15c⟩ := dB he15
    refine nA 288 [1, 2, 3, 7, 9, 10] (fun _ => none) rfl (fun _ _ => rS (rA he15a (rA he15b he15c))) ?_
    obtain ⟨e16, he16, h0⟩ := fA h0
    have he16b := (dB he16).2.1
    have he16c := (kG 1 he16 rfl).1
    have he16a := (kG 1 he16 rfl).2
    obtain ⟨e17, he17, h0⟩ := fA h0
    have he17b := (dB he17).2.1
    have he17c := (kG 0 he17 rfl).1
    have he17a := (kG 0 he17 rfl).2
    obtain ⟨vr18, hvr18, h0⟩ := fA h0
    refine nD 424 [1, 2, 3, 7, 8, 9, 11] (fun | 9 => some (.tup [.psl 4 (vr18.1.map aA.enc), .psl 1 (vr18.2.1.map (dA .i64)), .int .i64 vr18.2.2], []) | _ => none) rfl rfl rfl (fun _ _ => rBd (rA he15a (rA he15b (rA he15c (rA he16a (rA he16b (rA he16c (rA he17a (rA he17b he17c)))))))) (zf6 hvr18)) ?_
    refine xE ⟨[(1, .int .i64 level2), (2, .psl 1 (List.map (dA .u8) cuts3)), (3, .ref 0 0 0 0), (7, .ref 112 0 0 0), (8, .int .i64 vr18.2.2), (9, .int .i64 vr12.1), (11, .psl 4 (List.map aA.enc vr18.1))], [(0, ⟨0, true, true, 2, [[.int .i64 l1.B, .psl 1 (List.map tA.enc l1.Levels)]]⟩), (112, ⟨0, true, true, 4, [[.int .i64 vr9.1.Levels.B, .psl 1 (List.map tA.enc vr9.1.Levels.Levels), .psl 11 (List.map bB.enc vr9.1.Jobs), .int .i64 vr9.1.NextId]]⟩), (352, ⟨0, false, true, 1, List.map (sA 4 aA.enc) [e16.Entries, e17.Entries]⟩)], 424, []⟩ ?_
    obtain ⟨vr19, hvr19, h0⟩ := fA h0
    refine nA 544 [1, 2, 7, 8, 9, 11, 13, 15] (fun | 7 => some (.tup [.psl 4 (vr19.1.map aA.enc), .int .i64 vr19.2.1, .int .i64 vr19.2.2], []) | _ => none) rfl (fun _ _ => rB (rA he15a (rA he15b (rA he15c (rA he16a (rA he16b (rA he16c (rA he17a (rA he17b he17c)))))))) (zjF hvr19)) ?_
    refine kA ?_
    obtain ⟨b20, hb20, h0⟩ := fA h0
    obtain ⟨b21, hb21, h0⟩ := fA h0
    refine eD (fr' := [(1, .int .i64 level2), (2, .psl 1 (List.map (dA .u8) cuts3)), (7, .ref 112 0 0 0), (9, .int .i64 vr12.1), (13, .psl 4 (List.map aA.enc vr19.1)), (92, .bool b21)]) (hp' := [(0, ⟨0, true, true, 2, [[.int .i64 l1.B, .psl 1 (List.map tA.enc l1.Levels)]]⟩), (112, ⟨0, true, true, 4, [[.int .i64 vr9.1.Levels.B, .psl 1 (List.map tA.enc vr9.1.Levels.Levels), .psl 11 (List.map bB.enc vr9.1.Jobs), .int .i64 vr9.1.NextId]]⟩), (352, ⟨0, false, true, 1, List.map (sA 4 aA.enc) [e16.Entries, e17.Entries]⟩)]) [0, 112, 352] 640 [1, 2, 7, 9, 13, 92] (fun _ => none) rfl (fun Kt hK => by
      cases hg22 : (!(decide (vr18.2.2 = 0))) with
      | false =>
       replace hb20 := vA hb20 hg22
       have hqb20 := Option.some.inj hb20
       cases b20 with
       | false =>
        replace hb21 := vA hb21 rfl
        have hqb21 := Option.some.inj hb21
        subst hqb21
        simp (maxSteps := 1000000) only [↓reduceIte, reduceCtorEq, Nat.reduceEqDiff, Nat.reduceLT, Nat.reduceLeDiff, Nat.reduceAdd, Nat.reduceMul, Int.reduceToNat, push_cast, he15a, he15b, he15c, he16a, he16b, he16c, he17a, he17b, he17c, ↓hg22, ↓hqb20]
        try simp only [↓hg22, ↓hqb20] at hK
        all_goals exact rU
       | true =>
        replace hb21 := lB hb21 rfl
        have hqb21 := Option.some.inj hb21
        subst hqb21
        simp (maxSteps := 1000000) only [↓reduceIte, reduceCtorEq, Nat.reduceEqDiff, Nat.reduceLT, Nat.reduceLeDiff, Nat.reduceAdd, Nat.reduceMul, Int.reduceToNat, push_cast, he15a, he15b, he15c, he16a, he16b, he16c, he17a, he17b, he17c, ↓hg22, ↓hqb20]
        try simp only [↓hg22, ↓hqb20] at hK
        all_goals exact rU
      | true =>
       replace hb20 := lB hb20 hg22
       have hqb20 := Option.some.inj hb20
       cases b20 with
       | false =>
        cases hqb20
       | true =>
        replace hb21 := lB hb21 rfl
        have hqb21 := Option.some.inj hb21
        subst hqb21
        simp (maxSteps := 1000000) only [↓reduceIte, reduceCtorEq, Nat.reduceEqDiff, Nat.reduceLT, Nat.reduceLeDiff, Nat.reduceAdd, Nat.reduceMul, Int.reduceToNat, push_cast, he15a, he15b, he15c, he16a, he16b, he16c, he17a, he17b, he17c, ↓hg22]
        try simp only [↓hg22] at hK
        all_goals exact rU) ?_
    refine xI h0 rfl (fun h0 hb25 => ?_) (fun h0 hb25 => ?_)
    ·
     refine nA 648 [6] (fun _ => none) rfl (fun _ _ => rS (rA he15a (rA he15b (rA he15c (rA he16a (rA he16b (rA he16c (rA he17a (rA he17b he17c))))))))) ?_
     refine jA (oA ?_)
     obtain rfl := Option.some.inj h0
     refine mA [] ?_
     simp (maxSteps := 1000000) only [↓reduceIte, reduceCtorEq, Nat.reduceEqDiff, Nat.reduceLT, Nat.reduceLeDiff, Nat.reduceAdd, Nat.reduceMul, Int.reduceToNat, push_cast, mC, he15a, he15b, he15c, he16a, he16b, he16c, he17a, he17b, he17c]
     all_goals exact rH
    ·
     refine qA (iA (kA ?_))
     refine nA 648 [1, 2, 7, 9, 13, 16] (fun _ => none) rfl (fun _ _ => rS (rA he15a (rA he15b (rA he15c (rA he16a (rA he16b (rA he16c (rA he17a (rA he17b he17c))))))))) ?_
     obtain ⟨x48, hxx48, h0⟩ := fA h0
     refine sD (fun s' => ∃ o63 : Int × Int × List tA × List bB × Int, x48 = .inl o63 ∧ s'.nx ≤ 712 ∧ LeN [] s' ⟨[(1, .int .i64 level2), (7, .ref 112 0 0 0), (9, .int .i64 o63.1), (13, .psl 4 (List.map aA.enc vr19.1))], [(0, ⟨0, true, true, 2, [[.int .i64 l1.B, .psl 1 (List.map tA.enc l1.Levels)]]⟩), (112, ⟨0, true, true, 4, [[.int .i64 o63.2.1, .psl 1 (List.map tA.enc o63.2.2.1), .psl 11 (List.map bB.enc o63.2.2.2.1), .int .i64 o63.2.2.2.2]]⟩), (352, ⟨0, false, true, 1, List.map (sA 4 aA.enc) [e16.Entries, e17.Entries]⟩)], 712, []⟩) ?_ ?_
     ·
      intro s' hs
      obtain ⟨o63, rfl, hn, hs⟩ := hs
      refine iA ?_
      refine dC [] hn hs ?_
      refine kA ?_
      refine nA 728 [1, 7, 9, 13, 135] (fun _ => none) rfl (fun _ _ => rS (rA he15a (rA he15b (rA he15c (rA he16a (rA he16b (rA he16c (rA he17a (rA he17b he17c))))))))) ?_
      refine xI h0 rfl (fun h0 hb64 => ?_) (fun h0 hb64 => ?_)
      ·
       obtain ⟨vr65, hvr65, h0⟩ := fA h0
       refine nA 832 [1, 7, 9, 13, 20, 21, 22] (fun | 4 => some (.tup [.agg (oB.enc vr65.1), .int .i64 vr65.2.1, .int .i64 vr65.2.2], []) | _ => none) rfl (fun _ _ => rB (rA he15a (rA he15b (rA he15c (rA he16a (rA he16b (rA he16c (rA he17a (rA he17b he17c)))))))) (vW hvr65)) ?_
       refine kA ?_
       obtain ⟨b66, hb66, h0⟩ := fA h0
       refine eD (fr' := [(1, .int .i64 level2), (7, .ref 112 0 0 0), (13, .psl 4 (List.map aA.enc vr19.1)), (20, .ref 800 0 0 0), (151, .bool b66)]) (hp' := [(0, ⟨0, true, true, 2, [[.int .i64 l1.B, .psl 1 (List.map tA.enc l1.Levels)]]⟩), (112, ⟨0, true, true, 4, [[.int .i64 o63.2.1, .psl 1 (List.map tA.enc o63.2.2.1), .psl 11 (List.map bB.enc o63.2.2.2.1), .int .i64 o63.2.2.2.2]]⟩), (352, ⟨0, false, true, 1, List.map (sA 4 aA.enc) [e16.Entries, e17.Entries]⟩), (800, ⟨0, true, true, 4, [[.int .i64 vr65.1.Levels.B, .psl 1 (List.map tA.enc vr65.1.Levels.Levels), .psl 11 (List.map bB.enc vr65.1.Jobs), .int .i64 vr65.1.NextId]]⟩)]) [0, 112, 352, 800] 888 [1, 7, 13, 20, 151] (fun _ => none) rfl (fun Kt hK => by
         cases hg67 : (!(decide (vr65.2.2 = 0))) with
         | false =>
          replace hb66 := vA hb66 hg67
          have hqb66 := Option.some.inj hb66
          subst hqb66
          simp (maxSteps := 1000000) only [↓reduceIte, reduceCtorEq, Nat.reduceEqDiff, Nat.reduceLT, Nat.reduceLeDiff, Nat.reduceAdd, Nat.reduceMul, Int.reduceToNat, push_cast, he15a, he15b, he15c, he16a, he16b, he16c, he17a, he17b, he17c, ↓hg67]
          try simp only [↓hg67] at hK
          all_goals exact rU
         | true =>
          replace hb66 := lB hb66 hg67
          have hqb66 := Option.some.inj hb66
          subst hqb66
          simp (maxSteps := 1000000) only [↓reduceIte, reduceCtorEq, Nat.reduceEqDiff, Nat.reduceLT, Nat.reduceLeDiff, Nat.reduceAdd, Nat.reduceMul, Int.reduceToNat, push_cast, he15a, he15b, he15c, he16a, he16b, he16c, he17a, he17b, he17c, ↓hg67]
          try simp only [↓hg67] at hK
          all_goals exact rU) ?_
       refine xI h0 rfl (fun h0 hb68 => ?_) (fun h0 hb68 => ?_)
       ·
        refine nA 896 [6] (fun _ => none) rfl (fun _ _ => rS (rA he15a (rA he15b (rA he15c (rA he16a (rA he16b (rA he16c (rA he17a (rA he17b he17c))))))))) ?_
        refine jA (oA (oA ?_))
        obtain rfl := Option.some.inj h0
        refine mA [] ?_
        simp (maxSteps := 1000000) only [↓reduceIte, reduceCtorEq, Nat.reduceEqDiff, Nat.reduceLT, Nat.reduceLeDiff, Nat.reduceAdd, Nat.reduceMul, Int.reduceToNat, push_cast, mC, he15a, he15b, he15c, he16a, he16b, he16c, he17a, he17b, he17c]
        all_goals exact rH
       ·
        refine qA (iA ?_)
        refine eC 904 [1, 7, 13] (fun _ => none) rfl (fun _ _ => rS (rA he15a (rA he15b (rA he15c (rA he16a (rA he16b (rA he16c (rA he17a (rA he17b he17c))))))))) ?_
        refine iA ?_
        obtain ⟨vr69, hvr69, h0⟩ := fA h0
        refine nA 968 [7, 8, 13, 23] (fun | 2 => some (.tup [.int .i64 vr69.1, .int .i64 vr69.2], []) | _ => none) rfl (fun _ _ => rB (rA he15a (rA he15b (rA he15c (rA he16a (rA he16b (rA he16c (rA he17a (rA he17b he17c)))))))) (zW hvr69)) ?_
        obtain ⟨b70, hb70, h0⟩ := fA h0
        obtain ⟨b73, hb73, h0⟩ := fA h0
        obtain ⟨b75, hb75, h0⟩ := fA h0
        refine eD (fr' := [(6, .bool b75)]) (hp' := [(0, ⟨0, true, true, 2, [[.int .i64 l1.B, .psl 1 (List.map tA.enc l1.Levels)]]⟩), (112, ⟨0, true, true, 4, [[.int .i64 vr65.1.Levels.B, .psl 1 (List.map tA.enc vr65.1.Levels.Levels), .psl 11 (List.map bB.enc vr65.1.Jobs), .int .i64 vr65.1.NextId]]⟩), (352, ⟨0, false, true, 1, List.map (sA 4 aA.enc) [e16.Entries, e17.Entries]⟩), (800, ⟨0, true, true, 4, [[.int .i64 vr65.1.Levels.B, .psl 1 (List.map tA.enc vr65.1.Levels.Levels), .psl 11 (List.map bB.enc vr65.1.Jobs), .int .i64 vr65.1.NextId]]⟩)]) [0, 112, 352, 800] 1160 [6] (fun | 18 => (ix vr65.1.Jobs vr69.1).bind fun e71 => (qN fu e71.Work.Out vr19.1).bind fun vr72 => some (.bool vr72, []) | 21 => (zH fu).bind fun vr74 => some (.bool vr74, []) | _ => none) rfl (fun Kt hK => by
          cases hg76 : (decide (vr69.2 = 0)) with
          | false =>
           replace hb70 := vA hb70 hg76
           have hqb70 := Option.some.inj hb70
           cases b70 with
           | false =>
            replace hb73 := vA hb73 rfl
            have hqb73 := Option.some.inj hb73
            cases b73 with
            | false =>
             replace hb75 := vA hb75 rfl
             have hqb75 := Option.some.inj hb75
             subst hqb75
             simp (maxSteps := 1000000) only [↓reduceIte, reduceCtorEq, Nat.reduceEqDiff, Nat.reduceLT, Nat.reduceLeDiff, Nat.reduceAdd, Nat.reduceMul, Int.reduceToNat, push_cast, he15a, he15b, he15c, he16a, he16b, he16c, he17a, he17b, he17c, ↓hg76]
             try simp only [↓hg76] at hK
             try have q0 := aQ hvr72
             try have q1 := rK hvr74
             all_goals exact rU
            | true =>
             cases hqb73
           | true =>
            cases hqb70
          | true =>
           replace hb70 := lB hb70 hg76
           have hqb70 := Option.some.inj hb70
           cases b70 with
           | false =>
            replace hb73 := vA hb73 rfl
            have hqb73 := Option.some.inj hb73
            cases b73 with
            | false =>
             replace hb75 := vA hb75 rfl
             have hqb75 := Option.some.inj hb75
             subst hqb75
             simp (maxSteps := 1000000) only [↓reduceIte, reduceCtorEq, Nat.reduceEqDiff, Nat.reduceLT, Nat.reduceLeDiff, Nat.reduceAdd, Nat.reduceMul, Int.reduceToNat, push_cast, he15a, he15b, he15c, he16a, he16b, he16c, he17a, he17b, he17c, ↓hg76, ↓hqb70]
             try simp only [↓hg76, ↓hqb70] at hK
             try have q0 := aQ hvr72
             try have q1 := rK hvr74
             all_goals exact rU
            | true =>
             cases hqb73
           | true =>
            replace hb73 := lB hb73 rfl
            obtain ⟨e71, he71, hb73⟩ := fA hb73
            obtain ⟨he71a, he71b, he71c⟩ := dB he71
            obtain ⟨vr72, hvr72, hb73⟩ := fA hb73
            have hqb73 := Option.some.inj hb73
            cases b73 with
            | false =>
             subst hqb73
             replace hb75 := vA hb75 rfl
             have hqb75 := Option.some.inj hb75
             subst hqb75
             simp (maxSteps := 1000000) only [↓reduceIte, reduceCtorEq, Nat.reduceEqDiff, Nat.reduceLT, Nat.reduceLeDiff, Nat.reduceAdd, Nat.reduceMul, Int.reduceToNat, push_cast, he15a, he15b, he15c, he16a, he16b, he16c, he17a, he17b, he17c, ↓hg76, ↓hqb70, he71a, he71b, he71c, he71, hvr72]
             try simp only [↓hg76, ↓hqb70] at hK
             try have q0 := aQ hvr72
             try have q1 := rK hvr74
             all_goals exact rU
            | true =>
             subst hqb73
             replace hb75 := lB hb75 rfl
             obtain ⟨vr74, hvr74, hb75⟩ := fA hb75
             have hqb75 := Option.some.inj hb75
             subst hqb75
             simp (maxSteps := 1000000) only [↓reduceIte, reduceCtorEq, Nat.reduceEqDiff, Nat.reduceLT, Nat.reduceLeDiff, Nat.reduceAdd, Nat.reduceMul, Int.reduceToNat, push_cast, he15a, he15b, he15c, he16a, he16b, he16c, he17a, he17b, he17c, ↓hg76, ↓hqb70, he71a, he71b, he71c, he71, hvr72, hvr74]
             try simp only [↓hg76, ↓hqb70] at hK
             try have q0 := aQ hvr72
             try have q1 := rK hvr74
             all_goals exact rU) ?_
        refine jA ?_
        obtain rfl := Option.some.inj h0
        refine mA [] ?_
        simp (maxSteps := 1000000) only [↓reduceIte, reduceCtorEq, Nat.reduceEqDiff, Nat.reduceLT, Nat.reduceLeDiff, Nat.reduceAdd, Nat.reduceMul, Int.reduceToNat, push_cast, mC, he15a, he15b, he15c, he16a, he16b, he16c, he17a, he17b, he17c]
        all_goals exact rH
      ·
       refine qA (iA ?_)
       obtain ⟨vr82, hvr82, h0⟩ := fA h0
       refine nA 792 [7, 8, 13, 23] (fun | 2 => some (.tup [.int .i64 vr82.1, .int .i64 vr82.2], []) | _ => none) rfl (fun _ _ => rB (rA he15a (rA he15b (rA he15c (rA he16a (rA he16b (rA he16c (rA he17a (rA he17b he17c)))))))) (zW hvr82)) ?_
       obtain ⟨b83, hb83, h0⟩ := fA h0
       obtain ⟨b86, hb86, h0⟩ := fA h0
       obtain ⟨b88, hb88, h0⟩ := fA h0
       refine eD (fr' := [(6, .bool b88)]) (hp' := [(0, ⟨0, true, true, 2, [[.int .i64 l1.B, .psl 1 (List.map tA.enc l1.Levels)]]⟩), (112, ⟨0, true, true, 4, [[.int .i64 o63.2.1, .psl 1 (List.map tA.enc o63.2.2.1), .psl 11 (List.map bB.enc o63.2.2.2.1), .int .i64 o63.2.2.2.2]]⟩), (352, ⟨0, false, true, 1, List.map (sA 4 aA.enc) [e16.Entries, e17.Entries]⟩)]) [0, 112, 352] 984 [6] (fun | 18 => (ix o63.2.2.2.1 vr82.1).bind fun e84 => (qN fu e84.Work.Out vr19.1).bind fun vr85 => some (.bool vr85, []) | 21 => (zH fu).bind fun vr87 => some (.bool vr87, []) | _ => none) rfl (fun Kt hK => by
         cases hg89 : (decide (vr82.2 = 0)) with
         | false =>
          replace hb83 := vA hb83 hg89
          have hqb83 := Option.some.inj hb83
          cases b83 with
          | false =>
           replace hb86 := vA hb86 rfl
           have hqb86 := Option.some.inj hb86
           cases b86 with
           | false =>
            replace hb88 := vA hb88 rfl
            have hqb88 := Option.some.inj hb88
            subst hqb88
            simp (maxSteps := 1000000) only [↓reduceIte, reduceCtorEq, Nat.reduceEqDiff, Nat.reduceLT, Nat.reduceLeDiff, Nat.reduceAdd, Nat.reduceMul, Int.reduceToNat, push_cast, he15a, he15b, he15c, he16a, he16b, he16c, he17a, he17b, he17c, ↓hg89]
            try simp only [↓hg89] at hK
            try have q0 := aQ hvr85
            try have q1 := rK hvr87
            all_goals exact rU
           | true =>
            cases hqb86
          | true =>
           cases hqb83
         | true =>
          replace hb83 := lB hb83 hg89
          have hqb83 := Option.some.inj hb83
          cases b83 with
          | false =>
           replace hb86 := vA hb86 rfl
           have hqb86 := Option.some.inj hb86
           cases b86 with
           | false =>
            replace hb88 := vA hb88 rfl
            have hqb88 := Option.some.inj hb88
            subst hqb88
            simp (maxSteps := 1000000) only [↓reduceIte, reduceCtorEq, Nat.reduceEqDiff, Nat.reduceLT, Nat.reduceLeDiff, Nat.reduceAdd, Nat.reduceMul, Int.reduceToNat, push_cast, he15a, he15b, he15c, he16a, he16b, he16c, he17a, he17b, he17c, ↓hg89, ↓hqb83]
            try simp only [↓hg89, ↓hqb83] at hK
            try have q0 := aQ hvr85
            try have q1 := rK hvr87
            all_goals exact rU
           | true =>
            cases hqb86
          | true =>
           replace hb86 := lB hb86 rfl
           obtain ⟨e84, he84, hb86⟩ := fA hb86
           obtain ⟨he84a, he84b, he84c⟩ := dB he84
           obtain ⟨vr85, hvr85, hb86⟩ := fA hb86
           have hqb86 := Option.some.inj hb86
           cases b86 with
           | false =>
            subst hqb86
            replace hb88 := vA hb88 rfl
            have hqb88 := Option.some.inj hb88
            subst hqb88
            simp (maxSteps := 1000000) only [↓reduceIte, reduceCtorEq, Nat.reduceEqDiff, Nat.reduceLT, Nat.reduceLeDiff, Nat.reduceAdd, Nat.reduceMul, Int.reduceToNat, push_cast, he15a, he15b, he15c, he16a, he16b, he16c, he17a, he17b, he17c, ↓hg89, ↓hqb83, he84a, he84b, he84c, he84, hvr85]
            try simp only [↓hg89, ↓hqb83] at hK
            try have q0 := aQ hvr85
            try have q1 := rK hvr87
            all_goals exact rU
           | true =>
            subst hqb86
            replace hb88 := lB hb88 rfl
            obtain ⟨vr87, hvr87, hb88⟩ := fA hb88
            have hqb88 := Option.some.inj hb88
            subst hqb88
            simp (maxSteps := 1000000) only [↓reduceIte, reduceCtorEq, Nat.reduceEqDiff, Nat.reduceLT, Nat.reduceLeDiff, Nat.reduceAdd, Nat.reduceMul, Int.reduceToNat, push_cast, he15a, he15b, he15c, he16a, he16b, he16c, he17a, he17b, he17c, ↓hg89, ↓hqb83, he84a, he84b, he84c, he84, hvr85, hvr87]
            try simp only [↓hg89, ↓hqb83] at hK
            try have q0 := aQ hvr85
            try have q1 := rK hvr87
            all_goals exact rU) ?_
       refine jA ?_
       obtain rfl := Option.some.inj h0
       refine mA [] ?_
       simp (maxSteps := 1000000) only [↓reduceIte, reduceCtorEq, Nat.reduceEqDiff, Nat.reduceLT, Nat.reduceLeDiff, Nat.reduceAdd, Nat.reduceMul, Int.reduceToNat, push_cast, mC, he15a, he15b, he15c, he16a, he16b, he16c, he17a, he17b, he17c]
       all_goals exact rH
     ·
      refine oD (ι := { p : Nat × Int × Int × Int × List tA × List bB × Int // dL cuts3 level2 p.1 p.2.1 p.2.2.1 p.2.2.2.1 p.2.2.2.2.1 p.2.2.2.2.2.1 p.2.2.2.2.2.2 = some x48 }) (fun p => ⟨[(1, .int .i64 level2), (2, .psl 1 (List.map (dA .u8) cuts3)), (7, .ref 112 0 0 0), (9, .int .i64 p.1.2.1), (13, .psl 4 (List.map aA.enc vr19.1)), (16, .int .i64 p.1.2.2.1)], [(0, ⟨0, true, true, 2, [[.int .i64 l1.B, .psl 1 (List.map tA.enc l1.Levels)]]⟩), (112, ⟨0, true, true, 4, [[.int .i64 p.1.2.2.2.1, .psl 1 (List.map tA.enc p.1.2.2.2.2.1), .psl 11 (List.map bB.enc p.1.2.2.2.2.2.1), .int .i64 p.1.2.2.2.2.2.2]]⟩), (352, ⟨0, false, true, 1, List.map (sA 4 aA.enc) [e16.Entries, e17.Entries]⟩)], 648, []⟩) (fun p => p.1.1) ⟨(fu, vr12.1, 0, vr9.1.Levels.B, vr9.1.Levels.Levels, vr9.1.Jobs, vr9.1.NextId), hxx48⟩ ⟨rF, rE, rfl, rfl, trivial, trivial⟩ (fun _ => Nat.le_refl _) ?_
      rintro ⟨⟨fu, n49, i50, vs51, vs52, vs53, vs54⟩, h1⟩
      cases fu with
      | zero =>
   replace h1 : dL cuts3 level2 0 n49 i50 vs51 vs52 vs53 vs54 = some x48 := h1
   rw [dL] at h1; cases h1
      | succ fu =>
       replace h1 : dL cuts3 level2 (fu + 1) n49 i50 vs51 vs52 vs53 vs54 = some x48 := h1
       rw [dL] at h1
       refine (show pA _ _ _ _ ⟨[(1, .int .i64 level2), (2, .psl 1 (List.map (dA .u8) cuts3)), (7, .ref 112 0 0 0), (9, .int .i64 n49), (13, .psl 4 (List.map aA.enc vr19.1)), (16, .int .i64 i50)], [(0, ⟨0, true, true, 2, [[.int .i64 l1.B, .psl 1 (List.map tA.enc l1.Levels)]]⟩), (112, ⟨0, true, true, 4, [[.int .i64 vs51, .psl 1 (List.map tA.enc vs52), .psl 11 (List.map bB.enc vs53), .int .i64 vs54]]⟩), (352, ⟨0, false, true, 1, List.map (sA 4 aA.enc) [e16.Entries, e17.Entries]⟩)], 648, []⟩ from ?_)
       refine kA ?_
       obtain ⟨b55, hb55, h1⟩ := fA h1
       refine eD (fr' := [(1, .int .i64 level2), (2, .psl 1 (List.map (dA .u8) cuts3)), (7, .ref 112 0 0 0), (9, .int .i64 n49), (13, .psl 4 (List.map aA.enc vr19.1)), (16, .int .i64 i50), (100, .bool b55)]) (hp' := [(0, ⟨0, true, true, 2, [[.int .i64 l1.B, .psl 1 (List.map tA.enc l1.Levels)]]⟩), (112, ⟨0, true, true, 4, [[.int .i64 vs51, .psl 1 (List.map tA.enc vs52), .psl 11 (List.map bB.enc vs53), .int .i64 vs54]]⟩), (352, ⟨0, false, true, 1, List.map (sA 4 aA.enc) [e16.Entries, e17.Entries]⟩)]) [0, 112, 352] 712 [1, 2, 7, 9, 13, 16, 100] (fun _ => none) rfl (fun Kt hK => by
         cases hg56 : (decide (i50 < (cuts3.length : Int))) with
         | false =>
          replace hb55 := vA hb55 hg56
          have hqb55 := Option.some.inj hb55
          subst hqb55
          simp (maxSteps := 1000000) only [↓reduceIte, reduceCtorEq, Nat.reduceEqDiff, Nat.reduceLT, Nat.reduceLeDiff, Nat.reduceAdd, Nat.reduceMul, Int.reduceToNat, push_cast, he15a, he15b, he15c, he16a, he16b, he16c, he17a, he17b, he17c, ↓hg56]
          try simp only [↓hg56] at hK
          all_goals exact rU
         | true =>
          replace hb55 := lB hb55 hg56
          have hqb55 := Option.some.inj hb55
          subst hqb55
          simp (maxSteps := 1000000) only [↓reduceIte, reduceCtorEq, Nat.reduceEqDiff, Nat.reduceLT, Nat.reduceLeDiff, Nat.reduceAdd, Nat.reduceMul, Int.reduceToNat, push_cast, he15a, he15b, he15c, he16a, he16b, he16c, he17a, he17b, he17c, ↓hg56]
          try simp only [↓hg56] at hK
          all_goals exact rU) ?_
       refine xI h1 rfl (fun h1 hb57 => ?_) (fun h1 hb57 => ?_)
       ·
        refine qA (iA (kA (nC ?_)))
        obtain ⟨e58, he58, h1⟩ := fA h1
        obtain ⟨he58a, he58b, he58c⟩ := dB he58
        obtain ⟨vr59, hvr59, h1⟩ := fA h1
        refine nD 848 [1, 2, 7, 9, 13, 16, 17, 18, 19] (fun | 8 => some (.tup [.agg (oB.enc vr59.1), .int .i64 vr59.2.1, .int .i64 vr59.2.2], []) | _ => none) rfl rfl rfl (fun _ _ => rBd (rA he15a (rA he15b (rA he15c (rA he16a (rA he16b (rA he16c (rA he17a (rA he17b (rA he17c (rA he58a (rA he58b he58c))))))))))) (vW hvr59)) ?_
        refine kA ?_
        obtain ⟨b60, hb60, h1⟩ := fA h1
        refine eD (fr' := [(1, .int .i64 level2), (2, .psl 1 (List.map (dA .u8) cuts3)), (7, .ref 112 0 0 0), (9, .int .i64 n49), (13, .psl 4 (List.map aA.enc vr19.1)), (16, .int .i64 i50), (17, .ref 816 0 0 0), (18, .int .i64 vr59.2.1), (129, .bool b60)]) (hp' := [(0, ⟨0, true, true, 2, [[.int .i64 l1.B, .psl 1 (List.map tA.enc l1.Levels)]]⟩), (112, ⟨0, true, true, 4, [[.int .i64 vs51, .psl 1 (List.map tA.enc vs52), .psl 11 (List.map bB.enc vs53), .int .i64 vs54]]⟩), (352, ⟨0, false, true, 1, List.map (sA 4 aA.enc) [e16.Entries, e17.Entries]⟩), (816, ⟨0, true, true, 4, [[.int .i64 vr59.1.Levels.B, .psl 1 (List.map tA.enc vr59.1.Levels.Levels), .psl 11 (List.map bB.enc vr59.1.Jobs), .int .i64 vr59.1.NextId]]⟩)]) [0, 112, 352, 816] 960 [1, 2, 7, 9, 13, 16, 17, 18, 129] (fun _ => none) rfl (fun Kt hK => by
          cases hg61 : (!(decide (vr59.2.2 = 0))) with
          | false =>
           replace hb60 := vA hb60 hg61
           have hqb60 := Option.some.inj hb60
           subst hqb60
           simp (maxSteps := 1000000) only [↓reduceIte, reduceCtorEq, Nat.reduceEqDiff, Nat.reduceLT, Nat.reduceLeDiff, Nat.reduceAdd, Nat.reduceMul, Int.reduceToNat, push_cast, he15a, he15b, he15c, he16a, he16b, he16c, he17a, he17b, he17c, he58a, he58b, he58c, ↓hg61]
           try simp only [↓hg61] at hK
           all_goals exact rU
          | true =>
           replace hb60 := lB hb60 hg61
           have hqb60 := Option.some.inj hb60
           subst hqb60
           simp (maxSteps := 1000000) only [↓reduceIte, reduceCtorEq, Nat.reduceEqDiff, Nat.reduceLT, Nat.reduceLeDiff, Nat.reduceAdd, Nat.reduceMul, Int.reduceToNat, push_cast, he15a, he15b, he15c, he16a, he16b, he16c, he17a, he17b, he17c, he58a, he58b, he58c, ↓hg61]
           try simp only [↓hg61] at hK
           all_goals exact rU) ?_
        refine xI h1 rfl (fun h1 hb62 => ?_) (fun h1 hb62 => ?_)
        ·
         refine nA 968 [6] (fun _ => none) rfl (fun _ _ => rS (rA he15a (rA he15b (rA he15c (rA he16a (rA he16b (rA he16c (rA he17a (rA he17b (rA he17c (rA he58a (rA he58b he58c)))))))))))) ?_
         refine jA ?_
         obtain rfl := Option.some.inj h1
         refine oA (oC (oA (oA (zD (oA ?_)))))
         obtain rfl := Option.some.inj h0
         refine mA [] ?_
         simp (maxSteps := 1000000) only [↓reduceIte, reduceCtorEq, Nat.reduceEqDiff, Nat.reduceLT, Nat.reduceLeDiff, Nat.reduceAdd, Nat.reduceMul, Int.reduceToNat, push_cast, mC, he15a, he15b, he15c, he16a, he16b, he16c, he17a, he17b, he17c, he58a, he58b, he58c]
         all_goals exact rH
        ·
         refine qA (iA ?_)
         refine eC 1008 [1, 2, 7, 9, 13, 16] (fun _ => none) rfl (fun _ _ => rS (rA he15a (rA he15b (rA he15c (rA he16a (rA he16b (rA he16c (rA he17a (rA he17b (rA he17c (rA he58a (rA he58b he58c)))))))))))) ?_
         refine fC (iA ?_)
         refine eC 1032 [1, 2, 7, 9, 13, 16] (fun _ => none) rfl (fun _ _ => rS (rA he15a (rA he15b (rA he15c (rA he16a (rA he16b (rA he16c (rA he17a (rA he17b (rA he17c (rA he58a (rA he58b he58c)))))))))))) ?_
         refine iA ?_
         exact ⟨⟨(fu, (IntKind.i64.wrap (n49 - vr59.2.1)), (IntKind.i64.wrap (i50 + 1)), vr59.1.Levels.B, vr59.1.Levels.Levels, vr59.1.Jobs, vr59.1.NextId), h1⟩, ⟨rF, rE, rfl, rfl, trivial, trivial⟩, Nat.lt_succ_self _⟩
       ·
        refine fD (kB (kB (kD ?_)))
        obtain rfl := Option.some.inj h1
        exact ⟨_, rfl, rL, ⟨rF, rE, rfl, rfl, trivial, trivial⟩⟩
end Go.T
end
section
namespace Go.Proofs.Ytnlggkiekcpahaa
open Go.T
theorem jobsMerge : Rows.JobsMergeSaid :=
  zjL (fun x0 x1 x2 w0 w1 w2 => by
    have hc : ∀ e ∈ x2, 0 ≤ e ∧ e ≤ 255 := fun e he => by
      have hw : (Lit.int .u8 e).wf = true := w2.2 e he
      simp [Lit.wf, IntKind.min, IntKind.max, IntKind.signed, IntKind.bits] at hw
      omega
    obtain ⟨fu, h⟩ := (zg4 x0 x1 x2 hc).one
    exact ⟨_, zjN h⟩)
end Go.Proofs.Ytnlggkiekcpahaa
end
