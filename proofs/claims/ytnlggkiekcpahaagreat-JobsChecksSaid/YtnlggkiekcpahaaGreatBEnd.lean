/- Check, Pending, Find and Left return what the document says, of states that are not long; no other condition. -/
import Derived.Test.YtnlggkiekcpahaaGreatBGt
import Derived.Test.YtnlggkiekcpahaaGreatBLkJobsChecks
import Derived.Test.YtnlggkiekcpahaaGreatB3
set_option linter.unusedSimpArgs false
set_option linter.unusedVariables false
section
namespace Go.T
open Go Go.AM Go.Proofs
set_option maxRecDepth 100000
set_option maxHeartbeats 4000000
set_option linter.unusedVariables false
theorem nU {fu : Nat} {a1 : List Int} {b2 : List Int} {r : Bool} (h0 : oR fu a1 b2 = some r) : yA Tryz.prog 104 [.psl 1 (a1.map (fA .i64)), .psl 1 (b2.map (fA .i64))] (.bool r) [] := by
 refine cB Tryz.func104 rfl (by decide) rL ?_
 dsimp only [Tryz.f104]
 rw [oR] at h0
 refine xS 8 [0, 1] ?_
 refine iA ?_
 refine xS 48 [0, 1, 10] ?_
 refine xI h0 rfl (fun h0 hb3 => ?_) (fun h0 hb3 => ?_)
 ·
  refine xS 56 [4] ?_
  refine kA (mA ?_)
  obtain rfl := oI h0
  exact lA [] rG
 refine oA (dA (iA ?_))
 refine xS 56 [0, 1, 5] ?_
 obtain ⟨x13, hxx13, h0⟩ := bA h0
 refine oC (fun s' => ∃ o19 : Unit, x13 = .inl o19 ∧ s'.nx ≤ 88 ∧ LeN [] s' ⟨[], [], 88, []⟩) ?_ ?_
 ·
  intro s' hs
  obtain ⟨o19, rfl, hn, hs⟩ := hs
  refine dA ?_
  refine oB [] hn hs ?_
  refine xS 96 [4] ?_
  refine kA ?_
  obtain rfl := oI h0
  exact lA [] rG
 refine nC (ι := { p : Nat × Int // cN a1 b2 p.1 p.2 = some x13 }) (fun p => ⟨[(0, .psl 1 (List.map (fA .i64) a1)), (1, .psl 1 (List.map (fA .i64) b2)), (5, .int .i64 p.1.2)], [], 56, []⟩) (fun p => p.1.1) ⟨(fu, 0), hxx13⟩ ⟨rF, rE, rfl, rfl, trivial, trivial⟩ (fun _ => Nat.le_refl _) ?_
 rintro ⟨⟨fu, i14⟩, h1⟩
 cases fu with
 | zero =>
  replace h1 : cN a1 b2 0 i14 = some x13 := h1
  rw [cN] at h1; cases h1
 | succ fu =>
  replace h1 : cN a1 b2 (fu + 1) i14 = some x13 := h1
  rw [cN] at h1
  dsimp only
  refine iA ?_
  refine xS 88 [0, 1, 5, 14] ?_
  refine xI h1 rfl (fun h1 hb15 => ?_) (fun h1 hb15 => ?_)
  ·
   refine oA (dA (iA (xB ?_)))
   obtain ⟨e16, he16, h1⟩ := bA h1
   obtain ⟨he16a, he16b, he16c⟩ := wA he16
   obtain ⟨e17, he17, h1⟩ := bA h1
   obtain ⟨he17a, he17b, he17c⟩ := wA he17
   refine pC 160 [0, 1, 5, 25] (fun _ => none) rfl rfl rfl (fun _ _ => aE (rA he16a (rA he16b (rA he16c (rA he17a (rA he17b he17c)))))) ?_
   refine xI h1 rfl (fun h1 hb18 => ?_) (fun h1 hb18 => ?_)
   ·
    refine nA 168 [4] (fun _ => none) rfl (fun _ _ => rS (rA he16a (rA he16b (rA he16c (rA he17a (rA he17b he17c)))))) ?_
    refine kA ?_
    obtain rfl := oI h1
    refine cC (mA (mA (wC (mA ?_))))
    obtain rfl := oI h0
    refine lA [] ?_
    exact rJ (rA he16a (rA he16b (rA he16c (rA he17a (rA he17b he17c)))))
   refine oA (qB (dA ?_))
   refine nB 184 [0, 1, 5] (fun _ => none) rfl (fun _ _ => rS (rA he16a (rA he16b (rA he16c (rA he17a (rA he17b he17c)))))) ?_
   refine dA ?_
   exact ⟨⟨(fu, (IntKind.i64.wrap (i14 + 1))), h1⟩, ⟨rF, rE, rfl, rfl, trivial, trivial⟩, Nat.lt_succ_self _⟩
  refine fC (xA (xA (iC ?_)))
  obtain rfl := oI h1
  exact ⟨_, rfl, rL, ⟨rF, rE, rfl, rfl, trivial, trivial⟩⟩
theorem oZ {fu : Nat} {a1 : bB} {b2 : bB} {r : Bool} (h0 : iT fu a1 b2 = some r) : yA Tryz.prog 105 [.agg (bB.enc a1), .agg (bB.enc b2)] (.bool r) [] := by
 refine cB Tryz.func105 rfl (by decide) rL ?_
 dsimp only [Tryz.f105]
 rw [iT] at h0
 refine xS 24 [2, 3] ?_
 refine iA ?_
 obtain ⟨b3, hb3, h0⟩ := bA h0
 obtain ⟨b5, hb5, h0⟩ := bA h0
 refine mC (fr' := [(2, .ref 0 0 0 0), (3, .ref 8 0 0 0), (27, .bool b5)]) (hp' := [(0, ⟨0, true, true, 3, [[.psl 2 (List.map eA.enc a1.Keys), .psl 1 (List.map (fA .i64) a1.Lose), .int .i64 a1.Win]]⟩), (8, ⟨0, true, true, 3, [[.psl 2 (List.map eA.enc b2.Keys), .psl 1 (List.map (fA .i64) b2.Lose), .int .i64 b2.Win]]⟩)]) [0, 8] 200 [2, 3, 27] (fun | 19 => (oR fu a1.Lose b2.Lose).bind fun vr4 => some (.bool vr4, []) | _ => none) rfl (fun Kt hK => by
   cases hg6 : (!(decide ((a1.Keys.length : Int) = (b2.Keys.length : Int)))) with
   | false =>
    replace hb3 := qA hb3 hg6
    have hqb3 := oI hb3
    cases b3 with
    | false =>
     replace hb5 := qA hb5 rfl
     obtain ⟨vr4, hvr4, hb5⟩ := bA hb5
     have hqb5 := oI hb5
     subst hqb5
     first | exact yI (rA hg6 hqb3) hvr4 (nU hvr4) hK | exact sD (rA hg6 hqb3) hvr4 hK
    | true =>
     replace hb5 := aB hb5 rfl
     have hqb5 := oI hb5
     subst hqb5
     first | exact iI (rA hg6 hqb3) (nU hvr4) hK | exact rW (rA hg6 hqb3) hK
   | true =>
    replace hb3 := aB hb3 hg6
    have hqb3 := oI hb3
    cases b3 with
    | false =>
     cases hqb3
    | true =>
     replace hb5 := aB hb5 rfl
     have hqb5 := oI hb5
     subst hqb5
     first | exact iI hg6 (nU hvr4) hK | exact rW hg6 hK) ?_
 refine xI h0 rfl (fun h0 hb9 => ?_) (fun h0 hb9 => ?_)
 ·
  refine xS 208 [4] ?_
  refine kA (mA ?_)
  obtain rfl := oI h0
  exact lA [] rG
 refine oA (dA (iA ?_))
 refine xS 208 [2, 3, 5] ?_
 obtain ⟨x19, hxx19, h0⟩ := bA h0
 refine oC (fun s' => ∃ o25 : Unit, x19 = .inl o25 ∧ s'.nx ≤ 248 ∧ LeN [] s' ⟨[], [(0, ⟨0, true, true, 3, [[.psl 2 (List.map eA.enc a1.Keys), .psl 1 (List.map (fA .i64) a1.Lose), .int .i64 a1.Win]]⟩), (8, ⟨0, true, true, 3, [[.psl 2 (List.map eA.enc b2.Keys), .psl 1 (List.map (fA .i64) b2.Lose), .int .i64 b2.Win]]⟩)], 248, []⟩) ?_ ?_
 ·
  intro s' hs
  obtain ⟨o25, rfl, hn, hs⟩ := hs
  refine dA ?_
  refine oB [] hn hs ?_
  refine xS 256 [4] ?_
  refine kA ?_
  obtain rfl := oI h0
  exact lA [] rG
 refine nC (ι := { p : Nat × Int // jL a1 b2 p.1 p.2 = some x19 }) (fun p => ⟨[(2, .ref 0 0 0 0), (3, .ref 8 0 0 0), (5, .int .i64 p.1.2)], [(0, ⟨0, true, true, 3, [[.psl 2 (List.map eA.enc a1.Keys), .psl 1 (List.map (fA .i64) a1.Lose), .int .i64 a1.Win]]⟩), (8, ⟨0, true, true, 3, [[.psl 2 (List.map eA.enc b2.Keys), .psl 1 (List.map (fA .i64) b2.Lose), .int .i64 b2.Win]]⟩)], 208, []⟩) (fun p => p.1.1) ⟨(fu, 0), hxx19⟩ ⟨rF, rE, rfl, rfl, trivial, trivial⟩ (fun _ => Nat.le_refl _) ?_
 rintro ⟨⟨fu, i20⟩, h1⟩
 cases fu with
 | zero =>
  replace h1 : jL a1 b2 0 i20 = some x19 := h1
  rw [jL] at h1; cases h1
 | succ fu =>
  replace h1 : jL a1 b2 (fu + 1) i20 = some x19 := h1
  rw [jL] at h1
  dsimp only
  refine iA ?_
  refine xS 248 [2, 3, 5, 32] ?_
  refine xI h1 rfl (fun h1 hb21 => ?_) (fun h1 hb21 => ?_)
  ·
   refine oA (dA (iA (xB ?_)))
   obtain ⟨e22, he22, h1⟩ := bA h1
   obtain ⟨he22a, he22b, he22c⟩ := wA he22
   obtain ⟨e23, he23, h1⟩ := bA h1
   obtain ⟨he23a, he23b, he23c⟩ := wA he23
   refine pC 336 [2, 3, 5, 45] (fun _ => none) rfl rfl rfl (fun _ _ => aE (rA he22a (rA he22b (rA he22c (rA he23a (rA he23b he23c)))))) ?_
   refine xI h1 rfl (fun h1 hb24 => ?_) (fun h1 hb24 => ?_)
   ·
    refine nA 344 [4] (fun _ => none) rfl (fun _ _ => rS (rA he22a (rA he22b (rA he22c (rA he23a (rA he23b he23c)))))) ?_
    refine kA ?_
    obtain rfl := oI h1
    refine cC (mA (mA (wC (mA ?_))))
    obtain rfl := oI h0
    refine lA [] ?_
    exact rJ (rA he22a (rA he22b (rA he22c (rA he23a (rA he23b he23c)))))
   refine oA (qB (dA ?_))
   refine nB 360 [2, 3, 5] (fun _ => none) rfl (fun _ _ => rS (rA he22a (rA he22b (rA he22c (rA he23a (rA he23b he23c)))))) ?_
   refine dA ?_
   exact ⟨⟨(fu, (IntKind.i64.wrap (i20 + 1))), h1⟩, ⟨rF, rE, rfl, rfl, trivial, trivial⟩, Nat.lt_succ_self _⟩
  refine fC (xA (xA (iC ?_)))
  obtain rfl := oI h1
  exact ⟨_, rfl, rL, ⟨rF, rE, rfl, rfl, trivial, trivial⟩⟩
theorem zbU {fu : Nat} {runs1 : List (List aA)} {vat2 : List Int} {r : Int} (h0 : tR fu runs1 vat2 = some r) : yA Tryz.prog 92 [.psl 1 (runs1.map (sA 4 aA.enc)), .psl 1 (vat2.map (fA .i64))] (.int .i64 r) [] := by
 refine cB Tryz.func92 rfl (by decide) rL ?_
 dsimp only [Tryz.f92]
 rw [tR] at h0
 refine xS 8 [0, 1] ?_
 refine xS 16 [0, 1, 5] ?_
 refine iA ?_
 refine xS 24 [0, 1, 5, 6] ?_
 obtain ⟨x23, hxx23, h0⟩ := bA h0
 refine oC (fun s' => s'.nx ≤ 56 ∧ LeN [] s' ⟨[(5, .int .i64 x23)], [], 56, []⟩) ?_ ?_
 ·
  intro s' hs
  obtain ⟨hn, hs⟩ := hs
  refine dA ?_
  refine oB [] hn hs ?_
  refine xS 72 [4] ?_
  refine kA ?_
  obtain rfl := oI h0
  exact lA [] rG
 refine nC (ι := { p : Nat × Int × Int // cK runs1 vat2 p.1 p.2.1 p.2.2 = some x23 }) (fun p => ⟨[(0, .psl 1 (List.map (sA 4 aA.enc) runs1)), (1, .psl 1 (List.map (fA .i64) vat2)), (5, .int .i64 p.1.2.1), (6, .int .i64 p.1.2.2)], [], 24, []⟩) (fun p => p.1.1) ⟨(fu, (-1), 0), hxx23⟩ ⟨rF, rE, rfl, rfl, trivial, trivial⟩ (fun _ => Nat.le_refl _) ?_
 rintro ⟨⟨fu, best24, i25⟩, h1⟩
 cases fu with
 | zero =>
  replace h1 : cK runs1 vat2 0 best24 i25 = some x23 := h1
  rw [cK] at h1; cases h1
 | succ fu =>
  replace h1 : cK runs1 vat2 (fu + 1) best24 i25 = some x23 := h1
  rw [cK] at h1
  dsimp only
  refine iA ?_
  refine xS 56 [0, 1, 5, 6, 10] ?_
  refine xI h1 rfl (fun h1 hb26 => ?_) (fun h1 hb26 => ?_)
  ·
   refine oA (dA (iA (xB ?_)))
   obtain ⟨e27, he27, h1⟩ := bA h1
   obtain ⟨he27a, he27b, he27c⟩ := wA he27
   obtain ⟨e28, he28, h1⟩ := bA h1
   obtain ⟨he28a, he28b, he28c⟩ := wA he28
   obtain ⟨b34, hb34, h1⟩ := bA h1
   refine bL (fr' := [(0, .psl 1 (List.map (sA 4 aA.enc) runs1)), (1, .psl 1 (List.map (fA .i64) vat2)), (5, .int .i64 best24), (6, .int .i64 i25), (51, .bool b34)]) (hp' := []) [] 368 [0, 1, 5, 6, 51] (fun _ => none) rfl rfl rfl (fun Kt hK => by
     cases hg35 : (decide (e27 < (e28.length : Int))) with
     | false =>
      replace hb34 := qA hb34 hg35
      have hqb34 := oI hb34
      subst hqb34
      exact tG hg35 (rA he27a (rA he27b (rA he27c (rA he28a (rA he28b he28c))))) hK
     | true =>
      replace hb34 := aB hb34 hg35
      obtain ⟨b33, hb33, hb34⟩ := bA hb34
      have hqb34 := oI hb34
      cases hg36 : (decide (best24 < 0)) with
      | false =>
       replace hb33 := qA hb33 hg36
       obtain ⟨e29, he29, hb33⟩ := bA hb33
       obtain ⟨he29a, he29b, he29c⟩ := wA he29
       obtain ⟨e30, he30, hb33⟩ := bA hb33
       obtain ⟨he30a, he30b, he30c⟩ := wA he30
       obtain ⟨e31, he31, hb33⟩ := bA hb33
       obtain ⟨he31a, he31b, he31c⟩ := wA he31
       obtain ⟨e32, he32, hb33⟩ := bA hb33
       obtain ⟨he32a, he32b, he32c⟩ := wA he32
       have hqb33 := oI hb33
       subst hqb34
       subst hqb33
       exact tG (rA hg35 hg36) (rA he27a (rA he27b (rA he27c (rA he28a (rA he28b (rA he28c (rA he29a (rA he29b (rA he29c (rA he29 (rA he30a (rA he30b (rA he30c (rA he30 (rA he31a (rA he31b (rA he31c (rA he31 (rA he32a (rA he32b (rA he32c he32))))))))))))))))))))) hK
      | true =>
       replace hb33 := aB hb33 hg36
       have hqb33 := oI hb33
       subst hqb34
       subst hqb33
       exact tG (rA hg35 hg36) (rA he27a (rA he27b (rA he27c (rA he28a (rA he28b he28c))))) hK) ?_
   refine xI h1 rfl (fun h1 hb37 => ?_) (fun h1 hb37 => ?_)
   ·
    refine nB 384 [0, 1, 5, 6] (fun _ => none) rfl (fun _ _ => rS (rA he27a (rA he27b (rA he27c (rA he28a (rA he28b he28c)))))) ?_
    refine qB (dA ?_)
    refine nB 408 [0, 1, 5, 6] (fun _ => none) rfl (fun _ _ => rS (rA he27a (rA he27b (rA he27c (rA he28a (rA he28b he28c)))))) ?_
    refine dA ?_
    exact ⟨⟨(fu, i25, (IntKind.i64.wrap (i25 + 1))), h1⟩, ⟨rF, rE, rfl, rfl, trivial, trivial⟩, Nat.lt_succ_self _⟩
   refine oA (qB (dA ?_))
   refine nB 392 [0, 1, 5, 6] (fun _ => none) rfl (fun _ _ => rS (rA he27a (rA he27b (rA he27c (rA he28a (rA he28b he28c)))))) ?_
   refine dA ?_
   exact ⟨⟨(fu, best24, (IntKind.i64.wrap (i25 + 1))), h1⟩, ⟨rF, rE, rfl, rfl, trivial, trivial⟩, Nat.lt_succ_self _⟩
  refine fC (xA (xA (iC ?_)))
  obtain rfl := oI h1
  exact ⟨rL, ⟨rF, rE, rfl, rfl, trivial, trivial⟩⟩
theorem zbl {fu : Nat} {vs1 : dB} {r : Int × Int} (h0 : sK fu vs1 = some r) : yA Tryz.prog 91 [.agg (dB.enc vs1)] (.tup [.int .i64 r.1, .int .i64 r.2]) [] := by
 refine cB Tryz.func91 rfl (by decide) rL ?_
 dsimp only [Tryz.f91]
 rw [sK] at h0
 refine xS 24 [1] ?_
 obtain ⟨vr2, hvr2, h0⟩ := bA h0
 refine nA 88 [1, 4, 5] (fun | 2 => some (.tup [.int .i64 vr2.1, .int .i64 vr2.2], []) | _ => none) rfl (fun _ _ => rC (zbI hvr2)) ?_
 refine iA ?_
 refine xS 104 [1, 4, 5, 18] ?_
 refine xI h0 rfl (fun h0 hb3 => ?_) (fun h0 hb3 => ?_)
 ·
  refine xS 136 [2, 3] ?_
  refine kA (mA ?_)
  obtain rfl := oI h0
  exact lA [] rG
 refine oA (dA (iA ?_))
 refine xS 160 [1, 27] ?_
 refine xI h0 rfl (fun h0 hb4 => ?_) (fun h0 hb4 => ?_)
 ·
  refine xS 176 [2, 3] ?_
  refine kA (mA ?_)
  obtain rfl := oI h0
  exact lA [] rG
 refine oA (dA (iA ?_))
 refine xS 168 [1, 6] ?_
 obtain ⟨x18, hxx18, h0⟩ := bA h0
 refine oC (fun s' => ∃ o26 : Unit, x18 = .inl o26 ∧ s'.nx ≤ 208 ∧ LeN [] s' ⟨[(1, .ref 0 0 0 0)], [(0, ⟨0, true, true, 5, [[.psl 1 (List.map (sA 4 aA.enc) vs1.Runs), .psl 1 (List.map (fA .i64) vs1.At), .psl 2 (List.map eA.enc vs1.Tree.Keys), .psl 1 (List.map (fA .i64) vs1.Tree.Lose), .int .i64 vs1.Tree.Win]]⟩)], 208, []⟩) ?_ ?_
 ·
  intro s' hs
  obtain ⟨o26, rfl, hn, hs⟩ := hs
  refine dA ?_
  refine oB [] hn hs ?_
  refine iA ?_
  obtain ⟨vr27, hvr27, h0⟩ := bA h0
  obtain ⟨vr28, hvr28, h0⟩ := bA h0
  refine pC 288 [1, 65] (fun | 6 => some (.agg (dB.enc vr27), []) | 8 => some (.bool vr28, []) | _ => none) rfl rfl rfl (fun Kt hK => by
    try have q0 := zbv hvr27
    try have q1 := oZ hvr28
    exact nF) ?_
  refine xI h0 rfl (fun h0 hb29 => ?_) (fun h0 hb29 => ?_)
  ·
   refine xS 304 [2, 3] ?_
   refine kA (mA ?_)
   obtain rfl := oI h0
   exact lA [] rG
  refine oA (dA ?_)
  obtain ⟨vr30, hvr30, h0⟩ := bA h0
  refine nA 336 [1, 7] (fun | 4 => some (.int .i64 vr30, []) | _ => none) rfl (fun _ _ => rC (zbU hvr30)) ?_
  refine iA ?_
  refine xS 344 [1, 7, 8] ?_
  obtain ⟨x62, hxx62, h0⟩ := bA h0
  refine oC (fun s' => ∃ o79 : Unit, x62 = .inl o79 ∧ s'.nx ≤ 416 ∧ LeN [] s' ⟨[], [(0, ⟨0, true, true, 5, [[.psl 1 (List.map (sA 4 aA.enc) vs1.Runs), .psl 1 (List.map (fA .i64) vs1.At), .psl 2 (List.map eA.enc vs1.Tree.Keys), .psl 1 (List.map (fA .i64) vs1.Tree.Lose), .int .i64 vs1.Tree.Win]]⟩)], 416, []⟩) ?_ ?_
  ·
   intro s' hs
   obtain ⟨o79, rfl, hn, hs⟩ := hs
   refine dA ?_
   refine oB [] hn hs ?_
   refine xS 432 [2, 3] ?_
   refine kA ?_
   obtain rfl := oI h0
   exact lA [] rG
  refine nC (ι := { p : Nat × Int // kG vs1 vr30 p.1 p.2 = some x62 }) (fun p => ⟨[(1, .ref 0 0 0 0), (7, .int .i64 vr30), (8, .int .i64 p.1.2)], [(0, ⟨0, true, true, 5, [[.psl 1 (List.map (sA 4 aA.enc) vs1.Runs), .psl 1 (List.map (fA .i64) vs1.At), .psl 2 (List.map eA.enc vs1.Tree.Keys), .psl 1 (List.map (fA .i64) vs1.Tree.Lose), .int .i64 vs1.Tree.Win]]⟩)], 344, []⟩) (fun p => p.1.1) ⟨(fu, 0), hxx62⟩ ⟨rF, rE, rfl, rfl, trivial, trivial⟩ (fun _ => Nat.le_refl _) ?_
  rintro ⟨⟨fu, i63⟩, h1⟩
  cases fu with
  | zero =>
  replace h1 : kG vs1 vr30 0 i63 = some x62 := h1
  rw [kG] at h1; cases h1
  | succ fu =>
   replace h1 : kG vs1 vr30 (fu + 1) i63 = some x62 := h1
   rw [kG] at h1
   dsimp only
   refine iA ?_
   obtain ⟨b64, hb64, h1⟩ := bA h1
   refine mC (fr' := [(1, .ref 0 0 0 0), (7, .int .i64 vr30), (8, .int .i64 i63), (79, .bool b64)]) (hp' := [(0, ⟨0, true, true, 5, [[.psl 1 (List.map (sA 4 aA.enc) vs1.Runs), .psl 1 (List.map (fA .i64) vs1.At), .psl 2 (List.map eA.enc vs1.Tree.Keys), .psl 1 (List.map (fA .i64) vs1.Tree.Lose), .int .i64 vs1.Tree.Win]]⟩)]) [0] 416 [1, 7, 8, 79] (fun _ => none) rfl (fun Kt hK => by
     cases hg65 : (decide (i63 < (vs1.Runs.length : Int))) with
     | false =>
      replace hb64 := qA hb64 hg65
      have hqb64 := oI hb64
      subst hqb64
      exact rW hg65 hK
     | true =>
      replace hb64 := aB hb64 hg65
      have hqb64 := oI hb64
      subst hqb64
      exact rW hg65 hK) ?_
   refine xI h1 rfl (fun h1 hb66 => ?_) (fun h1 hb66 => ?_)
   ·
    refine oA (dA (iA (xB (iA ?_))))
    obtain ⟨e67, he67, h1⟩ := bA h1
    obtain ⟨he67a, he67b, he67c⟩ := wA he67
    refine nA 464 [1, 7, 8, 87] (fun _ => none) rfl (fun _ _ => rS (rA he67a (rA he67b he67c))) ?_
    refine xI h1 rfl (fun h1 hb68 => ?_) (fun h1 hb68 => ?_)
    ·
     refine fC (xA (zbb (dA ?_)))
     refine nB 488 [1, 7, 8] (fun _ => none) rfl (fun _ _ => rS (rA he67a (rA he67b he67c))) ?_
     refine dA ?_
     exact ⟨⟨(fu, (IntKind.i64.wrap (i63 + 1))), h1⟩, ⟨rF, rE, rfl, rfl, trivial, trivial⟩, Nat.lt_succ_self _⟩
    refine oA (dA ?_)
    obtain ⟨e69, he69, h1⟩ := bA h1
    obtain ⟨he69a, he69b, he69c⟩ := wA he69
    obtain ⟨e70, he70, h1⟩ := bA h1
    obtain ⟨he70a, he70b, he70c⟩ := wA he70
    obtain ⟨e71, he71, h1⟩ := bA h1
    obtain ⟨he71a, he71b, he71c⟩ := wA he71
    obtain ⟨e72, he72, h1⟩ := bA h1
    obtain ⟨he72a, he72b, he72c⟩ := wA he72
    obtain ⟨e73, he73, h1⟩ := bA h1
    obtain ⟨he73a, he73b, he73c⟩ := wA he73
    refine pC 696 [1, 7, 8, 9, 10] (fun _ => none) rfl rfl rfl (fun _ _ => aE (rA he67a (rA he67b (rA he67c (rA he69a (rA he69b (rA he69c (rA he70a (rA he70b (rA he70c (rA he71a (rA he71b (rA he71c (rA he72a (rA he72b (rA he72c (rA he73a (rA he73b he73c)))))))))))))))))) ?_
    obtain ⟨b75, hb75, h1⟩ := bA h1
    refine mC (fr' := [(1, .ref 0 0 0 0), (7, .int .i64 vr30), (8, .int .i64 i63), (127, .bool b75)]) (hp' := [(0, ⟨0, true, true, 5, [[.psl 1 (List.map (sA 4 aA.enc) vs1.Runs), .psl 1 (List.map (fA .i64) vs1.At), .psl 2 (List.map eA.enc vs1.Tree.Keys), .psl 1 (List.map (fA .i64) vs1.Tree.Lose), .int .i64 vs1.Tree.Win]]⟩)]) [0] 800 [1, 7, 8, 127] (fun _ => none) rfl (fun Kt hK => by
      cases hg76 : (!(Op.bytesLess e70.Key e73.Key || e70.Key == e73.Key)) with
      | false =>
       replace hb75 := qA hb75 hg76
       obtain ⟨b74, hb74, hb75⟩ := bA hb75
       have hqb75 := oI hb75
       cases hg77 : (e70.Key == e73.Key) with
       | false =>
        replace hb74 := qA hb74 hg77
        have hqb74 := oI hb74
        subst hqb75
        subst hqb74
        exact sD (rA hg76 hg77) (rA he67a (rA he67b (rA he67c (rA he69a (rA he69b (rA he69c (rA he70a (rA he70b (rA he70c (rA he71a (rA he71b (rA he71c (rA he72a (rA he72b (rA he72c (rA he73a (rA he73b he73c))))))))))))))))) hK
       | true =>
        replace hb74 := aB hb74 hg77
        have hqb74 := oI hb74
        subst hqb75
        subst hqb74
        exact sD (rA hg76 hg77) (rA he67a (rA he67b (rA he67c (rA he69a (rA he69b (rA he69c (rA he70a (rA he70b (rA he70c (rA he71a (rA he71b (rA he71c (rA he72a (rA he72b (rA he72c (rA he73a (rA he73b he73c))))))))))))))))) hK
      | true =>
       replace hb75 := aB hb75 hg76
       have hqb75 := oI hb75
       subst hqb75
       exact sD hg76 (rA he67a (rA he67b (rA he67c (rA he69a (rA he69b (rA he69c (rA he70a (rA he70b (rA he70c (rA he71a (rA he71b (rA he71c (rA he72a (rA he72b (rA he72c (rA he73a (rA he73b he73c))))))))))))))))) hK) ?_
    refine xI h1 rfl (fun h1 hb78 => ?_) (fun h1 hb78 => ?_)
    ·
     refine nA 824 [2, 3] (fun _ => none) rfl (fun _ _ => rS (rA he67a (rA he67b (rA he67c (rA he69a (rA he69b (rA he69c (rA he70a (rA he70b (rA he70c (rA he71a (rA he71b (rA he71c (rA he72a (rA he72b (rA he72c (rA he73a (rA he73b he73c)))))))))))))))))) ?_
     refine kA ?_
     obtain rfl := oI h1
     refine cC (mA (mA (wC (mA ?_))))
     obtain rfl := oI h0
     refine lA [] ?_
     exact rJ (rA he67a (rA he67b (rA he67c (rA he69a (rA he69b (rA he69c (rA he70a (rA he70b (rA he70c (rA he71a (rA he71b (rA he71c (rA he72a (rA he72b (rA he72c (rA he73a (rA he73b he73c)))))))))))))))))
    refine oA (qB (dA ?_))
    refine nB 824 [1, 7, 8] (fun _ => none) rfl (fun _ _ => rS (rA he67a (rA he67b (rA he67c (rA he69a (rA he69b (rA he69c (rA he70a (rA he70b (rA he70c (rA he71a (rA he71b (rA he71c (rA he72a (rA he72b (rA he72c (rA he73a (rA he73b he73c)))))))))))))))))) ?_
    refine dA ?_
    exact ⟨⟨(fu, (IntKind.i64.wrap (i63 + 1))), h1⟩, ⟨rF, rE, rfl, rfl, trivial, trivial⟩, Nat.lt_succ_self _⟩
   refine fC (xA (xA (iC ?_)))
   obtain rfl := oI h1
   exact ⟨_, rfl, rL, ⟨rF, rE, rfl, rfl, trivial, trivial⟩⟩
 refine nC (ι := { p : Nat × Int // fK vs1 p.1 p.2 = some x18 }) (fun p => ⟨[(1, .ref 0 0 0 0), (6, .int .i64 p.1.2)], [(0, ⟨0, true, true, 5, [[.psl 1 (List.map (sA 4 aA.enc) vs1.Runs), .psl 1 (List.map (fA .i64) vs1.At), .psl 2 (List.map eA.enc vs1.Tree.Keys), .psl 1 (List.map (fA .i64) vs1.Tree.Lose), .int .i64 vs1.Tree.Win]]⟩)], 168, []⟩) (fun p => p.1.1) ⟨(fu, 0), hxx18⟩ ⟨rF, rE, rfl, rfl, trivial, trivial⟩ (fun _ => Nat.le_refl _) ?_
 rintro ⟨⟨fu, i19⟩, h1⟩
 cases fu with
 | zero =>
  replace h1 : fK vs1 0 i19 = some x18 := h1
  rw [fK] at h1; cases h1
 | succ fu =>
  replace h1 : fK vs1 (fu + 1) i19 = some x18 := h1
  rw [fK] at h1
  dsimp only
  refine iA ?_
  refine xS 208 [1, 6, 32] ?_
  refine xI h1 rfl (fun h1 hb20 => ?_) (fun h1 hb20 => ?_)
  ·
   refine oA (dA (iA (xB ?_)))
   obtain ⟨e21, he21, h1⟩ := bA h1
   obtain ⟨he21a, he21b, he21c⟩ := wA he21
   obtain ⟨b23, hb23, h1⟩ := bA h1
   refine bL (fr' := [(1, .ref 0 0 0 0), (6, .int .i64 i19), (54, .bool b23)]) (hp' := [(0, ⟨0, true, true, 5, [[.psl 1 (List.map (sA 4 aA.enc) vs1.Runs), .psl 1 (List.map (fA .i64) vs1.At), .psl 2 (List.map eA.enc vs1.Tree.Keys), .psl 1 (List.map (fA .i64) vs1.Tree.Lose), .int .i64 vs1.Tree.Win]]⟩)]) [0] 368 [1, 6, 54] (fun _ => none) rfl rfl rfl (fun Kt hK => by
     cases hg24 : (decide (e21 < 0)) with
     | false =>
      replace hb23 := qA hb23 hg24
      obtain ⟨e22, he22, hb23⟩ := bA hb23
      obtain ⟨he22a, he22b, he22c⟩ := wA he22
      have hqb23 := oI hb23
      subst hqb23
      exact tG hg24 (rA he21a (rA he21b (rA he21c (rA he22a (rA he22b (rA he22c he22)))))) hK
     | true =>
      replace hb23 := aB hb23 hg24
      have hqb23 := oI hb23
      subst hqb23
      exact tG hg24 (rA he21a (rA he21b he21c)) hK) ?_
   refine xI h1 rfl (fun h1 hb25 => ?_) (fun h1 hb25 => ?_)
   ·
    refine nA 392 [2, 3] (fun _ => none) rfl (fun _ _ => rS (rA he21a (rA he21b he21c))) ?_
    refine kA ?_
    obtain rfl := oI h1
    refine cC (mA (mA (wC (mA ?_))))
    obtain rfl := oI h0
    refine lA [] ?_
    exact rJ (rA he21a (rA he21b he21c))
   refine oA (qB (dA ?_))
   refine nB 392 [1, 6] (fun _ => none) rfl (fun _ _ => rS (rA he21a (rA he21b he21c))) ?_
   refine dA ?_
   exact ⟨⟨(fu, (IntKind.i64.wrap (i19 + 1))), h1⟩, ⟨rF, rE, rfl, rfl, trivial, trivial⟩, Nat.lt_succ_self _⟩
  refine fC (xA (xA (iC ?_)))
  obtain rfl := oI h1
  exact ⟨_, rfl, rL, ⟨rF, rE, rfl, rfl, trivial, trivial⟩⟩
theorem zeG {fu : Nat} {vs1 : lB} {r : Int} (h0 : bQ fu vs1 = some r) : yA Tryz.prog 60 [.agg (lB.enc vs1)] (.int .i64 r) [] := by
 refine cB Tryz.func60 rfl (by decide) rL ?_
 dsimp only [Tryz.f60]
 rw [bQ] at h0
 refine xS 16 [1] ?_
 refine xS 24 [1, 3] ?_
 refine iA ?_
 refine xS 32 [1, 3, 4] ?_
 obtain ⟨x8, hxx8, h0⟩ := bA h0
 refine oC (fun s' => s'.nx ≤ 80 ∧ LeN [] s' ⟨[(3, .int .i64 x8)], [(0, ⟨0, true, true, 10, [[.psl 1 (List.map (sA 4 aA.enc) vs1.Merge.Runs), .psl 1 (List.map (fA .i64) vs1.Merge.At), .psl 2 (List.map eA.enc vs1.Merge.Tree.Keys), .psl 1 (List.map (fA .i64) vs1.Merge.Tree.Lose), .int .i64 vs1.Merge.Tree.Win, .bool vs1.Shadow.Some, .str vs1.Shadow.Last, .bool vs1.Shadow.Bottom, .psl 4 (List.map aA.enc vs1.Out), .int .i64 vs1.Steps]]⟩)], 80, []⟩) ?_ ?_
 ·
  intro s' hs
  obtain ⟨hn, hs⟩ := hs
  refine dA ?_
  refine oB [] hn hs ?_
  refine xS 96 [2] ?_
  refine kA ?_
  obtain rfl := oI h0
  exact lA [] rG
 refine nC (ι := { p : Nat × Int × Int // pJ vs1 p.1 p.2.1 p.2.2 = some x8 }) (fun p => ⟨[(1, .ref 0 0 0 0), (3, .int .i64 p.1.2.1), (4, .int .i64 p.1.2.2)], [(0, ⟨0, true, true, 10, [[.psl 1 (List.map (sA 4 aA.enc) vs1.Merge.Runs), .psl 1 (List.map (fA .i64) vs1.Merge.At), .psl 2 (List.map eA.enc vs1.Merge.Tree.Keys), .psl 1 (List.map (fA .i64) vs1.Merge.Tree.Lose), .int .i64 vs1.Merge.Tree.Win, .bool vs1.Shadow.Some, .str vs1.Shadow.Last, .bool vs1.Shadow.Bottom, .psl 4 (List.map aA.enc vs1.Out), .int .i64 vs1.Steps]]⟩)], 32, []⟩) (fun p => p.1.1) ⟨(fu, 0, 0), hxx8⟩ ⟨rF, rE, rfl, rfl, trivial, trivial⟩ (fun _ => Nat.le_refl _) ?_
 rintro ⟨⟨fu, n9, i10⟩, h1⟩
 cases fu with
 | zero =>
  replace h1 : pJ vs1 0 n9 i10 = some x8 := h1
  rw [pJ] at h1; cases h1
 | succ fu =>
  replace h1 : pJ vs1 (fu + 1) n9 i10 = some x8 := h1
  rw [pJ] at h1
  dsimp only
  refine iA ?_
  refine xS 80 [1, 3, 4, 10] ?_
  refine xI h1 rfl (fun h1 hb11 => ?_) (fun h1 hb11 => ?_)
  ·
   refine oA (dA (iA (xB ?_)))
   obtain ⟨e12, he12, h1⟩ := bA h1
   obtain ⟨he12a, he12b, he12c⟩ := wA he12
   refine nB 152 [1, 3, 4] (fun _ => none) rfl (fun _ _ => rS (rA he12a (rA he12b he12c))) ?_
   refine qB (dA ?_)
   refine nB 176 [1, 3, 4] (fun _ => none) rfl (fun _ _ => rS (rA he12a (rA he12b he12c))) ?_
   refine dA ?_
   exact ⟨⟨(fu, (IntKind.i64.wrap (n9 + e12)), (IntKind.i64.wrap (i10 + 1))), h1⟩, ⟨rF, rE, rfl, rfl, trivial, trivial⟩, Nat.lt_succ_self _⟩
  refine fC (xA (xA (iC ?_)))
  obtain rfl := oI h1
  exact ⟨rL, ⟨rF, rE, rfl, rfl, trivial, trivial⟩⟩
theorem zew {fu : Nat} {runs1 : List (List aA)} {r : List aA × List Int × Int} (h0 : aT fu runs1 = some r) : yA Tryz.prog 62 [.psl 1 (runs1.map (sA 4 aA.enc))] (.tup [.psl 4 (r.1.map aA.enc), .psl 1 (r.2.1.map (fA .i64)), .int .i64 r.2.2]) [] := by
 refine cB Tryz.func62 rfl (by decide) rL ?_
 dsimp only [Tryz.f62]
 rw [aT] at h0
 refine xS 24 [0] ?_
 obtain ⟨vr2, hvr2, h0⟩ := bA h0
 refine nA 80 [0, 6] (fun | 1 => some (.tup [.int .i64 vr2.1, .int .i64 vr2.2], []) | _ => none) rfl (fun _ _ => rC (zbI hvr2)) ?_
 refine iA ?_
 refine xS 96 [0, 6, 17] ?_
 refine xI h0 rfl (fun h0 hb3 => ?_) (fun h0 hb3 => ?_)
 ·
  refine xS 128 [2, 3, 4] ?_
  refine kA (mA ?_)
  obtain rfl := oI h0
  exact lA [] rG
 refine oA (dA ?_)
 refine xS 104 [0, 7] ?_
 refine xS 112 [0, 7, 8] ?_
 obtain ⟨hc4, h0⟩ := pD h0
 refine xS 144 [0, 7, 8, 9] ?_
 refine xE ⟨[(0, .psl 1 (List.map (sA 4 aA.enc) runs1)), (7, .nils), (8, .nils), (9, .sl 128 0 1 0 ((List.replicate runs1.length 0 : List Int).length))], [(128, ⟨0, true, true, 1, List.map (fA .i64) (List.replicate runs1.length 0 : List Int)⟩)], 144, []⟩ ?_
 refine oB (s2 := ⟨[(0, .psl 1 (List.map (sA 4 aA.enc) runs1)), (7, .sl 144 0 4 0 0), (8, .sl 145 0 1 0 0), (9, .sl 128 0 1 0 ((List.replicate runs1.length 0 : List Int).length))], [(128, ⟨0, true, true, 1, List.map (fA .i64) (List.replicate runs1.length 0 : List Int)⟩), (144, ⟨0, true, true, 4, List.map aA.enc []⟩), (145, ⟨0, true, true, 1, List.map (fA .i64) []⟩)], 146, []⟩) [(144, 4), (145, 1)] rL ⟨rF, rE, rfl, rfl, trivial, rN⟩ ?_
 obtain ⟨x28, hxx28, h0⟩ := bA h0
 refine oC (fun _ => False) ?_ ?_
 ·
  intro _ h; exact h.elim
 refine nC (ι := { p : Nat × List Int × List aA × List Int × Nat × Nat × Nat // xM runs1 p.1 p.2.1 p.2.2.1 p.2.2.2.1 = some x28 }) (fun p => ⟨[(0, .psl 1 (List.map (sA 4 aA.enc) runs1)), (7, .sl 144 p.1.2.2.2.2.2.1 4 0 p.1.2.2.1.length), (8, .sl 145 p.1.2.2.2.2.2.2 1 0 p.1.2.2.2.1.length), (9, .sl 128 p.1.2.2.2.2.1 1 0 p.1.2.1.length)], [(128, ⟨p.1.2.2.2.2.1, true, true, 1, List.map (fA .i64) p.1.2.1⟩), (144, ⟨p.1.2.2.2.2.2.1, true, true, 4, List.map aA.enc p.1.2.2.1⟩), (145, ⟨p.1.2.2.2.2.2.2, true, true, 1, List.map (fA .i64) p.1.2.2.2.1⟩)], 146, []⟩) (fun p => p.1.1) ⟨(fu, (List.replicate runs1.length 0 : List Int), [], [], 0, 0, 0), hxx28⟩ ⟨rF, rE, rfl, rfl, trivial, trivial⟩ (fun _ => Nat.le_refl _) ?_
 rintro ⟨⟨fu, vat29, l30, vfrom31, g32, g33, g34⟩, h1⟩
 cases fu with
 | zero =>
  replace h1 : xM runs1 0 vat29 l30 vfrom31 = some x28 := h1
  rw [xM] at h1; cases h1
 | succ fu =>
  replace h1 : xM runs1 (fu + 1) vat29 l30 vfrom31 = some x28 := h1
  rw [xM] at h1
  dsimp only
  refine xB ?_
  obtain ⟨vr35, hvr35, h1⟩ := bA h1
  refine nA 178 [0, 7, 8, 9, 10] (fun | 2 => some (.int .i64 vr35, []) | _ => none) rfl (fun _ _ => rC (zbU hvr35)) ?_
  refine iA ?_
  refine xS 194 [0, 7, 8, 9, 10, 26] ?_
  refine xI h1 rfl (fun h1 hb36 => ?_) (fun h1 hb36 => ?_)
  ·
   refine xS 234 [2, 3, 4] ?_
   refine kA ?_
   obtain rfl := oI h1
   refine mA (cC (mA (wC ?_)))
   obtain rfl := oI h0
   exact lA [] rG
  refine oA (dA ?_)
  obtain ⟨e37, he37, h1⟩ := bA h1
  obtain ⟨he37a, he37b, he37c⟩ := wA he37
  obtain ⟨e38, he38, h1⟩ := bA h1
  obtain ⟨he38a, he38b, he38c⟩ := wA he38
  obtain ⟨e39, he39, h1⟩ := bA h1
  obtain ⟨he39a, he39b, he39c⟩ := wA he39
  obtain ⟨hc40, h1⟩ := pD h1
  obtain ⟨hc41, h1⟩ := pD h1
  refine pC 346 [0, 7, 8, 9, 10] (fun _ => none) rfl rfl rfl (fun _ _ => aE (rA he37a (rA he37b (rA he37c (rA he38a (rA he38b (rA he38c (rA he39a (rA he39b he39c))))))))) ?_
  refine xE ⟨[(0, .psl 1 (List.map (sA 4 aA.enc) runs1)), (7, .sl 144 (g33 + 1) 4 0 ((l30 ++ [e39]).length)), (8, .sl 145 (g34 + 1) 1 0 ((vfrom31 ++ [vr35]).length)), (9, .sl 128 g32 1 0 vat29.length), (10, .int .i64 vr35)], [(128, ⟨g32, true, true, 1, List.map (fA .i64) vat29⟩), (144, ⟨(g33 + 1), true, true, 4, List.map aA.enc (l30 ++ [e39])⟩), (145, ⟨(g34 + 1), true, true, 1, List.map (fA .i64) (vfrom31 ++ [vr35])⟩)], 346, []⟩ ?_
  refine nB 402 [0, 7, 8, 9] (fun _ => none) rfl (fun _ _ => rS (rA he37a (rA he37b (rA he37c (rA he38a (rA he38b (rA he38c (rA he39a (rA he39b he39c))))))))) ?_
  refine qB (dA ?_)
  exact ⟨⟨(fu, (vat29.set vr35.toNat (IntKind.i64.wrap (e38 + 1))), (l30 ++ [e39]), (vfrom31 ++ [vr35]), g32, (g33 + 1), (g34 + 1)), h1⟩, ⟨rF, rE, rfl, rfl, trivial, trivial⟩, Nat.lt_succ_self _⟩
theorem zo2 {fu : Nat} {vs1 : jB} {r : Int} (h0 : aW fu vs1 = some r) : yA Tryz.prog 140 [.agg (jB.enc vs1)] (.int .i64 r) [] := by
 refine cB Tryz.func140 rfl (by decide) rL ?_
 dsimp only [Tryz.f140]
 rw [aW] at h0
 refine xS 16 [1] ?_
 refine iA ?_
 refine xS 48 [1, 6] ?_
 refine xI h0 rfl (fun h0 hb2 => ?_) (fun h0 hb2 => ?_)
 ·
  refine xS 56 [2] ?_
  refine kA (mA ?_)
  obtain rfl := oI h0
  exact lA [] rG
 refine oA (dA (iA ?_))
 obtain ⟨b3, hb3, h0⟩ := bA h0
 refine mC (fr' := [(14, .bool b3)]) (hp' := [(0, ⟨0, true, true, 3, [[.bool vs1.Some, .str vs1.Last, .bool vs1.Bottom]]⟩)]) [0] 112 [14] (fun _ => none) rfl (fun Kt hK => by
   cases hg4 : (!vs1.Some) with
   | false =>
    replace hb3 := qA hb3 hg4
    have hqb3 := oI hb3
    subst hqb3
    exact rW hg4 hK
   | true =>
    replace hb3 := aB hb3 hg4
    have hqb3 := oI hb3
    subst hqb3
    exact rW hg4 hK) ?_
 refine xI h0 rfl (fun h0 hb5 => ?_) (fun h0 hb5 => ?_)
 ·
  refine xS 120 [2] ?_
  refine kA (mA ?_)
  obtain rfl := oI h0
  exact lA [] rG
 refine oA (dA ?_)
 refine xS 120 [2] ?_
 refine kA ?_
 obtain rfl := oI h0
 exact lA [] rG
theorem zkQ {fu : Nat} {vs1 : jB} {vx2 : aA} {r : Bool × jB × Int} (h0 : aX fu vs1 vx2 = some r) : yA Tryz.prog 122 [.agg (jB.enc vs1), .agg (aA.enc vx2)] (.tup [.bool r.1, .agg (jB.enc r.2.1), .int .i64 r.2.2]) [] := by
 refine cB Tryz.func122 rfl (by decide) rL ?_
 dsimp only [Tryz.f122]
 rw [aX] at h0
 refine xS 40 [2, 3, 5] ?_
 obtain ⟨vr3, hvr3, h0⟩ := bA h0
 refine nA 64 [2, 3, 5, 7] (fun | 1 => some (.int .i64 vr3, []) | _ => none) rfl (fun _ _ => rC (zo2 hvr3)) ?_
 refine iA ?_
 refine xS 80 [2, 3, 5, 7, 12] ?_
 refine xI h0 rfl (fun h0 hb4 => ?_) (fun h0 hb4 => ?_)
 ·
  obtain ⟨vr5, hvr5, h0⟩ := bA h0
  refine nB 104 [2, 3, 5, 7] (fun | 1 => some (.int .i64 vr5, []) | _ => none) rfl (fun _ _ => rC (zfa hvr5)) ?_
  refine dA (iA ?_)
  obtain ⟨b6, hb6, h0⟩ := bA h0
  obtain ⟨b7, hb7, h0⟩ := bA h0
  refine mC (fr' := [(2, .ref 0 0 0 0), (3, .ref 8 0 0 0), (5, .ref 24 0 0 0), (7, .int .i64 vr5), (27, .bool b7)]) (hp' := [(0, ⟨0, true, true, 3, [[.bool vs1.Some, .str vs1.Last, .bool vs1.Bottom]]⟩), (8, ⟨0, true, true, 4, [[.str vx2.Key, .str vx2.Val, .bool vx2.Dead, .int .i64 vx2.Seq]]⟩), (24, ⟨0, true, true, 3, [[.bool false, .str [], .bool false]]⟩)]) [0, 8, 24] 208 [2, 3, 5, 7, 27] (fun _ => none) rfl (fun Kt hK => by
    cases hg8 : (decide (vr5 = 0)) with
    | false =>
     replace hb6 := qA hb6 hg8
     have hqb6 := oI hb6
     cases b6 with
     | false =>
      replace hb7 := qA hb7 rfl
      have hqb7 := oI hb7
      subst hqb7
      exact rW hg8 hK
     | true =>
      cases hqb6
    | true =>
     replace hb6 := aB hb6 hg8
     have hqb6 := oI hb6
     cases b6 with
     | false =>
      replace hb7 := qA hb7 rfl
      have hqb7 := oI hb7
      subst hqb7
      exact rW (rA hg8 hqb6) hK
     | true =>
      replace hb7 := aB hb7 rfl
      have hqb7 := oI hb7
      subst hqb7
      exact rW (rA hg8 hqb6) hK) ?_
  refine xI h0 rfl (fun h0 hb11 => ?_) (fun h0 hb11 => ?_)
  ·
   refine xR 216 [2, 3, 5, 7] ?_
   refine dA (iA ?_)
   refine xS 232 [2, 3, 5, 7, 29] ?_
   refine kK rfl ?_
   refine xS 272 [4, 5, 6] ?_
   refine kA (mA ?_)
   obtain rfl := oI h0
   exact lA [] rG
  refine oA (dA (iA ?_))
  refine xS 224 [2, 3, 5, 7, 29] ?_
  refine xI h0 rfl (fun h0 hb12 => ?_) (fun h0 hb12 => ?_)
  ·
   refine xS 264 [4, 5, 6] ?_
   refine kA (mA ?_)
   obtain rfl := oI h0
   exact lA [] rG
  refine oA (dA ?_)
  obtain ⟨b13, hb13, h0⟩ := bA h0
  refine mC (fr' := [(2, .ref 0 0 0 0), (3, .ref 8 0 0 0), (5, .ref 24 0 0 0), (8, .bool b13)]) (hp' := [(0, ⟨0, true, true, 3, [[.bool vs1.Some, .str vs1.Last, .bool vs1.Bottom]]⟩), (8, ⟨0, true, true, 4, [[.str vx2.Key, .str vx2.Val, .bool vx2.Dead, .int .i64 vx2.Seq]]⟩), (24, ⟨0, true, true, 3, [[.bool false, .str [], .bool false]]⟩)]) [0, 8, 24] 312 [2, 3, 5, 8] (fun _ => none) rfl (fun Kt hK => by
    cases hg14 : (!vs1.Some) with
    | false =>
     replace hb13 := qA hb13 hg14
     have hqb13 := oI hb13
     subst hqb13
     exact rW hg14 hK
    | true =>
     replace hb13 := aB hb13 hg14
     have hqb13 := oI hb13
     subst hqb13
     exact rW hg14 hK) ?_
  obtain ⟨b16, hb16, h0⟩ := bA h0
  refine bL (fr' := [(4, .bool b16), (5, .ref 24 0 0 0), (6, .int .i64 0)]) (hp' := [(0, ⟨0, true, true, 3, [[.bool vs1.Some, .str vs1.Last, .bool vs1.Bottom]]⟩), (8, ⟨0, true, true, 4, [[.str vx2.Key, .str vx2.Val, .bool vx2.Dead, .int .i64 vx2.Seq]]⟩), (24, ⟨0, true, true, 3, [[.bool true, .str vx2.Key, .bool vs1.Bottom]]⟩)]) [0, 8, 24] 456 [4, 5, 6] (fun _ => none) rfl rfl rfl (fun Kt hK => by
    cases b13 with
    | false =>
     replace hb16 := qA hb16 rfl
     have hqb16 := oI hb16
     subst hqb16
     exact nF
    | true =>
     replace hb16 := aB hb16 rfl
     obtain ⟨b15, hb15, hb16⟩ := bA hb16
     have hqb16 := oI hb16
     cases hg18 : vs1.Bottom with
     | false =>
      replace hb15 := qA hb15 hg18
      have hqb15 := oI hb15
      subst hqb16
      subst hqb15
      exact hO hg18 hK
     | true =>
      replace hb15 := aB hb15 hg18
      have hqb15 := oI hb15
      subst hqb16
      subst hqb15
      exact hO hg18 hK) ?_
  refine kA ?_
  obtain rfl := oI h0
  exact lA [] rG
 refine oA (dA (iA ?_))
 obtain ⟨b19, hb19, h0⟩ := bA h0
 obtain ⟨b20, hb20, h0⟩ := bA h0
 refine mC (fr' := [(2, .ref 0 0 0 0), (3, .ref 8 0 0 0), (5, .ref 24 0 0 0), (7, .int .i64 vr3), (27, .bool b20)]) (hp' := [(0, ⟨0, true, true, 3, [[.bool vs1.Some, .str vs1.Last, .bool vs1.Bottom]]⟩), (8, ⟨0, true, true, 4, [[.str vx2.Key, .str vx2.Val, .bool vx2.Dead, .int .i64 vx2.Seq]]⟩), (24, ⟨0, true, true, 3, [[.bool false, .str [], .bool false]]⟩)]) [0, 8, 24] 184 [2, 3, 5, 7, 27] (fun _ => none) rfl (fun Kt hK => by
   cases hg21 : (decide (vr3 = 0)) with
   | false =>
    replace hb19 := qA hb19 hg21
    have hqb19 := oI hb19
    cases b19 with
    | false =>
     replace hb20 := qA hb20 rfl
     have hqb20 := oI hb20
     subst hqb20
     exact rW hg21 hK
    | true =>
     cases hqb19
   | true =>
    replace hb19 := aB hb19 hg21
    have hqb19 := oI hb19
    cases b19 with
    | false =>
     replace hb20 := qA hb20 rfl
     have hqb20 := oI hb20
     subst hqb20
     exact rW (rA hg21 hqb19) hK
    | true =>
     replace hb20 := aB hb20 rfl
     have hqb20 := oI hb20
     subst hqb20
     exact rW (rA hg21 hqb19) hK) ?_
 refine xI h0 rfl (fun h0 hb24 => ?_) (fun h0 hb24 => ?_)
 ·
  refine xR 192 [2, 3, 5, 7] ?_
  refine dA (iA ?_)
  refine xS 208 [2, 3, 5, 7, 29] ?_
  refine kK rfl ?_
  refine xS 248 [4, 5, 6] ?_
  refine kA (mA ?_)
  obtain rfl := oI h0
  exact lA [] rG
 refine oA (dA (iA ?_))
 refine xS 200 [2, 3, 5, 7, 29] ?_
 refine xI h0 rfl (fun h0 hb25 => ?_) (fun h0 hb25 => ?_)
 ·
  refine xS 240 [4, 5, 6] ?_
  refine kA (mA ?_)
  obtain rfl := oI h0
  exact lA [] rG
 refine oA (dA ?_)
 obtain ⟨b26, hb26, h0⟩ := bA h0
 refine mC (fr' := [(2, .ref 0 0 0 0), (3, .ref 8 0 0 0), (5, .ref 24 0 0 0), (8, .bool b26)]) (hp' := [(0, ⟨0, true, true, 3, [[.bool vs1.Some, .str vs1.Last, .bool vs1.Bottom]]⟩), (8, ⟨0, true, true, 4, [[.str vx2.Key, .str vx2.Val, .bool vx2.Dead, .int .i64 vx2.Seq]]⟩), (24, ⟨0, true, true, 3, [[.bool false, .str [], .bool false]]⟩)]) [0, 8, 24] 288 [2, 3, 5, 8] (fun _ => none) rfl (fun Kt hK => by
   cases hg27 : (!vs1.Some) with
   | false =>
    replace hb26 := qA hb26 hg27
    have hqb26 := oI hb26
    subst hqb26
    exact rW hg27 hK
   | true =>
    replace hb26 := aB hb26 hg27
    have hqb26 := oI hb26
    subst hqb26
    exact rW hg27 hK) ?_
 obtain ⟨b29, hb29, h0⟩ := bA h0
 refine bL (fr' := [(4, .bool b29), (5, .ref 24 0 0 0), (6, .int .i64 0)]) (hp' := [(0, ⟨0, true, true, 3, [[.bool vs1.Some, .str vs1.Last, .bool vs1.Bottom]]⟩), (8, ⟨0, true, true, 4, [[.str vx2.Key, .str vx2.Val, .bool vx2.Dead, .int .i64 vx2.Seq]]⟩), (24, ⟨0, true, true, 3, [[.bool true, .str vx2.Key, .bool vs1.Bottom]]⟩)]) [0, 8, 24] 432 [4, 5, 6] (fun _ => none) rfl rfl rfl (fun Kt hK => by
   cases b26 with
   | false =>
    replace hb29 := qA hb29 rfl
    have hqb29 := oI hb29
    subst hqb29
    exact nF
   | true =>
    replace hb29 := aB hb29 rfl
    obtain ⟨b28, hb28, hb29⟩ := bA hb29
    have hqb29 := oI hb29
    cases hg31 : vs1.Bottom with
    | false =>
     replace hb28 := qA hb28 hg31
     have hqb28 := oI hb28
     subst hqb29
     subst hqb28
     exact hO hg31 hK
    | true =>
     replace hb28 := aB hb28 hg31
     have hqb28 := oI hb28
     subst hqb29
     subst hqb28
     exact hO hg31 hK) ?_
 refine kA ?_
 obtain rfl := oI h0
 exact lA [] rG
theorem zk9 {fu : Nat} {l1 : List aA} {bottom2 : Bool} {r : List aA × Int × Int} (h0 : rV fu l1 bottom2 = some r) : yA Tryz.prog 95 [.psl 4 (l1.map aA.enc), .bool bottom2] (.tup [.psl 4 (r.1.map aA.enc), .int .i64 r.2.1, .int .i64 r.2.2]) [] := by
 refine cB Tryz.func95 rfl (by decide) rL ?_
 dsimp only [Tryz.f95]
 rw [rV] at h0
 refine xS 24 [0, 1] ?_
 refine iA ?_
 refine xS 48 [0, 1, 15] ?_
 refine xI h0 rfl (fun h0 hb3 => ?_) (fun h0 hb3 => ?_)
 ·
  refine xS 72 [4, 5, 6] ?_
  refine kA (mA ?_)
  obtain rfl := oI h0
  exact lA [] rG
 refine oA (dA ?_)
 obtain ⟨vr4, hvr4, h0⟩ := bA h0
 refine nA 80 [0, 7] (fun | 1 => some (.agg (jB.enc vr4), []) | _ => none) rfl (fun _ _ => rC (zbP hvr4)) ?_
 refine xS 88 [0, 7, 8] ?_
 refine iA ?_
 refine xS 96 [0, 7, 8, 9] ?_
 refine oB (s2 := ⟨[(0, .psl 4 (List.map aA.enc l1)), (7, .ref 64 0 0 0), (8, .sl 96 0 4 0 0), (9, .int .i64 0)], [(64, ⟨0, true, true, 3, [[.bool vr4.Some, .str vr4.Last, .bool vr4.Bottom]]⟩), (96, ⟨0, true, true, 4, List.map aA.enc []⟩)], 97, []⟩) [(96, 4)] rL ⟨rF, rE, rfl, rfl, trivial, rN⟩ ?_
 obtain ⟨x27, hxx27, h0⟩ := bA h0
 refine oC (fun s' => ∃ o40 : Bool × List UInt8 × Bool × List aA, ∃ g41 : Nat, x27 = .inl o40 ∧ s'.nx ≤ 129 ∧ LeN [] s' ⟨[(8, .sl 96 g41 4 0 o40.2.2.2.length)], [(64, ⟨0, true, true, 3, [[.bool o40.1, .str o40.2.1, .bool o40.2.2.1]]⟩), (96, ⟨g41, true, true, 4, List.map aA.enc o40.2.2.2⟩)], 129, []⟩) ?_ ?_
 ·
  intro s' hs
  obtain ⟨o40, g41, rfl, hn, hs⟩ := hs
  refine dA ?_
  refine oB [] hn hs ?_
  refine xS 161 [4, 5, 6] ?_
  refine kA ?_
  obtain rfl := oI h0
  exact lA [] rG
 refine nC (ι := { p : Nat × Int × Bool × List UInt8 × Bool × List aA × Nat // nL l1 p.1 p.2.1 p.2.2.1 p.2.2.2.1 p.2.2.2.2.1 p.2.2.2.2.2.1 = some x27 }) (fun p => ⟨[(0, .psl 4 (List.map aA.enc l1)), (7, .ref 64 0 0 0), (8, .sl 96 p.1.2.2.2.2.2.2 4 0 p.1.2.2.2.2.2.1.length), (9, .int .i64 p.1.2.1)], [(64, ⟨0, true, true, 3, [[.bool p.1.2.2.1, .str p.1.2.2.2.1, .bool p.1.2.2.2.2.1]]⟩), (96, ⟨p.1.2.2.2.2.2.2, true, true, 4, List.map aA.enc p.1.2.2.2.2.2.1⟩)], 97, []⟩) (fun p => p.1.1) ⟨(fu, 0, vr4.Some, vr4.Last, vr4.Bottom, [], 0), hxx27⟩ ⟨rF, rE, rfl, rfl, trivial, trivial⟩ (fun _ => Nat.le_refl _) ?_
 rintro ⟨⟨fu, i28, vs29, vs30, vs31, out32, g33⟩, h1⟩
 cases fu with
 | zero =>
  replace h1 : nL l1 0 i28 vs29 vs30 vs31 out32 = some x27 := h1
  rw [nL] at h1; cases h1
 | succ fu =>
  replace h1 : nL l1 (fu + 1) i28 vs29 vs30 vs31 out32 = some x27 := h1
  rw [nL] at h1
  dsimp only
  refine iA ?_
  refine xS 129 [0, 7, 8, 9, 21] ?_
  refine xI h1 rfl (fun h1 hb34 => ?_) (fun h1 hb34 => ?_)
  ·
   refine oA (dA (iA (xB ?_)))
   obtain ⟨e35, he35, h1⟩ := bA h1
   obtain ⟨he35a, he35b, he35c⟩ := wA he35
   obtain ⟨vr36, hvr36, h1⟩ := bA h1
   refine pC 241 [0, 7, 8, 9, 10, 11, 12] (fun | 5 => some (.tup [.bool vr36.1, .agg (jB.enc vr36.2.1), .int .i64 vr36.2.2], []) | _ => none) rfl rfl rfl (fun _ _ => pP (rA he35a (rA he35b he35c)) (zkQ hvr36)) ?_
   refine iA ?_
   refine nA 257 [0, 7, 8, 9, 10, 11, 12, 35] (fun _ => none) rfl (fun _ _ => rS (rA he35a (rA he35b he35c))) ?_
   refine xI h1 rfl (fun h1 hb37 => ?_) (fun h1 hb37 => ?_)
   ·
    refine nA 297 [4, 5, 6] (fun _ => none) rfl (fun _ _ => rS (rA he35a (rA he35b he35c))) ?_
    refine kA ?_
    obtain rfl := oI h1
    refine mA (cC (mA (mA (wC (mA ?_)))))
    obtain rfl := oI h0
    refine lA [] ?_
    exact rJ (rA he35a (rA he35b he35c))
   refine oA (dA (iA ?_))
   refine nA 265 [0, 7, 8, 9, 11, 38] (fun _ => none) rfl (fun _ _ => rS (rA he35a (rA he35b he35c))) ?_
   refine xI h1 rfl (fun h1 hb38 => ?_) (fun h1 hb38 => ?_)
   ·
    obtain ⟨hc39, h1⟩ := pD h1
    refine nB 329 [0, 7, 8, 9, 11] (fun _ => none) rfl (fun _ _ => rS (rA he35a (rA he35b he35c))) ?_
    refine dA ?_
    refine xE ⟨[(0, .psl 4 (List.map aA.enc l1)), (7, .ref 64 0 0 0), (8, .sl 96 (g33 + 1) 4 0 ((out32 ++ [e35]).length)), (9, .int .i64 i28), (11, .ref 209 0 0 0)], [(64, ⟨0, true, true, 3, [[.bool vs29, .str vs30, .bool vs31]]⟩), (96, ⟨(g33 + 1), true, true, 4, List.map aA.enc (out32 ++ [e35])⟩), (209, ⟨0, true, true, 3, [[.bool vr36.2.1.Some, .str vr36.2.1.Last, .bool vr36.2.1.Bottom]]⟩)], 329, []⟩ ?_
    refine nB 345 [0, 7, 8, 9] (fun _ => none) rfl (fun _ _ => rS (rA he35a (rA he35b he35c))) ?_
    refine qB (dA ?_)
    refine nB 369 [0, 7, 8, 9] (fun _ => none) rfl (fun _ _ => rS (rA he35a (rA he35b he35c))) ?_
    refine dA ?_
    exact ⟨⟨(fu, (IntKind.i64.wrap (i28 + 1)), vr36.2.1.Some, vr36.2.1.Last, vr36.2.1.Bottom, (out32 ++ [e35]), (g33 + 1)), h1⟩, ⟨rF, rE, rfl, rfl, trivial, trivial⟩, Nat.lt_succ_self _⟩
   refine oA (dA ?_)
   refine nB 281 [0, 7, 8, 9] (fun _ => none) rfl (fun _ _ => rS (rA he35a (rA he35b he35c))) ?_
   refine qB (dA ?_)
   refine nB 305 [0, 7, 8, 9] (fun _ => none) rfl (fun _ _ => rS (rA he35a (rA he35b he35c))) ?_
   refine dA ?_
   exact ⟨⟨(fu, (IntKind.i64.wrap (i28 + 1)), vr36.2.1.Some, vr36.2.1.Last, vr36.2.1.Bottom, out32, g33), h1⟩, ⟨rF, rE, rfl, rfl, trivial, trivial⟩, Nat.lt_succ_self _⟩
  refine fC (xA (xA (iC ?_)))
  obtain rfl := oI h1
  exact ⟨_, g33, rfl, rL, ⟨rF, rE, rfl, rfl, trivial, trivial⟩⟩
theorem zdZ {fu : Nat} {l1 : List aA} {bottom2 : Bool} {r : List aA × jB} (h0 : qT fu l1 bottom2 = some r) : yA Tryz.prog 63 [.psl 4 (l1.map aA.enc), .bool bottom2] (.tup [.psl 4 (r.1.map aA.enc), .agg (jB.enc r.2)]) [] := by
 refine cB Tryz.func63 rfl (by decide) rL ?_
 dsimp only [Tryz.f63]
 rw [qT] at h0
 refine xS 16 [0, 1, 5] ?_
 obtain ⟨vr3, hvr3, h0⟩ := bA h0
 refine nA 96 [0, 1, 5, 6] (fun | 2 => some (.tup [.psl 4 (vr3.1.map aA.enc), .int .i64 vr3.2.1, .int .i64 vr3.2.2], []) | _ => none) rfl (fun _ _ => rC (zk9 hvr3)) ?_
 obtain ⟨vr4, hvr4, h0⟩ := bA h0
 refine nA 128 [0, 5, 6, 9] (fun | 1 => some (.agg (jB.enc vr4), []) | _ => none) rfl (fun _ _ => rC (zbP hvr4)) ?_
 refine iA ?_
 refine xS 152 [0, 5, 6, 9, 21] ?_
 refine xI h0 rfl (fun h0 hb5 => ?_) (fun h0 hb5 => ?_)
 ·
  obtain ⟨e6, he6, h0⟩ := bA h0
  obtain ⟨he6a, he6b, he6c⟩ := wA he6
  refine qG 240 [5, 6, 9] (fun _ => none) rfl rfl rfl (fun _ _ => aE (rA he6a (rA he6b he6c))) ?_
  refine dA ?_
  refine pC 272 [4, 5] (fun _ => none) rfl rfl rfl (fun _ _ => aE (rA he6a (rA he6b he6c))) ?_
  refine kA ?_
  obtain rfl := oI h0
  refine lA [] ?_
  exact rJ (rA he6a (rA he6b he6c))
 refine oA (dA ?_)
 refine pC 184 [4, 5] (fun _ => none) rfl rfl rfl (fun _ _ => nF) ?_
 refine kA ?_
 obtain rfl := oI h0
 exact lA [] rG
theorem cS {fu : Nat} {a1 : List aA} {b2 : List aA} {r : Bool} (h0 : sO fu a1 b2 = some r) : yA Tryz.prog 81 [.psl 4 (a1.map aA.enc), .psl 4 (b2.map aA.enc)] (.bool r) [] := by
 refine cB Tryz.func81 rfl (by decide) rL ?_
 dsimp only [Tryz.f81]
 rw [sO] at h0
 refine xS 8 [0, 1] ?_
 refine iA ?_
 refine xS 48 [0, 1, 10] ?_
 refine xI h0 rfl (fun h0 hb3 => ?_) (fun h0 hb3 => ?_)
 ·
  refine xS 56 [4] ?_
  refine kA (mA ?_)
  obtain rfl := oI h0
  exact lA [] rG
 refine oA (dA (iA ?_))
 refine xS 56 [0, 1, 5] ?_
 obtain ⟨x13, hxx13, h0⟩ := bA h0
 refine oC (fun s' => ∃ o19 : Unit, x13 = .inl o19 ∧ s'.nx ≤ 88 ∧ LeN [] s' ⟨[], [], 88, []⟩) ?_ ?_
 ·
  intro s' hs
  obtain ⟨o19, rfl, hn, hs⟩ := hs
  refine dA ?_
  refine oB [] hn hs ?_
  refine xS 96 [4] ?_
  refine kA ?_
  obtain rfl := oI h0
  exact lA [] rG
 refine nC (ι := { p : Nat × Int // mO a1 b2 p.1 p.2 = some x13 }) (fun p => ⟨[(0, .psl 4 (List.map aA.enc a1)), (1, .psl 4 (List.map aA.enc b2)), (5, .int .i64 p.1.2)], [], 56, []⟩) (fun p => p.1.1) ⟨(fu, 0), hxx13⟩ ⟨rF, rE, rfl, rfl, trivial, trivial⟩ (fun _ => Nat.le_refl _) ?_
 rintro ⟨⟨fu, i14⟩, h1⟩
 cases fu with
 | zero =>
  replace h1 : mO a1 b2 0 i14 = some x13 := h1
  rw [mO] at h1; cases h1
 | succ fu =>
  replace h1 : mO a1 b2 (fu + 1) i14 = some x13 := h1
  rw [mO] at h1
  dsimp only
  refine iA ?_
  refine xS 88 [0, 1, 5, 14] ?_
  refine xI h1 rfl (fun h1 hb15 => ?_) (fun h1 hb15 => ?_)
  ·
   refine oA (dA (iA (xB ?_)))
   obtain ⟨e16, he16, h1⟩ := bA h1
   obtain ⟨he16a, he16b, he16c⟩ := wA he16
   obtain ⟨e17, he17, h1⟩ := bA h1
   obtain ⟨he17a, he17b, he17c⟩ := wA he17
   refine pC 160 [0, 1, 5, 25] (fun _ => none) rfl rfl rfl (fun _ _ => aE (rA he16a (rA he16b (rA he16c (rA he17a (rA he17b he17c)))))) ?_
   refine xI h1 rfl (fun h1 hb18 => ?_) (fun h1 hb18 => ?_)
   ·
    refine nA 168 [4] (fun _ => none) rfl (fun _ _ => rS (rA he16a (rA he16b (rA he16c (rA he17a (rA he17b he17c)))))) ?_
    refine kA ?_
    obtain rfl := oI h1
    refine cC (mA (mA (wC (mA ?_))))
    obtain rfl := oI h0
    refine lA [] ?_
    exact rJ (rA he16a (rA he16b (rA he16c (rA he17a (rA he17b he17c)))))
   refine oA (qB (dA ?_))
   refine nB 184 [0, 1, 5] (fun _ => none) rfl (fun _ _ => rS (rA he16a (rA he16b (rA he16c (rA he17a (rA he17b he17c)))))) ?_
   refine dA ?_
   exact ⟨⟨(fu, (IntKind.i64.wrap (i14 + 1))), h1⟩, ⟨rF, rE, rfl, rfl, trivial, trivial⟩, Nat.lt_succ_self _⟩
  refine fC (xA (xA (iC ?_)))
  obtain rfl := oI h1
  exact ⟨_, rfl, rL, ⟨rF, rE, rfl, rfl, trivial, trivial⟩⟩
theorem zku {fu : Nat} {vs1 : lB} {r : Int} (h0 : yT fu vs1 = some r) : yA Tryz.prog 78 [.agg (lB.enc vs1)] (.int .i64 r) [] := by
 refine cB Tryz.func78 rfl (by decide) rL ?_
 dsimp only [Tryz.f78]
 rw [yT] at h0
 refine xS 16 [1] ?_
 obtain ⟨vr2, hvr2, h0⟩ := bA h0
 refine nA 80 [1, 4] (fun | 2 => some (.tup [.int .i64 vr2.1, .int .i64 vr2.2], []) | _ => none) rfl (fun _ _ => rC (zbl hvr2)) ?_
 refine iA ?_
 refine xS 96 [1, 4, 18] ?_
 refine xI h0 rfl (fun h0 hb3 => ?_) (fun h0 hb3 => ?_)
 ·
  refine xS 112 [2] ?_
  refine kA (mA ?_)
  obtain rfl := oI h0
  exact lA [] rG
 refine oA (dA ?_)
 obtain ⟨vr4, hvr4, h0⟩ := bA h0
 refine nA 120 [1, 5] (fun | 1 => some (.int .i64 vr4, []) | _ => none) rfl (fun _ _ => rC (zeG hvr4)) ?_
 refine iA ?_
 obtain ⟨b5, hb5, h0⟩ := bA h0
 refine mC (fr' := [(1, .ref 0 0 0 0), (5, .int .i64 vr4), (29, .bool b5)]) (hp' := [(0, ⟨0, true, true, 10, [[.psl 1 (List.map (sA 4 aA.enc) vs1.Merge.Runs), .psl 1 (List.map (fA .i64) vs1.Merge.At), .psl 2 (List.map eA.enc vs1.Merge.Tree.Keys), .psl 1 (List.map (fA .i64) vs1.Merge.Tree.Lose), .int .i64 vs1.Merge.Tree.Win, .bool vs1.Shadow.Some, .str vs1.Shadow.Last, .bool vs1.Shadow.Bottom, .psl 4 (List.map aA.enc vs1.Out), .int .i64 vs1.Steps]]⟩)]) [0] 184 [1, 5, 29] (fun _ => none) rfl (fun Kt hK => by
   cases hg6 : (decide (20000 < (vs1.Out.length : Int))) with
   | false =>
    replace hb5 := qA hb5 hg6
    have hqb5 := oI hb5
    subst hqb5
    exact rW hg6 hK
   | true =>
    replace hb5 := aB hb5 hg6
    have hqb5 := oI hb5
    subst hqb5
    exact rW hg6 hK) ?_
 refine xI h0 rfl (fun h0 hb7 => ?_) (fun h0 hb7 => ?_)
 ·
  refine xS 192 [2] ?_
  refine kA (mA ?_)
  obtain rfl := oI h0
  exact lA [] rG
 refine oA (dA (iA ?_))
 refine xS 216 [1, 5, 33] ?_
 refine xI h0 rfl (fun h0 hb8 => ?_) (fun h0 hb8 => ?_)
 ·
  refine xS 224 [2] ?_
  refine kA (mA ?_)
  obtain rfl := oI h0
  exact lA [] rG
 refine oA (dA ?_)
 obtain ⟨vr9, hvr9, h0⟩ := bA h0
 refine nA 304 [1, 5, 6] (fun | 3 => some (.tup [.psl 4 (vr9.1.map aA.enc), .psl 1 (vr9.2.1.map (fA .i64)), .int .i64 vr9.2.2], []) | _ => none) rfl (fun _ _ => rC (zew hvr9)) ?_
 obtain ⟨hc10, h0⟩ := pD h0
 obtain ⟨vr11, hvr11, h0⟩ := bA h0
 refine pC 408 [1, 9, 10] (fun | 6 => some (.tup [.psl 4 (vr11.1.map aA.enc), .agg (jB.enc vr11.2)], []) | _ => none) rfl rfl rfl (fun _ _ => aO (zdZ hvr11)) ?_
 refine iA ?_
 obtain ⟨vr12, hvr12, h0⟩ := bA h0
 obtain ⟨b13, hb13, h0⟩ := bA h0
 refine mC (fr' := [(62, .bool b13)]) (hp' := [(0, ⟨0, true, true, 10, [[.psl 1 (List.map (sA 4 aA.enc) vs1.Merge.Runs), .psl 1 (List.map (fA .i64) vs1.Merge.At), .psl 2 (List.map eA.enc vs1.Merge.Tree.Keys), .psl 1 (List.map (fA .i64) vs1.Merge.Tree.Lose), .int .i64 vs1.Merge.Tree.Win, .bool vs1.Shadow.Some, .str vs1.Shadow.Last, .bool vs1.Shadow.Bottom, .psl 4 (List.map aA.enc vs1.Out), .int .i64 vs1.Steps]]⟩), (384, ⟨0, true, true, 3, [[.bool vr11.2.Some, .str vr11.2.Last, .bool vr11.2.Bottom]]⟩)]) [0, 384] 496 [62] (fun | 3 => some (.bool vr12, []) | _ => none) rfl (fun Kt hK => by
   cases hg14 : (!vr12) with
   | false =>
    replace hb13 := qA hb13 hg14
    have hqb13 := oI hb13
    subst hqb13
    first | exact iI hg14 (cS hvr12) hK | exact rW hg14 hK
   | true =>
    replace hb13 := aB hb13 hg14
    have hqb13 := oI hb13
    subst hqb13
    first | exact iI hg14 (cS hvr12) hK | exact rW hg14 hK) ?_
 refine xI h0 rfl (fun h0 hb15 => ?_) (fun h0 hb15 => ?_)
 ·
  refine xS 504 [2] ?_
  refine kA (mA ?_)
  obtain rfl := oI h0
  exact lA [] rG
 refine oA (dA ?_)
 refine xS 504 [2] ?_
 refine kA ?_
 obtain rfl := oI h0
 exact lA [] rG
theorem zm1 {fu : Nat} {vs1 : dB} {r : Int × Int} (h0 : pV fu vs1 = some r) : yA Tryz.prog 79 [.agg (dB.enc vs1)] (.tup [.int .i64 r.1, .int .i64 r.2]) [] := by
 refine cB Tryz.func79 rfl (by decide) rL ?_
 dsimp only [Tryz.f79]
 rw [pV] at h0
 refine xS 24 [1] ?_
 obtain ⟨vr2, hvr2, h0⟩ := bA h0
 refine nA 80 [1, 5] (fun | 1 => some (.tup [.int .i64 vr2.1, .int .i64 vr2.2], []) | _ => none) rfl (fun _ _ => rC (zbl hvr2)) ?_
 refine iA ?_
 refine xS 96 [1, 5, 14] ?_
 refine xI h0 rfl (fun h0 hb3 => ?_) (fun h0 hb3 => ?_)
 ·
  refine xS 120 [2, 3] ?_
  refine kA (mA ?_)
  obtain rfl := oI h0
  exact lA [] rG
 refine oA (dA ?_)
 refine xS 104 [1, 6] ?_
 refine iA ?_
 refine xS 112 [1, 6, 7] ?_
 obtain ⟨x12, hxx12, h0⟩ := bA h0
 refine oC (fun s' => s'.nx ≤ 152 ∧ LeN [] s' ⟨[(6, .int .i64 x12)], [(0, ⟨0, true, true, 5, [[.psl 1 (List.map (sA 4 aA.enc) vs1.Runs), .psl 1 (List.map (fA .i64) vs1.At), .psl 2 (List.map eA.enc vs1.Tree.Keys), .psl 1 (List.map (fA .i64) vs1.Tree.Lose), .int .i64 vs1.Tree.Win]]⟩)], 152, []⟩) ?_ ?_
 ·
  intro s' hs
  obtain ⟨hn, hs⟩ := hs
  refine dA ?_
  refine oB [] hn hs ?_
  refine xS 176 [2, 3] ?_
  refine kA ?_
  obtain rfl := oI h0
  exact lA [] rG
 refine nC (ι := { p : Nat × Int × Int // uN vs1 p.1 p.2.1 p.2.2 = some x12 }) (fun p => ⟨[(1, .ref 0 0 0 0), (6, .int .i64 p.1.2.1), (7, .int .i64 p.1.2.2)], [(0, ⟨0, true, true, 5, [[.psl 1 (List.map (sA 4 aA.enc) vs1.Runs), .psl 1 (List.map (fA .i64) vs1.At), .psl 2 (List.map eA.enc vs1.Tree.Keys), .psl 1 (List.map (fA .i64) vs1.Tree.Lose), .int .i64 vs1.Tree.Win]]⟩)], 112, []⟩) (fun p => p.1.1) ⟨(fu, 0, 0), hxx12⟩ ⟨rF, rE, rfl, rfl, trivial, trivial⟩ (fun _ => Nat.le_refl _) ?_
 rintro ⟨⟨fu, n13, i14⟩, h1⟩
 cases fu with
 | zero =>
  replace h1 : uN vs1 0 n13 i14 = some x12 := h1
  rw [uN] at h1; cases h1
 | succ fu =>
  replace h1 : uN vs1 (fu + 1) n13 i14 = some x12 := h1
  rw [uN] at h1
  dsimp only
  refine iA ?_
  refine xS 152 [1, 6, 7, 20] ?_
  refine xI h1 rfl (fun h1 hb15 => ?_) (fun h1 hb15 => ?_)
  ·
   refine oA (dA (iA (xB ?_)))
   obtain ⟨e16, he16, h1⟩ := bA h1
   obtain ⟨he16a, he16b, he16c⟩ := wA he16
   obtain ⟨e17, he17, h1⟩ := bA h1
   obtain ⟨he17a, he17b, he17c⟩ := wA he17
   refine qG 272 [1, 6, 7] (fun _ => none) rfl rfl rfl (fun _ _ => aE (rA he16a (rA he16b (rA he16c (rA he17a (rA he17b he17c)))))) ?_
   refine qB (dA ?_)
   refine nB 296 [1, 6, 7] (fun _ => none) rfl (fun _ _ => rS (rA he16a (rA he16b (rA he16c (rA he17a (rA he17b he17c)))))) ?_
   refine dA ?_
   exact ⟨⟨(fu, (IntKind.i64.wrap ((IntKind.i64.wrap (n13 + (e16.length : Int))) - e17)), (IntKind.i64.wrap (i14 + 1))), h1⟩, ⟨rF, rE, rfl, rfl, trivial, trivial⟩, Nat.lt_succ_self _⟩
  refine fC (xA (xA (iC ?_)))
  obtain rfl := oI h1
  exact ⟨rL, ⟨rF, rE, rfl, rfl, trivial, trivial⟩⟩
theorem zbB {fu : Nat} {vs1 : lB} {r : Int × Int} (h0 : gS fu vs1 = some r) : yA Tryz.prog 47 [.agg (lB.enc vs1)] (.tup [.int .i64 r.1, .int .i64 r.2]) [] := by
 refine cB Tryz.func47 rfl (by decide) rL ?_
 dsimp only [Tryz.f47]
 rw [gS] at h0
 refine xS 24 [1] ?_
 obtain ⟨vr2, hvr2, h0⟩ := bA h0
 refine nA 48 [1, 4] (fun | 1 => some (.int .i64 vr2, []) | _ => none) rfl (fun _ _ => rC (zku hvr2)) ?_
 refine iA ?_
 refine xS 64 [1, 4, 8] ?_
 refine xI h0 rfl (fun h0 hb3 => ?_) (fun h0 hb3 => ?_)
 ·
  refine xS 88 [2, 3] ?_
  refine kA (mA ?_)
  obtain rfl := oI h0
  exact lA [] rG
 refine oA (dA ?_)
 obtain ⟨vr4, hvr4, h0⟩ := bA h0
 refine nA 120 [2, 3] (fun | 2 => some (.tup [.int .i64 vr4.1, .int .i64 vr4.2], []) | _ => none) rfl (fun _ _ => rC (zm1 hvr4)) ?_
 refine kA ?_
 obtain rfl := oI h0
 exact lA [] rG
theorem zfN {fu : Nat} {vs1 : dB} {r : aA × Int × dB × Int} (h0 : mU fu vs1 = some r) : yA Tryz.prog 61 [.agg (dB.enc vs1)] (.tup [.agg (aA.enc r.1), .int .i64 r.2.1, .agg (dB.enc r.2.2.1), .int .i64 r.2.2.2]) [] := by
 refine cB Tryz.func61 rfl (by decide) rL ?_
 dsimp only [Tryz.f61]
 rw [mU] at h0
 refine xS 40 [1, 2, 4] ?_
 obtain ⟨vr2, hvr2, h0⟩ := bA h0
 refine nA 96 [1, 2, 4, 7] (fun | 1 => some (.tup [.int .i64 vr2.1, .int .i64 vr2.2], []) | _ => none) rfl (fun _ _ => rC (zbl hvr2)) ?_
 refine iA ?_
 refine xS 112 [1, 2, 4, 7, 16] ?_
 refine xI h0 rfl (fun h0 hb3 => ?_) (fun h0 hb3 => ?_)
 ·
  refine xS 168 [2, 3, 4, 5] ?_
  refine kA (mA ?_)
  obtain rfl := oI h0
  exact lA [] rG
 refine oA (dA ?_)
 obtain ⟨vr4, hvr4, h0⟩ := bA h0
 refine nA 160 [1, 2, 4, 8] (fun | 4 => some (.int .i64 vr4, []) | _ => none) rfl (fun _ _ => rC (zbU hvr4)) ?_
 refine iA ?_
 refine xS 176 [1, 2, 4, 8, 26] ?_
 refine xI h0 rfl (fun h0 hb5 => ?_) (fun h0 hb5 => ?_)
 ·
  refine xS 224 [2, 3, 4, 5] ?_
  refine kA (mA ?_)
  obtain rfl := oI h0
  exact lA [] rG
 refine oA (dA ?_)
 obtain ⟨hc6, h0⟩ := pD h0
 refine xS 216 [1, 2, 4, 8, 9] ?_
 refine xE ⟨[(1, .ref 0 0 0 0), (2, .ref 8 0 0 0), (4, .ref 24 0 0 0), (8, .int .i64 vr4), (9, .sl 176 1 1 0 vs1.At.length)], [(0, ⟨0, true, true, 5, [[.psl 1 (List.map (sA 4 aA.enc) vs1.Runs), .psl 1 (List.map (fA .i64) vs1.At), .psl 2 (List.map eA.enc vs1.Tree.Keys), .psl 1 (List.map (fA .i64) vs1.Tree.Lose), .int .i64 vs1.Tree.Win]]⟩), (8, ⟨0, true, true, 4, [[.str [], .str [], .bool false, .int .i64 0]]⟩), (24, ⟨0, true, true, 5, [[.nils, .nils, .nils, .nils, .int .i64 0]]⟩), (176, ⟨1, true, true, 1, List.map (fA .i64) vs1.At⟩)], 216, []⟩ ?_
 obtain ⟨e7, he7, h0⟩ := bA h0
 obtain ⟨he7a, he7b, he7c⟩ := wA he7
 refine nA 272 [1, 2, 4, 8, 9] (fun _ => none) rfl (fun _ _ => rS (rA he7a (rA he7b he7c))) ?_
 refine xE ⟨[(1, .ref 0 0 0 0), (2, .ref 8 0 0 0), (4, .ref 24 0 0 0), (8, .int .i64 vr4), (9, .sl 176 1 1 0 ((vs1.At.set vr4.toNat (IntKind.i64.wrap (e7 + 1))).length))], [(0, ⟨0, true, true, 5, [[.psl 1 (List.map (sA 4 aA.enc) vs1.Runs), .psl 1 (List.map (fA .i64) vs1.At), .psl 2 (List.map eA.enc vs1.Tree.Keys), .psl 1 (List.map (fA .i64) vs1.Tree.Lose), .int .i64 vs1.Tree.Win]]⟩), (8, ⟨0, true, true, 4, [[.str [], .str [], .bool false, .int .i64 0]]⟩), (24, ⟨0, true, true, 5, [[.nils, .nils, .nils, .nils, .int .i64 0]]⟩), (176, ⟨1, true, true, 1, List.map (fA .i64) (vs1.At.set vr4.toNat (IntKind.i64.wrap (e7 + 1)))⟩)], 272, []⟩ ?_
 obtain ⟨e8, he8, h0⟩ := bA h0
 obtain ⟨he8a, he8b, he8c⟩ := wA he8
 obtain ⟨e9, he9, h0⟩ := bA h0
 obtain ⟨he9a, he9b, he9c⟩ := wA he9
 obtain ⟨vr10, hvr10, h0⟩ := bA h0
 refine pC 440 [2, 3, 4, 5] (fun | 16 => some (.agg (dB.enc vr10), []) | _ => none) rfl rfl rfl (fun _ _ => pP (rA he7a (rA he7b (rA he7c (rA he8a (rA he8b (rA he8c (rA he9a (rA he9b he9c)))))))) (zbv hvr10)) ?_
 refine kA ?_
 obtain rfl := oI h0
 refine lA [] ?_
 exact rJ (rA he7a (rA he7b (rA he7c (rA he8a (rA he8b (rA he8c (rA he9a (rA he9b he9c))))))))
theorem zhe {fu : Nat} {vs1 : lB} {n2 : Int} {r : lB × Int × Int} (h0 : yV fu vs1 n2 = some r) : yA Tryz.prog 33 [.agg (lB.enc vs1), .int .i64 n2] (.tup [.agg (lB.enc r.1), .int .i64 r.2.1, .int .i64 r.2.2]) [] := by
 refine cB Tryz.func33 rfl (by decide) rL ?_
 dsimp only [Tryz.f33]
 rw [yV] at h0
 refine xS 32 [1, 2, 4] ?_
 obtain ⟨vr3, hvr3, h0⟩ := bA h0
 refine nA 88 [1, 2, 4, 7, 8] (fun | 1 => some (.tup [.int .i64 vr3.1, .int .i64 vr3.2], []) | _ => none) rfl (fun _ _ => rC (zbB hvr3)) ?_
 refine iA ?_
 obtain ⟨b4, hb4, h0⟩ := bA h0
 refine mC (fr' := [(1, .int .i64 n2), (2, .ref 0 0 0 0), (4, .ref 8 0 0 0), (7, .int .i64 vr3.1), (8, .int .i64 vr3.2), (25, .bool b4)]) (hp' := [(0, ⟨0, true, true, 10, [[.psl 1 (List.map (sA 4 aA.enc) vs1.Merge.Runs), .psl 1 (List.map (fA .i64) vs1.Merge.At), .psl 2 (List.map eA.enc vs1.Merge.Tree.Keys), .psl 1 (List.map (fA .i64) vs1.Merge.Tree.Lose), .int .i64 vs1.Merge.Tree.Win, .bool vs1.Shadow.Some, .str vs1.Shadow.Last, .bool vs1.Shadow.Bottom, .psl 4 (List.map aA.enc vs1.Out), .int .i64 vs1.Steps]]⟩), (8, ⟨0, true, true, 10, [[.nils, .nils, .nils, .nils, .int .i64 0, .bool false, .str [], .bool false, .nils, .int .i64 0]]⟩)]) [0, 8] 136 [1, 2, 4, 7, 8, 25] (fun _ => none) rfl (fun Kt hK => by
   cases hg5 : (decide (vr3.2 = 0)) with
   | false =>
    replace hb4 := qA hb4 hg5
    have hqb4 := oI hb4
    subst hqb4
    exact rW hg5 hK
   | true =>
    replace hb4 := aB hb4 hg5
    have hqb4 := oI hb4
    subst hqb4
    exact rW hg5 hK) ?_
 refine xI h0 rfl (fun h0 hb6 => ?_) (fun h0 hb6 => ?_)
 ·
  refine xR 144 [1, 2, 4, 7, 8] ?_
  refine dA (iA ?_)
  refine xS 160 [1, 2, 4, 7, 8, 27] ?_
  refine kK rfl ?_
  refine xS 200 [4, 5, 6] ?_
  refine kA (mA ?_)
  obtain rfl := oI h0
  exact lA [] rG
 refine oA (dA (iA ?_))
 refine xS 152 [1, 2, 4, 7, 8, 27] ?_
 refine xI h0 rfl (fun h0 hb7 => ?_) (fun h0 hb7 => ?_)
 ·
  refine xS 192 [4, 5, 6] ?_
  refine kA (mA ?_)
  obtain rfl := oI h0
  exact lA [] rG
 refine oA (dA ?_)
 refine xS 184 [2, 4, 9] ?_
 refine iA ?_
 obtain ⟨vr8, hvr8, h0⟩ := bA h0
 refine nA 224 [2, 4, 9, 37] (fun | 1 => some (.int .i64 vr8, []) | _ => none) rfl (fun _ _ => rC (zeG hvr8)) ?_
 refine xI h0 rfl (fun h0 hb9 => ?_) (fun h0 hb9 => ?_)
 ·
  refine xS 256 [4, 5, 6] ?_
  refine kA (mA ?_)
  obtain rfl := oI h0
  exact lA [] rG
 refine oA (dA ?_)
 refine xS 248 [2, 4, 9, 10] ?_
 refine iA ?_
 refine xS 256 [2, 4, 9, 10, 11] ?_
 obtain ⟨x20, hxx20, h0⟩ := bA h0
 refine oC (fun s' => s'.nx ≤ 280 ∧ LeN [] s' ⟨[(2, .ref 0 0 0 0), (4, .ref 8 0 0 0), (9, .int .i64 (if vr3.1 < n2 then vr3.1 else n2)), (10, .ref 232 0 0 0)], [(0, ⟨0, true, true, 10, [[.psl 1 (List.map (sA 4 aA.enc) vs1.Merge.Runs), .psl 1 (List.map (fA .i64) vs1.Merge.At), .psl 2 (List.map eA.enc vs1.Merge.Tree.Keys), .psl 1 (List.map (fA .i64) vs1.Merge.Tree.Lose), .int .i64 vs1.Merge.Tree.Win, .bool vs1.Shadow.Some, .str vs1.Shadow.Last, .bool vs1.Shadow.Bottom, .psl 4 (List.map aA.enc vs1.Out), .int .i64 vs1.Steps]]⟩), (8, ⟨0, true, true, 10, [[.nils, .nils, .nils, .nils, .int .i64 0, .bool false, .str [], .bool false, .nils, .int .i64 0]]⟩), (232, ⟨0, true, true, 10, [[.psl 1 (List.map (sA 4 aA.enc) x20.1), .psl 1 (List.map (fA .i64) x20.2.1), .psl 2 (List.map eA.enc x20.2.2.1), .psl 1 (List.map (fA .i64) x20.2.2.2.1), .int .i64 x20.2.2.2.2, .bool vs1.Shadow.Some, .str vs1.Shadow.Last, .bool vs1.Shadow.Bottom, .psl 4 (List.map aA.enc vs1.Out), .int .i64 vs1.Steps]]⟩)], 280, []⟩) ?_ ?_
 ·
  intro s' hs
  obtain ⟨hn, hs⟩ := hs
  refine dA ?_
  refine oB [] hn hs ?_
  refine xS 328 [2, 4, 9, 10] ?_
  obtain ⟨vr29, hvr29, h0⟩ := bA h0
  refine nA 416 [2, 4, 9, 10, 12] (fun | 3 => some (.tup [.psl 4 (vr29.1.map aA.enc), .psl 1 (vr29.2.1.map (fA .i64)), .int .i64 vr29.2.2], []) | _ => none) rfl (fun _ _ => rC (zew hvr29)) ?_
  obtain ⟨hc30, h0⟩ := pD h0
  obtain ⟨vr31, hvr31, h0⟩ := bA h0
  refine pC 536 [4, 9, 10] (fun | 7 => some (.tup [.psl 4 (vr31.1.map aA.enc), .agg (jB.enc vr31.2)], []) | _ => none) rfl rfl rfl (fun _ _ => aO (zdZ hvr31)) ?_
  refine xS 576 [4, 5, 6] ?_
  refine kA ?_
  obtain rfl := oI h0
  exact lA [] rG
 refine nC (ι := { p : Nat × Int × List (List aA) × List Int × List eA × List Int × Int // yN vr3 n2 p.1 p.2.1 p.2.2.1 p.2.2.2.1 p.2.2.2.2.1 p.2.2.2.2.2.1 p.2.2.2.2.2.2 = some x20 }) (fun p => ⟨[(2, .ref 0 0 0 0), (4, .ref 8 0 0 0), (9, .int .i64 (if vr3.1 < n2 then vr3.1 else n2)), (10, .ref 232 0 0 0), (11, .int .i64 p.1.2.1)], [(0, ⟨0, true, true, 10, [[.psl 1 (List.map (sA 4 aA.enc) vs1.Merge.Runs), .psl 1 (List.map (fA .i64) vs1.Merge.At), .psl 2 (List.map eA.enc vs1.Merge.Tree.Keys), .psl 1 (List.map (fA .i64) vs1.Merge.Tree.Lose), .int .i64 vs1.Merge.Tree.Win, .bool vs1.Shadow.Some, .str vs1.Shadow.Last, .bool vs1.Shadow.Bottom, .psl 4 (List.map aA.enc vs1.Out), .int .i64 vs1.Steps]]⟩), (8, ⟨0, true, true, 10, [[.nils, .nils, .nils, .nils, .int .i64 0, .bool false, .str [], .bool false, .nils, .int .i64 0]]⟩), (232, ⟨0, true, true, 10, [[.psl 1 (List.map (sA 4 aA.enc) p.1.2.2.1), .psl 1 (List.map (fA .i64) p.1.2.2.2.1), .psl 2 (List.map eA.enc p.1.2.2.2.2.1), .psl 1 (List.map (fA .i64) p.1.2.2.2.2.2.1), .int .i64 p.1.2.2.2.2.2.2, .bool vs1.Shadow.Some, .str vs1.Shadow.Last, .bool vs1.Shadow.Bottom, .psl 4 (List.map aA.enc vs1.Out), .int .i64 vs1.Steps]]⟩)], 256, []⟩) (fun p => p.1.1) ⟨(fu, 0, vs1.Merge.Runs, vs1.Merge.At, vs1.Merge.Tree.Keys, vs1.Merge.Tree.Lose, vs1.Merge.Tree.Win), hxx20⟩ ⟨rF, rE, rfl, rfl, trivial, trivial⟩ (fun _ => Nat.le_refl _) ?_
 rintro ⟨⟨fu, i21, t22, t23, t24, t25, t26⟩, h1⟩
 cases fu with
 | zero =>
  replace h1 : yN vr3 n2 0 i21 t22 t23 t24 t25 t26 = some x20 := h1
  rw [yN] at h1; cases h1
 | succ fu =>
  replace h1 : yN vr3 n2 (fu + 1) i21 t22 t23 t24 t25 t26 = some x20 := h1
  rw [yN] at h1
  dsimp only
  refine iA ?_
  refine xS 280 [2, 4, 9, 10, 11, 42] ?_
  refine xI h1 rfl (fun h1 hb27 => ?_) (fun h1 hb27 => ?_)
  ·
   refine oA (dA (iA (xB ?_)))
   obtain ⟨vr28, hvr28, h1⟩ := bA h1
   refine nB 360 [2, 4, 9, 10, 11] (fun | 2 => some (.tup [.agg (aA.enc vr28.1), .int .i64 vr28.2.1, .agg (dB.enc vr28.2.2.1), .int .i64 vr28.2.2.2], []) | _ => none) rfl (fun _ _ => rC (zfN hvr28)) ?_
   refine qB (dA ?_)
   refine xR 384 [2, 4, 9, 10, 11] ?_
   refine dA ?_
   exact ⟨⟨(fu, (IntKind.i64.wrap (i21 + 1)), vr28.2.2.1.Runs, vr28.2.2.1.At, vr28.2.2.1.Tree.Keys, vr28.2.2.1.Tree.Lose, vr28.2.2.1.Tree.Win), h1⟩, ⟨rF, rE, rfl, rfl, trivial, trivial⟩, Nat.lt_succ_self _⟩
  refine fC (xA (xA (iC ?_)))
  obtain rfl := oI h1
  exact ⟨rL, ⟨rF, rE, rfl, rfl, trivial, trivial⟩⟩
theorem zac {fu : Nat} {a1 : dB} {b2 : dB} {r : Bool} (h0 : iX fu a1 b2 = some r) : yA Tryz.prog 80 [.agg (dB.enc a1), .agg (dB.enc b2)] (.bool r) [] := by
 refine cB Tryz.func80 rfl (by decide) rL ?_
 dsimp only [Tryz.f80]
 rw [iX] at h0
 refine xS 24 [2, 3] ?_
 refine iA ?_
 obtain ⟨b4, hb4, h0⟩ := bA h0
 obtain ⟨b6, hb6, h0⟩ := bA h0
 refine mC (fr' := [(2, .ref 0 0 0 0), (3, .ref 8 0 0 0), (28, .bool b6)]) (hp' := [(0, ⟨0, true, true, 5, [[.psl 1 (List.map (sA 4 aA.enc) a1.Runs), .psl 1 (List.map (fA .i64) a1.At), .psl 2 (List.map eA.enc a1.Tree.Keys), .psl 1 (List.map (fA .i64) a1.Tree.Lose), .int .i64 a1.Tree.Win]]⟩), (8, ⟨0, true, true, 5, [[.psl 1 (List.map (sA 4 aA.enc) b2.Runs), .psl 1 (List.map (fA .i64) b2.At), .psl 2 (List.map eA.enc b2.Tree.Keys), .psl 1 (List.map (fA .i64) b2.Tree.Lose), .int .i64 b2.Tree.Win]]⟩)]) [0, 8] 208 [2, 3, 28] (fun | 12 => (oR fu a1.At b2.At).bind fun vr3 => some (.bool vr3, []) | 20 => (iT fu a1.Tree b2.Tree).bind fun vr5 => some (.bool vr5, []) | _ => none) rfl (fun Kt hK => by
   cases hg7 : (!(decide ((a1.Runs.length : Int) = (b2.Runs.length : Int)))) with
   | false =>
    replace hb4 := qA hb4 hg7
    obtain ⟨vr3, hvr3, hb4⟩ := bA hb4
    have hqb4 := oI hb4
    cases b4 with
    | false =>
     replace hb6 := qA hb6 rfl
     obtain ⟨vr5, hvr5, hb6⟩ := bA hb6
     have hqb6 := oI hb6
     subst hqb6
     simp (maxSteps := 1000000) only [↓reduceIte, reduceCtorEq, Nat.reduceEqDiff, Nat.reduceLT, Nat.reduceLeDiff, Nat.reduceAdd, Nat.reduceMul, Int.reduceToNat, push_cast, ↓hg7, hvr3, ↓hqb4, hvr5]
     try simp only [↓hg7, ↓hqb4] at hK
     try have q0 := nU hvr3
     try have q1 := oZ hvr5
     all_goals exact rU
    | true =>
     replace hb6 := aB hb6 rfl
     have hqb6 := oI hb6
     subst hqb6
     simp (maxSteps := 1000000) only [↓reduceIte, reduceCtorEq, Nat.reduceEqDiff, Nat.reduceLT, Nat.reduceLeDiff, Nat.reduceAdd, Nat.reduceMul, Int.reduceToNat, push_cast, ↓hg7, hvr3, ↓hqb4]
     try simp only [↓hg7, ↓hqb4] at hK
     try have q0 := nU hvr3
     try have q1 := oZ hvr5
     all_goals exact rU
   | true =>
    replace hb4 := aB hb4 hg7
    have hqb4 := oI hb4
    cases b4 with
    | false =>
     cases hqb4
    | true =>
     replace hb6 := aB hb6 rfl
     have hqb6 := oI hb6
     subst hqb6
     simp (maxSteps := 1000000) only [↓reduceIte, reduceCtorEq, Nat.reduceEqDiff, Nat.reduceLT, Nat.reduceLeDiff, Nat.reduceAdd, Nat.reduceMul, Int.reduceToNat, push_cast, ↓hg7]
     try simp only [↓hg7] at hK
     try have q0 := nU hvr3
     try have q1 := oZ hvr5
     all_goals exact rU) ?_
 refine xI h0 rfl (fun h0 hb10 => ?_) (fun h0 hb10 => ?_)
 ·
  refine xS 216 [4] ?_
  refine kA (mA ?_)
  obtain rfl := oI h0
  exact lA [] rG
 refine oA (dA (iA ?_))
 refine xS 216 [2, 3, 5] ?_
 obtain ⟨x22, hxx22, h0⟩ := bA h0
 refine oC (fun s' => ∃ o29 : Unit, x22 = .inl o29 ∧ s'.nx ≤ 256 ∧ LeN [] s' ⟨[], [(0, ⟨0, true, true, 5, [[.psl 1 (List.map (sA 4 aA.enc) a1.Runs), .psl 1 (List.map (fA .i64) a1.At), .psl 2 (List.map eA.enc a1.Tree.Keys), .psl 1 (List.map (fA .i64) a1.Tree.Lose), .int .i64 a1.Tree.Win]]⟩), (8, ⟨0, true, true, 5, [[.psl 1 (List.map (sA 4 aA.enc) b2.Runs), .psl 1 (List.map (fA .i64) b2.At), .psl 2 (List.map eA.enc b2.Tree.Keys), .psl 1 (List.map (fA .i64) b2.Tree.Lose), .int .i64 b2.Tree.Win]]⟩)], 256, []⟩) ?_ ?_
 ·
  intro s' hs
  obtain ⟨o29, rfl, hn, hs⟩ := hs
  refine dA ?_
  refine oB [] hn hs ?_
  refine xS 264 [4] ?_
  refine kA ?_
  obtain rfl := oI h0
  exact lA [] rG
 refine nC (ι := { p : Nat × Int // kJ a1 b2 p.1 p.2 = some x22 }) (fun p => ⟨[(2, .ref 0 0 0 0), (3, .ref 8 0 0 0), (5, .int .i64 p.1.2)], [(0, ⟨0, true, true, 5, [[.psl 1 (List.map (sA 4 aA.enc) a1.Runs), .psl 1 (List.map (fA .i64) a1.At), .psl 2 (List.map eA.enc a1.Tree.Keys), .psl 1 (List.map (fA .i64) a1.Tree.Lose), .int .i64 a1.Tree.Win]]⟩), (8, ⟨0, true, true, 5, [[.psl 1 (List.map (sA 4 aA.enc) b2.Runs), .psl 1 (List.map (fA .i64) b2.At), .psl 2 (List.map eA.enc b2.Tree.Keys), .psl 1 (List.map (fA .i64) b2.Tree.Lose), .int .i64 b2.Tree.Win]]⟩)], 216, []⟩) (fun p => p.1.1) ⟨(fu, 0), hxx22⟩ ⟨rF, rE, rfl, rfl, trivial, trivial⟩ (fun _ => Nat.le_refl _) ?_
 rintro ⟨⟨fu, i23⟩, h1⟩
 cases fu with
 | zero =>
  replace h1 : kJ a1 b2 0 i23 = some x22 := h1
  rw [kJ] at h1; cases h1
 | succ fu =>
  replace h1 : kJ a1 b2 (fu + 1) i23 = some x22 := h1
  rw [kJ] at h1
  dsimp only
  refine iA ?_
  refine xS 256 [2, 3, 5, 33] ?_
  refine xI h1 rfl (fun h1 hb24 => ?_) (fun h1 hb24 => ?_)
  ·
   refine oA (dA (iA (xB ?_)))
   obtain ⟨e25, he25, h1⟩ := bA h1
   obtain ⟨he25a, he25b, he25c⟩ := wA he25
   obtain ⟨e26, he26, h1⟩ := bA h1
   obtain ⟨he26a, he26b, he26c⟩ := wA he26
   obtain ⟨vr27, hvr27, h1⟩ := bA h1
   refine pC 352 [2, 3, 5, 47] (fun | 10 => some (.bool vr27, []) | _ => none) rfl rfl rfl (fun _ _ => pP (rA he25a (rA he25b (rA he25c (rA he26a (rA he26b he26c))))) (cS hvr27)) ?_
   refine xI h1 rfl (fun h1 hb28 => ?_) (fun h1 hb28 => ?_)
   ·
    refine nA 360 [4] (fun _ => none) rfl (fun _ _ => rS (rA he25a (rA he25b (rA he25c (rA he26a (rA he26b he26c)))))) ?_
    refine kA ?_
    obtain rfl := oI h1
    refine cC (mA (mA (wC (mA ?_))))
    obtain rfl := oI h0
    refine lA [] ?_
    exact rJ (rA he25a (rA he25b (rA he25c (rA he26a (rA he26b he26c)))))
   refine oA (qB (dA ?_))
   refine nB 376 [2, 3, 5] (fun _ => none) rfl (fun _ _ => rS (rA he25a (rA he25b (rA he25c (rA he26a (rA he26b he26c)))))) ?_
   refine dA ?_
   exact ⟨⟨(fu, (IntKind.i64.wrap (i23 + 1))), h1⟩, ⟨rF, rE, rfl, rfl, trivial, trivial⟩, Nat.lt_succ_self _⟩
  refine fC (xA (xA (iC ?_)))
  obtain rfl := oI h1
  exact ⟨_, rfl, rL, ⟨rF, rE, rfl, rfl, trivial, trivial⟩⟩
theorem zgN {fu : Nat} {a1 : lB} {b2 : lB} {r : Bool} (h0 : qW fu a1 b2 = some r) : yA Tryz.prog 48 [.agg (lB.enc a1), .agg (lB.enc b2)] (.bool r) [] := by
 refine cB Tryz.func48 rfl (by decide) rL ?_
 dsimp only [Tryz.f48]
 rw [qW] at h0
 refine xS 24 [2, 3] ?_
 obtain ⟨vr3, hvr3, h0⟩ := bA h0
 obtain ⟨b4, hb4, h0⟩ := bA h0
 obtain ⟨b6, hb6, h0⟩ := bA h0
 obtain ⟨b7, hb7, h0⟩ := bA h0
 refine mC (fr' := [(4, .bool b7)]) (hp' := [(0, ⟨0, true, true, 10, [[.psl 1 (List.map (sA 4 aA.enc) a1.Merge.Runs), .psl 1 (List.map (fA .i64) a1.Merge.At), .psl 2 (List.map eA.enc a1.Merge.Tree.Keys), .psl 1 (List.map (fA .i64) a1.Merge.Tree.Lose), .int .i64 a1.Merge.Tree.Win, .bool a1.Shadow.Some, .str a1.Shadow.Last, .bool a1.Shadow.Bottom, .psl 4 (List.map aA.enc a1.Out), .int .i64 a1.Steps]]⟩), (8, ⟨0, true, true, 10, [[.psl 1 (List.map (sA 4 aA.enc) b2.Merge.Runs), .psl 1 (List.map (fA .i64) b2.Merge.At), .psl 2 (List.map eA.enc b2.Merge.Tree.Keys), .psl 1 (List.map (fA .i64) b2.Merge.Tree.Lose), .int .i64 b2.Merge.Tree.Win, .bool b2.Shadow.Some, .str b2.Shadow.Last, .bool b2.Shadow.Bottom, .psl 4 (List.map aA.enc b2.Out), .int .i64 b2.Steps]]⟩)]) [0, 8] 240 [4] (fun | 4 => some (.bool vr3, []) | 17 => (sO fu a1.Out b2.Out).bind fun vr5 => some (.bool vr5, []) | _ => none) rfl (fun Kt hK => by
   cases vr3 with
   | false =>
    replace hb4 := qA hb4 rfl
    have hqb4 := oI hb4
    cases b4 with
    | false =>
     replace hb6 := qA hb6 rfl
     have hqb6 := oI hb6
     cases b6 with
     | false =>
      replace hb7 := qA hb7 rfl
      have hqb7 := oI hb7
      subst hqb7
      try have q0 := zac hvr3
      try have q1 := cS hvr5
      exact rT
     | true =>
      cases hqb6
    | true =>
     cases hqb4
   | true =>
    replace hb4 := aB hb4 rfl
    have hqb4 := oI hb4
    cases b4 with
    | false =>
     replace hb6 := qA hb6 rfl
     have hqb6 := oI hb6
     cases b6 with
     | false =>
      replace hb7 := qA hb7 rfl
      have hqb7 := oI hb7
      subst hqb7
      simp (maxSteps := 1000000) only [↓reduceIte, reduceCtorEq, Nat.reduceEqDiff, Nat.reduceLT, Nat.reduceLeDiff, Nat.reduceAdd, Nat.reduceMul, Int.reduceToNat, push_cast, ↓hqb4]
      try simp only [↓hqb4] at hK
      try have q0 := zac hvr3
      try have q1 := cS hvr5
      all_goals exact rU
     | true =>
      cases hqb6
    | true =>
     replace hb6 := aB hb6 rfl
     obtain ⟨vr5, hvr5, hb6⟩ := bA hb6
     have hqb6 := oI hb6
     cases b6 with
     | false =>
      subst hqb6
      replace hb7 := qA hb7 rfl
      have hqb7 := oI hb7
      subst hqb7
      simp (maxSteps := 1000000) only [↓reduceIte, reduceCtorEq, Nat.reduceEqDiff, Nat.reduceLT, Nat.reduceLeDiff, Nat.reduceAdd, Nat.reduceMul, Int.reduceToNat, push_cast, ↓hqb4, hvr5]
      try simp only [↓hqb4] at hK
      try have q0 := zac hvr3
      try have q1 := cS hvr5
      all_goals exact rU
     | true =>
      subst hqb6
      replace hb7 := aB hb7 rfl
      have hqb7 := oI hb7
      subst hqb7
      simp (maxSteps := 1000000) only [↓reduceIte, reduceCtorEq, Nat.reduceEqDiff, Nat.reduceLT, Nat.reduceLeDiff, Nat.reduceAdd, Nat.reduceMul, Int.reduceToNat, push_cast, ↓hqb4, hvr5]
      try simp only [↓hqb4] at hK
      try have q0 := zac hvr3
      try have q1 := cS hvr5
      all_goals exact rU) ?_
 refine kA ?_
 obtain rfl := oI h0
 exact lA [] rG
theorem zcu {fu : Nat} {vs1 : mB} {r : Int × Int} (h0 : pK fu vs1 = some r) : yA Tryz.prog 12 [.agg (mB.enc vs1)] (.tup [.int .i64 r.1, .int .i64 r.2]) [] := by
 refine cB Tryz.func12 rfl (by decide) rL ?_
 dsimp only [Tryz.f12]
 rw [pK] at h0
 refine xS 24 [1] ?_
 obtain ⟨vr2, hvr2, h0⟩ := bA h0
 refine nA 104 [1, 6] (fun | 2 => some (.tup [.int .i64 vr2.1, .int .i64 vr2.2.1, .int .i64 vr2.2.2], []) | _ => none) rfl (fun _ _ => rC (zb4 hvr2)) ?_
 refine iA ?_
 obtain ⟨b4, hb4, h0⟩ := bA h0
 refine mC (fr' := [(1, .ref 0 0 0 0), (6, .int .i64 vr2.2.2), (34, .bool b4)]) (hp' := [(0, ⟨0, true, true, 4, [[.int .i64 vs1.Levels.B, .psl 1 (List.map tA.enc vs1.Levels.Levels), .psl 11 (List.map fB.enc vs1.Jobs), .int .i64 vs1.NextId]]⟩)]) [0] 200 [1, 6, 34] (fun _ => none) rfl (fun Kt hK => by
   cases hg5 : (decide (vr2.2.2 = 0)) with
   | false =>
    replace hb4 := qA hb4 hg5
    have hqb4 := oI hb4
    subst hqb4
    exact rW hg5 hK
   | true =>
    replace hb4 := aB hb4 hg5
    obtain ⟨b3, hb3, hb4⟩ := bA hb4
    have hqb4 := oI hb4
    cases hg6 : (decide (vs1.NextId < 1)) with
    | false =>
     replace hb3 := qA hb3 hg6
     have hqb3 := oI hb3
     subst hqb4
     subst hqb3
     exact rW (rA hg5 hg6) hK
    | true =>
     replace hb3 := aB hb3 hg6
     have hqb3 := oI hb3
     subst hqb4
     subst hqb3
     exact rW (rA hg5 hg6) hK) ?_
 refine xI h0 rfl (fun h0 hb7 => ?_) (fun h0 hb7 => ?_)
 ·
  refine xR 208 [1, 6] ?_
  refine dA (iA ?_)
  refine pC 288 [1, 6, 44] (fun _ => none) rfl rfl rfl (fun _ _ => rQd) ?_
  refine qF rfl ?_
  refine oA (dA (iA ?_))
  refine nA 304 [1, 6, 46] (fun _ => none) rfl (fun _ _ => rQ) ?_
  refine kK rfl ?_
  refine nA 328 [2, 3] (fun _ => none) rfl (fun _ _ => rQ) ?_
  refine kA (mA ?_)
  obtain rfl := oI h0
  refine lA [] ?_
  exact rJ (Eq.refl false : decide ((7 : Int) = 0) = false)
 refine oA (dA (iA ?_))
 obtain ⟨b9, hb9, h0⟩ := bA h0
 refine bL (fr' := [(1, .ref 0 0 0 0), (6, .int .i64 vr2.2.2), (44, .bool b9)]) (hp' := [(0, ⟨0, true, true, 4, [[.int .i64 vs1.Levels.B, .psl 1 (List.map tA.enc vs1.Levels.Levels), .psl 11 (List.map fB.enc vs1.Jobs), .int .i64 vs1.NextId]]⟩)]) [0] 280 [1, 6, 44] (fun | 7 => (bU fu vs1.Levels).bind fun vr8 => some (.int .i64 vr8, []) | _ => none) rfl rfl rfl (fun Kt hK => by
   cases hg10 : (decide (vr2.2.2 = 0)) with
   | false =>
    replace hb9 := qA hb9 hg10
    have hqb9 := oI hb9
    subst hqb9
    first | exact rWcd hg10 (zfc hvr8) hK | exact hO hg10 hK
   | true =>
    replace hb9 := aB hb9 hg10
    obtain ⟨vr8, hvr8, hb9⟩ := bA hb9
    have hqb9 := oI hb9
    subst hqb9
    first | exact gY hg10 hvr8 (zfc hvr8) hK | exact tG hg10 hvr8 hK) ?_
 refine xI h0 rfl (fun h0 hb11 => ?_) (fun h0 hb11 => ?_)
 ·
  refine xR 288 [1, 6] ?_
  refine dA (iA ?_)
  refine xS 304 [1, 6, 46] ?_
  refine kK rfl ?_
  refine xS 328 [2, 3] ?_
  refine kA (mA ?_)
  obtain rfl := oI h0
  exact lA [] rG
 refine oA (dA (iA ?_))
 refine xS 296 [1, 6, 46] ?_
 refine xI h0 rfl (fun h0 hb12 => ?_) (fun h0 hb12 => ?_)
 ·
  refine xS 320 [2, 3] ?_
  refine kA (mA ?_)
  obtain rfl := oI h0
  exact lA [] rG
 refine oA (dA ?_)
 obtain ⟨vr13, hvr13, h0⟩ := bA h0
 refine nA 328 [1, 7] (fun | 2 => some (.psl 1 (vr13.map (fA .i64)), []) | _ => none) rfl (fun _ _ => rC (zdu hvr13)) ?_
 refine iA ?_
 refine xS 336 [1, 7, 8] ?_
 obtain ⟨x51, hxx51, h0⟩ := bA h0
 refine oC (fun s' => ∃ o71 : Unit, x51 = .inl o71 ∧ s'.nx ≤ 376 ∧ LeN [] s' ⟨[(1, .ref 0 0 0 0), (7, .psl 1 (List.map (fA .i64) vr13))], [(0, ⟨0, true, true, 4, [[.int .i64 vs1.Levels.B, .psl 1 (List.map tA.enc vs1.Levels.Levels), .psl 11 (List.map fB.enc vs1.Jobs), .int .i64 vs1.NextId]]⟩)], 376, []⟩) ?_ ?_
 ·
  intro s' hs
  obtain ⟨o71, rfl, hn, hs⟩ := hs
  refine dA ?_
  refine oB [] hn hs ?_
  refine iA ?_
  refine xS 424 [138] ?_
  refine xI h0 rfl (fun h0 hb72 => ?_) (fun h0 hb72 => ?_)
  ·
   refine xS 440 [2, 3] ?_
   refine kA (mA ?_)
   obtain rfl := oI h0
   exact lA [] rG
  refine oA (dA ?_)
  refine xS 440 [2, 3] ?_
  refine kA ?_
  obtain rfl := oI h0
  exact lA [] rG
 refine nC (ι := { p : Nat × Int // yG vs1 vr13 p.1 p.2 = some x51 }) (fun p => ⟨[(1, .ref 0 0 0 0), (7, .psl 1 (List.map (fA .i64) vr13)), (8, .int .i64 p.1.2)], [(0, ⟨0, true, true, 4, [[.int .i64 vs1.Levels.B, .psl 1 (List.map tA.enc vs1.Levels.Levels), .psl 11 (List.map fB.enc vs1.Jobs), .int .i64 vs1.NextId]]⟩)], 336, []⟩) (fun p => p.1.1) ⟨(fu, 0), hxx51⟩ ⟨rF, rE, rfl, rfl, trivial, trivial⟩ (fun _ => Nat.le_refl _) ?_
 rintro ⟨⟨fu, i52⟩, h1⟩
 cases fu with
 | zero =>
  replace h1 : yG vs1 vr13 0 i52 = some x51 := h1
  rw [yG] at h1; cases h1
 | succ fu =>
  replace h1 : yG vs1 vr13 (fu + 1) i52 = some x51 := h1
  rw [yG] at h1
  dsimp only
  refine iA ?_
  refine xS 376 [1, 7, 8, 55] ?_
  refine xI h1 rfl (fun h1 hb53 => ?_) (fun h1 hb53 => ?_)
  ·
   refine oA (dA (iA (xB ?_)))
   obtain ⟨e54, he54, h1⟩ := bA h1
   obtain ⟨he54a, he54b, he54c⟩ := wA he54
   refine nA 432 [1, 7, 8, 9] (fun _ => none) rfl (fun _ _ => rS (rA he54a (rA he54b he54c))) ?_
   refine iA ?_
   obtain ⟨b56, hb56, h1⟩ := bA h1
   refine bL (fr' := [(1, .ref 0 0 0 0), (7, .psl 1 (List.map (fA .i64) vr13)), (8, .int .i64 i52), (9, .ref 416 0 0 0), (75, .bool b56)]) (hp' := [(0, ⟨0, true, true, 4, [[.int .i64 vs1.Levels.B, .psl 1 (List.map tA.enc vs1.Levels.Levels), .psl 11 (List.map fB.enc vs1.Jobs), .int .i64 vs1.NextId]]⟩), (416, ⟨0, true, true, 11, [[.int .i64 e54.Level, .psl 1 (List.map (sA 4 aA.enc) e54.Work.Merge.Runs), .psl 1 (List.map (fA .i64) e54.Work.Merge.At), .psl 2 (List.map eA.enc e54.Work.Merge.Tree.Keys), .psl 1 (List.map (fA .i64) e54.Work.Merge.Tree.Lose), .int .i64 e54.Work.Merge.Tree.Win, .bool e54.Work.Shadow.Some, .str e54.Work.Shadow.Last, .bool e54.Work.Shadow.Bottom, .psl 4 (List.map aA.enc e54.Work.Out), .int .i64 e54.Work.Steps]]⟩)]) [0, 416] 536 [1, 7, 8, 9, 75] (fun _ => none) rfl rfl rfl (fun Kt hK => by
     cases hg57 : (decide ((vr13.length : Int) ≤ i52)) with
     | false =>
      replace hb56 := qA hb56 hg57
      obtain ⟨e55, he55, hb56⟩ := bA hb56
      obtain ⟨he55a, he55b, he55c⟩ := wA he55
      have hqb56 := oI hb56
      subst hqb56
      exact tG hg57 (rA he54a (rA he54b (rA he54c (rA he55a (rA he55b (rA he55c he55)))))) hK
     | true =>
      replace hb56 := aB hb56 hg57
      have hqb56 := oI hb56
      subst hqb56
      exact tG hg57 (rA he54a (rA he54b he54c)) hK) ?_
   refine xI h1 rfl (fun h1 hb58 => ?_) (fun h1 hb58 => ?_)
   ·
    refine nA 560 [2, 3] (fun _ => none) rfl (fun _ _ => rS (rA he54a (rA he54b he54c))) ?_
    refine kA ?_
    obtain rfl := oI h1
    refine mA (cC (mA (mA (wC (mA ?_)))))
    obtain rfl := oI h0
    refine lA [] ?_
    exact rJ (rA he54a (rA he54b he54c))
   refine oA (dA (iA ?_))
   obtain ⟨b60, hb60, h1⟩ := bA h1
   refine mC (fr' := [(1, .ref 0 0 0 0), (7, .psl 1 (List.map (fA .i64) vr13)), (8, .int .i64 i52), (9, .ref 416 0 0 0), (88, .bool b60)]) (hp' := [(0, ⟨0, true, true, 4, [[.int .i64 vs1.Levels.B, .psl 1 (List.map tA.enc vs1.Levels.Levels), .psl 11 (List.map fB.enc vs1.Jobs), .int .i64 vs1.NextId]]⟩), (416, ⟨0, true, true, 11, [[.int .i64 e54.Level, .psl 1 (List.map (sA 4 aA.enc) e54.Work.Merge.Runs), .psl 1 (List.map (fA .i64) e54.Work.Merge.At), .psl 2 (List.map eA.enc e54.Work.Merge.Tree.Keys), .psl 1 (List.map (fA .i64) e54.Work.Merge.Tree.Lose), .int .i64 e54.Work.Merge.Tree.Win, .bool e54.Work.Shadow.Some, .str e54.Work.Shadow.Last, .bool e54.Work.Shadow.Bottom, .psl 4 (List.map aA.enc e54.Work.Out), .int .i64 e54.Work.Steps]]⟩)]) [0, 416] 632 [1, 7, 8, 9, 88] (fun | 9 => (jS fu vs1.Levels e54.Level).bind fun vr59 => some (.bool vr59, []) | _ => none) rfl (fun Kt hK => by
     cases hg61 : e54.Work.Shadow.Bottom with
     | false =>
      replace hb60 := qA hb60 hg61
      have hqb60 := oI hb60
      subst hqb60
      first | exact yI hg61 (rA he54a (rA he54b he54c)) (zdd hvr59) hK | exact sD hg61 (rA he54a (rA he54b he54c)) hK
     | true =>
      replace hb60 := aB hb60 hg61
      obtain ⟨vr59, hvr59, hb60⟩ := bA hb60
      have hqb60 := oI hb60
      subst hqb60
      first | exact yI hg61 (rA he54a (rA he54b (rA he54c hvr59))) (zdd hvr59) hK | exact sD hg61 (rA he54a (rA he54b (rA he54c hvr59))) hK) ?_
   refine xI h1 rfl (fun h1 hb62 => ?_) (fun h1 hb62 => ?_)
   ·
    refine nA 656 [2, 3] (fun _ => none) rfl (fun _ _ => rS (rA he54a (rA he54b he54c))) ?_
    refine kA ?_
    obtain rfl := oI h1
    refine mA (cC (mA (mA (wC (mA ?_)))))
    obtain rfl := oI h0
    refine lA [] ?_
    exact rJ (rA he54a (rA he54b he54c))
   refine oA (dA ?_)
   obtain ⟨vr63, hvr63, h1⟩ := bA h1
   refine nA 720 [1, 7, 8, 9, 10] (fun | 8 => some (.agg (fB.enc vr63), []) | _ => none) rfl (fun _ _ => rB (rA he54a (rA he54b he54c)) (zlR hvr63)) ?_
   obtain ⟨vr64, hvr64, h1⟩ := bA h1
   refine nA 784 [1, 7, 8, 9, 10, 11] (fun | 2 => some (.tup [.int .i64 vr64.1, .int .i64 vr64.2], []) | _ => none) rfl (fun _ _ => rB (rA he54a (rA he54b he54c)) (zbB hvr64)) ?_
   refine iA ?_
   obtain ⟨b65, hb65, h1⟩ := bA h1
   refine mC (fr' := [(1, .ref 0 0 0 0), (7, .psl 1 (List.map (fA .i64) vr13)), (8, .int .i64 i52), (9, .ref 416 0 0 0), (10, .ref 704 0 0 0), (115, .bool b65)]) (hp' := [(0, ⟨0, true, true, 4, [[.int .i64 vs1.Levels.B, .psl 1 (List.map tA.enc vs1.Levels.Levels), .psl 11 (List.map fB.enc vs1.Jobs), .int .i64 vs1.NextId]]⟩), (416, ⟨0, true, true, 11, [[.int .i64 e54.Level, .psl 1 (List.map (sA 4 aA.enc) e54.Work.Merge.Runs), .psl 1 (List.map (fA .i64) e54.Work.Merge.At), .psl 2 (List.map eA.enc e54.Work.Merge.Tree.Keys), .psl 1 (List.map (fA .i64) e54.Work.Merge.Tree.Lose), .int .i64 e54.Work.Merge.Tree.Win, .bool e54.Work.Shadow.Some, .str e54.Work.Shadow.Last, .bool e54.Work.Shadow.Bottom, .psl 4 (List.map aA.enc e54.Work.Out), .int .i64 e54.Work.Steps]]⟩), (704, ⟨0, true, true, 11, [[.int .i64 vr63.Level, .psl 1 (List.map (sA 4 aA.enc) vr63.Work.Merge.Runs), .psl 1 (List.map (fA .i64) vr63.Work.Merge.At), .psl 2 (List.map eA.enc vr63.Work.Merge.Tree.Keys), .psl 1 (List.map (fA .i64) vr63.Work.Merge.Tree.Lose), .int .i64 vr63.Work.Merge.Tree.Win, .bool vr63.Work.Shadow.Some, .str vr63.Work.Shadow.Last, .bool vr63.Work.Shadow.Bottom, .psl 4 (List.map aA.enc vr63.Work.Out), .int .i64 vr63.Work.Steps]]⟩)]) [0, 416, 704] 872 [1, 7, 8, 9, 10, 115] (fun _ => none) rfl (fun Kt hK => by
     cases hg66 : (decide (e54.Work.Steps < 0)) with
     | false =>
      replace hb65 := qA hb65 hg66
      have hqb65 := oI hb65
      subst hqb65
      exact sD hg66 (rA he54a (rA he54b he54c)) hK
     | true =>
      replace hb65 := aB hb65 hg66
      have hqb65 := oI hb65
      subst hqb65
      exact sD hg66 (rA he54a (rA he54b he54c)) hK) ?_
   refine xI h1 rfl (fun h1 hb67 => ?_) (fun h1 hb67 => ?_)
   ·
    refine nA 896 [2, 3] (fun _ => none) rfl (fun _ _ => rS (rA he54a (rA he54b he54c))) ?_
    refine kA ?_
    obtain rfl := oI h1
    refine mA (cC (mA (mA (wC (mA ?_)))))
    obtain rfl := oI h0
    refine lA [] ?_
    exact rJ (rA he54a (rA he54b he54c))
   refine oA (dA ?_)
   obtain ⟨vr68, hvr68, h1⟩ := bA h1
   refine nA 984 [1, 7, 8, 9, 13] (fun | 5 => some (.tup [.agg (lB.enc vr68.1), .int .i64 vr68.2.1, .int .i64 vr68.2.2], []) | _ => none) rfl (fun _ _ => rB (rA he54a (rA he54b he54c)) (zhe hvr68)) ?_
   obtain ⟨vr69, hvr69, h1⟩ := bA h1
   refine nA 1024 [1, 7, 8, 131] (fun | 3 => some (.bool vr69, []) | _ => none) rfl (fun _ _ => rB (rA he54a (rA he54b he54c)) (zgN hvr69)) ?_
   refine xI h1 rfl (fun h1 hb70 => ?_) (fun h1 hb70 => ?_)
   ·
    refine nA 1048 [2, 3] (fun _ => none) rfl (fun _ _ => rS (rA he54a (rA he54b he54c))) ?_
    refine kA ?_
    obtain rfl := oI h1
    refine cC (mA (mA (wC (mA ?_))))
    obtain rfl := oI h0
    refine lA [] ?_
    exact rJ (rA he54a (rA he54b he54c))
   refine oA (qB (dA ?_))
   refine nB 1048 [1, 7, 8] (fun _ => none) rfl (fun _ _ => rS (rA he54a (rA he54b he54c))) ?_
   refine dA ?_
   exact ⟨⟨(fu, (IntKind.i64.wrap (i52 + 1))), h1⟩, ⟨rF, rE, rfl, rfl, trivial, trivial⟩, Nat.lt_succ_self _⟩
  refine fC (xA (xA (iC ?_)))
  obtain rfl := oI h1
  exact ⟨_, rfl, rL, ⟨rF, rE, rfl, rfl, trivial, trivial⟩⟩
theorem zer {fu : Nat} {vs1 : mB} {r : List Int × Int} (h0 : mP fu vs1 = some r) : yA Tryz.prog 14 [.agg (mB.enc vs1)] (.tup [.psl 1 (r.1.map (fA .i64)), .int .i64 r.2]) [] := by
 refine cB Tryz.func14 rfl (by decide) rL ?_
 dsimp only [Tryz.f14]
 rw [mP] at h0
 refine xS 24 [1] ?_
 obtain ⟨vr2, hvr2, h0⟩ := bA h0
 refine nA 80 [1, 5] (fun | 1 => some (.tup [.int .i64 vr2.1, .int .i64 vr2.2], []) | _ => none) rfl (fun _ _ => rC (zcu hvr2)) ?_
 refine iA ?_
 refine xS 96 [1, 5, 12] ?_
 refine xI h0 rfl (fun h0 hb3 => ?_) (fun h0 hb3 => ?_)
 ·
  refine xS 120 [2, 3] ?_
  refine kA (mA ?_)
  obtain rfl := oI h0
  exact lA [] rG
 refine oA (dA ?_)
 obtain ⟨vr4, hvr4, h0⟩ := bA h0
 refine nA 136 [2, 3] (fun | 2 => some (.psl 1 (vr4.map (fA .i64)), []) | _ => none) rfl (fun _ _ => rC (zdu hvr4)) ?_
 refine kA ?_
 obtain rfl := oI h0
 exact lA [] rG
theorem zck {fu : Nat} {vs1 : mB} {level2 : Int} {r : Int × Int} (h0 : dK fu vs1 level2 = some r) : yA Tryz.prog 17 [.agg (mB.enc vs1), .int .i64 level2] (.tup [.int .i64 r.1, .int .i64 r.2]) [] := by
 refine cB Tryz.func17 rfl (by decide) rL ?_
 dsimp only [Tryz.f17]
 rw [dK] at h0
 refine xS 24 [1, 2] ?_
 obtain ⟨vr3, hvr3, h0⟩ := bA h0
 refine nA 80 [1, 6, 7] (fun | 1 => some (.tup [.psl 1 (vr3.1.map (fA .i64)), .int .i64 vr3.2], []) | _ => none) rfl (fun _ _ => rC (zer hvr3)) ?_
 refine iA ?_
 refine xS 96 [1, 6, 7, 15] ?_
 refine xI h0 rfl (fun h0 hb4 => ?_) (fun h0 hb4 => ?_)
 ·
  refine xS 120 [4, 5] ?_
  refine kA (mA ?_)
  obtain rfl := oI h0
  exact lA [] rG
 refine oA (dA (iA ?_))
 refine xS 104 [1, 6, 8] ?_
 obtain ⟨x12, hxx12, h0⟩ := bA h0
 refine oC (fun s' => ∃ o17 : Unit, x12 = .inl o17 ∧ s'.nx ≤ 136 ∧ LeN [] s' ⟨[], [], 136, []⟩) ?_ ?_
 ·
  intro s' hs
  obtain ⟨o17, rfl, hn, hs⟩ := hs
  refine dA ?_
  refine oB [] hn hs ?_
  refine xS 152 [4, 5] ?_
  refine kA ?_
  obtain rfl := oI h0
  exact lA [] rG
 refine nC (ι := { p : Nat × Int // nM vr3 level2 p.1 p.2 = some x12 }) (fun p => ⟨[(1, .int .i64 level2), (6, .psl 1 (List.map (fA .i64) vr3.1)), (8, .int .i64 p.1.2)], [], 104, []⟩) (fun p => p.1.1) ⟨(fu, 0), hxx12⟩ ⟨rF, rE, rfl, rfl, trivial, trivial⟩ (fun _ => Nat.le_refl _) ?_
 rintro ⟨⟨fu, i13⟩, h1⟩
 cases fu with
 | zero =>
  replace h1 : nM vr3 level2 0 i13 = some x12 := h1
  rw [nM] at h1; cases h1
 | succ fu =>
  replace h1 : nM vr3 level2 (fu + 1) i13 = some x12 := h1
  rw [nM] at h1
  dsimp only
  refine iA ?_
  refine xS 136 [1, 6, 8, 20] ?_
  refine xI h1 rfl (fun h1 hb14 => ?_) (fun h1 hb14 => ?_)
  ·
   refine oA (dA (iA (xB ?_)))
   obtain ⟨e15, he15, h1⟩ := bA h1
   obtain ⟨he15a, he15b, he15c⟩ := wA he15
   refine nA 184 [1, 6, 8, 28] (fun _ => none) rfl (fun _ _ => rS (rA he15a (rA he15b he15c))) ?_
   refine xI h1 rfl (fun h1 hb16 => ?_) (fun h1 hb16 => ?_)
   ·
    refine nA 208 [4, 5] (fun _ => none) rfl (fun _ _ => rS (rA he15a (rA he15b he15c))) ?_
    refine kA ?_
    obtain rfl := oI h1
    refine cC (mA (mA (wC (mA ?_))))
    obtain rfl := oI h0
    refine lA [] ?_
    exact rJ (rA he15a (rA he15b he15c))
   refine oA (qB (dA ?_))
   refine nB 208 [1, 6, 8] (fun _ => none) rfl (fun _ _ => rS (rA he15a (rA he15b he15c))) ?_
   refine dA ?_
   exact ⟨⟨(fu, (IntKind.i64.wrap (i13 + 1))), h1⟩, ⟨rF, rE, rfl, rfl, trivial, trivial⟩, Nat.lt_succ_self _⟩
  refine fC (xA (xA (iC ?_)))
  obtain rfl := oI h1
  exact ⟨_, rfl, rL, ⟨rF, rE, rfl, rfl, trivial, trivial⟩⟩
theorem ziK {fu : Nat} {vs1 : mB} {level2 : Int} {r : Int × Int} (h0 : kQ fu vs1 level2 = some r) : yA Tryz.prog 19 [.agg (mB.enc vs1), .int .i64 level2] (.tup [.int .i64 r.1, .int .i64 r.2]) [] := by
 refine cB Tryz.func19 rfl (by decide) rL ?_
 dsimp only [Tryz.f19]
 rw [kQ] at h0
 refine xS 24 [1, 2] ?_
 obtain ⟨vr3, hvr3, h0⟩ := bA h0
 refine nA 88 [2, 6, 7] (fun | 2 => some (.tup [.int .i64 vr3.1, .int .i64 vr3.2], []) | _ => none) rfl (fun _ _ => rC (zck hvr3)) ?_
 refine iA ?_
 refine xS 104 [2, 6, 7, 15] ?_
 refine xI h0 rfl (fun h0 hb4 => ?_) (fun h0 hb4 => ?_)
 ·
  refine xS 128 [4, 5] ?_
  refine kA (mA ?_)
  obtain rfl := oI h0
  exact lA [] rG
 refine oA (dA ?_)
 obtain ⟨e5, he5, h0⟩ := bA h0
 obtain ⟨he5a, he5b, he5c⟩ := wA he5
 obtain ⟨vr6, hvr6, h0⟩ := bA h0
 refine nA 192 [4, 5] (fun | 6 => some (.tup [.int .i64 vr6.1, .int .i64 vr6.2], []) | _ => none) rfl (fun _ _ => rB (rA he5a (rA he5b he5c)) (zbB hvr6)) ?_
 refine kA ?_
 obtain rfl := oI h0
 refine lA [] ?_
 exact rJ (rA he5a (rA he5b he5c))
theorem ziF {fu : Nat} {vs1 : mB} {r : List Int × Int} (h0 : sS fu vs1 = some r) : yA Tryz.prog 13 [.agg (mB.enc vs1)] (.tup [.psl 1 (r.1.map (fA .i64)), .int .i64 r.2]) [] := by
 refine cB Tryz.func13 rfl (by decide) rL ?_
 dsimp only [Tryz.f13]
 rw [sS] at h0
 refine xS 24 [1] ?_
 refine iA ?_
 obtain ⟨vr2, hvr2, h0⟩ := bA h0
 refine nA 80 [1, 5] (fun | 1 => some (.tup [.int .i64 vr2.1, .int .i64 vr2.2], []) | _ => none) rfl (fun _ _ => rC (nZ hvr2)) ?_
 refine xS 96 [1, 5, 12] ?_
 refine xI h0 rfl (fun h0 hb3 => ?_) (fun h0 hb3 => ?_)
 ·
  refine xS 120 [2, 3] ?_
  refine kA (mA ?_)
  obtain rfl := oI h0
  exact lA [] rG
 refine oA (dA ?_)
 obtain ⟨vr4, hvr4, h0⟩ := bA h0
 obtain ⟨vr5, hvr5, h0⟩ := bA h0
 refine nA 144 [2, 3] (fun | 2 => some (.fn 67 [] [.pp [.int .i64 vr4.1, .psl 1 (vr4.2.map tA.enc)]], []) | 3 => some (.psl 1 (vr5.map (fA .i64)), []) | _ => none) rfl (fun Kt hK => by
   try have q0 := zah hvr4
   try have q1 := zdm hvr5
   exact rT) ?_
 refine kA ?_
 obtain rfl := oI h0
 exact lA [] rG
theorem zef {fu : Nat} {a1 : List Int} {b2 : List Int} {r : Bool} (h0 : kX fu a1 b2 = some r) : yA Tryz.prog 15 [.psl 1 (a1.map (fA .i64)), .psl 1 (b2.map (fA .i64))] (.bool r) [] := by
 refine cB Tryz.func15 rfl (by decide) rL ?_
 dsimp only [Tryz.f15]
 rw [kX] at h0
 refine xS 8 [0, 1] ?_
 refine iA ?_
 refine xS 16 [0, 1, 5] ?_
 obtain ⟨x16, hxx16, h0⟩ := bA h0
 refine oC (fun s' => ∃ o24 : Unit, x16 = .inl o24 ∧ s'.nx ≤ 96 ∧ LeN [] s' ⟨[(0, .psl 1 (List.map (fA .i64) a1)), (1, .psl 1 (List.map (fA .i64) b2))], [], 96, []⟩) ?_ ?_
 ·
  intro s' hs
  obtain ⟨o24, rfl, hn, hs⟩ := hs
  refine dA ?_
  refine oB [] hn hs ?_
  refine xS 144 [4] ?_
  refine kA ?_
  obtain rfl := oI h0
  exact lA [] rG
 refine nC (ι := { p : Nat × Int // uM a1 b2 p.1 p.2 = some x16 }) (fun p => ⟨[(0, .psl 1 (List.map (fA .i64) a1)), (1, .psl 1 (List.map (fA .i64) b2)), (5, .int .i64 p.1.2)], [], 16, []⟩) (fun p => p.1.1) ⟨(fu, 0), hxx16⟩ ⟨rF, rE, rfl, rfl, trivial, trivial⟩ (fun _ => Nat.le_refl _) ?_
 rintro ⟨⟨fu, i17⟩, h1⟩
 cases fu with
 | zero =>
  replace h1 : uM a1 b2 0 i17 = some x16 := h1
  rw [uM] at h1; cases h1
 | succ fu =>
  replace h1 : uM a1 b2 (fu + 1) i17 = some x16 := h1
  rw [uM] at h1
  dsimp only
  refine iA ?_
  obtain ⟨b18, hb18, h1⟩ := bA h1
  refine mC (fr' := [(0, .psl 1 (List.map (fA .i64) a1)), (1, .psl 1 (List.map (fA .i64) b2)), (5, .int .i64 i17), (15, .bool b18)]) (hp' := []) [] 96 [0, 1, 5, 15] (fun _ => none) rfl (fun Kt hK => by
    cases hg19 : (decide (i17 < (a1.length : Int))) with
    | false =>
     replace hb18 := qA hb18 hg19
     have hqb18 := oI hb18
     subst hqb18
     exact rW hg19 hK
    | true =>
     replace hb18 := aB hb18 hg19
     have hqb18 := oI hb18
     subst hqb18
     exact rW hg19 hK) ?_
  refine xI h1 rfl (fun h1 hb20 => ?_) (fun h1 hb20 => ?_)
  ·
   refine oA (dA (iA (xB ?_)))
   obtain ⟨e21, he21, h1⟩ := bA h1
   obtain ⟨he21a, he21b, he21c⟩ := wA he21
   obtain ⟨e22, he22, h1⟩ := bA h1
   obtain ⟨he22a, he22b, he22c⟩ := wA he22
   refine pC 168 [0, 1, 5, 26] (fun _ => none) rfl rfl rfl (fun _ _ => aE (rA he21a (rA he21b (rA he21c (rA he22a (rA he22b he22c)))))) ?_
   refine xI h1 rfl (fun h1 hb23 => ?_) (fun h1 hb23 => ?_)
   ·
    refine nA 176 [4] (fun _ => none) rfl (fun _ _ => rS (rA he21a (rA he21b (rA he21c (rA he22a (rA he22b he22c)))))) ?_
    refine kA ?_
    obtain rfl := oI h1
    refine cC (mA (mA (wC (mA ?_))))
    obtain rfl := oI h0
    refine lA [] ?_
    exact rJ (rA he21a (rA he21b (rA he21c (rA he22a (rA he22b he22c)))))
   refine oA (qB (dA ?_))
   refine nB 192 [0, 1, 5] (fun _ => none) rfl (fun _ _ => rS (rA he21a (rA he21b (rA he21c (rA he22a (rA he22b he22c)))))) ?_
   refine dA ?_
   exact ⟨⟨(fu, (IntKind.i64.wrap (i17 + 1))), h1⟩, ⟨rF, rE, rfl, rfl, trivial, trivial⟩, Nat.lt_succ_self _⟩
  refine fC (xA (xA (iC ?_)))
  obtain rfl := oI h1
  exact ⟨_, rfl, rL, ⟨rF, rE, rfl, rfl, trivial, trivial⟩⟩
theorem ziX {fu : Nat} {vs1 : mB} {level2 : Int} {r : Bool} (h0 : vX fu vs1 level2 = some r) : yA Tryz.prog 4 [.agg (mB.enc vs1), .int .i64 level2] (.bool r) [] := by
 refine cB Tryz.func4 rfl (by decide) rL ?_
 dsimp only [Tryz.f4]
 rw [vX] at h0
 refine xS 16 [1, 2] ?_
 refine iA ?_
 obtain ⟨vr3, hvr3, h0⟩ := bA h0
 refine nA 32 [1, 2, 16] (fun | 1 => some (.bool vr3, []) | _ => none) rfl (fun _ _ => rC (zh3 hvr3)) ?_
 refine xI h0 rfl (fun h0 hb4 => ?_) (fun h0 hb4 => ?_)
 ·
  obtain ⟨vr5, hvr5, h0⟩ := bA h0
  refine nA 48 [4] (fun | 0 => some (.bool vr5, []) | _ => none) rfl (fun _ _ => rC (xT hvr5)) ?_
  refine kA (mA ?_)
  obtain rfl := oI h0
  exact lA [] rG
 refine oA (dA ?_)
 obtain ⟨vr6, hvr6, h0⟩ := bA h0
 refine nA 88 [1, 2, 5, 6] (fun | 1 => some (.tup [.int .i64 vr6.1, .int .i64 vr6.2], []) | _ => none) rfl (fun _ _ => rC (nZ hvr6)) ?_
 obtain ⟨vr7, hvr7, h0⟩ := bA h0
 refine nA 144 [1, 2, 5, 6, 7, 8] (fun | 1 => some (.tup [.int .i64 vr7.1, .int .i64 vr7.2], []) | _ => none) rfl (fun _ _ => rC (zcu hvr7)) ?_
 refine iA ?_
 obtain ⟨b8, hb8, h0⟩ := bA h0
 refine mC (fr' := [(1, .int .i64 level2), (2, .ref 0 0 0 0), (35, .bool b8)]) (hp' := [(0, ⟨0, true, true, 4, [[.int .i64 vs1.Levels.B, .psl 1 (List.map tA.enc vs1.Levels.Levels), .psl 11 (List.map fB.enc vs1.Jobs), .int .i64 vs1.NextId]]⟩)]) [0] 208 [1, 2, 35] (fun _ => none) rfl (fun Kt hK => by
   cases hg9 : (!(decide (vr6.1 = vr7.1))) with
   | false =>
    replace hb8 := qA hb8 hg9
    have hqb8 := oI hb8
    subst hqb8
    exact rW hg9 hK
   | true =>
    replace hb8 := aB hb8 hg9
    have hqb8 := oI hb8
    subst hqb8
    exact rW hg9 hK) ?_
 refine xI h0 rfl (fun h0 hb10 => ?_) (fun h0 hb10 => ?_)
 ·
  refine xS 216 [4] ?_
  refine kA (mA ?_)
  obtain rfl := oI h0
  exact lA [] rG
 refine oA (dA ?_)
 obtain ⟨vr11, hvr11, h0⟩ := bA h0
 refine nA 264 [1, 2, 6, 9] (fun | 1 => some (.tup [.psl 1 (vr11.1.map (fA .i64)), .int .i64 vr11.2], []) | _ => none) rfl (fun _ _ => rC (ziF hvr11)) ?_
 obtain ⟨vr12, hvr12, h0⟩ := bA h0
 refine nA 320 [1, 2, 6, 8, 9, 10] (fun | 1 => some (.tup [.psl 1 (vr12.1.map (fA .i64)), .int .i64 vr12.2], []) | _ => none) rfl (fun _ _ => rC (zer hvr12)) ?_
 refine iA ?_
 obtain ⟨vr13, hvr13, h0⟩ := bA h0
 obtain ⟨b14, hb14, h0⟩ := bA h0
 refine mC (fr' := [(1, .int .i64 level2), (2, .ref 0 0 0 0), (54, .bool b14)]) (hp' := [(0, ⟨0, true, true, 4, [[.int .i64 vs1.Levels.B, .psl 1 (List.map tA.enc vs1.Levels.Levels), .psl 11 (List.map fB.enc vs1.Jobs), .int .i64 vs1.NextId]]⟩)]) [0] 392 [1, 2, 54] (fun | 2 => some (.bool vr13, []) | _ => none) rfl (fun Kt hK => by
   cases hg15 : (!vr13) with
   | false =>
    replace hb14 := qA hb14 hg15
    have hqb14 := oI hb14
    subst hqb14
    first | exact iI hg15 (zef hvr13) hK | exact rW hg15 hK
   | true =>
    replace hb14 := aB hb14 hg15
    have hqb14 := oI hb14
    subst hqb14
    first | exact iI hg15 (zef hvr13) hK | exact rW hg15 hK) ?_
 refine xI h0 rfl (fun h0 hb16 => ?_) (fun h0 hb16 => ?_)
 ·
  refine xS 400 [4] ?_
  refine kA (mA ?_)
  obtain rfl := oI h0
  exact lA [] rG
 refine oA (dA ?_)
 obtain ⟨vr17, hvr17, h0⟩ := bA h0
 refine nA 456 [1, 2, 5, 6] (fun | 2 => some (.tup [.int .i64 vr17.1, .int .i64 vr17.2], []) | _ => none) rfl (fun _ _ => rC (zat hvr17)) ?_
 obtain ⟨vr18, hvr18, h0⟩ := bA h0
 refine nA 520 [1, 2, 5, 6, 7, 8] (fun | 2 => some (.tup [.int .i64 vr18.1, .int .i64 vr18.2], []) | _ => none) rfl (fun _ _ => rC (zck hvr18)) ?_
 obtain ⟨vr19, hvr19, h0⟩ := bA h0
 refine nA 584 [1, 2, 5, 6, 7, 8, 11, 12] (fun | 2 => some (.tup [.int .i64 vr19.1, .int .i64 vr19.2], []) | _ => none) rfl (fun _ _ => rC (zbg hvr19)) ?_
 obtain ⟨vr20, hvr20, h0⟩ := bA h0
 refine nA 648 [5, 6, 7, 8, 11, 12, 13, 14] (fun | 2 => some (.tup [.int .i64 vr20.1, .int .i64 vr20.2], []) | _ => none) rfl (fun _ _ => rC (ziK hvr20)) ?_
 obtain ⟨b21, hb21, h0⟩ := bA h0
 obtain ⟨b22, hb22, h0⟩ := bA h0
 obtain ⟨b23, hb23, h0⟩ := bA h0
 obtain ⟨b25, hb25, h0⟩ := bA h0
 refine mC (fr' := [(4, .bool b25)]) (hp' := [(0, ⟨0, true, true, 4, [[.int .i64 vs1.Levels.B, .psl 1 (List.map tA.enc vs1.Levels.Levels), .psl 11 (List.map fB.enc vs1.Jobs), .int .i64 vs1.NextId]]⟩)]) [0] 824 [4] (fun | 19 => (rM fu).bind fun vr24 => some (.bool vr24, []) | _ => none) rfl (fun Kt hK => by
   cases hg26 : (decide (vr17.1 = vr18.1)) with
   | false =>
    replace hb21 := qA hb21 hg26
    have hqb21 := oI hb21
    cases b21 with
    | false =>
     replace hb22 := qA hb22 rfl
     have hqb22 := oI hb22
     cases b22 with
     | false =>
      replace hb23 := qA hb23 rfl
      have hqb23 := oI hb23
      cases b23 with
      | false =>
       replace hb25 := qA hb25 rfl
       have hqb25 := oI hb25
       subst hqb25
       first | exact iI hg26 (xT hvr24) hK | exact rW hg26 hK
      | true =>
       cases hqb23
     | true =>
      cases hqb22
    | true =>
     cases hqb21
   | true =>
    replace hb21 := aB hb21 hg26
    have hqb21 := oI hb21
    cases b21 with
    | false =>
     replace hb22 := qA hb22 rfl
     have hqb22 := oI hb22
     cases b22 with
     | false =>
      replace hb23 := qA hb23 rfl
      have hqb23 := oI hb23
      cases b23 with
      | false =>
       replace hb25 := qA hb25 rfl
       have hqb25 := oI hb25
       subst hqb25
       first | exact iI (rA hg26 hqb21) (xT hvr24) hK | exact rW (rA hg26 hqb21) hK
      | true =>
       cases hqb23
     | true =>
      cases hqb22
    | true =>
     replace hb22 := aB hb22 rfl
     have hqb22 := oI hb22
     cases b22 with
     | false =>
      replace hb23 := qA hb23 rfl
      have hqb23 := oI hb23
      cases b23 with
      | false =>
       replace hb25 := qA hb25 rfl
       have hqb25 := oI hb25
       subst hqb25
       first | exact iI (rA hg26 (rA hqb21 hqb22)) (xT hvr24) hK | exact rW (rA hg26 (rA hqb21 hqb22)) hK
      | true =>
       cases hqb23
     | true =>
      replace hb23 := aB hb23 rfl
      have hqb23 := oI hb23
      cases b23 with
      | false =>
       replace hb25 := qA hb25 rfl
       have hqb25 := oI hb25
       subst hqb25
       first | exact iI (rA hg26 (rA hqb21 (rA hqb22 hqb23))) (xT hvr24) hK | exact rW (rA hg26 (rA hqb21 (rA hqb22 hqb23))) hK
      | true =>
       replace hb25 := aB hb25 rfl
       obtain ⟨vr24, hvr24, hb25⟩ := bA hb25
       have hqb25 := oI hb25
       subst hqb25
       first | exact yI (rA hg26 (rA hqb21 (rA hqb22 hqb23))) hvr24 (xT hvr24) hK | exact sD (rA hg26 (rA hqb21 (rA hqb22 hqb23))) hvr24 hK) ?_
 refine kA ?_
 obtain rfl := oI h0
 exact lA [] rG
end Go.T
end
section
namespace Go.Proofs.YtnlggkiekcpahaaGreat
open Go.T
theorem jobsChecks : Rows.JobsChecksSaid :=
  zmw (fun x0 x1 w0 w1 => by
    obtain ⟨fu, h⟩ := (zm4 x0 x1).one
    exact ⟨_, ziX h⟩)
end Go.Proofs.YtnlggkiekcpahaaGreat
end
