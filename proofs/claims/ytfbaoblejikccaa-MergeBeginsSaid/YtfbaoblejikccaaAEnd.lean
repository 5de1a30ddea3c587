/- MergeBegins: for all runs, Begin and All return what the document says (the reference); no conditions. -/
import Derived.Test.YtfbaoblejikccaaLink
import Derived.Test.YtfbaoblejikccaaA2
set_option linter.unusedSimpArgs false
set_option linter.unusedVariables false
section
/- The program computes them. -/
namespace Go.T
open Go Go.AM Go.Proofs
set_option maxRecDepth 100000
set_option maxHeartbeats 4000000
set_option linter.unusedVariables false
theorem c_bookendref10_Same {fu : Nat} {a1 : TApiLsTree} {b2 : TApiLsTree} {r : Bool} (h0 : bookendref10_Same fu a1 b2 = some r) : PCall Try.prog 36 [.agg (TApiLsTree.enc a1), .agg (TApiLsTree.enc b2)] (.bool r) [] := by
 refine awp_pcall Try.func36 rfl (by decide) (Nat.le_of_ble_eq_true rfl) ?_
 dsimp only [Try.f36]
 rw [bookendref10_Same] at h0
 refine (show AWP _ _ _ _ ⟨enumFr 0 _, [], 0, []⟩ from ?_)
 refine awp_sr2 24 [2, 3] (fun _ => none) rfl (fun _ _ => rT) ?_
 refine awp_seq ?_
 obtain ⟨b3, hb3, h0⟩ := bindS h0
 obtain ⟨b5, hb5, h0⟩ := bindS h0
 refine awp_sr3 (fr' := [(2, .ref 0 0 0 0), (3, .ref 8 0 0 0), (27, .bool b5)]) (hp' := [(0, { g := 0, own := true, pure := true, sz := 3, es := [[.psl 2 (List.map TApiLsKey.enc a1.Keys), .psl 1 (List.map (encInt .i64) a1.Lose), .int .i64 a1.Win]] }), (8, { g := 0, own := true, pure := true, sz := 3, es := [[.psl 2 (List.map TApiLsKey.enc b2.Keys), .psl 1 (List.map (encInt .i64) b2.Lose), .int .i64 b2.Win]] })]) [0, 8] 200 [2, 3, 27] (fun | 19 => (bookendref10_Ints fu a1.Lose b2.Lose).bind fun vr4 => some (.bool vr4, []) | _ => none) rfl (fun Kt hK => by
   cases hg6 : (!(decide ((a1.Keys.length : Int) = (b2.Keys.length : Int)))) with
   | false =>
    replace hb3 := iteF hb3 hg6
    have hqb3 := Option.some.inj hb3
    cases b3 with
    | false =>
     replace hb5 := iteF hb5 rfl
     obtain ⟨vr4, hvr4, hb5⟩ := bindS hb5
     have hqb5 := Option.some.inj hb5
     subst hqb5
     simp (maxSteps := 1000000) only [↓reduceIte, reduceCtorEq, Nat.reduceEqDiff, Nat.reduceLT, Nat.reduceLeDiff, Nat.reduceAdd, Nat.reduceMul, Int.reduceToNat, push_cast, ↓hg6, ↓hqb3, hvr4]
     try simp only [↓hg6, ↓hqb3] at hK
     try have q0 := c_bookendref10_Ints hvr4
     all_goals exact rU
    | true =>
     replace hb5 := iteT hb5 rfl
     have hqb5 := Option.some.inj hb5
     subst hqb5
     simp (maxSteps := 1000000) only [↓reduceIte, reduceCtorEq, Nat.reduceEqDiff, Nat.reduceLT, Nat.reduceLeDiff, Nat.reduceAdd, Nat.reduceMul, Int.reduceToNat, push_cast, ↓hg6, ↓hqb3]
     try simp only [↓hg6, ↓hqb3] at hK
     try have q0 := c_bookendref10_Ints hvr4
     all_goals exact rU
   | true =>
    replace hb3 := iteT hb3 hg6
    have hqb3 := Option.some.inj hb3
    cases b3 with
    | false =>
     cases hqb3
    | true =>
     replace hb5 := iteT hb5 rfl
     have hqb5 := Option.some.inj hb5
     subst hqb5
     simp (maxSteps := 1000000) only [↓reduceIte, reduceCtorEq, Nat.reduceEqDiff, Nat.reduceLT, Nat.reduceLeDiff, Nat.reduceAdd, Nat.reduceMul, Int.reduceToNat, push_cast, ↓hg6]
     try simp only [↓hg6] at hK
     try have q0 := c_bookendref10_Ints hvr4
     all_goals exact rU) ?_
 refine awp_if rfl (fun hb9 => ?_) (fun hb9 => ?_)
 ·
  replace h0 := iteT h0 hb9
  refine awp_sr2 208 [4] (fun _ => none) rfl (fun _ _ => rT) ?_
  refine awp_ret ?_
  refine kr_then ?_
  obtain rfl := Option.some.inj h0
  refine leave_retG [] ?_
  exact rG
 ·
  replace h0 := iteF h0 hb9
  refine awp_skip ?_
  refine kn_then ?_
  refine awp_seq ?_
  refine awp_sr2 208 [2, 3, 5] (fun _ => none) rfl (fun _ _ => rT) ?_
  obtain ⟨x19, hxx19, h0⟩ := bindS h0
  refine awp_bloop (fun s' => ∃ o25 : Unit, x19 = .inl o25 ∧ s'.nx ≤ 248 ∧ LeN [] s' ⟨[], [(0, { g := 0, own := true, pure := true, sz := 3, es := [[.psl 2 (List.map TApiLsKey.enc a1.Keys), .psl 1 (List.map (encInt .i64) a1.Lose), .int .i64 a1.Win]] }), (8, { g := 0, own := true, pure := true, sz := 3, es := [[.psl 2 (List.map TApiLsKey.enc b2.Keys), .psl 1 (List.map (encInt .i64) b2.Lose), .int .i64 b2.Win]] })], 248, []⟩) ?_ ?_
  ·
   intro s' hs
   obtain ⟨o25, rfl, hn, hs⟩ := hs
   refine kn_then ?_
   refine awp_re [] hn hs ?_
   refine awp_sr2 256 [4] (fun _ => none) rfl (fun _ _ => rT) ?_
   refine awp_ret ?_
   obtain rfl := Option.some.inj h0
   refine leave_retG [] ?_
   exact rG
  ·
   refine awp_loopF (ι := { p : Nat × Int // bookendref10_Same_l1 a1 b2 p.1 p.2 = some x19 }) (fun p => ⟨[(2, .ref 0 0 0 0), (3, .ref 8 0 0 0), (5, .int .i64 p.1.2)], [(0, { g := 0, own := true, pure := true, sz := 3, es := [[.psl 2 (List.map TApiLsKey.enc a1.Keys), .psl 1 (List.map (encInt .i64) a1.Lose), .int .i64 a1.Win]] }), (8, { g := 0, own := true, pure := true, sz := 3, es := [[.psl 2 (List.map TApiLsKey.enc b2.Keys), .psl 1 (List.map (encInt .i64) b2.Lose), .int .i64 b2.Win]] })], 208, []⟩) (fun p => p.1.1) ⟨(fu, 0), hxx19⟩ ⟨rF, rE, rfl, rfl, trivial, trivial⟩ (fun _ => Nat.le_refl _) ?_
   rintro ⟨⟨fu, i20⟩, h1⟩
   cases fu with
   | zero =>
   replace h1 : bookendref10_Same_l1 a1 b2 0 i20 = some x19 := h1
   rw [bookendref10_Same_l1] at h1; cases h1
   | succ fu =>
    replace h1 : bookendref10_Same_l1 a1 b2 (fu + 1) i20 = some x19 := h1
    rw [bookendref10_Same_l1] at h1
    refine (show AWP _ _ _ _ ⟨[(2, .ref 0 0 0 0), (3, .ref 8 0 0 0), (5, .int .i64 i20)], [(0, { g := 0, own := true, pure := true, sz := 3, es := [[.psl 2 (List.map TApiLsKey.enc a1.Keys), .psl 1 (List.map (encInt .i64) a1.Lose), .int .i64 a1.Win]] }), (8, { g := 0, own := true, pure := true, sz := 3, es := [[.psl 2 (List.map TApiLsKey.enc b2.Keys), .psl 1 (List.map (encInt .i64) b2.Lose), .int .i64 b2.Win]] })], 208, []⟩ from ?_)
    refine awp_seq ?_
    refine awp_sr2 248 [2, 3, 5, 32] (fun _ => none) rfl (fun _ _ => rT) ?_
    refine awp_if rfl (fun hb21 => ?_) (fun hb21 => ?_)
    ·
     replace h1 := iteT h1 hb21
     refine awp_skip ?_
     refine kn_then ?_
     refine awp_seq ?_
     refine awp_block ?_
     obtain ⟨e22, he22, h1⟩ := bindS h1
     obtain ⟨he22a, he22b, he22c⟩ := idxS he22
     obtain ⟨e23, he23, h1⟩ := bindS h1
     obtain ⟨he23a, he23b, he23c⟩ := idxS he23
     refine awp_sd2 336 [2, 3, 5, 45] (fun _ => none) rfl rfl rfl (fun _ _ => rSd (rA he22a (rA he22b (rA he22c (rA he23a (rA he23b he23c)))))) ?_
     refine awp_if rfl (fun hb24 => ?_) (fun hb24 => ?_)
     ·
      replace h1 := iteT h1 hb24
      refine awp_sr2 344 [4] (fun _ => none) rfl (fun _ _ => rS (rA he22a (rA he22b (rA he22c (rA he23a (rA he23b he23c)))))) ?_
      refine awp_ret ?_
      obtain rfl := Option.some.inj h1
      refine kr_block ?_
      refine kr_then ?_
      refine kr_then ?_
      refine kr_loop ?_
      refine kr_then ?_
      obtain rfl := Option.some.inj h0
      refine leave_retG [] ?_
      simp (maxSteps := 1000000) only [↓reduceIte, reduceCtorEq, Nat.reduceEqDiff, Nat.reduceLT, Nat.reduceLeDiff, Nat.reduceAdd, Nat.reduceMul, Int.reduceToNat, push_cast, Gives, he22a, he22b, he22c, he23a, he23b, he23c]
      all_goals exact rH
     ·
      replace h1 := iteF h1 hb24
      refine awp_skip ?_
      refine kn_block ?_
      refine kn_then ?_
      refine awp_r2 360 [2, 3, 5] (fun _ => none) rfl (fun _ _ => rS (rA he22a (rA he22b (rA he22c (rA he23a (rA he23b he23c)))))) ?_
      refine kn_then ?_
      exact ⟨⟨(fu, (IntKind.i64.wrap (i20 + 1))), h1⟩, ⟨rF, rE, rfl, rfl, trivial, trivial⟩, Nat.lt_succ_self _⟩
    ·
     replace h1 := iteF h1 hb21
     refine awp_exit ?_
     refine kx_then ?_
     refine kx_then ?_
     refine kx_done ?_
     obtain rfl := Option.some.inj h1
     exact ⟨_, rfl, Nat.le_of_ble_eq_true rfl, ⟨rF, rE, rfl, rfl, trivial, trivial⟩⟩
end Go.T
end
section
/- The program computes them. -/
namespace Go.T
open Go Go.AM Go.Proofs
set_option maxRecDepth 100000
set_option maxHeartbeats 4000000
set_option linter.unusedVariables false
theorem c_bookendref11_Same {fu : Nat} {a1 : TApiMgState} {b2 : TApiMgState} {r : Bool} (h0 : bookendref11_Same fu a1 b2 = some r) : PCall Try.prog 15 [.agg (TApiMgState.enc a1), .agg (TApiMgState.enc b2)] (.bool r) [] := by
 refine awp_pcall Try.func15 rfl (by decide) (Nat.le_of_ble_eq_true rfl) ?_
 dsimp only [Try.f15]
 rw [bookendref11_Same] at h0
 refine (show AWP _ _ _ _ ⟨enumFr 0 _, [], 0, []⟩ from ?_)
 refine awp_sr2 24 [2, 3] (fun _ => none) rfl (fun _ _ => rT) ?_
 refine awp_seq ?_
 obtain ⟨b4, hb4, h0⟩ := bindS h0
 obtain ⟨b6, hb6, h0⟩ := bindS h0
 refine awp_sr3 (fr' := [(2, .ref 0 0 0 0), (3, .ref 8 0 0 0), (28, .bool b6)]) (hp' := [(0, { g := 0, own := true, pure := true, sz := 5, es := [[.psl 1 (List.map (encSl 4 TApiEntry.enc) a1.Runs), .psl 1 (List.map (encInt .i64) a1.At), .psl 2 (List.map TApiLsKey.enc a1.Tree.Keys), .psl 1 (List.map (encInt .i64) a1.Tree.Lose), .int .i64 a1.Tree.Win]] }), (8, { g := 0, own := true, pure := true, sz := 5, es := [[.psl 1 (List.map (encSl 4 TApiEntry.enc) b2.Runs), .psl 1 (List.map (encInt .i64) b2.At), .psl 2 (List.map TApiLsKey.enc b2.Tree.Keys), .psl 1 (List.map (encInt .i64) b2.Tree.Lose), .int .i64 b2.Tree.Win]] })]) [0, 8] 208 [2, 3, 28] (fun | 12 => (bookendref10_Ints fu a1.At b2.At).bind fun vr3 => some (.bool vr3, []) | 20 => (bookendref10_Same fu a1.Tree b2.Tree).bind fun vr5 => some (.bool vr5, []) | _ => none) rfl (fun Kt hK => by
   cases hg7 : (!(decide ((a1.Runs.length : Int) = (b2.Runs.length : Int)))) with
   | false =>
    replace hb4 := iteF hb4 hg7
    obtain ⟨vr3, hvr3, hb4⟩ := bindS hb4
    have hqb4 := Option.some.inj hb4
    cases b4 with
    | false =>
     replace hb6 := iteF hb6 rfl
     obtain ⟨vr5, hvr5, hb6⟩ := bindS hb6
     have hqb6 := Option.some.inj hb6
     subst hqb6
     simp (maxSteps := 1000000) only [↓reduceIte, reduceCtorEq, Nat.reduceEqDiff, Nat.reduceLT, Nat.reduceLeDiff, Nat.reduceAdd, Nat.reduceMul, Int.reduceToNat, push_cast, ↓hg7, hvr3, ↓hqb4, hvr5]
     try simp only [↓hg7, ↓hqb4] at hK
     try have q0 := c_bookendref10_Ints hvr3
     try have q1 := c_bookendref10_Same hvr5
     all_goals exact rU
    | true =>
     replace hb6 := iteT hb6 rfl
     have hqb6 := Option.some.inj hb6
     subst hqb6
     simp (maxSteps := 1000000) only [↓reduceIte, reduceCtorEq, Nat.reduceEqDiff, Nat.reduceLT, Nat.reduceLeDiff, Nat.reduceAdd, Nat.reduceMul, Int.reduceToNat, push_cast, ↓hg7, hvr3, ↓hqb4]
     try simp only [↓hg7, ↓hqb4] at hK
     try have q0 := c_bookendref10_Ints hvr3
     try have q1 := c_bookendref10_Same hvr5
     all_goals exact rU
   | true =>
    replace hb4 := iteT hb4 hg7
    have hqb4 := Option.some.inj hb4
    cases b4 with
    | false =>
     cases hqb4
    | true =>
     replace hb6 := iteT hb6 rfl
     have hqb6 := Option.some.inj hb6
     subst hqb6
     simp (maxSteps := 1000000) only [↓reduceIte, reduceCtorEq, Nat.reduceEqDiff, Nat.reduceLT, Nat.reduceLeDiff, Nat.reduceAdd, Nat.reduceMul, Int.reduceToNat, push_cast, ↓hg7]
     try simp only [↓hg7] at hK
     try have q0 := c_bookendref10_Ints hvr3
     try have q1 := c_bookendref10_Same hvr5
     all_goals exact rU) ?_
 refine awp_if rfl (fun hb10 => ?_) (fun hb10 => ?_)
 ·
  replace h0 := iteT h0 hb10
  refine awp_sr2 216 [4] (fun _ => none) rfl (fun _ _ => rT) ?_
  refine awp_ret ?_
  refine kr_then ?_
  obtain rfl := Option.some.inj h0
  refine leave_retG [] ?_
  exact rG
 ·
  replace h0 := iteF h0 hb10
  refine awp_skip ?_
  refine kn_then ?_
  refine awp_seq ?_
  refine awp_sr2 216 [2, 3, 5] (fun _ => none) rfl (fun _ _ => rT) ?_
  obtain ⟨x22, hxx22, h0⟩ := bindS h0
  refine awp_bloop (fun s' => ∃ o29 : Unit, x22 = .inl o29 ∧ s'.nx ≤ 256 ∧ LeN [] s' ⟨[], [(0, { g := 0, own := true, pure := true, sz := 5, es := [[.psl 1 (List.map (encSl 4 TApiEntry.enc) a1.Runs), .psl 1 (List.map (encInt .i64) a1.At), .psl 2 (List.map TApiLsKey.enc a1.Tree.Keys), .psl 1 (List.map (encInt .i64) a1.Tree.Lose), .int .i64 a1.Tree.Win]] }), (8, { g := 0, own := true, pure := true, sz := 5, es := [[.psl 1 (List.map (encSl 4 TApiEntry.enc) b2.Runs), .psl 1 (List.map (encInt .i64) b2.At), .psl 2 (List.map TApiLsKey.enc b2.Tree.Keys), .psl 1 (List.map (encInt .i64) b2.Tree.Lose), .int .i64 b2.Tree.Win]] })], 256, []⟩) ?_ ?_
  ·
   intro s' hs
   obtain ⟨o29, rfl, hn, hs⟩ := hs
   refine kn_then ?_
   refine awp_re [] hn hs ?_
   refine awp_sr2 264 [4] (fun _ => none) rfl (fun _ _ => rT) ?_
   refine awp_ret ?_
   obtain rfl := Option.some.inj h0
   refine leave_retG [] ?_
   exact rG
  ·
   refine awp_loopF (ι := { p : Nat × Int // bookendref11_Same_l1 a1 b2 p.1 p.2 = some x22 }) (fun p => ⟨[(2, .ref 0 0 0 0), (3, .ref 8 0 0 0), (5, .int .i64 p.1.2)], [(0, { g := 0, own := true, pure := true, sz := 5, es := [[.psl 1 (List.map (encSl 4 TApiEntry.enc) a1.Runs), .psl 1 (List.map (encInt .i64) a1.At), .psl 2 (List.map TApiLsKey.enc a1.Tree.Keys), .psl 1 (List.map (encInt .i64) a1.Tree.Lose), .int .i64 a1.Tree.Win]] }), (8, { g := 0, own := true, pure := true, sz := 5, es := [[.psl 1 (List.map (encSl 4 TApiEntry.enc) b2.Runs), .psl 1 (List.map (encInt .i64) b2.At), .psl 2 (List.map TApiLsKey.enc b2.Tree.Keys), .psl 1 (List.map (encInt .i64) b2.Tree.Lose), .int .i64 b2.Tree.Win]] })], 216, []⟩) (fun p => p.1.1) ⟨(fu, 0), hxx22⟩ ⟨rF, rE, rfl, rfl, trivial, trivial⟩ (fun _ => Nat.le_refl _) ?_
   rintro ⟨⟨fu, i23⟩, h1⟩
   cases fu with
   | zero =>
   replace h1 : bookendref11_Same_l1 a1 b2 0 i23 = some x22 := h1
   rw [bookendref11_Same_l1] at h1; cases h1
   | succ fu =>
    replace h1 : bookendref11_Same_l1 a1 b2 (fu + 1) i23 = some x22 := h1
    rw [bookendref11_Same_l1] at h1
    refine (show AWP _ _ _ _ ⟨[(2, .ref 0 0 0 0), (3, .ref 8 0 0 0), (5, .int .i64 i23)], [(0, { g := 0, own := true, pure := true, sz := 5, es := [[.psl 1 (List.map (encSl 4 TApiEntry.enc) a1.Runs), .psl 1 (List.map (encInt .i64) a1.At), .psl 2 (List.map TApiLsKey.enc a1.Tree.Keys), .psl 1 (List.map (encInt .i64) a1.Tree.Lose), .int .i64 a1.Tree.Win]] }), (8, { g := 0, own := true, pure := true, sz := 5, es := [[.psl 1 (List.map (encSl 4 TApiEntry.enc) b2.Runs), .psl 1 (List.map (encInt .i64) b2.At), .psl 2 (List.map TApiLsKey.enc b2.Tree.Keys), .psl 1 (List.map (encInt .i64) b2.Tree.Lose), .int .i64 b2.Tree.Win]] })], 216, []⟩ from ?_)
    refine awp_seq ?_
    refine awp_sr2 256 [2, 3, 5, 33] (fun _ => none) rfl (fun _ _ => rT) ?_
    refine awp_if rfl (fun hb24 => ?_) (fun hb24 => ?_)
    ·
     replace h1 := iteT h1 hb24
     refine awp_skip ?_
     refine kn_then ?_
     refine awp_seq ?_
     refine awp_block ?_
     obtain ⟨e25, he25, h1⟩ := bindS h1
     obtain ⟨he25a, he25b, he25c⟩ := idxS he25
     obtain ⟨e26, he26, h1⟩ := bindS h1
     obtain ⟨he26a, he26b, he26c⟩ := idxS he26
     obtain ⟨vr27, hvr27, h1⟩ := bindS h1
     refine awp_sd2 352 [2, 3, 5, 47] (fun | 10 => some (.bool vr27, []) | _ => none) rfl rfl rfl (fun _ _ => rBd (rA he25a (rA he25b (rA he25c (rA he26a (rA he26b he26c))))) (c_bookendref11_SameEntries hvr27)) ?_
     refine awp_if rfl (fun hb28 => ?_) (fun hb28 => ?_)
     ·
      replace h1 := iteT h1 hb28
      refine awp_sr2 360 [4] (fun _ => none) rfl (fun _ _ => rS (rA he25a (rA he25b (rA he25c (rA he26a (rA he26b he26c)))))) ?_
      refine awp_ret ?_
      obtain rfl := Option.some.inj h1
      refine kr_block ?_
      refine kr_then ?_
      refine kr_then ?_
      refine kr_loop ?_
      refine kr_then ?_
      obtain rfl := Option.some.inj h0
      refine leave_retG [] ?_
      simp (maxSteps := 1000000) only [↓reduceIte, reduceCtorEq, Nat.reduceEqDiff, Nat.reduceLT, Nat.reduceLeDiff, Nat.reduceAdd, Nat.reduceMul, Int.reduceToNat, push_cast, Gives, he25a, he25b, he25c, he26a, he26b, he26c]
      all_goals exact rH
     ·
      replace h1 := iteF h1 hb28
      refine awp_skip ?_
      refine kn_block ?_
      refine kn_then ?_
      refine awp_r2 376 [2, 3, 5] (fun _ => none) rfl (fun _ _ => rS (rA he25a (rA he25b (rA he25c (rA he26a (rA he26b he26c)))))) ?_
      refine kn_then ?_
      exact ⟨⟨(fu, (IntKind.i64.wrap (i23 + 1))), h1⟩, ⟨rF, rE, rfl, rfl, trivial, trivial⟩, Nat.lt_succ_self _⟩
    ·
     replace h1 := iteF h1 hb24
     refine awp_exit ?_
     refine kx_then ?_
     refine kx_then ?_
     refine kx_done ?_
     obtain rfl := Option.some.inj h1
     exact ⟨_, rfl, Nat.le_of_ble_eq_true rfl, ⟨rF, rE, rfl, rfl, trivial, trivial⟩⟩
end Go.T
end
section
/- The program computes them. -/
namespace Go.T
open Go Go.AM Go.Proofs
set_option maxRecDepth 100000
set_option maxHeartbeats 4000000
set_option linter.unusedVariables false
theorem c_bookendlaw11_MergeBegins {fu : Nat} {runs1 : List (List TApiEntry)} {r : Bool} (h0 : bookendlaw11_MergeBegins fu runs1 = some r) : PCall Try.prog 3 [.psl 1 (runs1.map (encSl 4 TApiEntry.enc))] (.bool r) [] := by
 refine awp_pcall Try.func3 rfl (by decide) (Nat.le_of_ble_eq_true rfl) ?_
 dsimp only [Try.f3]
 rw [bookendlaw11_MergeBegins] at h0
 refine (show AWP _ _ _ _ ⟨enumFr 0 _, [], 0, []⟩ from ?_)
 refine awp_sr2 8 [0] (fun _ => none) rfl (fun _ _ => rT) ?_
 refine awp_seq ?_
 obtain ⟨vr2, hvr2, h0⟩ := bindS h0
 refine awp_sr2 24 [0, 16] (fun | 1 => some (.bool vr2, []) | _ => none) rfl (fun _ _ => rC (c_bookendlaw11_Far hvr2)) ?_
 refine awp_if rfl (fun hb3 => ?_) (fun hb3 => ?_)
 ·
  replace h0 := iteT h0 hb3
  obtain ⟨vr4, hvr4, h0⟩ := bindS h0
  refine awp_sr2 40 [2] (fun | 0 => some (.bool vr4, []) | _ => none) rfl (fun _ _ => rC (c_bookendlaw11_awake hvr4)) ?_
  refine awp_ret ?_
  refine kr_then ?_
  obtain rfl := Option.some.inj h0
  refine leave_retG [] ?_
  exact rG
 ·
  replace h0 := iteF h0 hb3
  refine awp_skip ?_
  refine kn_then ?_
  obtain ⟨vr5, hvr5, h0⟩ := bindS h0
  refine awp_sr2 104 [0, 3, 4, 5] (fun | 1 => some (.tup [.agg (TApiMgState.enc vr5.1), .int .i64 vr5.2.1, .int .i64 vr5.2.2], []) | _ => none) rfl (fun _ _ => rC (c_merge_Begin hvr5)) ?_
  obtain ⟨vr6, hvr6, h0⟩ := bindS h0
  refine awp_sr2 184 [0, 3, 4, 5, 6, 7, 8] (fun | 1 => some (.tup [.agg (TApiMgState.enc vr6.1), .int .i64 vr6.2.1, .int .i64 vr6.2.2], []) | _ => none) rfl (fun _ _ => rC (c_bookendref11_Begin hvr6)) ?_
  obtain ⟨vr7, hvr7, h0⟩ := bindS h0
  refine awp_sr2 256 [0, 3, 4, 5, 6, 7, 8, 9, 10, 11] (fun | 1 => some (.tup [.psl 4 (vr7.1.map TApiEntry.enc), .psl 1 (vr7.2.1.map (encInt .i64)), .int .i64 vr7.2.2], []) | _ => none) rfl (fun _ _ => rC (c_merge_All hvr7)) ?_
  obtain ⟨vr8, hvr8, h0⟩ := bindS h0
  refine awp_sr2 328 [3, 4, 5, 6, 7, 8, 9, 10, 11, 12, 13, 14] (fun | 1 => some (.tup [.psl 4 (vr8.1.map TApiEntry.enc), .psl 1 (vr8.2.1.map (encInt .i64)), .int .i64 vr8.2.2], []) | _ => none) rfl (fun _ _ => rC (c_bookendref11_All hvr8)) ?_
  obtain ⟨vr9, hvr9, h0⟩ := bindS h0
  obtain ⟨b10, hb10, h0⟩ := bindS h0
  obtain ⟨b11, hb11, h0⟩ := bindS h0
  obtain ⟨b13, hb13, h0⟩ := bindS h0
  obtain ⟨b15, hb15, h0⟩ := bindS h0
  obtain ⟨b16, hb16, h0⟩ := bindS h0
  obtain ⟨b18, hb18, h0⟩ := bindS h0
  refine awp_sr3 (fr' := [(2, .bool b18)]) (hp' := [(72, { g := 0, own := true, pure := true, sz := 5, es := [[.psl 1 (List.map (encSl 4 TApiEntry.enc) vr5.1.Runs), .psl 1 (List.map (encInt .i64) vr5.1.At), .psl 2 (List.map TApiLsKey.enc vr5.1.Tree.Keys), .psl 1 (List.map (encInt .i64) vr5.1.Tree.Lose), .int .i64 vr5.1.Tree.Win]] }), (152, { g := 0, own := true, pure := true, sz := 5, es := [[.psl 1 (List.map (encSl 4 TApiEntry.enc) vr6.1.Runs), .psl 1 (List.map (encInt .i64) vr6.1.At), .psl 2 (List.map TApiLsKey.enc vr6.1.Tree.Keys), .psl 1 (List.map (encInt .i64) vr6.1.Tree.Lose), .int .i64 vr6.1.Tree.Win]] })]) [72, 152] 584 [2] (fun | 2 => some (.bool vr9, []) | 16 => (bookendref11_SameEntries fu vr7.1 vr8.1).bind fun vr12 => some (.bool vr12, []) | 21 => (bookendref10_Ints fu vr7.2.1 vr8.2.1).bind fun vr14 => some (.bool vr14, []) | 29 => (bookendlaw11_awake fu).bind fun vr17 => some (.bool vr17, []) | _ => none) rfl (fun Kt hK => by
    cases vr9 with
    | false =>
     replace hb10 := iteF hb10 rfl
     have hqb10 := Option.some.inj hb10
     cases b10 with
     | false =>
      replace hb11 := iteF hb11 rfl
      have hqb11 := Option.some.inj hb11
      cases b11 with
      | false =>
       replace hb13 := iteF hb13 rfl
       have hqb13 := Option.some.inj hb13
       cases b13 with
       | false =>
        replace hb15 := iteF hb15 rfl
        have hqb15 := Option.some.inj hb15
        cases b15 with
        | false =>
         replace hb16 := iteF hb16 rfl
         have hqb16 := Option.some.inj hb16
         cases b16 with
         | false =>
          replace hb18 := iteF hb18 rfl
          have hqb18 := Option.some.inj hb18
          subst hqb18
          try have q0 := c_bookendref11_Same hvr9
          try have q1 := c_bookendref11_SameEntries hvr12
          try have q2 := c_bookendref10_Ints hvr14
          try have q3 := c_bookendlaw11_awake hvr17
          exact rT
         | true =>
          cases hqb16
        | true =>
         cases hqb15
       | true =>
        cases hqb13
      | true =>
       cases hqb11
     | true =>
      cases hqb10
    | true =>
     replace hb10 := iteT hb10 rfl
     have hqb10 := Option.some.inj hb10
     cases b10 with
     | false =>
      replace hb11 := iteF hb11 rfl
      have hqb11 := Option.some.inj hb11
      cases b11 with
      | false =>
       replace hb13 := iteF hb13 rfl
       have hqb13 := Option.some.inj hb13
       cases b13 with
       | false =>
        replace hb15 := iteF hb15 rfl
        have hqb15 := Option.some.inj hb15
        cases b15 with
        | false =>
         replace hb16 := iteF hb16 rfl
         have hqb16 := Option.some.inj hb16
         cases b16 with
         | false =>
          replace hb18 := iteF hb18 rfl
          have hqb18 := Option.some.inj hb18
          subst hqb18
          simp (maxSteps := 1000000) only [↓reduceIte, reduceCtorEq, Nat.reduceEqDiff, Nat.reduceLT, Nat.reduceLeDiff, Nat.reduceAdd, Nat.reduceMul, Int.reduceToNat, push_cast, ↓hqb10]
          try simp only [↓hqb10] at hK
          try have q0 := c_bookendref11_Same hvr9
          try have q1 := c_bookendref11_SameEntries hvr12
          try have q2 := c_bookendref10_Ints hvr14
          try have q3 := c_bookendlaw11_awake hvr17
          all_goals exact rU
         | true =>
          cases hqb16
        | true =>
         cases hqb15
       | true =>
        cases hqb13
      | true =>
       cases hqb11
     | true =>
      replace hb11 := iteT hb11 rfl
      have hqb11 := Option.some.inj hb11
      cases b11 with
      | false =>
       replace hb13 := iteF hb13 rfl
       have hqb13 := Option.some.inj hb13
       cases b13 with
       | false =>
        replace hb15 := iteF hb15 rfl
        have hqb15 := Option.some.inj hb15
        cases b15 with
        | false =>
         replace hb16 := iteF hb16 rfl
         have hqb16 := Option.some.inj hb16
         cases b16 with
         | false =>
          replace hb18 := iteF hb18 rfl
          have hqb18 := Option.some.inj hb18
          subst hqb18
          simp (maxSteps := 1000000) only [↓reduceIte, reduceCtorEq, Nat.reduceEqDiff, Nat.reduceLT, Nat.reduceLeDiff, Nat.reduceAdd, Nat.reduceMul, Int.reduceToNat, push_cast, ↓hqb10, ↓hqb11]
          try simp only [↓hqb10, ↓hqb11] at hK
          try have q0 := c_bookendref11_Same hvr9
          try have q1 := c_bookendref11_SameEntries hvr12
          try have q2 := c_bookendref10_Ints hvr14
          try have q3 := c_bookendlaw11_awake hvr17
          all_goals exact rU
         | true =>
          cases hqb16
        | true =>
         cases hqb15
       | true =>
        cases hqb13
      | true =>
       replace hb13 := iteT hb13 rfl
       obtain ⟨vr12, hvr12, hb13⟩ := bindS hb13
       have hqb13 := Option.some.inj hb13
       cases b13 with
       | false =>
        subst hqb13
        replace hb15 := iteF hb15 rfl
        have hqb15 := Option.some.inj hb15
        cases b15 with
        | false =>
         replace hb16 := iteF hb16 rfl
         have hqb16 := Option.some.inj hb16
         cases b16 with
         | false =>
          replace hb18 := iteF hb18 rfl
          have hqb18 := Option.some.inj hb18
          subst hqb18
          simp (maxSteps := 1000000) only [↓reduceIte, reduceCtorEq, Nat.reduceEqDiff, Nat.reduceLT, Nat.reduceLeDiff, Nat.reduceAdd, Nat.reduceMul, Int.reduceToNat, push_cast, ↓hqb10, ↓hqb11, hvr12]
          try simp only [↓hqb10, ↓hqb11] at hK
          try have q0 := c_bookendref11_Same hvr9
          try have q1 := c_bookendref11_SameEntries hvr12
          try have q2 := c_bookendref10_Ints hvr14
          try have q3 := c_bookendlaw11_awake hvr17
          all_goals exact rU
         | true =>
          cases hqb16
        | true =>
         cases hqb15
       | true =>
        subst hqb13
        replace hb15 := iteT hb15 rfl
        obtain ⟨vr14, hvr14, hb15⟩ := bindS hb15
        have hqb15 := Option.some.inj hb15
        cases b15 with
        | false =>
         subst hqb15
         replace hb16 := iteF hb16 rfl
         have hqb16 := Option.some.inj hb16
         cases b16 with
         | false =>
          replace hb18 := iteF hb18 rfl
          have hqb18 := Option.some.inj hb18
          subst hqb18
          simp (maxSteps := 1000000) only [↓reduceIte, reduceCtorEq, Nat.reduceEqDiff, Nat.reduceLT, Nat.reduceLeDiff, Nat.reduceAdd, Nat.reduceMul, Int.reduceToNat, push_cast, ↓hqb10, ↓hqb11, hvr12, hvr14]
          try simp only [↓hqb10, ↓hqb11] at hK
          try have q0 := c_bookendref11_Same hvr9
          try have q1 := c_bookendref11_SameEntries hvr12
          try have q2 := c_bookendref10_Ints hvr14
          try have q3 := c_bookendlaw11_awake hvr17
          all_goals exact rU
         | true =>
          cases hqb16
        | true =>
         subst hqb15
         replace hb16 := iteT hb16 rfl
         have hqb16 := Option.some.inj hb16
         cases b16 with
         | false =>
          replace hb18 := iteF hb18 rfl
          have hqb18 := Option.some.inj hb18
          subst hqb18
          simp (maxSteps := 1000000) only [↓reduceIte, reduceCtorEq, Nat.reduceEqDiff, Nat.reduceLT, Nat.reduceLeDiff, Nat.reduceAdd, Nat.reduceMul, Int.reduceToNat, push_cast, ↓hqb10, ↓hqb11, hvr12, hvr14, ↓hqb16]
          try simp only [↓hqb10, ↓hqb11, ↓hqb16] at hK
          try have q0 := c_bookendref11_Same hvr9
          try have q1 := c_bookendref11_SameEntries hvr12
          try have q2 := c_bookendref10_Ints hvr14
          try have q3 := c_bookendlaw11_awake hvr17
          all_goals exact rU
         | true =>
          replace hb18 := iteT hb18 rfl
          obtain ⟨vr17, hvr17, hb18⟩ := bindS hb18
          have hqb18 := Option.some.inj hb18
          subst hqb18
          simp (maxSteps := 1000000) only [↓reduceIte, reduceCtorEq, Nat.reduceEqDiff, Nat.reduceLT, Nat.reduceLeDiff, Nat.reduceAdd, Nat.reduceMul, Int.reduceToNat, push_cast, ↓hqb10, ↓hqb11, hvr12, hvr14, ↓hqb16, hvr17]
          try simp only [↓hqb10, ↓hqb11, ↓hqb16] at hK
          try have q0 := c_bookendref11_Same hvr9
          try have q1 := c_bookendref11_SameEntries hvr12
          try have q2 := c_bookendref10_Ints hvr14
          try have q3 := c_bookendlaw11_awake hvr17
          all_goals exact rU) ?_
  refine awp_ret ?_
  obtain rfl := Option.some.inj h0
  refine leave_retG [] ?_
  exact rG
end Go.T
end
section
/- MergeBegins: Begin and All return what the reference returns, for all runs. -/
namespace Go.Proofs.Ytfbaoblejikccaa
open Go.T
theorem mergeBegins : Rows.MergeBeginsSaid :=
  mergeBegins_over fun runs _ => by
    obtain ⟨fu, h⟩ := (mergeBegins_ev runs).one
    exact ⟨_, c_bookendlaw11_MergeBegins h⟩
end Go.Proofs.Ytfbaoblejikccaa
end
