/- MergeStates: of any state, Check, Peek, Next, Left and Skip return what the reference returns; no conditions. -/
import Derived.Test.YtfbaoblejikccaaGt
import Derived.Test.YtfbaoblejikccaaD2
set_option linter.unusedSimpArgs false
set_option linter.unusedVariables false
section
/- The program computes them. -/
namespace Go.T
open Go Go.AM Go.Proofs
set_option maxRecDepth 100000
set_option maxHeartbeats 4000000
set_option linter.unusedVariables false
theorem c_bookendref10_Same {fu : Nat} {a1 : TApiLsTree} {b2 : TApiLsTree} {r : Bool} (h0 : bookendref10_Same fu a1 b2 = some r) : PCall Try.prog 36 [.agg (TApiLsTree.enc a1), .agg (TApiLsTree.enc b2)] (.bool r) [] := by
 refine awp_pcall Try.func36 rfl (by decide) (Nat.le_of_ble_eq_true rfl) ?_
 dsimp only [Try.f36]
 rw [bookendref10_Same] at h0
 refine (show AWP _ _ _ _ ⟨enumFr 0 _, [], 0, []⟩ from ?_)
 refine awp_sr2 24 [2, 3] (fun _ => none) rfl (fun _ _ => rT) ?_
 refine awp_seq ?_
 obtain ⟨b3, hb3, h0⟩ := bindS h0
 obtain ⟨b5, hb5, h0⟩ := bindS h0
 refine awp_sr3 (fr' := [(2, .ref 0 0 0 0), (3, .ref 8 0 0 0), (27, .bool b5)]) (hp' := [(0, { g := 0, own := true, pure := true, sz := 3, es := [[.psl 2 (List.map TApiLsKey.enc a1.Keys), .psl 1 (List.map (encInt .i64) a1.Lose), .int .i64 a1.Win]] }), (8, { g := 0, own := true, pure := true, sz := 3, es := [[.psl 2 (List.map TApiLsKey.enc b2.Keys), .psl 1 (List.map (encInt .i64) b2.Lose), .int .i64 b2.Win]] })]) [0, 8] 200 [2, 3, 27] (fun | 19 => (bookendref10_Ints fu a1.Lose b2.Lose).bind fun vr4 => some (.bool vr4, []) | _ => none) rfl (fun Kt hK => by
   cases hg6 : (!(decide ((a1.Keys.length : Int) = (b2.Keys.length : Int)))) with
   | false =>
    replace hb3 := iteF hb3 hg6
    have hqb3 := Option.some.inj hb3
    cases b3 with
    | false =>
     replace hb5 := iteF hb5 rfl
     obtain ⟨vr4, hvr4, hb5⟩ := bindS hb5
     have hqb5 := Option.some.inj hb5
     subst hqb5
     simp (maxSteps := 1000000) only [↓reduceIte, reduceCtorEq, Nat.reduceEqDiff, Nat.reduceLT, Nat.reduceLeDiff, Nat.reduceAdd, Nat.reduceMul, Int.reduceToNat, push_cast, ↓hg6, ↓hqb3, hvr4]
     try simp only [↓hg6, ↓hqb3] at hK
     try have q0 := c_bookendref10_Ints hvr4
     all_goals exact rU
    | true =>
     replace hb5 := iteT hb5 rfl
     have hqb5 := Option.some.inj hb5
     subst hqb5
     simp (maxSteps := 1000000) only [↓reduceIte, reduceCtorEq, Nat.reduceEqDiff, Nat.reduceLT, Nat.reduceLeDiff, Nat.reduceAdd, Nat.reduceMul, Int.reduceToNat, push_cast, ↓hg6, ↓hqb3]
     try simp only [↓hg6, ↓hqb3] at hK
     try have q0 := c_bookendref10_Ints hvr4
     all_goals exact rU
   | true =>
    replace hb3 := iteT hb3 hg6
    have hqb3 := Option.some.inj hb3
    cases b3 with
    | false =>
     cases hqb3
    | true =>
     replace hb5 := iteT hb5 rfl
     have hqb5 := Option.some.inj hb5
     subst hqb5
     simp (maxSteps := 1000000) only [↓reduceIte, reduceCtorEq, Nat.reduceEqDiff, Nat.reduceLT, Nat.reduceLeDiff, Nat.reduceAdd, Nat.reduceMul, Int.reduceToNat, push_cast, ↓hg6]
     try simp only [↓hg6] at hK
     try have q0 := c_bookendref10_Ints hvr4
     all_goals exact rU) ?_
 refine awp_if rfl (fun hb9 => ?_) (fun hb9 => ?_)
 ·
  replace h0 := iteT h0 hb9
  refine awp_sr2 208 [4] (fun _ => none) rfl (fun _ _ => rT) ?_
  refine awp_ret ?_
  refine kr_then ?_
  obtain rfl := Option.some.inj h0
  refine leave_retG [] ?_
  exact rG
 ·
  replace h0 := iteF h0 hb9
  refine awp_skip ?_
  refine kn_then ?_
  refine awp_seq ?_
  refine awp_sr2 208 [2, 3, 5] (fun _ => none) rfl (fun _ _ => rT) ?_
  obtain ⟨x19, hxx19, h0⟩ := bindS h0
  refine awp_bloop (fun s' => ∃ o25 : Unit, x19 = .inl o25 ∧ s'.nx ≤ 248 ∧ LeN [] s' ⟨[], [(0, { g := 0, own := true, pure := true, sz := 3, es := [[.psl 2 (List.map TApiLsKey.enc a1.Keys), .psl 1 (List.map (encInt .i64) a1.Lose), .int .i64 a1.Win]] }), (8, { g := 0, own := true, pure := true, sz := 3, es := [[.psl 2 (List.map TApiLsKey.enc b2.Keys), .psl 1 (List.map (encInt .i64) b2.Lose), .int .i64 b2.Win]] })], 248, []⟩) ?_ ?_
  ·
   intro s' hs
   obtain ⟨o25, rfl, hn, hs⟩ := hs
   refine kn_then ?_
   refine awp_re [] hn hs ?_
   refine awp_sr2 256 [4] (fun _ => none) rfl (fun _ _ => rT) ?_
   refine awp_ret ?_
   obtain rfl := Option.some.inj h0
   refine leave_retG [] ?_
   exact rG
  ·
   refine awp_loopF (ι := { p : Nat × Int // bookendref10_Same_l1 a1 b2 p.1 p.2 = some x19 }) (fun p => ⟨[(2, .ref 0 0 0 0), (3, .ref 8 0 0 0), (5, .int .i64 p.1.2)], [(0, { g := 0, own := true, pure := true, sz := 3, es := [[.psl 2 (List.map TApiLsKey.enc a1.Keys), .psl 1 (List.map (encInt .i64) a1.Lose), .int .i64 a1.Win]] }), (8, { g := 0, own := true, pure := true, sz := 3, es := [[.psl 2 (List.map TApiLsKey.enc b2.Keys), .psl 1 (List.map (encInt .i64) b2.Lose), .int .i64 b2.Win]] })], 208, []⟩) (fun p => p.1.1) ⟨(fu, 0), hxx19⟩ ⟨rF, rE, rfl, rfl, trivial, trivial⟩ (fun _ => Nat.le_refl _) ?_
   rintro ⟨⟨fu, i20⟩, h1⟩
   cases fu with
   | zero =>
   replace h1 : bookendref10_Same_l1 a1 b2 0 i20 = some x19 := h1
   rw [bookendref10_Same_l1] at h1; cases h1
   | succ fu =>
    replace h1 : bookendref10_Same_l1 a1 b2 (fu + 1) i20 = some x19 := h1
    rw [bookendref10_Same_l1] at h1
    refine (show AWP _ _ _ _ ⟨[(2, .ref 0 0 0 0), (3, .ref 8 0 0 0), (5, .int .i64 i20)], [(0, { g := 0, own := true, pure := true, sz := 3, es := [[.psl 2 (List.map TApiLsKey.enc a1.Keys), .psl 1 (List.map (encInt .i64) a1.Lose), .int .i64 a1.Win]] }), (8, { g := 0, own := true, pure := true, sz := 3, es := [[.psl 2 (List.map TApiLsKey.enc b2.Keys), .psl 1 (List.map (encInt .i64) b2.Lose), .int .i64 b2.Win]] })], 208, []⟩ from ?_)
    refine awp_seq ?_
    refine awp_sr2 248 [2, 3, 5, 32] (fun _ => none) rfl (fun _ _ => rT) ?_
    refine awp_if rfl (fun hb21 => ?_) (fun hb21 => ?_)
    ·
     replace h1 := iteT h1 hb21
     refine awp_skip ?_
     refine kn_then ?_
     refine awp_seq ?_
     refine awp_block ?_
     obtain ⟨e22, he22, h1⟩ := bindS h1
     obtain ⟨he22a, he22b, he22c⟩ := idxS he22
     obtain ⟨e23, he23, h1⟩ := bindS h1
     obtain ⟨he23a, he23b, he23c⟩ := idxS he23
     refine awp_sd2 336 [2, 3, 5, 45] (fun _ => none) rfl rfl rfl (fun _ _ => rSd (rA he22a (rA he22b (rA he22c (rA he23a (rA he23b he23c)))))) ?_
     refine awp_if rfl (fun hb24 => ?_) (fun hb24 => ?_)
     ·
      replace h1 := iteT h1 hb24
      refine awp_sr2 344 [4] (fun _ => none) rfl (fun _ _ => rS (rA he22a (rA he22b (rA he22c (rA he23a (rA he23b he23c)))))) ?_
      refine awp_ret ?_
      obtain rfl := Option.some.inj h1
      refine kr_block ?_
      refine kr_then ?_
      refine kr_then ?_
      refine kr_loop ?_
      refine kr_then ?_
      obtain rfl := Option.some.inj h0
      refine leave_retG [] ?_
      simp (maxSteps := 1000000) only [↓reduceIte, reduceCtorEq, Nat.reduceEqDiff, Nat.reduceLT, Nat.reduceLeDiff, Nat.reduceAdd, Nat.reduceMul, Int.reduceToNat, push_cast, Gives, he22a, he22b, he22c, he23a, he23b, he23c]
      all_goals exact rH
     ·
      replace h1 := iteF h1 hb24
      refine awp_skip ?_
      refine kn_block ?_
      refine kn_then ?_
      refine awp_r2 360 [2, 3, 5] (fun _ => none) rfl (fun _ _ => rS (rA he22a (rA he22b (rA he22c (rA he23a (rA he23b he23c)))))) ?_
      refine kn_then ?_
      exact ⟨⟨(fu, (IntKind.i64.wrap (i20 + 1))), h1⟩, ⟨rF, rE, rfl, rfl, trivial, trivial⟩, Nat.lt_succ_self _⟩
    ·
     replace h1 := iteF h1 hb21
     refine awp_exit ?_
     refine kx_then ?_
     refine kx_then ?_
     refine kx_done ?_
     obtain rfl := Option.some.inj h1
     exact ⟨_, rfl, Nat.le_of_ble_eq_true rfl, ⟨rF, rE, rfl, rfl, trivial, trivial⟩⟩
end Go.T
end
section
/- The program computes them. -/
namespace Go.T
open Go Go.AM Go.Proofs
set_option maxRecDepth 100000
set_option maxHeartbeats 4000000
set_option linter.unusedVariables false
theorem c_bookendref11_Same {fu : Nat} {a1 : TApiMgState} {b2 : TApiMgState} {r : Bool} (h0 : bookendref11_Same fu a1 b2 = some r) : PCall Try.prog 15 [.agg (TApiMgState.enc a1), .agg (TApiMgState.enc b2)] (.bool r) [] := by
 refine awp_pcall Try.func15 rfl (by decide) (Nat.le_of_ble_eq_true rfl) ?_
 dsimp only [Try.f15]
 rw [bookendref11_Same] at h0
 refine (show AWP _ _ _ _ ⟨enumFr 0 _, [], 0, []⟩ from ?_)
 refine awp_sr2 24 [2, 3] (fun _ => none) rfl (fun _ _ => rT) ?_
 refine awp_seq ?_
 obtain ⟨b4, hb4, h0⟩ := bindS h0
 obtain ⟨b6, hb6, h0⟩ := bindS h0
 refine awp_sr3 (fr' := [(2, .ref 0 0 0 0), (3, .ref 8 0 0 0), (28, .bool b6)]) (hp' := [(0, { g := 0, own := true, pure := true, sz := 5, es := [[.psl 1 (List.map (encSl 4 TApiEntry.enc) a1.Runs), .psl 1 (List.map (encInt .i64) a1.At), .psl 2 (List.map TApiLsKey.enc a1.Tree.Keys), .psl 1 (List.map (encInt .i64) a1.Tree.Lose), .int .i64 a1.Tree.Win]] }), (8, { g := 0, own := true, pure := true, sz := 5, es := [[.psl 1 (List.map (encSl 4 TApiEntry.enc) b2.Runs), .psl 1 (List.map (encInt .i64) b2.At), .psl 2 (List.map TApiLsKey.enc b2.Tree.Keys), .psl 1 (List.map (encInt .i64) b2.Tree.Lose), .int .i64 b2.Tree.Win]] })]) [0, 8] 208 [2, 3, 28] (fun | 12 => (bookendref10_Ints fu a1.At b2.At).bind fun vr3 => some (.bool vr3, []) | 20 => (bookendref10_Same fu a1.Tree b2.Tree).bind fun vr5 => some (.bool vr5, []) | _ => none) rfl (fun Kt hK => by
   cases hg7 : (!(decide ((a1.Runs.length : Int) = (b2.Runs.length : Int)))) with
   | false =>
    replace hb4 := iteF hb4 hg7
    obtain ⟨vr3, hvr3, hb4⟩ := bindS hb4
    have hqb4 := Option.some.inj hb4
    cases b4 with
    | false =>
     replace hb6 := iteF hb6 rfl
     obtain ⟨vr5, hvr5, hb6⟩ := bindS hb6
     have hqb6 := Option.some.inj hb6
     subst hqb6
     simp (maxSteps := 1000000) only [↓reduceIte, reduceCtorEq, Nat.reduceEqDiff, Nat.reduceLT, Nat.reduceLeDiff, Nat.reduceAdd, Nat.reduceMul, Int.reduceToNat, push_cast, ↓hg7, hvr3, ↓hqb4, hvr5]
     try simp only [↓hg7, ↓hqb4] at hK
     try have q0 := c_bookendref10_Ints hvr3
     try have q1 := c_bookendref10_Same hvr5
     all_goals exact rU
    | true =>
     replace hb6 := iteT hb6 rfl
     have hqb6 := Option.some.inj hb6
     subst hqb6
     simp (maxSteps := 1000000) only [↓reduceIte, reduceCtorEq, Nat.reduceEqDiff, Nat.reduceLT, Nat.reduceLeDiff, Nat.reduceAdd, Nat.reduceMul, Int.reduceToNat, push_cast, ↓hg7, hvr3, ↓hqb4]
     try simp only [↓hg7, ↓hqb4] at hK
     try have q0 := c_bookendref10_Ints hvr3
     try have q1 := c_bookendref10_Same hvr5
     all_goals exact rU
   | true =>
    replace hb4 := iteT hb4 hg7
    have hqb4 := Option.some.inj hb4
    cases b4 with
    | false =>
     cases hqb4
    | true =>
     replace hb6 := iteT hb6 rfl
     have hqb6 := Option.some.inj hb6
     subst hqb6
     simp (maxSteps := 1000000) only [↓reduceIte, reduceCtorEq, Nat.reduceEqDiff, Nat.reduceLT, Nat.reduceLeDiff, Nat.reduceAdd, Nat.reduceMul, Int.reduceToNat, push_cast, ↓hg7]
     try simp only [↓hg7] at hK
     try have q0 := c_bookendref10_Ints hvr3
     try have q1 := c_bookendref10_Same hvr5
     all_goals exact rU) ?_
 refine awp_if rfl (fun hb10 => ?_) (fun hb10 => ?_)
 ·
  replace h0 := iteT h0 hb10
  refine awp_sr2 216 [4] (fun _ => none) rfl (fun _ _ => rT) ?_
  refine awp_ret ?_
  refine kr_then ?_
  obtain rfl := Option.some.inj h0
  refine leave_retG [] ?_
  exact rG
 ·
  replace h0 := iteF h0 hb10
  refine awp_skip ?_
  refine kn_then ?_
  refine awp_seq ?_
  refine awp_sr2 216 [2, 3, 5] (fun _ => none) rfl (fun _ _ => rT) ?_
  obtain ⟨x22, hxx22, h0⟩ := bindS h0
  refine awp_bloop (fun s' => ∃ o29 : Unit, x22 = .inl o29 ∧ s'.nx ≤ 256 ∧ LeN [] s' ⟨[], [(0, { g := 0, own := true, pure := true, sz := 5, es := [[.psl 1 (List.map (encSl 4 TApiEntry.enc) a1.Runs), .psl 1 (List.map (encInt .i64) a1.At), .psl 2 (List.map TApiLsKey.enc a1.Tree.Keys), .psl 1 (List.map (encInt .i64) a1.Tree.Lose), .int .i64 a1.Tree.Win]] }), (8, { g := 0, own := true, pure := true, sz := 5, es := [[.psl 1 (List.map (encSl 4 TApiEntry.enc) b2.Runs), .psl 1 (List.map (encInt .i64) b2.At), .psl 2 (List.map TApiLsKey.enc b2.Tree.Keys), .psl 1 (List.map (encInt .i64) b2.Tree.Lose), .int .i64 b2.Tree.Win]] })], 256, []⟩) ?_ ?_
  ·
   intro s' hs
   obtain ⟨o29, rfl, hn, hs⟩ := hs
   refine kn_then ?_
   refine awp_re [] hn hs ?_
   refine awp_sr2 264 [4] (fun _ => none) rfl (fun _ _ => rT) ?_
   refine awp_ret ?_
   obtain rfl := Option.some.inj h0
   refine leave_retG [] ?_
   exact rG
  ·
   refine awp_loopF (ι := { p : Nat × Int // bookendref11_Same_l1 a1 b2 p.1 p.2 = some x22 }) (fun p => ⟨[(2, .ref 0 0 0 0), (3, .ref 8 0 0 0), (5, .int .i64 p.1.2)], [(0, { g := 0, own := true, pure := true, sz := 5, es := [[.psl 1 (List.map (encSl 4 TApiEntry.enc) a1.Runs), .psl 1 (List.map (encInt .i64) a1.At), .psl 2 (List.map TApiLsKey.enc a1.Tree.Keys), .psl 1 (List.map (encInt .i64) a1.Tree.Lose), .int .i64 a1.Tree.Win]] }), (8, { g := 0, own := true, pure := true, sz := 5, es := [[.psl 1 (List.map (encSl 4 TApiEntry.enc) b2.Runs), .psl 1 (List.map (encInt .i64) b2.At), .psl 2 (List.map TApiLsKey.enc b2.Tree.Keys), .psl 1 (List.map (encInt .i64) b2.Tree.Lose), .int .i64 b2.Tree.Win]] })], 216, []⟩) (fun p => p.1.1) ⟨(fu, 0), hxx22⟩ ⟨rF, rE, rfl, rfl, trivial, trivial⟩ (fun _ => Nat.le_refl _) ?_
   rintro ⟨⟨fu, i23⟩, h1⟩
   cases fu with
   | zero =>
   replace h1 : bookendref11_Same_l1 a1 b2 0 i23 = some x22 := h1
   rw [bookendref11_Same_l1] at h1; cases h1
   | succ fu =>
    replace h1 : bookendref11_Same_l1 a1 b2 (fu + 1) i23 = some x22 := h1
    rw [bookendref11_Same_l1] at h1
    refine (show AWP _ _ _ _ ⟨[(2, .ref 0 0 0 0), (3, .ref 8 0 0 0), (5, .int .i64 i23)], [(0, { g := 0, own := true, pure := true, sz := 5, es := [[.psl 1 (List.map (encSl 4 TApiEntry.enc) a1.Runs), .psl 1 (List.map (encInt .i64) a1.At), .psl 2 (List.map TApiLsKey.enc a1.Tree.Keys), .psl 1 (List.map (encInt .i64) a1.Tree.Lose), .int .i64 a1.Tree.Win]] }), (8, { g := 0, own := true, pure := true, sz := 5, es := [[.psl 1 (List.map (encSl 4 TApiEntry.enc) b2.Runs), .psl 1 (List.map (encInt .i64) b2.At), .psl 2 (List.map TApiLsKey.enc b2.Tree.Keys), .psl 1 (List.map (encInt .i64) b2.Tree.Lose), .int .i64 b2.Tree.Win]] })], 216, []⟩ from ?_)
    refine awp_seq ?_
    refine awp_sr2 256 [2, 3, 5, 33] (fun _ => none) rfl (fun _ _ => rT) ?_
    refine awp_if rfl (fun hb24 => ?_) (fun hb24 => ?_)
    ·
     replace h1 := iteT h1 hb24
     refine awp_skip ?_
     refine kn_then ?_
     refine awp_seq ?_
     refine awp_block ?_
     obtain ⟨e25, he25, h1⟩ := bindS h1
     obtain ⟨he25a, he25b, he25c⟩ := idxS he25
     obtain ⟨e26, he26, h1⟩ := bindS h1
     obtain ⟨he26a, he26b, he26c⟩ := idxS he26
     obtain ⟨vr27, hvr27, h1⟩ := bindS h1
     refine awp_sd2 352 [2, 3, 5, 47] (fun | 10 => some (.bool vr27, []) | _ => none) rfl rfl rfl (fun _ _ => rBd (rA he25a (rA he25b (rA he25c (rA he26a (rA he26b he26c))))) (c_bookendref11_SameEntries hvr27)) ?_
     refine awp_if rfl (fun hb28 => ?_) (fun hb28 => ?_)
     ·
      replace h1 := iteT h1 hb28
      refine awp_sr2 360 [4] (fun _ => none) rfl (fun _ _ => rS (rA he25a (rA he25b (rA he25c (rA he26a (rA he26b he26c)))))) ?_
      refine awp_ret ?_
      obtain rfl := Option.some.inj h1
      refine kr_block ?_
      refine kr_then ?_
      refine kr_then ?_
      refine kr_loop ?_
      refine kr_then ?_
      obtain rfl := Option.some.inj h0
      refine leave_retG [] ?_
      simp (maxSteps := 1000000) only [↓reduceIte, reduceCtorEq, Nat.reduceEqDiff, Nat.reduceLT, Nat.reduceLeDiff, Nat.reduceAdd, Nat.reduceMul, Int.reduceToNat, push_cast, Gives, he25a, he25b, he25c, he26a, he26b, he26c]
      all_goals exact rH
     ·
      replace h1 := iteF h1 hb28
      refine awp_skip ?_
      refine kn_block ?_
      refine kn_then ?_
      refine awp_r2 376 [2, 3, 5] (fun _ => none) rfl (fun _ _ => rS (rA he25a (rA he25b (rA he25c (rA he26a (rA he26b he26c)))))) ?_
      refine kn_then ?_
      exact ⟨⟨(fu, (IntKind.i64.wrap (i23 + 1))), h1⟩, ⟨rF, rE, rfl, rfl, trivial, trivial⟩, Nat.lt_succ_self _⟩
    ·
     replace h1 := iteF h1 hb24
     refine awp_exit ?_
     refine kx_then ?_
     refine kx_then ?_
     refine kx_done ?_
     obtain rfl := Option.some.inj h1
     exact ⟨_, rfl, Nat.le_of_ble_eq_true rfl, ⟨rF, rE, rfl, rfl, trivial, trivial⟩⟩
end Go.T
end
section
/- The program computes them. -/
namespace Go.T
open Go Go.AM Go.Proofs
set_option maxRecDepth 100000
set_option maxHeartbeats 4000000
set_option linter.unusedVariables false
theorem c_bookendref03_Check {fu : Nat} {vx1 : TApiEntry} {r : Int} (h0 : bookendref03_Check fu vx1 = some r) : PCall Try.prog 63 [.agg (TApiEntry.enc vx1)] (.int .i64 r) [] := by
 refine awp_pcall Try.func63 rfl (by decide) (Nat.le_of_ble_eq_true rfl) ?_
 dsimp only [Try.f63]
 rw [bookendref03_Check] at h0
 refine (show AWP _ _ _ _ ⟨enumFr 0 _, [], 0, []⟩ from ?_)
 refine awp_sr2 16 [1] (fun _ => none) rfl (fun _ _ => rT) ?_
 refine awp_seq ?_
 obtain ⟨b2, hb2, h0⟩ := bindS h0
 refine awp_sr3 (fr' := [(1, .ref 0 0 0 0), (12, .bool b2)]) (hp' := [(0, { g := 0, own := true, pure := true, sz := 4, es := [[.str vx1.Key, .str vx1.Val, .bool vx1.Dead, .int .i64 vx1.Seq]] })]) [0] 96 [1, 12] (fun _ => none) rfl (fun Kt hK => by
   cases hg3 : (decide (32 < (vx1.Key.length : Int))) with
   | false =>
    replace hb2 := iteF hb2 hg3
    have hqb2 := Option.some.inj hb2
    subst hqb2
    simp (maxSteps := 1000000) only [↓reduceIte, reduceCtorEq, Nat.reduceEqDiff, Nat.reduceLT, Nat.reduceLeDiff, Nat.reduceAdd, Nat.reduceMul, Int.reduceToNat, push_cast, ↓hg3]
    try simp only [↓hg3] at hK
    all_goals exact rU
   | true =>
    replace hb2 := iteT hb2 hg3
    have hqb2 := Option.some.inj hb2
    subst hqb2
    simp (maxSteps := 1000000) only [↓reduceIte, reduceCtorEq, Nat.reduceEqDiff, Nat.reduceLT, Nat.reduceLeDiff, Nat.reduceAdd, Nat.reduceMul, Int.reduceToNat, push_cast, ↓hg3]
    try simp only [↓hg3] at hK
    all_goals exact rU) ?_
 refine awp_if rfl (fun hb4 => ?_) (fun hb4 => ?_)
 ·
  replace h0 := iteT h0 hb4
  refine awp_sr2 104 [2] (fun _ => none) rfl (fun _ _ => rT) ?_
  refine awp_ret ?_
  refine kr_then ?_
  obtain rfl := Option.some.inj h0
  refine leave_retG [] ?_
  exact rG
 ·
  replace h0 := iteF h0 hb4
  refine awp_skip ?_
  refine kn_then ?_
  refine awp_seq ?_
  obtain ⟨b5, hb5, h0⟩ := bindS h0
  refine awp_sr3 (fr' := [(1, .ref 0 0 0 0), (19, .bool b5)]) (hp' := [(0, { g := 0, own := true, pure := true, sz := 4, es := [[.str vx1.Key, .str vx1.Val, .bool vx1.Dead, .int .i64 vx1.Seq]] })]) [0] 152 [1, 19] (fun _ => none) rfl (fun Kt hK => by
    cases hg6 : vx1.Dead with
    | false =>
     replace hb5 := iteF hb5 hg6
     have hqb5 := Option.some.inj hb5
     subst hqb5
     simp (maxSteps := 1000000) only [↓reduceIte, reduceCtorEq, Nat.reduceEqDiff, Nat.reduceLT, Nat.reduceLeDiff, Nat.reduceAdd, Nat.reduceMul, Int.reduceToNat, push_cast, ↓hg6]
     try simp only [↓hg6] at hK
     all_goals exact rU
    | true =>
     replace hb5 := iteT hb5 hg6
     have hqb5 := Option.some.inj hb5
     subst hqb5
     simp (maxSteps := 1000000) only [↓reduceIte, reduceCtorEq, Nat.reduceEqDiff, Nat.reduceLT, Nat.reduceLeDiff, Nat.reduceAdd, Nat.reduceMul, Int.reduceToNat, push_cast, ↓hg6]
     try simp only [↓hg6] at hK
     all_goals exact rU) ?_
  refine awp_if rfl (fun hb7 => ?_) (fun hb7 => ?_)
  ·
   replace h0 := iteT h0 hb7
   refine awp_sr2 160 [2] (fun _ => none) rfl (fun _ _ => rT) ?_
   refine awp_ret ?_
   refine kr_then ?_
   obtain rfl := Option.some.inj h0
   refine leave_retG [] ?_
   exact rG
  ·
   replace h0 := iteF h0 hb7
   refine awp_skip ?_
   refine kn_then ?_
   refine awp_seq ?_
   obtain ⟨b8, hb8, h0⟩ := bindS h0
   refine awp_sr3 (fr' := [(27, .bool b8)]) (hp' := [(0, { g := 0, own := true, pure := true, sz := 4, es := [[.str vx1.Key, .str vx1.Val, .bool vx1.Dead, .int .i64 vx1.Seq]] })]) [0] 216 [27] (fun _ => none) rfl (fun Kt hK => by
     cases hg9 : (decide (vx1.Seq < 1)) with
     | false =>
      replace hb8 := iteF hb8 hg9
      have hqb8 := Option.some.inj hb8
      subst hqb8
      simp (maxSteps := 1000000) only [↓reduceIte, reduceCtorEq, Nat.reduceEqDiff, Nat.reduceLT, Nat.reduceLeDiff, Nat.reduceAdd, Nat.reduceMul, Int.reduceToNat, push_cast, ↓hg9]
      try simp only [↓hg9] at hK
      all_goals exact rU
     | true =>
      replace hb8 := iteT hb8 hg9
      have hqb8 := Option.some.inj hb8
      subst hqb8
      simp (maxSteps := 1000000) only [↓reduceIte, reduceCtorEq, Nat.reduceEqDiff, Nat.reduceLT, Nat.reduceLeDiff, Nat.reduceAdd, Nat.reduceMul, Int.reduceToNat, push_cast, ↓hg9]
      try simp only [↓hg9] at hK
      all_goals exact rU) ?_
   refine awp_if rfl (fun hb10 => ?_) (fun hb10 => ?_)
   ·
    replace h0 := iteT h0 hb10
    refine awp_sr2 224 [2] (fun _ => none) rfl (fun _ _ => rT) ?_
    refine awp_ret ?_
    refine kr_then ?_
    obtain rfl := Option.some.inj h0
    refine leave_retG [] ?_
    exact rG
   ·
    replace h0 := iteF h0 hb10
    refine awp_skip ?_
    refine kn_then ?_
    refine awp_sr2 224 [2] (fun _ => none) rfl (fun _ _ => rT) ?_
    refine awp_ret ?_
    obtain rfl := Option.some.inj h0
    refine leave_retG [] ?_
    exact rG
end Go.T
end
section
/- The program computes them. -/
namespace Go.T
open Go Go.AM Go.Proofs
set_option maxRecDepth 100000
set_option maxHeartbeats 4000000
set_option linter.unusedVariables false
theorem c_bookendref02_common {fu : Nat} {a1 : List UInt8} {b2 : List UInt8} {r : Int} (h0 : bookendref02_common fu a1 b2 = some r) : PCall Try.prog 72 [.str a1, .str b2] (.int .i64 r) [] := by
 refine awp_pcall Try.func72 rfl (by decide) (Nat.le_of_ble_eq_true rfl) ?_
 dsimp only [Try.f72]
 rw [bookendref02_common] at h0
 refine (show AWP _ _ _ _ ⟨enumFr 0 _, [], 0, []⟩ from ?_)
 refine awp_sr2 8 [0, 1] (fun _ => none) rfl (fun _ _ => rT) ?_
 refine awp_sr2 16 [0, 1, 5] (fun _ => none) rfl (fun _ _ => rT) ?_
 obtain ⟨x20, hxx20, h0⟩ := bindS h0
 refine awp_sloop (fun s' => s'.nx ≤ 168 ∧ LeN [] s' ⟨[(5, .int .i64 x20)], [], 168, []⟩) ?_ ?_
 ·
  intro s' hs
  obtain ⟨hn, hs⟩ := hs
  refine awp_re [] hn hs ?_
  refine awp_sr2 184 [4] (fun _ => none) rfl (fun _ _ => rT) ?_
  refine awp_ret ?_
  obtain rfl := Option.some.inj h0
  refine leave_retG [] ?_
  exact rG
 ·
  refine awp_loopF (ι := { p : Nat × Int // bookendref02_common_l1 a1 b2 p.1 p.2 = some x20 }) (fun p => ⟨[(0, .str a1), (1, .str b2), (5, .int .i64 p.1.2)], [], 16, []⟩) (fun p => p.1.1) ⟨(fu, 0), hxx20⟩ ⟨rF, rE, rfl, rfl, trivial, trivial⟩ (fun _ => Nat.le_refl _) ?_
  rintro ⟨⟨fu, n21⟩, h1⟩
  cases fu with
  | zero =>
   replace h1 : bookendref02_common_l1 a1 b2 0 n21 = some x20 := h1
   rw [bookendref02_common_l1] at h1; cases h1
  | succ fu =>
   replace h1 : bookendref02_common_l1 a1 b2 (fu + 1) n21 = some x20 := h1
   rw [bookendref02_common_l1] at h1
   refine (show AWP _ _ _ _ ⟨[(0, .str a1), (1, .str b2), (5, .int .i64 n21)], [], 16, []⟩ from ?_)
   refine awp_seq ?_
   obtain ⟨b22, hb22, h1⟩ := bindS h1
   obtain ⟨b25, hb25, h1⟩ := bindS h1
   refine awp_sd3 (fr' := [(0, .str a1), (1, .str b2), (5, .int .i64 n21), (24, .bool b25)]) (hp' := []) [] 168 [0, 1, 5, 24] (fun _ => none) rfl rfl rfl (fun Kt hK => by
     cases hg26 : (decide (n21 < (a1.length : Int))) with
     | false =>
      replace hb22 := iteF hb22 hg26
      have hqb22 := Option.some.inj hb22
      cases b22 with
      | false =>
       replace hb25 := iteF hb25 rfl
       have hqb25 := Option.some.inj hb25
       subst hqb25
       simp (maxSteps := 1000000) only [↓reduceIte, reduceCtorEq, Nat.reduceEqDiff, Nat.reduceLT, Nat.reduceLeDiff, Nat.reduceAdd, Nat.reduceMul, Int.reduceToNat, push_cast, ↓hg26]
       try simp only [↓hg26] at hK
       all_goals exact rUd
      | true =>
       cases hqb22
     | true =>
      replace hb22 := iteT hb22 hg26
      have hqb22 := Option.some.inj hb22
      cases b22 with
      | false =>
       replace hb25 := iteF hb25 rfl
       have hqb25 := Option.some.inj hb25
       subst hqb25
       simp (maxSteps := 1000000) only [↓reduceIte, reduceCtorEq, Nat.reduceEqDiff, Nat.reduceLT, Nat.reduceLeDiff, Nat.reduceAdd, Nat.reduceMul, Int.reduceToNat, push_cast, ↓hg26, ↓hqb22]
       try simp only [↓hg26, ↓hqb22] at hK
       all_goals exact rUd
      | true =>
       replace hb25 := iteT hb25 rfl
       obtain ⟨e23, he23, hb25⟩ := bindS hb25
       obtain ⟨he23a, he23b, he23c⟩ := idxS he23
       obtain ⟨e24, he24, hb25⟩ := bindS hb25
       obtain ⟨he24a, he24b, he24c⟩ := idxS he24
       have hqb25 := Option.some.inj hb25
       subst hqb25
       simp (maxSteps := 1000000) only [↓reduceIte, reduceCtorEq, Nat.reduceEqDiff, Nat.reduceLT, Nat.reduceLeDiff, Nat.reduceAdd, Nat.reduceMul, Int.reduceToNat, push_cast, ↓hg26, ↓hqb22, he23a, he23b, he23c, he23, he24a, he24b, he24c, he24]
       try simp only [↓hg26, ↓hqb22] at hK
       all_goals exact rUd) ?_
   refine awp_if rfl (fun hb29 => ?_) (fun hb29 => ?_)
   ·
    replace h1 := iteT h1 hb29
    refine awp_skip ?_
    refine kn_then ?_
    refine awp_block ?_
    refine awp_r2 192 [0, 1, 5] (fun _ => none) rfl (fun _ _ => rT) ?_
    refine kn_block ?_
    refine kn_then ?_
    exact ⟨⟨(fu, (IntKind.i64.wrap (n21 + 1))), h1⟩, ⟨rF, rE, rfl, rfl, trivial, trivial⟩, Nat.lt_succ_self _⟩
   ·
    replace h1 := iteF h1 hb29
    refine awp_exit ?_
    refine kx_then ?_
    refine kx_then ?_
    refine kx_done ?_
    obtain rfl := Option.some.inj h1
    exact ⟨Nat.le_of_ble_eq_true rfl, ⟨rF, rE, rfl, rfl, trivial, trivial⟩⟩
end Go.T
end
section
/- The program computes them. -/
namespace Go.T
open Go Go.AM Go.Proofs
set_option maxRecDepth 100000
set_option maxHeartbeats 4000000
set_option linter.unusedVariables false
theorem c_bookendref02_Order {fu : Nat} {a1 : List UInt8} {b2 : List UInt8} {r : Int} (h0 : bookendref02_Order fu a1 b2 = some r) : PCall Try.prog 64 [.str a1, .str b2] (.int .i64 r) [] := by
 refine awp_pcall Try.func64 rfl (by decide) (Nat.le_of_ble_eq_true rfl) ?_
 dsimp only [Try.f64]
 rw [bookendref02_Order] at h0
 refine (show AWP _ _ _ _ ⟨enumFr 0 _, [], 0, []⟩ from ?_)
 refine awp_sr2 8 [0, 1] (fun _ => none) rfl (fun _ _ => rT) ?_
 obtain ⟨vr3, hvr3, h0⟩ := bindS h0
 refine awp_sr2 40 [0, 1, 5] (fun | 2 => some (.int .i64 vr3, []) | _ => none) rfl (fun _ _ => rC (c_bookendref02_common hvr3)) ?_
 refine awp_seq ?_
 obtain ⟨b4, hb4, h0⟩ := bindS h0
 refine awp_sr3 (fr' := [(0, .str a1), (1, .str b2), (5, .int .i64 vr3), (18, .bool b4)]) (hp' := []) [] 120 [0, 1, 5, 18] (fun _ => none) rfl (fun Kt hK => by
   cases hg5 : (decide (vr3 = (a1.length : Int))) with
   | false =>
    replace hb4 := iteF hb4 hg5
    have hqb4 := Option.some.inj hb4
    subst hqb4
    simp (maxSteps := 1000000) only [↓reduceIte, reduceCtorEq, Nat.reduceEqDiff, Nat.reduceLT, Nat.reduceLeDiff, Nat.reduceAdd, Nat.reduceMul, Int.reduceToNat, push_cast, ↓hg5]
    try simp only [↓hg5] at hK
    all_goals exact rU
   | true =>
    replace hb4 := iteT hb4 hg5
    have hqb4 := Option.some.inj hb4
    subst hqb4
    simp (maxSteps := 1000000) only [↓reduceIte, reduceCtorEq, Nat.reduceEqDiff, Nat.reduceLT, Nat.reduceLeDiff, Nat.reduceAdd, Nat.reduceMul, Int.reduceToNat, push_cast, ↓hg5]
    try simp only [↓hg5] at hK
    all_goals exact rU) ?_
 refine awp_if rfl (fun hb6 => ?_) (fun hb6 => ?_)
 ·
  replace h0 := iteT h0 hb6
  refine awp_sr2 128 [4] (fun _ => none) rfl (fun _ _ => rT) ?_
  refine awp_ret ?_
  refine kr_then ?_
  obtain rfl := Option.some.inj h0
  refine leave_retG [] ?_
  exact rG
 ·
  replace h0 := iteF h0 hb6
  refine awp_skip ?_
  refine kn_then ?_
  refine awp_seq ?_
  obtain ⟨b10, hb10, h0⟩ := bindS h0
  refine awp_sd3 (fr' := [(37, .bool b10)]) (hp' := []) [] 272 [37] (fun _ => none) rfl rfl rfl (fun Kt hK => by
    cases hg11 : (decide (vr3 = (a1.length : Int))) with
    | false =>
     replace hb10 := iteF hb10 hg11
     obtain ⟨b9, hb9, hb10⟩ := bindS hb10
     have hqb10 := Option.some.inj hb10
     cases hg12 : (decide (vr3 < (b2.length : Int))) with
     | false =>
      replace hb9 := iteF hb9 hg12
      have hqb9 := Option.some.inj hb9
      subst hqb10
      subst hqb9
      simp (maxSteps := 1000000) only [↓reduceIte, reduceCtorEq, Nat.reduceEqDiff, Nat.reduceLT, Nat.reduceLeDiff, Nat.reduceAdd, Nat.reduceMul, Int.reduceToNat, push_cast, ↓hg11, ↓hg12]
      try simp only [↓hg11, ↓hg12] at hK
      all_goals exact rUd
     | true =>
      replace hb9 := iteT hb9 hg12
      obtain ⟨e7, he7, hb9⟩ := bindS hb9
      obtain ⟨he7a, he7b, he7c⟩ := idxS he7
      obtain ⟨e8, he8, hb9⟩ := bindS hb9
      obtain ⟨he8a, he8b, he8c⟩ := idxS he8
      have hqb9 := Option.some.inj hb9
      subst hqb10
      subst hqb9
      simp (maxSteps := 1000000) only [↓reduceIte, reduceCtorEq, Nat.reduceEqDiff, Nat.reduceLT, Nat.reduceLeDiff, Nat.reduceAdd, Nat.reduceMul, Int.reduceToNat, push_cast, ↓hg11, ↓hg12, he7a, he7b, he7c, he7, he8a, he8b, he8c, he8]
      try simp only [↓hg11, ↓hg12] at hK
      all_goals exact rUd
    | true =>
     replace hb10 := iteT hb10 hg11
     have hqb10 := Option.some.inj hb10
     subst hqb10
     simp (maxSteps := 1000000) only [↓reduceIte, reduceCtorEq, Nat.reduceEqDiff, Nat.reduceLT, Nat.reduceLeDiff, Nat.reduceAdd, Nat.reduceMul, Int.reduceToNat, push_cast, ↓hg11]
     try simp only [↓hg11] at hK
     all_goals exact rUd) ?_
  refine awp_if rfl (fun hb13 => ?_) (fun hb13 => ?_)
  ·
   replace h0 := iteT h0 hb13
   refine awp_sr2 280 [4] (fun _ => none) rfl (fun _ _ => rT) ?_
   refine awp_ret ?_
   refine kr_then ?_
   obtain rfl := Option.some.inj h0
   refine leave_retG [] ?_
   exact rG
  ·
   replace h0 := iteF h0 hb13
   refine awp_skip ?_
   refine kn_then ?_
   refine awp_sr2 280 [4] (fun _ => none) rfl (fun _ _ => rT) ?_
   refine awp_ret ?_
   obtain rfl := Option.some.inj h0
   refine leave_retG [] ?_
   exact rG
end Go.T
end
section
/- The program computes them. -/
namespace Go.T
open Go Go.AM Go.Proofs
set_option maxRecDepth 100000
set_option maxHeartbeats 4000000
set_option linter.unusedVariables false
theorem c_bookendref03_CheckList {fu : Nat} {l1 : List TApiEntry} {r : Int × Int} (h0 : bookendref03_CheckList fu l1 = some r) : PCall Try.prog 49 [.psl 4 (l1.map TApiEntry.enc)] (.tup [.int .i64 r.1, .int .i64 r.2]) [] := by
 refine awp_pcall Try.func49 rfl (by decide) (Nat.le_of_ble_eq_true rfl) ?_
 dsimp only [Try.f49]
 rw [bookendref03_CheckList] at h0
 refine (show AWP _ _ _ _ ⟨enumFr 0 _, [], 0, []⟩ from ?_)
 refine awp_sr2 16 [0] (fun _ => none) rfl (fun _ _ => rT) ?_
 refine awp_seq ?_
 refine awp_sr2 40 [0, 8] (fun _ => none) rfl (fun _ _ => rT) ?_
 refine awp_if rfl (fun hb2 => ?_) (fun hb2 => ?_)
 ·
  replace h0 := iteT h0 hb2
  refine awp_sr2 56 [2, 3] (fun _ => none) rfl (fun _ _ => rT) ?_
  refine awp_ret ?_
  refine kr_then ?_
  obtain rfl := Option.some.inj h0
  refine leave_retG [] ?_
  exact rG
 ·
  replace h0 := iteF h0 hb2
  refine awp_skip ?_
  refine kn_then ?_
  refine awp_seq ?_
  refine awp_sr2 48 [0, 4] (fun _ => none) rfl (fun _ _ => rT) ?_
  obtain ⟨x28, hxx28, h0⟩ := bindS h0
  refine awp_bloop (fun s' => ∃ o42 : Unit, x28 = .inl o42 ∧ s'.nx ≤ 80 ∧ LeN [] s' ⟨[], [], 80, []⟩) ?_ ?_
  ·
   intro s' hs
   obtain ⟨o42, rfl, hn, hs⟩ := hs
   refine kn_then ?_
   refine awp_re [] hn hs ?_
   refine awp_sr2 96 [2, 3] (fun _ => none) rfl (fun _ _ => rT) ?_
   refine awp_ret ?_
   obtain rfl := Option.some.inj h0
   refine leave_retG [] ?_
   exact rG
  ·
   refine awp_loopF (ι := { p : Nat × Int // bookendref03_CheckList_l1 l1 p.1 p.2 = some x28 }) (fun p => ⟨[(0, .psl 4 (List.map TApiEntry.enc l1)), (4, .int .i64 p.1.2)], [], 48, []⟩) (fun p => p.1.1) ⟨(fu, 0), hxx28⟩ ⟨rF, rE, rfl, rfl, trivial, trivial⟩ (fun _ => Nat.le_refl _) ?_
   rintro ⟨⟨fu, i29⟩, h1⟩
   cases fu with
   | zero =>
   replace h1 : bookendref03_CheckList_l1 l1 0 i29 = some x28 := h1
   rw [bookendref03_CheckList_l1] at h1; cases h1
   | succ fu =>
    replace h1 : bookendref03_CheckList_l1 l1 (fu + 1) i29 = some x28 := h1
    rw [bookendref03_CheckList_l1] at h1
    refine (show AWP _ _ _ _ ⟨[(0, .psl 4 (List.map TApiEntry.enc l1)), (4, .int .i64 i29)], [], 48, []⟩ from ?_)
    refine awp_seq ?_
    refine awp_sr2 80 [0, 4, 12] (fun _ => none) rfl (fun _ _ => rT) ?_
    refine awp_if rfl (fun hb30 => ?_) (fun hb30 => ?_)
    ·
     replace h1 := iteT h1 hb30
     refine awp_skip ?_
     refine kn_then ?_
     refine awp_seq ?_
     refine awp_block ?_
     obtain ⟨e31, he31, h1⟩ := bindS h1
     obtain ⟨he31a, he31b, he31c⟩ := idxS he31
     obtain ⟨vr32, hvr32, h1⟩ := bindS h1
     refine awp_sr2 128 [0, 4, 5] (fun | 4 => some (.int .i64 vr32, []) | _ => none) rfl (fun _ _ => rB (rA he31a (rA he31b he31c)) (c_bookendref03_Check hvr32)) ?_
     refine awp_seq ?_
     obtain ⟨b33, hb33, h1⟩ := bindS h1
     obtain ⟨b36, hb36, h1⟩ := bindS h1
     refine awp_sd3 (fr' := [(0, .psl 4 (List.map TApiEntry.enc l1)), (4, .int .i64 i29), (5, .int .i64 vr32), (40, .bool b36)]) (hp' := []) [] 296 [0, 4, 5, 40] (fun | 18 => (ix l1 (IntKind.i64.wrap (i29 - 1))).bind fun e34 => (bookendref02_Order fu e34.Key e31.Key).bind fun vr35 => some (.int .i64 vr35, []) | _ => none) rfl rfl rfl (fun Kt hK => by
       cases hg37 : (decide (vr32 = 0)) with
       | false =>
        replace hb33 := iteF hb33 hg37
        have hqb33 := Option.some.inj hb33
        cases b33 with
        | false =>
         replace hb36 := iteF hb36 rfl
         have hqb36 := Option.some.inj hb36
         subst hqb36
         simp (maxSteps := 1000000) only [↓reduceIte, reduceCtorEq, Nat.reduceEqDiff, Nat.reduceLT, Nat.reduceLeDiff, Nat.reduceAdd, Nat.reduceMul, Int.reduceToNat, push_cast, he31a, he31b, he31c, ↓hg37]
         try simp only [↓hg37] at hK
         try have q0 := c_bookendref02_Order hvr35
         all_goals exact rUd
        | true =>
         cases hqb33
       | true =>
        replace hb33 := iteT hb33 hg37
        have hqb33 := Option.some.inj hb33
        cases b33 with
        | false =>
         replace hb36 := iteF hb36 rfl
         have hqb36 := Option.some.inj hb36
         subst hqb36
         simp (maxSteps := 1000000) only [↓reduceIte, reduceCtorEq, Nat.reduceEqDiff, Nat.reduceLT, Nat.reduceLeDiff, Nat.reduceAdd, Nat.reduceMul, Int.reduceToNat, push_cast, he31a, he31b, he31c, ↓hg37, ↓hqb33]
         try simp only [↓hg37, ↓hqb33] at hK
         try have q0 := c_bookendref02_Order hvr35
         all_goals exact rUd
        | true =>
         replace hb36 := iteT hb36 rfl
         obtain ⟨e34, he34, hb36⟩ := bindS hb36
         obtain ⟨he34a, he34b, he34c⟩ := idxS he34
         obtain ⟨vr35, hvr35, hb36⟩ := bindS hb36
         have hqb36 := Option.some.inj hb36
         subst hqb36
         simp (maxSteps := 1000000) only [↓reduceIte, reduceCtorEq, Nat.reduceEqDiff, Nat.reduceLT, Nat.reduceLeDiff, Nat.reduceAdd, Nat.reduceMul, Int.reduceToNat, push_cast, he31a, he31b, he31c, ↓hg37, ↓hqb33, he34a, he34b, he34c, he34, hvr35]
         try simp only [↓hg37, ↓hqb33] at hK
         try have q0 := c_bookendref02_Order hvr35
         all_goals exact rUd) ?_
     refine awp_if rfl (fun hb40 => ?_) (fun hb40 => ?_)
     ·
      replace h1 := iteT h1 hb40
      refine awp_r2 304 [0, 4, 5] (fun _ => none) rfl (fun _ _ => rS (rA he31a (rA he31b he31c))) ?_
      refine kn_then ?_
      refine awp_sr2 320 [0, 4, 5, 42] (fun _ => none) rfl (fun _ _ => rS (rA he31a (rA he31b he31c))) ?_
      refine awp_condT rfl ?_
      refine awp_sr2 352 [2, 3] (fun _ => none) rfl (fun _ _ => rS (rA he31a (rA he31b he31c))) ?_
      refine awp_ret ?_
      obtain rfl := Option.some.inj h1
      refine kr_block ?_
      refine kr_then ?_
      refine kr_then ?_
      refine kr_loop ?_
      refine kr_then ?_
      obtain rfl := Option.some.inj h0
      refine leave_retG [] ?_
      simp (maxSteps := 1000000) only [↓reduceIte, reduceCtorEq, Nat.reduceEqDiff, Nat.reduceLT, Nat.reduceLeDiff, Nat.reduceAdd, Nat.reduceMul, Int.reduceToNat, push_cast, Gives, he31a, he31b, he31c]
      all_goals exact rH
     ·
      replace h1 := iteF h1 hb40
      refine awp_skip ?_
      refine kn_then ?_
      refine awp_sr2 312 [0, 4, 5, 42] (fun _ => none) rfl (fun _ _ => rS (rA he31a (rA he31b he31c))) ?_
      refine awp_if rfl (fun hb41 => ?_) (fun hb41 => ?_)
      ·
       replace h1 := iteT h1 hb41
       refine awp_sr2 344 [2, 3] (fun _ => none) rfl (fun _ _ => rS (rA he31a (rA he31b he31c))) ?_
       refine awp_ret ?_
       obtain rfl := Option.some.inj h1
       refine kr_block ?_
       refine kr_then ?_
       refine kr_then ?_
       refine kr_loop ?_
       refine kr_then ?_
       obtain rfl := Option.some.inj h0
       refine leave_retG [] ?_
       simp (maxSteps := 1000000) only [↓reduceIte, reduceCtorEq, Nat.reduceEqDiff, Nat.reduceLT, Nat.reduceLeDiff, Nat.reduceAdd, Nat.reduceMul, Int.reduceToNat, push_cast, Gives, he31a, he31b, he31c]
       all_goals exact rH
      ·
       replace h1 := iteF h1 hb41
       refine awp_skip ?_
       refine kn_block ?_
       refine kn_then ?_
       refine awp_r2 336 [0, 4] (fun _ => none) rfl (fun _ _ => rS (rA he31a (rA he31b he31c))) ?_
       refine kn_then ?_
       exact ⟨⟨(fu, (IntKind.i64.wrap (i29 + 1))), h1⟩, ⟨rF, rE, rfl, rfl, trivial, trivial⟩, Nat.lt_succ_self _⟩
    ·
     replace h1 := iteF h1 hb30
     refine awp_exit ?_
     refine kx_then ?_
     refine kx_then ?_
     refine kx_done ?_
     obtain rfl := Option.some.inj h1
     exact ⟨_, rfl, Nat.le_of_ble_eq_true rfl, ⟨rF, rE, rfl, rfl, trivial, trivial⟩⟩
end Go.T
end
section
/- The program computes them. -/
namespace Go.T
open Go Go.AM Go.Proofs
set_option maxRecDepth 100000
set_option maxHeartbeats 4000000
set_option linter.unusedVariables false
theorem c_bookendref11_right {fu : Nat} {runs1 : List (List TApiEntry)} {r : Int × Int} (h0 : bookendref11_right fu runs1 = some r) : PCall Try.prog 32 [.psl 1 (runs1.map (encSl 4 TApiEntry.enc))] (.tup [.int .i64 r.1, .int .i64 r.2]) [] := by
 refine awp_pcall Try.func32 rfl (by decide) (Nat.le_of_ble_eq_true rfl) ?_
 dsimp only [Try.f32]
 rw [bookendref11_right] at h0
 refine (show AWP _ _ _ _ ⟨enumFr 0 _, [], 0, []⟩ from ?_)
 refine awp_sr2 16 [0] (fun _ => none) rfl (fun _ _ => rT) ?_
 refine awp_seq ?_
 refine awp_sr2 40 [0, 9] (fun _ => none) rfl (fun _ _ => rT) ?_
 refine awp_if rfl (fun hb2 => ?_) (fun hb2 => ?_)
 ·
  replace h0 := iteT h0 hb2
  refine awp_sr2 56 [2, 3] (fun _ => none) rfl (fun _ _ => rT) ?_
  refine awp_ret ?_
  refine kr_then ?_
  obtain rfl := Option.some.inj h0
  refine leave_retG [] ?_
  exact rG
 ·
  replace h0 := iteF h0 hb2
  refine awp_skip ?_
  refine kn_then ?_
  refine awp_seq ?_
  refine awp_sr2 64 [0, 12] (fun _ => none) rfl (fun _ _ => rT) ?_
  refine awp_if rfl (fun hb3 => ?_) (fun hb3 => ?_)
  ·
   replace h0 := iteT h0 hb3
   refine awp_sr2 80 [2, 3] (fun _ => none) rfl (fun _ _ => rT) ?_
   refine awp_ret ?_
   refine kr_then ?_
   obtain rfl := Option.some.inj h0
   refine leave_retG [] ?_
   exact rG
  ·
   replace h0 := iteF h0 hb3
   refine awp_skip ?_
   refine kn_then ?_
   refine awp_seq ?_
   refine awp_sr2 72 [0, 4] (fun _ => none) rfl (fun _ _ => rT) ?_
   obtain ⟨x13, hxx13, h0⟩ := bindS h0
   refine awp_bloop (fun s' => ∃ o19 : Unit, x13 = .inl o19 ∧ s'.nx ≤ 104 ∧ LeN [] s' ⟨[], [], 104, []⟩) ?_ ?_
   ·
    intro s' hs
    obtain ⟨o19, rfl, hn, hs⟩ := hs
    refine kn_then ?_
    refine awp_re [] hn hs ?_
    refine awp_sr2 120 [2, 3] (fun _ => none) rfl (fun _ _ => rT) ?_
    refine awp_ret ?_
    obtain rfl := Option.some.inj h0
    refine leave_retG [] ?_
    exact rG
   ·
    refine awp_loopF (ι := { p : Nat × Int // bookendref11_right_l1 runs1 p.1 p.2 = some x13 }) (fun p => ⟨[(0, .psl 1 (List.map (encSl 4 TApiEntry.enc) runs1)), (4, .int .i64 p.1.2)], [], 72, []⟩) (fun p => p.1.1) ⟨(fu, 0), hxx13⟩ ⟨rF, rE, rfl, rfl, trivial, trivial⟩ (fun _ => Nat.le_refl _) ?_
    rintro ⟨⟨fu, i14⟩, h1⟩
    cases fu with
    | zero =>
   replace h1 : bookendref11_right_l1 runs1 0 i14 = some x13 := h1
   rw [bookendref11_right_l1] at h1; cases h1
    | succ fu =>
     replace h1 : bookendref11_right_l1 runs1 (fu + 1) i14 = some x13 := h1
     rw [bookendref11_right_l1] at h1
     refine (show AWP _ _ _ _ ⟨[(0, .psl 1 (List.map (encSl 4 TApiEntry.enc) runs1)), (4, .int .i64 i14)], [], 72, []⟩ from ?_)
     refine awp_seq ?_
     refine awp_sr2 104 [0, 4, 16] (fun _ => none) rfl (fun _ _ => rT) ?_
     refine awp_if rfl (fun hb15 => ?_) (fun hb15 => ?_)
     ·
      replace h1 := iteT h1 hb15
      refine awp_skip ?_
      refine kn_then ?_
      refine awp_seq ?_
      refine awp_block ?_
      obtain ⟨e16, he16, h1⟩ := bindS h1
      obtain ⟨he16a, he16b, he16c⟩ := idxS he16
      obtain ⟨vr17, hvr17, h1⟩ := bindS h1
      refine awp_sr2 184 [0, 4, 6] (fun | 4 => some (.tup [.int .i64 vr17.1, .int .i64 vr17.2], []) | _ => none) rfl (fun _ _ => rB (rA he16a (rA he16b he16c)) (c_bookendref03_CheckList hvr17)) ?_
      refine awp_sr2 200 [0, 4, 6, 28] (fun _ => none) rfl (fun _ _ => rS (rA he16a (rA he16b he16c))) ?_
      refine awp_if rfl (fun hb18 => ?_) (fun hb18 => ?_)
      ·
       replace h1 := iteT h1 hb18
       refine awp_sr2 232 [2, 3] (fun _ => none) rfl (fun _ _ => rS (rA he16a (rA he16b he16c))) ?_
       refine awp_ret ?_
       obtain rfl := Option.some.inj h1
       refine kr_block ?_
       refine kr_then ?_
       refine kr_then ?_
       refine kr_loop ?_
       refine kr_then ?_
       obtain rfl := Option.some.inj h0
       refine leave_retG [] ?_
       simp (maxSteps := 1000000) only [↓reduceIte, reduceCtorEq, Nat.reduceEqDiff, Nat.reduceLT, Nat.reduceLeDiff, Nat.reduceAdd, Nat.reduceMul, Int.reduceToNat, push_cast, Gives, he16a, he16b, he16c]
       all_goals exact rH
      ·
       replace h1 := iteF h1 hb18
       refine awp_skip ?_
       refine kn_block ?_
       refine kn_then ?_
       refine awp_r2 224 [0, 4] (fun _ => none) rfl (fun _ _ => rS (rA he16a (rA he16b he16c))) ?_
       refine kn_then ?_
       exact ⟨⟨(fu, (IntKind.i64.wrap (i14 + 1))), h1⟩, ⟨rF, rE, rfl, rfl, trivial, trivial⟩, Nat.lt_succ_self _⟩
     ·
      replace h1 := iteF h1 hb15
      refine awp_exit ?_
      refine kx_then ?_
      refine kx_then ?_
      refine kx_done ?_
      obtain rfl := Option.some.inj h1
      exact ⟨_, rfl, Nat.le_of_ble_eq_true rfl, ⟨rF, rE, rfl, rfl, trivial, trivial⟩⟩
end Go.T
end
section
/- The program computes them. -/
namespace Go.T
open Go Go.AM Go.Proofs
set_option maxRecDepth 100000
set_option maxHeartbeats 4000000
set_option linter.unusedVariables false
theorem c_bookendref10_right {fu : Nat} {keys1 : List TApiLsKey} {r : Int} (h0 : bookendref10_right fu keys1 = some r) : PCall Try.prog 65 [.psl 2 (keys1.map TApiLsKey.enc)] (.int .i64 r) [] := by
 refine awp_pcall Try.func65 rfl (by decide) (Nat.le_of_ble_eq_true rfl) ?_
 dsimp only [Try.f65]
 rw [bookendref10_right] at h0
 refine (show AWP _ _ _ _ ⟨enumFr 0 _, [], 0, []⟩ from ?_)
 refine awp_sr2 8 [0] (fun _ => none) rfl (fun _ _ => rT) ?_
 refine awp_seq ?_
 refine awp_sr2 32 [0, 6] (fun _ => none) rfl (fun _ _ => rT) ?_
 refine awp_if rfl (fun hb2 => ?_) (fun hb2 => ?_)
 ·
  replace h0 := iteT h0 hb2
  refine awp_sr2 40 [2] (fun _ => none) rfl (fun _ _ => rT) ?_
  refine awp_ret ?_
  refine kr_then ?_
  obtain rfl := Option.some.inj h0
  refine leave_retG [] ?_
  exact rG
 ·
  replace h0 := iteF h0 hb2
  refine awp_skip ?_
  refine kn_then ?_
  refine awp_seq ?_
  refine awp_sr2 56 [0, 9] (fun _ => none) rfl (fun _ _ => rT) ?_
  refine awp_if rfl (fun hb3 => ?_) (fun hb3 => ?_)
  ·
   replace h0 := iteT h0 hb3
   refine awp_sr2 64 [2] (fun _ => none) rfl (fun _ _ => rT) ?_
   refine awp_ret ?_
   refine kr_then ?_
   obtain rfl := Option.some.inj h0
   refine leave_retG [] ?_
   exact rG
  ·
   replace h0 := iteF h0 hb3
   refine awp_skip ?_
   refine kn_then ?_
   refine awp_seq ?_
   refine awp_sr2 64 [0, 3] (fun _ => none) rfl (fun _ _ => rT) ?_
   obtain ⟨x15, hxx15, h0⟩ := bindS h0
   refine awp_bloop (fun s' => ∃ o22 : Unit, x15 = .inl o22 ∧ s'.nx ≤ 96 ∧ LeN [] s' ⟨[], [], 96, []⟩) ?_ ?_
   ·
    intro s' hs
    obtain ⟨o22, rfl, hn, hs⟩ := hs
    refine kn_then ?_
    refine awp_re [] hn hs ?_
    refine awp_sr2 104 [2] (fun _ => none) rfl (fun _ _ => rT) ?_
    refine awp_ret ?_
    obtain rfl := Option.some.inj h0
    refine leave_retG [] ?_
    exact rG
   ·
    refine awp_loopF (ι := { p : Nat × Int // bookendref10_right_l1 keys1 p.1 p.2 = some x15 }) (fun p => ⟨[(0, .psl 2 (List.map TApiLsKey.enc keys1)), (3, .int .i64 p.1.2)], [], 64, []⟩) (fun p => p.1.1) ⟨(fu, 0), hxx15⟩ ⟨rF, rE, rfl, rfl, trivial, trivial⟩ (fun _ => Nat.le_refl _) ?_
    rintro ⟨⟨fu, i16⟩, h1⟩
    cases fu with
    | zero =>
   replace h1 : bookendref10_right_l1 keys1 0 i16 = some x15 := h1
   rw [bookendref10_right_l1] at h1; cases h1
    | succ fu =>
     replace h1 : bookendref10_right_l1 keys1 (fu + 1) i16 = some x15 := h1
     rw [bookendref10_right_l1] at h1
     refine (show AWP _ _ _ _ ⟨[(0, .psl 2 (List.map TApiLsKey.enc keys1)), (3, .int .i64 i16)], [], 64, []⟩ from ?_)
     refine awp_seq ?_
     refine awp_sr2 96 [0, 3, 13] (fun _ => none) rfl (fun _ _ => rT) ?_
     refine awp_if rfl (fun hb17 => ?_) (fun hb17 => ?_)
     ·
      replace h1 := iteT h1 hb17
      refine awp_skip ?_
      refine kn_then ?_
      refine awp_seq ?_
      refine awp_block ?_
      obtain ⟨e18, he18, h1⟩ := bindS h1
      obtain ⟨he18a, he18b, he18c⟩ := idxS he18
      obtain ⟨b19, hb19, h1⟩ := bindS h1
      refine awp_sr3 (fr' := [(0, .psl 2 (List.map TApiLsKey.enc keys1)), (3, .int .i64 i16), (28, .bool b19)]) (hp' := []) [] 200 [0, 3, 28] (fun _ => none) rfl (fun Kt hK => by
        cases hg20 : e18.Done with
        | false =>
         replace hb19 := iteF hb19 hg20
         have hqb19 := Option.some.inj hb19
         subst hqb19
         simp (maxSteps := 1000000) only [↓reduceIte, reduceCtorEq, Nat.reduceEqDiff, Nat.reduceLT, Nat.reduceLeDiff, Nat.reduceAdd, Nat.reduceMul, Int.reduceToNat, push_cast, he18a, he18b, he18c, ↓hg20]
         try simp only [↓hg20] at hK
         all_goals exact rU
        | true =>
         replace hb19 := iteT hb19 hg20
         have hqb19 := Option.some.inj hb19
         subst hqb19
         simp (maxSteps := 1000000) only [↓reduceIte, reduceCtorEq, Nat.reduceEqDiff, Nat.reduceLT, Nat.reduceLeDiff, Nat.reduceAdd, Nat.reduceMul, Int.reduceToNat, push_cast, he18a, he18b, he18c, ↓hg20]
         try simp only [↓hg20] at hK
         all_goals exact rU) ?_
      refine awp_if rfl (fun hb21 => ?_) (fun hb21 => ?_)
      ·
       replace h1 := iteT h1 hb21
       refine awp_sr2 208 [2] (fun _ => none) rfl (fun _ _ => rS (rA he18a (rA he18b he18c))) ?_
       refine awp_ret ?_
       obtain rfl := Option.some.inj h1
       refine kr_block ?_
       refine kr_then ?_
       refine kr_then ?_
       refine kr_loop ?_
       refine kr_then ?_
       obtain rfl := Option.some.inj h0
       refine leave_retG [] ?_
       simp (maxSteps := 1000000) only [↓reduceIte, reduceCtorEq, Nat.reduceEqDiff, Nat.reduceLT, Nat.reduceLeDiff, Nat.reduceAdd, Nat.reduceMul, Int.reduceToNat, push_cast, Gives, he18a, he18b, he18c]
       all_goals exact rH
      ·
       replace h1 := iteF h1 hb21
       refine awp_skip ?_
       refine kn_block ?_
       refine kn_then ?_
       refine awp_r2 224 [0, 3] (fun _ => none) rfl (fun _ _ => rS (rA he18a (rA he18b he18c))) ?_
       refine kn_then ?_
       exact ⟨⟨(fu, (IntKind.i64.wrap (i16 + 1))), h1⟩, ⟨rF, rE, rfl, rfl, trivial, trivial⟩, Nat.lt_succ_self _⟩
     ·
      replace h1 := iteF h1 hb17
      refine awp_exit ?_
      refine kx_then ?_
      refine kx_then ?_
      refine kx_done ?_
      obtain rfl := Option.some.inj h1
      exact ⟨_, rfl, Nat.le_of_ble_eq_true rfl, ⟨rF, rE, rfl, rfl, trivial, trivial⟩⟩
end Go.T
end
section
/- The program computes them. -/
namespace Go.T
open Go Go.AM Go.Proofs
set_option maxRecDepth 100000
set_option maxHeartbeats 4000000
set_option linter.unusedVariables false
theorem c_bookendref10_wins {fu : Nat} {keys1 : List TApiLsKey} {p2 : Int} {q3 : Int} {r : Bool} (h0 : bookendref10_wins fu keys1 p2 q3 = some r) : PCall Try.prog 76 [.psl 2 (keys1.map TApiLsKey.enc), .int .i64 p2, .int .i64 q3] (.bool r) [] := by
 refine awp_pcall Try.func76 rfl (by decide) (Nat.le_of_ble_eq_true rfl) ?_
 dsimp only [Try.f76]
 rw [bookendref10_wins] at h0
 refine (show AWP _ _ _ _ ⟨enumFr 0 _, [], 0, []⟩ from ?_)
 refine awp_sr2 8 [0, 1, 2] (fun _ => none) rfl (fun _ _ => rT) ?_
 obtain ⟨e4, he4, h0⟩ := bindS h0
 obtain ⟨he4a, he4b, he4c⟩ := idxS he4
 obtain ⟨e5, he5, h0⟩ := bindS h0
 obtain ⟨he5a, he5b, he5c⟩ := idxS he5
 refine awp_sd2 104 [1, 2, 7, 8] (fun _ => none) rfl rfl rfl (fun _ _ => rSd (rA he4a (rA he4b (rA he4c (rA he5a (rA he5b he5c)))))) ?_
 refine awp_seq ?_
 refine awp_sr2 144 [1, 2, 7, 8, 21] (fun _ => none) rfl (fun _ _ => rS (rA he4a (rA he4b (rA he4c (rA he5a (rA he5b he5c)))))) ?_
 refine awp_if rfl (fun hb6 => ?_) (fun hb6 => ?_)
 ·
  replace h0 := iteT h0 hb6
  refine awp_sr2 168 [6] (fun _ => none) rfl (fun _ _ => rS (rA he4a (rA he4b (rA he4c (rA he5a (rA he5b he5c)))))) ?_
  refine awp_ret ?_
  refine kr_then ?_
  obtain rfl := Option.some.inj h0
  refine leave_retG [] ?_
  simp (maxSteps := 1000000) only [↓reduceIte, reduceCtorEq, Nat.reduceEqDiff, Nat.reduceLT, Nat.reduceLeDiff, Nat.reduceAdd, Nat.reduceMul, Int.reduceToNat, push_cast, Gives, he4a, he4b, he4c, he5a, he5b, he5c]
  all_goals exact rH
 ·
  replace h0 := iteF h0 hb6
  refine awp_skip ?_
  refine kn_then ?_
  refine awp_seq ?_
  obtain ⟨b7, hb7, h0⟩ := bindS h0
  refine awp_sr3 (fr' := [(1, .int .i64 p2), (2, .int .i64 q3), (7, .ref 72 0 0 0), (8, .ref 80 0 0 0), (33, .bool b7)]) (hp' := [(72, { g := 0, own := true, pure := true, sz := 2, es := [[.str e4.Key, .bool e4.Done]] }), (80, { g := 0, own := true, pure := true, sz := 2, es := [[.str e5.Key, .bool e5.Done]] })]) [72, 80] 224 [1, 2, 7, 8, 33] (fun _ => none) rfl (fun Kt hK => by
    cases hg8 : (!e4.Done) with
    | false =>
     replace hb7 := iteF hb7 hg8
     have hqb7 := Option.some.inj hb7
     subst hqb7
     simp (maxSteps := 1000000) only [↓reduceIte, reduceCtorEq, Nat.reduceEqDiff, Nat.reduceLT, Nat.reduceLeDiff, Nat.reduceAdd, Nat.reduceMul, Int.reduceToNat, push_cast, he4a, he4b, he4c, he5a, he5b, he5c, ↓hg8]
     try simp only [↓hg8] at hK
     all_goals exact rU
    | true =>
     replace hb7 := iteT hb7 hg8
     have hqb7 := Option.some.inj hb7
     subst hqb7
     simp (maxSteps := 1000000) only [↓reduceIte, reduceCtorEq, Nat.reduceEqDiff, Nat.reduceLT, Nat.reduceLeDiff, Nat.reduceAdd, Nat.reduceMul, Int.reduceToNat, push_cast, he4a, he4b, he4c, he5a, he5b, he5c, ↓hg8]
     try simp only [↓hg8] at hK
     all_goals exact rU) ?_
  refine awp_if rfl (fun hb9 => ?_) (fun hb9 => ?_)
  ·
   replace h0 := iteT h0 hb9
   refine awp_sr2 272 [6] (fun _ => none) rfl (fun _ _ => rS (rA he4a (rA he4b (rA he4c (rA he5a (rA he5b he5c)))))) ?_
   refine awp_ret ?_
   refine kr_then ?_
   obtain rfl := Option.some.inj h0
   refine leave_retG [] ?_
   simp (maxSteps := 1000000) only [↓reduceIte, reduceCtorEq, Nat.reduceEqDiff, Nat.reduceLT, Nat.reduceLeDiff, Nat.reduceAdd, Nat.reduceMul, Int.reduceToNat, push_cast, Gives, he4a, he4b, he4c, he5a, he5b, he5c]
   all_goals exact rH
  ·
   replace h0 := iteF h0 hb9
   refine awp_skip ?_
   refine kn_then ?_
   refine awp_sr2 256 [6] (fun _ => none) rfl (fun _ _ => rS (rA he4a (rA he4b (rA he4c (rA he5a (rA he5b he5c)))))) ?_
   refine awp_ret ?_
   obtain rfl := Option.some.inj h0
   refine leave_retG [] ?_
   simp (maxSteps := 1000000) only [↓reduceIte, reduceCtorEq, Nat.reduceEqDiff, Nat.reduceLT, Nat.reduceLeDiff, Nat.reduceAdd, Nat.reduceMul, Int.reduceToNat, push_cast, Gives, he4a, he4b, he4c, he5a, he5b, he5c]
   all_goals exact rH
end Go.T
end
section
/- The program computes them. -/
namespace Go.T
open Go Go.AM Go.Proofs
set_option maxRecDepth 100000
set_option maxHeartbeats 4000000
set_option linter.unusedVariables false
theorem c_bookendref10_player {fu : Nat} : ∀ {keys1 : List TApiLsKey} {node2 : Int} {r : Int × Int}, bookendref10_player fu keys1 node2 = some r → PCall Try.prog 73 [.psl 2 (keys1.map TApiLsKey.enc), .int .i64 node2] (.tup [.int .i64 r.1, .int .i64 r.2]) [] := by
 induction fu with
 | zero => intro keys1 node2 r h0; rw [bookendref10_player] at h0; cases h0
 | succ fu ih =>
 intro keys1 node2 r h0
 refine awp_pcall Try.func73 rfl (by decide) (Nat.le_of_ble_eq_true rfl) ?_
 dsimp only [Try.f73]
 rw [bookendref10_player] at h0
 refine (show AWP _ _ _ _ ⟨enumFr 0 _, [], 0, []⟩ from ?_)
 refine awp_sr2 16 [0, 1] (fun _ => none) rfl (fun _ _ => rT) ?_
 refine awp_sr2 40 [0, 1, 6] (fun _ => none) rfl (fun _ _ => rT) ?_
 refine awp_seq ?_
 refine awp_sr2 64 [0, 1, 6, 15] (fun _ => none) rfl (fun _ _ => rT) ?_
 refine awp_if rfl (fun hb3 => ?_) (fun hb3 => ?_)
 ·
  replace h0 := iteT h0 hb3
  refine awp_sr2 104 [4, 5] (fun _ => none) rfl (fun _ _ => rT) ?_
  refine awp_ret ?_
  refine kr_then ?_
  obtain rfl := Option.some.inj h0
  refine leave_retG [] ?_
  exact rG
 ·
  replace h0 := iteF h0 hb3
  refine awp_skip ?_
  refine kn_then ?_
  obtain ⟨vr4, hvr4, h0⟩ := bindS h0
  refine awp_sr2 136 [0, 1, 7] (fun | 3 => some (.tup [.int .i64 vr4.1, .int .i64 vr4.2], []) | _ => none) rfl (fun Kt hK => by
    simp (maxSteps := 1000000) only [↓reduceIte, reduceCtorEq, Nat.reduceEqDiff, Nat.reduceLT, Nat.reduceLeDiff, Nat.reduceAdd, Nat.reduceMul, Int.reduceToNat, push_cast]
    repeat' (first | exact hK | exact ih hvr4 | refine And.intro ?_ ?_ | exact Nat.le_refl _ | assumption | omega | (intro _) | (simp; done))) ?_
  obtain ⟨vr5, hvr5, h0⟩ := bindS h0
  refine awp_sr2 216 [0, 7, 9] (fun | 4 => some (.tup [.int .i64 vr5.1, .int .i64 vr5.2], []) | _ => none) rfl (fun Kt hK => by
    simp (maxSteps := 1000000) only [↓reduceIte, reduceCtorEq, Nat.reduceEqDiff, Nat.reduceLT, Nat.reduceLeDiff, Nat.reduceAdd, Nat.reduceMul, Int.reduceToNat, push_cast]
    repeat' (first | exact hK | exact ih hvr5 | refine And.intro ?_ ?_ | exact Nat.le_refl _ | assumption | omega | (intro _) | (simp; done))) ?_
  refine awp_seq ?_
  obtain ⟨vr6, hvr6, h0⟩ := bindS h0
  refine awp_sr2 248 [7, 9, 37] (fun | 3 => some (.bool vr6, []) | _ => none) rfl (fun _ _ => rC (c_bookendref10_wins hvr6)) ?_
  refine awp_if rfl (fun hb7 => ?_) (fun hb7 => ?_)
  ·
   replace h0 := iteT h0 hb7
   refine awp_sr2 280 [4, 5] (fun _ => none) rfl (fun _ _ => rT) ?_
   refine awp_ret ?_
   refine kr_then ?_
   obtain rfl := Option.some.inj h0
   refine leave_retG [] ?_
   exact rG
  ·
   replace h0 := iteF h0 hb7
   refine awp_skip ?_
   refine kn_then ?_
   refine awp_sr2 280 [4, 5] (fun _ => none) rfl (fun _ _ => rT) ?_
   refine awp_ret ?_
   obtain rfl := Option.some.inj h0
   refine leave_retG [] ?_
   exact rG
end Go.T
end
section
/- The program computes them. -/
namespace Go.T
open Go Go.AM Go.Proofs
set_option maxRecDepth 100000
set_option maxHeartbeats 4000000
set_option linter.unusedVariables false
theorem c_bookendref10_tree {fu : Nat} {keys1 : List TApiLsKey} {r : TApiLsTree} (h0 : bookendref10_tree fu keys1 = some r) : PCall Try.prog 66 [.psl 2 (keys1.map TApiLsKey.enc)] (.agg (TApiLsTree.enc r)) [] := by
 refine awp_pcall Try.func66 rfl (by decide) (Nat.le_of_ble_eq_true rfl) ?_
 dsimp only [Try.f66]
 rw [bookendref10_tree] at h0
 refine (show AWP _ _ _ _ ⟨enumFr 0 _, [], 0, []⟩ from ?_)
 refine awp_sr2 8 [0, 2] (fun _ => none) rfl (fun _ _ => rT) ?_
 obtain ⟨hc2, h0⟩ := guS h0
 obtain ⟨hc3, h0⟩ := guS h0
 refine awp_sd2 80 [0, 2, 3] (fun _ => none) rfl rfl rfl (fun _ _ => rTd) ?_
 refine awp_re (s2 := ⟨[(0, .psl 2 (List.map TApiLsKey.enc keys1)), (2, .ref 0 0 0 0), (3, .ref 64 0 0 0)], [(0, { g := 0, own := true, pure := true, sz := 3, es := [[.nils, .nils, .int .i64 0]] }), (8, { g := 1, own := true, pure := true, sz := 2, es := List.map TApiLsKey.enc keys1 }), (48, { g := 0, own := true, pure := true, sz := 1, es := List.map (encInt .i64) (List.replicate keys1.length 0 : List Int) }), (64, { g := 0, own := true, pure := false, sz := 3, es := [[.sl 8 1 2 0 keys1.length, .sl 48 0 1 0 ((List.replicate keys1.length 0 : List Int).length), .int .i64 0]] })], 80, []⟩) [] (Nat.le_of_ble_eq_true rfl) ⟨rF, rE, rfl, rfl, trivial, trivial⟩ ?_
 refine awp_seq ?_
 refine awp_sr2 88 [0, 2, 3, 4] (fun _ => none) rfl (fun _ _ => rT) ?_
 obtain ⟨x13, hxx13, h0⟩ := bindS h0
 refine awp_bloop (fun s' => ∃ g20 : Nat, s'.nx ≤ 120 ∧ LeN [] s' ⟨[(0, .psl 2 (List.map TApiLsKey.enc keys1)), (2, .ref 0 0 0 0), (3, .ref 64 0 0 0)], [(0, { g := 0, own := true, pure := true, sz := 3, es := [[.nils, .nils, .int .i64 0]] }), (8, { g := 1, own := true, pure := true, sz := 2, es := List.map TApiLsKey.enc keys1 }), (48, { g := g20, own := true, pure := true, sz := 1, es := List.map (encInt .i64) x13 }), (64, { g := 0, own := true, pure := false, sz := 3, es := [[.sl 8 1 2 0 keys1.length, .sl 48 g20 1 0 x13.length, .int .i64 0]] })], 120, []⟩) ?_ ?_
 ·
  intro s' hs
  obtain ⟨g20, hn, hs⟩ := hs
  refine kn_then ?_
  refine awp_re [] hn hs ?_
  obtain ⟨vr21, hvr21, h0⟩ := bindS h0
  refine awp_sr2 176 [2, 3] (fun | 1 => some (.tup [.int .i64 vr21.1, .int .i64 vr21.2], []) | _ => none) rfl (fun _ _ => rC (c_bookendref10_player hvr21)) ?_
  refine awp_sr2 192 [2] (fun _ => none) rfl (fun _ _ => rT) ?_
  refine awp_ret ?_
  obtain rfl := Option.some.inj h0
  refine leave_retG [] ?_
  exact rG
 ·
  refine awp_loopF (ι := { p : Nat × Int × List Int × Nat // bookendref10_tree_l1 keys1 p.1 p.2.1 p.2.2.1 = some x13 }) (fun p => ⟨[(0, .psl 2 (List.map TApiLsKey.enc keys1)), (2, .ref 0 0 0 0), (3, .ref 64 0 0 0), (4, .int .i64 p.1.2.1)], [(0, { g := 0, own := true, pure := true, sz := 3, es := [[.nils, .nils, .int .i64 0]] }), (8, { g := 1, own := true, pure := true, sz := 2, es := List.map TApiLsKey.enc keys1 }), (48, { g := p.1.2.2.2, own := true, pure := true, sz := 1, es := List.map (encInt .i64) p.1.2.2.1 }), (64, { g := 0, own := true, pure := false, sz := 3, es := [[.sl 8 1 2 0 keys1.length, .sl 48 p.1.2.2.2 1 0 p.1.2.2.1.length, .int .i64 0]] })], 88, []⟩) (fun p => p.1.1) ⟨(fu, 1, (List.replicate keys1.length 0 : List Int), 0), hxx13⟩ ⟨rF, rE, rfl, rfl, trivial, trivial⟩ (fun _ => Nat.le_refl _) ?_
  rintro ⟨⟨fu, i14, v15, g16⟩, h1⟩
  cases fu with
  | zero =>
   replace h1 : bookendref10_tree_l1 keys1 0 i14 v15 = some x13 := h1
   rw [bookendref10_tree_l1] at h1; cases h1
  | succ fu =>
   replace h1 : bookendref10_tree_l1 keys1 (fu + 1) i14 v15 = some x13 := h1
   rw [bookendref10_tree_l1] at h1
   refine (show AWP _ _ _ _ ⟨[(0, .psl 2 (List.map TApiLsKey.enc keys1)), (2, .ref 0 0 0 0), (3, .ref 64 0 0 0), (4, .int .i64 i14)], [(0, { g := 0, own := true, pure := true, sz := 3, es := [[.nils, .nils, .int .i64 0]] }), (8, { g := 1, own := true, pure := true, sz := 2, es := List.map TApiLsKey.enc keys1 }), (48, { g := g16, own := true, pure := true, sz := 1, es := List.map (encInt .i64) v15 }), (64, { g := 0, own := true, pure := false, sz := 3, es := [[.sl 8 1 2 0 keys1.length, .sl 48 g16 1 0 v15.length, .int .i64 0]] })], 88, []⟩ from ?_)
   refine awp_seq ?_
   refine awp_sr2 120 [0, 2, 3, 4, 15] (fun _ => none) rfl (fun _ _ => rT) ?_
   refine awp_if rfl (fun hb17 => ?_) (fun hb17 => ?_)
   ·
    replace h1 := iteT h1 hb17
    refine awp_skip ?_
    refine kn_then ?_
    refine awp_seq ?_
    refine awp_block ?_
    obtain ⟨vr18, hvr18, h1⟩ := bindS h1
    obtain ⟨e19, he19, h1⟩ := bindS h1
    obtain ⟨he19a, he19b, he19c⟩ := idxS he19
    refine awp_d2 208 [0, 2, 3, 4] (fun | 5 => some (.tup [.int .i64 vr18.1, .int .i64 vr18.2], []) | _ => none) rfl rfl rfl (fun _ _ => rBd (rA he19a (rA he19b he19c)) (c_bookendref10_player hvr18)) ?_
    refine kn_block ?_
    refine kn_then ?_
    refine awp_re (s2 := ⟨[(0, .psl 2 (List.map TApiLsKey.enc keys1)), (2, .ref 0 0 0 0), (3, .ref 64 0 0 0), (4, .int .i64 i14)], [(0, { g := 0, own := true, pure := true, sz := 3, es := [[.nils, .nils, .int .i64 0]] }), (8, { g := 1, own := true, pure := true, sz := 2, es := List.map TApiLsKey.enc keys1 }), (48, { g := g16, own := true, pure := true, sz := 1, es := List.map (encInt .i64) (v15.set i14.toNat vr18.2) }), (64, { g := 0, own := true, pure := false, sz := 3, es := [[.sl 8 1 2 0 keys1.length, .sl 48 g16 1 0 ((v15.set i14.toNat vr18.2).length), .int .i64 0]] })], 208, []⟩) [] (Nat.le_of_ble_eq_true rfl) ⟨rF, rE, rfl, rfl, trivial, trivial⟩ ?_
    refine awp_r2 232 [0, 2, 3, 4] (fun _ => none) rfl (fun _ _ => rS (rA he19a (rA he19b he19c))) ?_
    refine kn_then ?_
    exact ⟨⟨(fu, (IntKind.i64.wrap (i14 + 1)), (v15.set i14.toNat vr18.2), g16), h1⟩, ⟨rF, rE, rfl, rfl, trivial, trivial⟩, Nat.lt_succ_self _⟩
   ·
    replace h1 := iteF h1 hb17
    refine awp_exit ?_
    refine kx_then ?_
    refine kx_then ?_
    refine kx_done ?_
    obtain rfl := Option.some.inj h1
    exact ⟨g16, Nat.le_of_ble_eq_true rfl, ⟨rF, rE, rfl, rfl, trivial, trivial⟩⟩
end Go.T
end
section
/- The program computes them. -/
namespace Go.T
open Go Go.AM Go.Proofs
set_option maxRecDepth 100000
set_option maxHeartbeats 4000000
set_option linter.unusedVariables false
theorem c_bookendref10_Build {fu : Nat} {keys1 : List TApiLsKey} {r : TApiLsTree × Int} (h0 : bookendref10_Build fu keys1 = some r) : PCall Try.prog 50 [.psl 2 (keys1.map TApiLsKey.enc)] (.tup [.agg (TApiLsTree.enc r.1), .int .i64 r.2]) [] := by
 refine awp_pcall Try.func50 rfl (by decide) (Nat.le_of_ble_eq_true rfl) ?_
 dsimp only [Try.f50]
 rw [bookendref10_Build] at h0
 refine (show AWP _ _ _ _ ⟨enumFr 0 _, [], 0, []⟩ from ?_)
 refine awp_sr2 16 [0, 2] (fun _ => none) rfl (fun _ _ => rT) ?_
 obtain ⟨vr2, hvr2, h0⟩ := bindS h0
 refine awp_sr2 40 [0, 2, 4] (fun | 1 => some (.int .i64 vr2, []) | _ => none) rfl (fun _ _ => rC (c_bookendref10_right hvr2)) ?_
 refine awp_seq ?_
 refine awp_sr2 56 [0, 2, 4, 8] (fun _ => none) rfl (fun _ _ => rT) ?_
 refine awp_if rfl (fun hb3 => ?_) (fun hb3 => ?_)
 ·
  replace h0 := iteT h0 hb3
  refine awp_sr2 88 [2, 3] (fun _ => none) rfl (fun _ _ => rT) ?_
  refine awp_ret ?_
  refine kr_then ?_
  obtain rfl := Option.some.inj h0
  refine leave_retG [] ?_
  exact rG
 ·
  replace h0 := iteF h0 hb3
  refine awp_skip ?_
  refine kn_then ?_
  obtain ⟨vr4, hvr4, h0⟩ := bindS h0
  refine awp_sr2 88 [2, 3] (fun | 1 => some (.agg (TApiLsTree.enc vr4), []) | _ => none) rfl (fun _ _ => rC (c_bookendref10_tree hvr4)) ?_
  refine awp_ret ?_
  obtain rfl := Option.some.inj h0
  refine leave_retG [] ?_
  exact rG
end Go.T
end
section
/- The program computes them. -/
namespace Go.T
open Go Go.AM Go.Proofs
set_option maxRecDepth 100000
set_option maxHeartbeats 4000000
set_option linter.unusedVariables false
theorem c_bookendref11_state {fu : Nat} {runs1 : List (List TApiEntry)} {vat2 : List Int} {r : TApiMgState} (h0 : bookendref11_state fu runs1 vat2 = some r) : PCall Try.prog 33 [.psl 1 (runs1.map (encSl 4 TApiEntry.enc)), .psl 1 (vat2.map (encInt .i64))] (.agg (TApiMgState.enc r)) [] := by
 refine awp_pcall Try.func33 rfl (by decide) (Nat.le_of_ble_eq_true rfl) ?_
 dsimp only [Try.f33]
 rw [bookendref11_state] at h0
 refine (show AWP _ _ _ _ ⟨enumFr 0 _, [], 0, []⟩ from ?_)
 refine awp_sr2 8 [0, 1, 4] (fun _ => none) rfl (fun _ _ => rT) ?_
 obtain ⟨hc3, h0⟩ := guS h0
 obtain ⟨hc4, h0⟩ := guS h0
 refine awp_sr2 80 [0, 1, 4, 5] (fun _ => none) rfl (fun _ _ => rT) ?_
 refine awp_re (s2 := ⟨[(0, .psl 1 (List.map (encSl 4 TApiEntry.enc) runs1)), (1, .psl 1 (List.map (encInt .i64) vat2)), (4, .ref 0 0 0 0), (5, .ref 64 0 0 0)], [(0, { g := 0, own := true, pure := true, sz := 5, es := [[.nils, .nils, .nils, .nils, .int .i64 0]] }), (8, { g := 1, own := true, pure := true, sz := 1, es := List.map (encSl 4 TApiEntry.enc) runs1 }), (32, { g := 1, own := true, pure := true, sz := 1, es := List.map (encInt .i64) vat2 }), (64, { g := 0, own := true, pure := false, sz := 5, es := [[.sl 8 1 1 0 runs1.length, .sl 32 1 1 0 vat2.length, .nils, .nils, .int .i64 0]] })], 80, []⟩) [] (Nat.le_of_ble_eq_true rfl) ⟨rF, rE, rfl, rfl, trivial, trivial⟩ ?_
 refine awp_sr2 88 [0, 1, 4, 5, 6] (fun _ => none) rfl (fun _ _ => rT) ?_
 refine awp_seq ?_
 refine awp_sr2 96 [0, 1, 4, 5, 6, 7] (fun _ => none) rfl (fun _ _ => rT) ?_
 refine awp_re (s2 := ⟨[(0, .psl 1 (List.map (encSl 4 TApiEntry.enc) runs1)), (1, .psl 1 (List.map (encInt .i64) vat2)), (4, .ref 0 0 0 0), (5, .ref 64 0 0 0), (6, .sl 96 0 2 0 0), (7, .int .i64 0)], [(0, { g := 0, own := true, pure := true, sz := 5, es := [[.nils, .nils, .nils, .nils, .int .i64 0]] }), (8, { g := 1, own := true, pure := true, sz := 1, es := List.map (encSl 4 TApiEntry.enc) runs1 }), (32, { g := 1, own := true, pure := true, sz := 1, es := List.map (encInt .i64) vat2 }), (64, { g := 0, own := true, pure := false, sz := 5, es := [[.sl 8 1 1 0 runs1.length, .sl 32 1 1 0 vat2.length, .nils, .nils, .int .i64 0]] }), (96, { g := 0, own := true, pure := true, sz := 2, es := List.map TApiLsKey.enc [] })], 97, []⟩) [(96, 2)] (Nat.le_of_ble_eq_true rfl) ⟨rF, rE, rfl, rfl, trivial, rN⟩ ?_
 obtain ⟨x25, hxx25, h0⟩ := bindS h0
 refine awp_bloop (fun s' => ∃ g36 : Nat, s'.nx ≤ 129 ∧ LeN [] s' ⟨[(4, .ref 0 0 0 0), (5, .ref 64 0 0 0), (6, .sl 96 g36 2 0 x25.length)], [(0, { g := 0, own := true, pure := true, sz := 5, es := [[.nils, .nils, .nils, .nils, .int .i64 0]] }), (8, { g := 1, own := true, pure := true, sz := 1, es := List.map (encSl 4 TApiEntry.enc) runs1 }), (32, { g := 1, own := true, pure := true, sz := 1, es := List.map (encInt .i64) vat2 }), (64, { g := 0, own := true, pure := false, sz := 5, es := [[.sl 8 1 1 0 runs1.length, .sl 32 1 1 0 vat2.length, .nils, .nils, .int .i64 0]] }), (96, { g := g36, own := true, pure := true, sz := 2, es := List.map TApiLsKey.enc x25 })], 129, []⟩) ?_ ?_
 ·
  intro s' hs
  obtain ⟨g36, hn, hs⟩ := hs
  refine kn_then ?_
  refine awp_re [] hn hs ?_
  obtain ⟨vr37, hvr37, h0⟩ := bindS h0
  refine awp_sr2 185 [4, 5] (fun | 1 => some (.tup [.agg (TApiLsTree.enc vr37.1), .int .i64 vr37.2], []) | _ => none) rfl (fun _ _ => rC (c_bookendref10_Build hvr37)) ?_
  refine awp_sr2 201 [4] (fun _ => none) rfl (fun _ _ => rT) ?_
  refine awp_ret ?_
  obtain rfl := Option.some.inj h0
  refine leave_retG [] ?_
  exact rG
 ·
  refine awp_loopF (ι := { p : Nat × Int × List TApiLsKey × Nat // bookendref11_state_l1 runs1 vat2 p.1 p.2.1 p.2.2.1 = some x25 }) (fun p => ⟨[(0, .psl 1 (List.map (encSl 4 TApiEntry.enc) runs1)), (1, .psl 1 (List.map (encInt .i64) vat2)), (4, .ref 0 0 0 0), (5, .ref 64 0 0 0), (6, .sl 96 p.1.2.2.2 2 0 p.1.2.2.1.length), (7, .int .i64 p.1.2.1)], [(0, { g := 0, own := true, pure := true, sz := 5, es := [[.nils, .nils, .nils, .nils, .int .i64 0]] }), (8, { g := 1, own := true, pure := true, sz := 1, es := List.map (encSl 4 TApiEntry.enc) runs1 }), (32, { g := 1, own := true, pure := true, sz := 1, es := List.map (encInt .i64) vat2 }), (64, { g := 0, own := true, pure := false, sz := 5, es := [[.sl 8 1 1 0 runs1.length, .sl 32 1 1 0 vat2.length, .nils, .nils, .int .i64 0]] }), (96, { g := p.1.2.2.2, own := true, pure := true, sz := 2, es := List.map TApiLsKey.enc p.1.2.2.1 })], 97, []⟩) (fun p => p.1.1) ⟨(fu, 0, [], 0), hxx25⟩ ⟨rF, rE, rfl, rfl, trivial, trivial⟩ (fun _ => Nat.le_refl _) ?_
  rintro ⟨⟨fu, i26, keys27, g28⟩, h1⟩
  cases fu with
  | zero =>
   replace h1 : bookendref11_state_l1 runs1 vat2 0 i26 keys27 = some x25 := h1
   rw [bookendref11_state_l1] at h1; cases h1
  | succ fu =>
   replace h1 : bookendref11_state_l1 runs1 vat2 (fu + 1) i26 keys27 = some x25 := h1
   rw [bookendref11_state_l1] at h1
   refine (show AWP _ _ _ _ ⟨[(0, .psl 1 (List.map (encSl 4 TApiEntry.enc) runs1)), (1, .psl 1 (List.map (encInt .i64) vat2)), (4, .ref 0 0 0 0), (5, .ref 64 0 0 0), (6, .sl 96 g28 2 0 keys27.length), (7, .int .i64 i26)], [(0, { g := 0, own := true, pure := true, sz := 5, es := [[.nils, .nils, .nils, .nils, .int .i64 0]] }), (8, { g := 1, own := true, pure := true, sz := 1, es := List.map (encSl 4 TApiEntry.enc) runs1 }), (32, { g := 1, own := true, pure := true, sz := 1, es := List.map (encInt .i64) vat2 }), (64, { g := 0, own := true, pure := false, sz := 5, es := [[.sl 8 1 1 0 runs1.length, .sl 32 1 1 0 vat2.length, .nils, .nils, .int .i64 0]] }), (96, { g := g28, own := true, pure := true, sz := 2, es := List.map TApiLsKey.enc keys27 })], 97, []⟩ from ?_)
   refine awp_seq ?_
   refine awp_sr2 129 [0, 1, 4, 5, 6, 7, 19] (fun _ => none) rfl (fun _ _ => rT) ?_
   refine awp_if rfl (fun hb29 => ?_) (fun hb29 => ?_)
   ·
    replace h1 := iteT h1 hb29
    refine awp_skip ?_
    refine kn_then ?_
    refine awp_seq ?_
    refine awp_block ?_
    obtain ⟨e30, he30, h1⟩ := bindS h1
    obtain ⟨he30a, he30b, he30c⟩ := idxS he30
    obtain ⟨e31, he31, h1⟩ := bindS h1
    obtain ⟨he31a, he31b, he31c⟩ := idxS he31
    refine awp_sd2 233 [0, 1, 4, 5, 6, 7, 8] (fun _ => none) rfl rfl rfl (fun _ _ => rSd (rA he30a (rA he30b (rA he30c (rA he31a (rA he31b he31c)))))) ?_
    refine awp_seq ?_
    refine awp_sr2 257 [0, 1, 4, 5, 6, 7, 8, 35] (fun _ => none) rfl (fun _ _ => rS (rA he30a (rA he30b (rA he30c (rA he31a (rA he31b he31c)))))) ?_
    refine awp_if rfl (fun hb32 => ?_) (fun hb32 => ?_)
    ·
     replace h1 := iteT h1 hb32
     obtain ⟨e33, he33, h1⟩ := bindS h1
     obtain ⟨he33a, he33b, he33c⟩ := idxS he33
     refine awp_d2 361 [0, 1, 4, 5, 6, 7, 8] (fun _ => none) rfl rfl rfl (fun _ _ => rSd (rA he30a (rA he30b (rA he30c (rA he31a (rA he31b (rA he31c (rA he33a (rA he33b he33c))))))))) ?_
     refine kn_then ?_
     obtain ⟨hc34, h1⟩ := guS h1
     refine awp_r2 401 [0, 1, 4, 5, 6, 7] (fun _ => none) rfl (fun _ _ => rS (rA he30a (rA he30b (rA he30c (rA he31a (rA he31b (rA he31c (rA he33a (rA he33b he33c))))))))) ?_
     refine kn_block ?_
     refine kn_then ?_
     refine awp_re (s2 := ⟨[(0, .psl 1 (List.map (encSl 4 TApiEntry.enc) runs1)), (1, .psl 1 (List.map (encInt .i64) vat2)), (4, .ref 0 0 0 0), (5, .ref 64 0 0 0), (6, .sl 96 (g28 + 1) 2 0 ((keys27 ++ [(TApiLsKey.mk e33.Key (decide (e30 = (e31.length : Int))))]).length)), (7, .int .i64 i26)], [(0, { g := 0, own := true, pure := true, sz := 5, es := [[.nils, .nils, .nils, .nils, .int .i64 0]] }), (8, { g := 1, own := true, pure := true, sz := 1, es := List.map (encSl 4 TApiEntry.enc) runs1 }), (32, { g := 1, own := true, pure := true, sz := 1, es := List.map (encInt .i64) vat2 }), (64, { g := 0, own := true, pure := false, sz := 5, es := [[.sl 8 1 1 0 runs1.length, .sl 32 1 1 0 vat2.length, .nils, .nils, .int .i64 0]] }), (96, { g := (g28 + 1), own := true, pure := true, sz := 2, es := List.map TApiLsKey.enc (keys27 ++ [(TApiLsKey.mk e33.Key (decide (e30 = (e31.length : Int))))]) }), (217, { g := 0, own := true, pure := true, sz := 2, es := [[.str e33.Key, .bool (decide (e30 = (e31.length : Int)))]] }), (377, { g := 0, own := true, pure := true, sz := 2, es := List.map TApiLsKey.enc [(TApiLsKey.mk e33.Key (decide (e30 = (e31.length : Int))))] })], 401, []⟩) [] (Nat.le_of_ble_eq_true rfl) ⟨rF, rE, rfl, rfl, trivial, trivial⟩ ?_
     refine awp_r2 425 [0, 1, 4, 5, 6, 7] (fun _ => none) rfl (fun _ _ => rS (rA he30a (rA he30b (rA he30c (rA he31a (rA he31b (rA he31c (rA he33a (rA he33b he33c))))))))) ?_
     refine kn_then ?_
     exact ⟨⟨(fu, (IntKind.i64.wrap (i26 + 1)), (keys27 ++ [(TApiLsKey.mk e33.Key (decide (e30 = (e31.length : Int))))]), (g28 + 1)), h1⟩, ⟨rF, rE, rfl, rfl, trivial, trivial⟩, Nat.lt_succ_self _⟩
    ·
     replace h1 := iteF h1 hb32
     refine awp_skip ?_
     refine kn_then ?_
     obtain ⟨hc35, h1⟩ := guS h1
     refine awp_r2 297 [0, 1, 4, 5, 6, 7] (fun _ => none) rfl (fun _ _ => rS (rA he30a (rA he30b (rA he30c (rA he31a (rA he31b he31c)))))) ?_
     refine kn_block ?_
     refine kn_then ?_
     refine awp_re (s2 := ⟨[(0, .psl 1 (List.map (encSl 4 TApiEntry.enc) runs1)), (1, .psl 1 (List.map (encInt .i64) vat2)), (4, .ref 0 0 0 0), (5, .ref 64 0 0 0), (6, .sl 96 (g28 + 1) 2 0 ((keys27 ++ [(TApiLsKey.mk [] (decide (e30 = (e31.length : Int))))]).length)), (7, .int .i64 i26)], [(0, { g := 0, own := true, pure := true, sz := 5, es := [[.nils, .nils, .nils, .nils, .int .i64 0]] }), (8, { g := 1, own := true, pure := true, sz := 1, es := List.map (encSl 4 TApiEntry.enc) runs1 }), (32, { g := 1, own := true, pure := true, sz := 1, es := List.map (encInt .i64) vat2 }), (64, { g := 0, own := true, pure := false, sz := 5, es := [[.sl 8 1 1 0 runs1.length, .sl 32 1 1 0 vat2.length, .nils, .nils, .int .i64 0]] }), (96, { g := (g28 + 1), own := true, pure := true, sz := 2, es := List.map TApiLsKey.enc (keys27 ++ [(TApiLsKey.mk [] (decide (e30 = (e31.length : Int))))]) }), (217, { g := 0, own := true, pure := true, sz := 2, es := [[.str [], .bool (decide (e30 = (e31.length : Int)))]] }), (273, { g := 0, own := true, pure := true, sz := 2, es := List.map TApiLsKey.enc [(TApiLsKey.mk [] (decide (e30 = (e31.length : Int))))] })], 297, []⟩) [] (Nat.le_of_ble_eq_true rfl) ⟨rF, rE, rfl, rfl, trivial, trivial⟩ ?_
     refine awp_r2 321 [0, 1, 4, 5, 6, 7] (fun _ => none) rfl (fun _ _ => rS (rA he30a (rA he30b (rA he30c (rA he31a (rA he31b he31c)))))) ?_
     refine kn_then ?_
     exact ⟨⟨(fu, (IntKind.i64.wrap (i26 + 1)), (keys27 ++ [(TApiLsKey.mk [] (decide (e30 = (e31.length : Int))))]), (g28 + 1)), h1⟩, ⟨rF, rE, rfl, rfl, trivial, trivial⟩, Nat.lt_succ_self _⟩
   ·
    replace h1 := iteF h1 hb29
    refine awp_exit ?_
    refine kx_then ?_
    refine kx_then ?_
    refine kx_done ?_
    obtain rfl := Option.some.inj h1
    exact ⟨g28, Nat.le_of_ble_eq_true rfl, ⟨rF, rE, rfl, rfl, trivial, trivial⟩⟩
end Go.T
end
section
/- The program computes them. -/
namespace Go.T
open Go Go.AM Go.Proofs
set_option maxRecDepth 100000
set_option maxHeartbeats 4000000
set_option linter.unusedVariables false
theorem c_bookendref11_first {fu : Nat} {runs1 : List (List TApiEntry)} {vat2 : List Int} {r : Int} (h0 : bookendref11_first fu runs1 vat2 = some r) : PCall Try.prog 35 [.psl 1 (runs1.map (encSl 4 TApiEntry.enc)), .psl 1 (vat2.map (encInt .i64))] (.int .i64 r) [] := by
 refine awp_pcall Try.func35 rfl (by decide) (Nat.le_of_ble_eq_true rfl) ?_
 dsimp only [Try.f35]
 rw [bookendref11_first] at h0
 refine (show AWP _ _ _ _ ⟨enumFr 0 _, [], 0, []⟩ from ?_)
 refine awp_sr2 8 [0, 1] (fun _ => none) rfl (fun _ _ => rT) ?_
 refine awp_sr2 16 [0, 1, 5] (fun _ => none) rfl (fun _ _ => rT) ?_
 refine awp_seq ?_
 refine awp_sr2 24 [0, 1, 5, 6] (fun _ => none) rfl (fun _ _ => rT) ?_
 obtain ⟨x23, hxx23, h0⟩ := bindS h0
 refine awp_bloop (fun s' => s'.nx ≤ 56 ∧ LeN [] s' ⟨[(5, .int .i64 x23)], [], 56, []⟩) ?_ ?_
 ·
  intro s' hs
  obtain ⟨hn, hs⟩ := hs
  refine kn_then ?_
  refine awp_re [] hn hs ?_
  refine awp_sr2 72 [4] (fun _ => none) rfl (fun _ _ => rT) ?_
  refine awp_ret ?_
  obtain rfl := Option.some.inj h0
  refine leave_retG [] ?_
  exact rG
 ·
  refine awp_loopF (ι := { p : Nat × Int × Int // bookendref11_first_l1 runs1 vat2 p.1 p.2.1 p.2.2 = some x23 }) (fun p => ⟨[(0, .psl 1 (List.map (encSl 4 TApiEntry.enc) runs1)), (1, .psl 1 (List.map (encInt .i64) vat2)), (5, .int .i64 p.1.2.1), (6, .int .i64 p.1.2.2)], [], 24, []⟩) (fun p => p.1.1) ⟨(fu, (-1), 0), hxx23⟩ ⟨rF, rE, rfl, rfl, trivial, trivial⟩ (fun _ => Nat.le_refl _) ?_
  rintro ⟨⟨fu, best24, i25⟩, h1⟩
  cases fu with
  | zero =>
   replace h1 : bookendref11_first_l1 runs1 vat2 0 best24 i25 = some x23 := h1
   rw [bookendref11_first_l1] at h1; cases h1
  | succ fu =>
   replace h1 : bookendref11_first_l1 runs1 vat2 (fu + 1) best24 i25 = some x23 := h1
   rw [bookendref11_first_l1] at h1
   refine (show AWP _ _ _ _ ⟨[(0, .psl 1 (List.map (encSl 4 TApiEntry.enc) runs1)), (1, .psl 1 (List.map (encInt .i64) vat2)), (5, .int .i64 best24), (6, .int .i64 i25)], [], 24, []⟩ from ?_)
   refine awp_seq ?_
   refine awp_sr2 56 [0, 1, 5, 6, 10] (fun _ => none) rfl (fun _ _ => rT) ?_
   refine awp_if rfl (fun hb26 => ?_) (fun hb26 => ?_)
   ·
    replace h1 := iteT h1 hb26
    refine awp_skip ?_
    refine kn_then ?_
    refine awp_seq ?_
    refine awp_block ?_
    obtain ⟨e27, he27, h1⟩ := bindS h1
    obtain ⟨he27a, he27b, he27c⟩ := idxS he27
    obtain ⟨e28, he28, h1⟩ := bindS h1
    obtain ⟨he28a, he28b, he28c⟩ := idxS he28
    obtain ⟨b34, hb34, h1⟩ := bindS h1
    refine awp_sd3 (fr' := [(0, .psl 1 (List.map (encSl 4 TApiEntry.enc) runs1)), (1, .psl 1 (List.map (encInt .i64) vat2)), (5, .int .i64 best24), (6, .int .i64 i25), (51, .bool b34)]) (hp' := []) [] 368 [0, 1, 5, 6, 51] (fun _ => none) rfl rfl rfl (fun Kt hK => by
      cases hg35 : (decide (e27 < (e28.length : Int))) with
      | false =>
       replace hb34 := iteF hb34 hg35
       have hqb34 := Option.some.inj hb34
       subst hqb34
       simp (maxSteps := 1000000) only [↓reduceIte, reduceCtorEq, Nat.reduceEqDiff, Nat.reduceLT, Nat.reduceLeDiff, Nat.reduceAdd, Nat.reduceMul, Int.reduceToNat, push_cast, he27a, he27b, he27c, he28a, he28b, he28c, ↓hg35]
       try simp only [↓hg35] at hK
       all_goals exact rUd
      | true =>
       replace hb34 := iteT hb34 hg35
       obtain ⟨b33, hb33, hb34⟩ := bindS hb34
       have hqb34 := Option.some.inj hb34
       cases hg36 : (decide (best24 < 0)) with
       | false =>
        replace hb33 := iteF hb33 hg36
        obtain ⟨e29, he29, hb33⟩ := bindS hb33
        obtain ⟨he29a, he29b, he29c⟩ := idxS he29
        obtain ⟨e30, he30, hb33⟩ := bindS hb33
        obtain ⟨he30a, he30b, he30c⟩ := idxS he30
        obtain ⟨e31, he31, hb33⟩ := bindS hb33
        obtain ⟨he31a, he31b, he31c⟩ := idxS he31
        obtain ⟨e32, he32, hb33⟩ := bindS hb33
        obtain ⟨he32a, he32b, he32c⟩ := idxS he32
        have hqb33 := Option.some.inj hb33
        subst hqb34
        subst hqb33
        simp (maxSteps := 1000000) only [↓reduceIte, reduceCtorEq, Nat.reduceEqDiff, Nat.reduceLT, Nat.reduceLeDiff, Nat.reduceAdd, Nat.reduceMul, Int.reduceToNat, push_cast, he27a, he27b, he27c, he28a, he28b, he28c, ↓hg35, ↓hg36, he29a, he29b, he29c, he29, he30a, he30b, he30c, he30, he31a, he31b, he31c, he31, he32a, he32b, he32c, he32]
        try simp only [↓hg35, ↓hg36] at hK
        all_goals exact rUd
       | true =>
        replace hb33 := iteT hb33 hg36
        have hqb33 := Option.some.inj hb33
        subst hqb34
        subst hqb33
        simp (maxSteps := 1000000) only [↓reduceIte, reduceCtorEq, Nat.reduceEqDiff, Nat.reduceLT, Nat.reduceLeDiff, Nat.reduceAdd, Nat.reduceMul, Int.reduceToNat, push_cast, he27a, he27b, he27c, he28a, he28b, he28c, ↓hg35, ↓hg36]
        try simp only [↓hg35, ↓hg36] at hK
        all_goals exact rUd) ?_
    refine awp_if rfl (fun hb37 => ?_) (fun hb37 => ?_)
    ·
     replace h1 := iteT h1 hb37
     refine awp_r2 384 [0, 1, 5, 6] (fun _ => none) rfl (fun _ _ => rS (rA he27a (rA he27b (rA he27c (rA he28a (rA he28b he28c)))))) ?_
     refine kn_block ?_
     refine kn_then ?_
     refine awp_r2 408 [0, 1, 5, 6] (fun _ => none) rfl (fun _ _ => rS (rA he27a (rA he27b (rA he27c (rA he28a (rA he28b he28c)))))) ?_
     refine kn_then ?_
     exact ⟨⟨(fu, i25, (IntKind.i64.wrap (i25 + 1))), h1⟩, ⟨rF, rE, rfl, rfl, trivial, trivial⟩, Nat.lt_succ_self _⟩
    ·
     replace h1 := iteF h1 hb37
     refine awp_skip ?_
     refine kn_block ?_
     refine kn_then ?_
     refine awp_r2 392 [0, 1, 5, 6] (fun _ => none) rfl (fun _ _ => rS (rA he27a (rA he27b (rA he27c (rA he28a (rA he28b he28c)))))) ?_
     refine kn_then ?_
     exact ⟨⟨(fu, best24, (IntKind.i64.wrap (i25 + 1))), h1⟩, ⟨rF, rE, rfl, rfl, trivial, trivial⟩, Nat.lt_succ_self _⟩
   ·
    replace h1 := iteF h1 hb26
    refine awp_exit ?_
    refine kx_then ?_
    refine kx_then ?_
    refine kx_done ?_
    obtain rfl := Option.some.inj h1
    exact ⟨Nat.le_of_ble_eq_true rfl, ⟨rF, rE, rfl, rfl, trivial, trivial⟩⟩
end Go.T
end
section
/- The program computes them. -/
namespace Go.T
open Go Go.AM Go.Proofs
set_option maxRecDepth 100000
set_option maxHeartbeats 4000000
set_option linter.unusedVariables false
theorem c_bookendref11_Check {fu : Nat} {vs1 : TApiMgState} {r : Int × Int} (h0 : bookendref11_Check fu vs1 = some r) : PCall Try.prog 22 [.agg (TApiMgState.enc vs1)] (.tup [.int .i64 r.1, .int .i64 r.2]) [] := by
 refine awp_pcall Try.func22 rfl (by decide) (Nat.le_of_ble_eq_true rfl) ?_
 dsimp only [Try.f22]
 rw [bookendref11_Check] at h0
 refine (show AWP _ _ _ _ ⟨enumFr 0 _, [], 0, []⟩ from ?_)
 refine awp_sr2 24 [1] (fun _ => none) rfl (fun _ _ => rT) ?_
 obtain ⟨vr2, hvr2, h0⟩ := bindS h0
 refine awp_sr2 88 [1, 4, 5] (fun | 2 => some (.tup [.int .i64 vr2.1, .int .i64 vr2.2], []) | _ => none) rfl (fun _ _ => rC (c_bookendref11_right hvr2)) ?_
 refine awp_seq ?_
 refine awp_sr2 104 [1, 4, 5, 18] (fun _ => none) rfl (fun _ _ => rT) ?_
 refine awp_if rfl (fun hb3 => ?_) (fun hb3 => ?_)
 ·
  replace h0 := iteT h0 hb3
  refine awp_sr2 136 [2, 3] (fun _ => none) rfl (fun _ _ => rT) ?_
  refine awp_ret ?_
  refine kr_then ?_
  obtain rfl := Option.some.inj h0
  refine leave_retG [] ?_
  exact rG
 ·
  replace h0 := iteF h0 hb3
  refine awp_skip ?_
  refine kn_then ?_
  refine awp_seq ?_
  refine awp_sr2 160 [1, 27] (fun _ => none) rfl (fun _ _ => rT) ?_
  refine awp_if rfl (fun hb4 => ?_) (fun hb4 => ?_)
  ·
   replace h0 := iteT h0 hb4
   refine awp_sr2 176 [2, 3] (fun _ => none) rfl (fun _ _ => rT) ?_
   refine awp_ret ?_
   refine kr_then ?_
   obtain rfl := Option.some.inj h0
   refine leave_retG [] ?_
   exact rG
  ·
   replace h0 := iteF h0 hb4
   refine awp_skip ?_
   refine kn_then ?_
   refine awp_seq ?_
   refine awp_sr2 168 [1, 6] (fun _ => none) rfl (fun _ _ => rT) ?_
   obtain ⟨x18, hxx18, h0⟩ := bindS h0
   refine awp_bloop (fun s' => ∃ o26 : Unit, x18 = .inl o26 ∧ s'.nx ≤ 208 ∧ LeN [] s' ⟨[(1, .ref 0 0 0 0)], [(0, { g := 0, own := true, pure := true, sz := 5, es := [[.psl 1 (List.map (encSl 4 TApiEntry.enc) vs1.Runs), .psl 1 (List.map (encInt .i64) vs1.At), .psl 2 (List.map TApiLsKey.enc vs1.Tree.Keys), .psl 1 (List.map (encInt .i64) vs1.Tree.Lose), .int .i64 vs1.Tree.Win]] })], 208, []⟩) ?_ ?_
   ·
    intro s' hs
    obtain ⟨o26, rfl, hn, hs⟩ := hs
    refine kn_then ?_
    refine awp_re [] hn hs ?_
    refine awp_seq ?_
    obtain ⟨vr27, hvr27, h0⟩ := bindS h0
    obtain ⟨vr28, hvr28, h0⟩ := bindS h0
    refine awp_sd2 288 [1, 65] (fun | 6 => some (.agg (TApiMgState.enc vr27), []) | 8 => some (.bool vr28, []) | _ => none) rfl rfl rfl (fun Kt hK => by
      try have q0 := c_bookendref11_state hvr27
      try have q1 := c_bookendref10_Same hvr28
      exact rTd) ?_
    refine awp_if rfl (fun hb29 => ?_) (fun hb29 => ?_)
    ·
     replace h0 := iteT h0 hb29
     refine awp_sr2 304 [2, 3] (fun _ => none) rfl (fun _ _ => rT) ?_
     refine awp_ret ?_
     refine kr_then ?_
     obtain rfl := Option.some.inj h0
     refine leave_retG [] ?_
     exact rG
    ·
     replace h0 := iteF h0 hb29
     refine awp_skip ?_
     refine kn_then ?_
     obtain ⟨vr30, hvr30, h0⟩ := bindS h0
     refine awp_sr2 336 [1, 7] (fun | 4 => some (.int .i64 vr30, []) | _ => none) rfl (fun _ _ => rC (c_bookendref11_first hvr30)) ?_
     refine awp_seq ?_
     refine awp_sr2 344 [1, 7, 8] (fun _ => none) rfl (fun _ _ => rT) ?_
     obtain ⟨x62, hxx62, h0⟩ := bindS h0
     refine awp_bloop (fun s' => ∃ o79 : Unit, x62 = .inl o79 ∧ s'.nx ≤ 416 ∧ LeN [] s' ⟨[], [(0, { g := 0, own := true, pure := true, sz := 5, es := [[.psl 1 (List.map (encSl 4 TApiEntry.enc) vs1.Runs), .psl 1 (List.map (encInt .i64) vs1.At), .psl 2 (List.map TApiLsKey.enc vs1.Tree.Keys), .psl 1 (List.map (encInt .i64) vs1.Tree.Lose), .int .i64 vs1.Tree.Win]] })], 416, []⟩) ?_ ?_
     ·
      intro s' hs
      obtain ⟨o79, rfl, hn, hs⟩ := hs
      refine kn_then ?_
      refine awp_re [] hn hs ?_
      refine awp_sr2 432 [2, 3] (fun _ => none) rfl (fun _ _ => rT) ?_
      refine awp_ret ?_
      obtain rfl := Option.some.inj h0
      refine leave_retG [] ?_
      exact rG
     ·
      refine awp_loopF (ι := { p : Nat × Int // bookendref11_Check_l2 vs1 vr30 p.1 p.2 = some x62 }) (fun p => ⟨[(1, .ref 0 0 0 0), (7, .int .i64 vr30), (8, .int .i64 p.1.2)], [(0, { g := 0, own := true, pure := true, sz := 5, es := [[.psl 1 (List.map (encSl 4 TApiEntry.enc) vs1.Runs), .psl 1 (List.map (encInt .i64) vs1.At), .psl 2 (List.map TApiLsKey.enc vs1.Tree.Keys), .psl 1 (List.map (encInt .i64) vs1.Tree.Lose), .int .i64 vs1.Tree.Win]] })], 344, []⟩) (fun p => p.1.1) ⟨(fu, 0), hxx62⟩ ⟨rF, rE, rfl, rfl, trivial, trivial⟩ (fun _ => Nat.le_refl _) ?_
      rintro ⟨⟨fu, i63⟩, h1⟩
      cases fu with
      | zero =>
   replace h1 : bookendref11_Check_l2 vs1 vr30 0 i63 = some x62 := h1
   rw [bookendref11_Check_l2] at h1; cases h1
      | succ fu =>
       replace h1 : bookendref11_Check_l2 vs1 vr30 (fu + 1) i63 = some x62 := h1
       rw [bookendref11_Check_l2] at h1
       refine (show AWP _ _ _ _ ⟨[(1, .ref 0 0 0 0), (7, .int .i64 vr30), (8, .int .i64 i63)], [(0, { g := 0, own := true, pure := true, sz := 5, es := [[.psl 1 (List.map (encSl 4 TApiEntry.enc) vs1.Runs), .psl 1 (List.map (encInt .i64) vs1.At), .psl 2 (List.map TApiLsKey.enc vs1.Tree.Keys), .psl 1 (List.map (encInt .i64) vs1.Tree.Lose), .int .i64 vs1.Tree.Win]] })], 344, []⟩ from ?_)
       refine awp_seq ?_
       obtain ⟨b64, hb64, h1⟩ := bindS h1
       refine awp_sr3 (fr' := [(1, .ref 0 0 0 0), (7, .int .i64 vr30), (8, .int .i64 i63), (79, .bool b64)]) (hp' := [(0, { g := 0, own := true, pure := true, sz := 5, es := [[.psl 1 (List.map (encSl 4 TApiEntry.enc) vs1.Runs), .psl 1 (List.map (encInt .i64) vs1.At), .psl 2 (List.map TApiLsKey.enc vs1.Tree.Keys), .psl 1 (List.map (encInt .i64) vs1.Tree.Lose), .int .i64 vs1.Tree.Win]] })]) [0] 416 [1, 7, 8, 79] (fun _ => none) rfl (fun Kt hK => by
         cases hg65 : (decide (i63 < (vs1.Runs.length : Int))) with
         | false =>
          replace hb64 := iteF hb64 hg65
          have hqb64 := Option.some.inj hb64
          subst hqb64
          simp (maxSteps := 1000000) only [↓reduceIte, reduceCtorEq, Nat.reduceEqDiff, Nat.reduceLT, Nat.reduceLeDiff, Nat.reduceAdd, Nat.reduceMul, Int.reduceToNat, push_cast, ↓hg65]
          try simp only [↓hg65] at hK
          all_goals exact rU
         | true =>
          replace hb64 := iteT hb64 hg65
          have hqb64 := Option.some.inj hb64
          subst hqb64
          simp (maxSteps := 1000000) only [↓reduceIte, reduceCtorEq, Nat.reduceEqDiff, Nat.reduceLT, Nat.reduceLeDiff, Nat.reduceAdd, Nat.reduceMul, Int.reduceToNat, push_cast, ↓hg65]
          try simp only [↓hg65] at hK
          all_goals exact rU) ?_
       refine awp_if rfl (fun hb66 => ?_) (fun hb66 => ?_)
       ·
        replace h1 := iteT h1 hb66
        refine awp_skip ?_
        refine kn_then ?_
        refine awp_seq ?_
        refine awp_block ?_
        refine awp_seq ?_
        obtain ⟨e67, he67, h1⟩ := bindS h1
        obtain ⟨he67a, he67b, he67c⟩ := idxS he67
        refine awp_sr2 464 [1, 7, 8, 87] (fun _ => none) rfl (fun _ _ => rS (rA he67a (rA he67b he67c))) ?_
        refine awp_if rfl (fun hb68 => ?_) (fun hb68 => ?_)
        ·
         replace h1 := iteT h1 hb68
         refine awp_exit ?_
         refine kx_then ?_
         refine kx_same ?_
         refine kn_then ?_
         refine awp_r2 488 [1, 7, 8] (fun _ => none) rfl (fun _ _ => rS (rA he67a (rA he67b he67c))) ?_
         refine kn_then ?_
         exact ⟨⟨(fu, (IntKind.i64.wrap (i63 + 1))), h1⟩, ⟨rF, rE, rfl, rfl, trivial, trivial⟩, Nat.lt_succ_self _⟩
        ·
         replace h1 := iteF h1 hb68
         refine awp_skip ?_
         refine kn_then ?_
         obtain ⟨e69, he69, h1⟩ := bindS h1
         obtain ⟨he69a, he69b, he69c⟩ := idxS he69
         obtain ⟨e70, he70, h1⟩ := bindS h1
         obtain ⟨he70a, he70b, he70c⟩ := idxS he70
         obtain ⟨e71, he71, h1⟩ := bindS h1
         obtain ⟨he71a, he71b, he71c⟩ := idxS he71
         obtain ⟨e72, he72, h1⟩ := bindS h1
         obtain ⟨he72a, he72b, he72c⟩ := idxS he72
         obtain ⟨e73, he73, h1⟩ := bindS h1
         obtain ⟨he73a, he73b, he73c⟩ := idxS he73
         refine awp_sd2 696 [1, 7, 8, 9, 10] (fun _ => none) rfl rfl rfl (fun _ _ => rSd (rA he67a (rA he67b (rA he67c (rA he69a (rA he69b (rA he69c (rA he70a (rA he70b (rA he70c (rA he71a (rA he71b (rA he71c (rA he72a (rA he72b (rA he72c (rA he73a (rA he73b he73c)))))))))))))))))) ?_
         obtain ⟨b75, hb75, h1⟩ := bindS h1
         refine awp_sr3 (fr' := [(1, .ref 0 0 0 0), (7, .int .i64 vr30), (8, .int .i64 i63), (127, .bool b75)]) (hp' := [(0, { g := 0, own := true, pure := true, sz := 5, es := [[.psl 1 (List.map (encSl 4 TApiEntry.enc) vs1.Runs), .psl 1 (List.map (encInt .i64) vs1.At), .psl 2 (List.map TApiLsKey.enc vs1.Tree.Keys), .psl 1 (List.map (encInt .i64) vs1.Tree.Lose), .int .i64 vs1.Tree.Win]] })]) [0] 800 [1, 7, 8, 127] (fun _ => none) rfl (fun Kt hK => by
           cases hg76 : (!(Op.bytesLess e70.Key e73.Key || e70.Key == e73.Key)) with
           | false =>
            replace hb75 := iteF hb75 hg76
            obtain ⟨b74, hb74, hb75⟩ := bindS hb75
            have hqb75 := Option.some.inj hb75
            cases hg77 : (e70.Key == e73.Key) with
            | false =>
             replace hb74 := iteF hb74 hg77
             have hqb74 := Option.some.inj hb74
             subst hqb75
             subst hqb74
             simp (maxSteps := 1000000) only [↓reduceIte, reduceCtorEq, Nat.reduceEqDiff, Nat.reduceLT, Nat.reduceLeDiff, Nat.reduceAdd, Nat.reduceMul, Int.reduceToNat, push_cast, he67a, he67b, he67c, he69a, he69b, he69c, he70a, he70b, he70c, he71a, he71b, he71c, he72a, he72b, he72c, he73a, he73b, he73c, ↓hg76, ↓hg77]
             try simp only [↓hg76, ↓hg77] at hK
             all_goals exact rU
            | true =>
             replace hb74 := iteT hb74 hg77
             have hqb74 := Option.some.inj hb74
             subst hqb75
             subst hqb74
             simp (maxSteps := 1000000) only [↓reduceIte, reduceCtorEq, Nat.reduceEqDiff, Nat.reduceLT, Nat.reduceLeDiff, Nat.reduceAdd, Nat.reduceMul, Int.reduceToNat, push_cast, he67a, he67b, he67c, he69a, he69b, he69c, he70a, he70b, he70c, he71a, he71b, he71c, he72a, he72b, he72c, he73a, he73b, he73c, ↓hg76, ↓hg77]
             try simp only [↓hg76, ↓hg77] at hK
             all_goals exact rU
           | true =>
            replace hb75 := iteT hb75 hg76
            have hqb75 := Option.some.inj hb75
            subst hqb75
            simp (maxSteps := 1000000) only [↓reduceIte, reduceCtorEq, Nat.reduceEqDiff, Nat.reduceLT, Nat.reduceLeDiff, Nat.reduceAdd, Nat.reduceMul, Int.reduceToNat, push_cast, he67a, he67b, he67c, he69a, he69b, he69c, he70a, he70b, he70c, he71a, he71b, he71c, he72a, he72b, he72c, he73a, he73b, he73c, ↓hg76]
            try simp only [↓hg76] at hK
            all_goals exact rU) ?_
         refine awp_if rfl (fun hb78 => ?_) (fun hb78 => ?_)
         ·
          replace h1 := iteT h1 hb78
          refine awp_sr2 824 [2, 3] (fun _ => none) rfl (fun _ _ => rS (rA he67a (rA he67b (rA he67c (rA he69a (rA he69b (rA he69c (rA he70a (rA he70b (rA he70c (rA he71a (rA he71b (rA he71c (rA he72a (rA he72b (rA he72c (rA he73a (rA he73b he73c)))))))))))))))))) ?_
          refine awp_ret ?_
          obtain rfl := Option.some.inj h1
          refine kr_block ?_
          refine kr_then ?_
          refine kr_then ?_
          refine kr_loop ?_
          refine kr_then ?_
          obtain rfl := Option.some.inj h0
          refine leave_retG [] ?_
          simp (maxSteps := 1000000) only [↓reduceIte, reduceCtorEq, Nat.reduceEqDiff, Nat.reduceLT, Nat.reduceLeDiff, Nat.reduceAdd, Nat.reduceMul, Int.reduceToNat, push_cast, Gives, he67a, he67b, he67c, he69a, he69b, he69c, he70a, he70b, he70c, he71a, he71b, he71c, he72a, he72b, he72c, he73a, he73b, he73c]
          all_goals exact rH
         ·
          replace h1 := iteF h1 hb78
          refine awp_skip ?_
          refine kn_block ?_
          refine kn_then ?_
          refine awp_r2 824 [1, 7, 8] (fun _ => none) rfl (fun _ _ => rS (rA he67a (rA he67b (rA he67c (rA he69a (rA he69b (rA he69c (rA he70a (rA he70b (rA he70c (rA he71a (rA he71b (rA he71c (rA he72a (rA he72b (rA he72c (rA he73a (rA he73b he73c)))))))))))))))))) ?_
          refine kn_then ?_
          exact ⟨⟨(fu, (IntKind.i64.wrap (i63 + 1))), h1⟩, ⟨rF, rE, rfl, rfl, trivial, trivial⟩, Nat.lt_succ_self _⟩
       ·
        replace h1 := iteF h1 hb66
        refine awp_exit ?_
        refine kx_then ?_
        refine kx_then ?_
        refine kx_done ?_
        obtain rfl := Option.some.inj h1
        exact ⟨_, rfl, Nat.le_of_ble_eq_true rfl, ⟨rF, rE, rfl, rfl, trivial, trivial⟩⟩
   ·
    refine awp_loopF (ι := { p : Nat × Int // bookendref11_Check_l1 vs1 p.1 p.2 = some x18 }) (fun p => ⟨[(1, .ref 0 0 0 0), (6, .int .i64 p.1.2)], [(0, { g := 0, own := true, pure := true, sz := 5, es := [[.psl 1 (List.map (encSl 4 TApiEntry.enc) vs1.Runs), .psl 1 (List.map (encInt .i64) vs1.At), .psl 2 (List.map TApiLsKey.enc vs1.Tree.Keys), .psl 1 (List.map (encInt .i64) vs1.Tree.Lose), .int .i64 vs1.Tree.Win]] })], 168, []⟩) (fun p => p.1.1) ⟨(fu, 0), hxx18⟩ ⟨rF, rE, rfl, rfl, trivial, trivial⟩ (fun _ => Nat.le_refl _) ?_
    rintro ⟨⟨fu, i19⟩, h1⟩
    cases fu with
    | zero =>
   replace h1 : bookendref11_Check_l1 vs1 0 i19 = some x18 := h1
   rw [bookendref11_Check_l1] at h1; cases h1
    | succ fu =>
     replace h1 : bookendref11_Check_l1 vs1 (fu + 1) i19 = some x18 := h1
     rw [bookendref11_Check_l1] at h1
     refine (show AWP _ _ _ _ ⟨[(1, .ref 0 0 0 0), (6, .int .i64 i19)], [(0, { g := 0, own := true, pure := true, sz := 5, es := [[.psl 1 (List.map (encSl 4 TApiEntry.enc) vs1.Runs), .psl 1 (List.map (encInt .i64) vs1.At), .psl 2 (List.map TApiLsKey.enc vs1.Tree.Keys), .psl 1 (List.map (encInt .i64) vs1.Tree.Lose), .int .i64 vs1.Tree.Win]] })], 168, []⟩ from ?_)
     refine awp_seq ?_
     refine awp_sr2 208 [1, 6, 32] (fun _ => none) rfl (fun _ _ => rT) ?_
     refine awp_if rfl (fun hb20 => ?_) (fun hb20 => ?_)
     ·
      replace h1 := iteT h1 hb20
      refine awp_skip ?_
      refine kn_then ?_
      refine awp_seq ?_
      refine awp_block ?_
      obtain ⟨e21, he21, h1⟩ := bindS h1
      obtain ⟨he21a, he21b, he21c⟩ := idxS he21
      obtain ⟨b23, hb23, h1⟩ := bindS h1
      refine awp_sd3 (fr' := [(1, .ref 0 0 0 0), (6, .int .i64 i19), (54, .bool b23)]) (hp' := [(0, { g := 0, own := true, pure := true, sz := 5, es := [[.psl 1 (List.map (encSl 4 TApiEntry.enc) vs1.Runs), .psl 1 (List.map (encInt .i64) vs1.At), .psl 2 (List.map TApiLsKey.enc vs1.Tree.Keys), .psl 1 (List.map (encInt .i64) vs1.Tree.Lose), .int .i64 vs1.Tree.Win]] })]) [0] 368 [1, 6, 54] (fun _ => none) rfl rfl rfl (fun Kt hK => by
        cases hg24 : (decide (e21 < 0)) with
        | false =>
         replace hb23 := iteF hb23 hg24
         obtain ⟨e22, he22, hb23⟩ := bindS hb23
         obtain ⟨he22a, he22b, he22c⟩ := idxS he22
         have hqb23 := Option.some.inj hb23
         subst hqb23
         simp (maxSteps := 1000000) only [↓reduceIte, reduceCtorEq, Nat.reduceEqDiff, Nat.reduceLT, Nat.reduceLeDiff, Nat.reduceAdd, Nat.reduceMul, Int.reduceToNat, push_cast, he21a, he21b, he21c, ↓hg24, he22a, he22b, he22c, he22]
         try simp only [↓hg24] at hK
         all_goals exact rUd
        | true =>
         replace hb23 := iteT hb23 hg24
         have hqb23 := Option.some.inj hb23
         subst hqb23
         simp (maxSteps := 1000000) only [↓reduceIte, reduceCtorEq, Nat.reduceEqDiff, Nat.reduceLT, Nat.reduceLeDiff, Nat.reduceAdd, Nat.reduceMul, Int.reduceToNat, push_cast, he21a, he21b, he21c, ↓hg24]
         try simp only [↓hg24] at hK
         all_goals exact rUd) ?_
      refine awp_if rfl (fun hb25 => ?_) (fun hb25 => ?_)
      ·
       replace h1 := iteT h1 hb25
       refine awp_sr2 392 [2, 3] (fun _ => none) rfl (fun _ _ => rS (rA he21a (rA he21b he21c))) ?_
       refine awp_ret ?_
       obtain rfl := Option.some.inj h1
       refine kr_block ?_
       refine kr_then ?_
       refine kr_then ?_
       refine kr_loop ?_
       refine kr_then ?_
       obtain rfl := Option.some.inj h0
       refine leave_retG [] ?_
       simp (maxSteps := 1000000) only [↓reduceIte, reduceCtorEq, Nat.reduceEqDiff, Nat.reduceLT, Nat.reduceLeDiff, Nat.reduceAdd, Nat.reduceMul, Int.reduceToNat, push_cast, Gives, he21a, he21b, he21c]
       all_goals exact rH
      ·
       replace h1 := iteF h1 hb25
       refine awp_skip ?_
       refine kn_block ?_
       refine kn_then ?_
       refine awp_r2 392 [1, 6] (fun _ => none) rfl (fun _ _ => rS (rA he21a (rA he21b he21c))) ?_
       refine kn_then ?_
       exact ⟨⟨(fu, (IntKind.i64.wrap (i19 + 1))), h1⟩, ⟨rF, rE, rfl, rfl, trivial, trivial⟩, Nat.lt_succ_self _⟩
     ·
      replace h1 := iteF h1 hb20
      refine awp_exit ?_
      refine kx_then ?_
      refine kx_then ?_
      refine kx_done ?_
      obtain rfl := Option.some.inj h1
      exact ⟨_, rfl, Nat.le_of_ble_eq_true rfl, ⟨rF, rE, rfl, rfl, trivial, trivial⟩⟩
end Go.T
end
section
/- The program computes them. -/
namespace Go.T
open Go Go.AM Go.Proofs
set_option maxRecDepth 100000
set_option maxHeartbeats 4000000
set_option linter.unusedVariables false
theorem c_bookendref11_Next {fu : Nat} {vs1 : TApiMgState} {r : TApiEntry × Int × TApiMgState × Int} (h0 : bookendref11_Next fu vs1 = some r) : PCall Try.prog 24 [.agg (TApiMgState.enc vs1)] (.tup [.agg (TApiEntry.enc r.1), .int .i64 r.2.1, .agg (TApiMgState.enc r.2.2.1), .int .i64 r.2.2.2]) [] := by
 refine awp_pcall Try.func24 rfl (by decide) (Nat.le_of_ble_eq_true rfl) ?_
 dsimp only [Try.f24]
 rw [bookendref11_Next] at h0
 refine (show AWP _ _ _ _ ⟨enumFr 0 _, [], 0, []⟩ from ?_)
 refine awp_sr2 40 [1, 2, 4] (fun _ => none) rfl (fun _ _ => rT) ?_
 obtain ⟨vr2, hvr2, h0⟩ := bindS h0
 refine awp_sr2 96 [1, 2, 4, 7] (fun | 1 => some (.tup [.int .i64 vr2.1, .int .i64 vr2.2], []) | _ => none) rfl (fun _ _ => rC (c_bookendref11_Check hvr2)) ?_
 refine awp_seq ?_
 refine awp_sr2 112 [1, 2, 4, 7, 16] (fun _ => none) rfl (fun _ _ => rT) ?_
 refine awp_if rfl (fun hb3 => ?_) (fun hb3 => ?_)
 ·
  replace h0 := iteT h0 hb3
  refine awp_sr2 168 [2, 3, 4, 5] (fun _ => none) rfl (fun _ _ => rT) ?_
  refine awp_ret ?_
  refine kr_then ?_
  obtain rfl := Option.some.inj h0
  refine leave_retG [] ?_
  exact rG
 ·
  replace h0 := iteF h0 hb3
  refine awp_skip ?_
  refine kn_then ?_
  obtain ⟨vr4, hvr4, h0⟩ := bindS h0
  refine awp_sr2 160 [1, 2, 4, 8] (fun | 4 => some (.int .i64 vr4, []) | _ => none) rfl (fun _ _ => rC (c_bookendref11_first hvr4)) ?_
  refine awp_seq ?_
  refine awp_sr2 176 [1, 2, 4, 8, 26] (fun _ => none) rfl (fun _ _ => rT) ?_
  refine awp_if rfl (fun hb5 => ?_) (fun hb5 => ?_)
  ·
   replace h0 := iteT h0 hb5
   refine awp_sr2 224 [2, 3, 4, 5] (fun _ => none) rfl (fun _ _ => rT) ?_
   refine awp_ret ?_
   refine kr_then ?_
   obtain rfl := Option.some.inj h0
   refine leave_retG [] ?_
   exact rG
  ·
   replace h0 := iteF h0 hb5
   refine awp_skip ?_
   refine kn_then ?_
   obtain ⟨hc6, h0⟩ := guS h0
   refine awp_sr2 216 [1, 2, 4, 8, 9] (fun _ => none) rfl (fun _ _ => rT) ?_
   refine awp_re (s2 := ⟨[(1, .ref 0 0 0 0), (2, .ref 8 0 0 0), (4, .ref 24 0 0 0), (8, .int .i64 vr4), (9, .sl 176 1 1 0 vs1.At.length)], [(0, { g := 0, own := true, pure := true, sz := 5, es := [[.psl 1 (List.map (encSl 4 TApiEntry.enc) vs1.Runs), .psl 1 (List.map (encInt .i64) vs1.At), .psl 2 (List.map TApiLsKey.enc vs1.Tree.Keys), .psl 1 (List.map (encInt .i64) vs1.Tree.Lose), .int .i64 vs1.Tree.Win]] }), (8, { g := 0, own := true, pure := true, sz := 4, es := [[.str [], .str [], .bool false, .int .i64 0]] }), (24, { g := 0, own := true, pure := true, sz := 5, es := [[.nils, .nils, .nils, .nils, .int .i64 0]] }), (176, { g := 1, own := true, pure := true, sz := 1, es := List.map (encInt .i64) vs1.At })], 216, []⟩) [] (Nat.le_of_ble_eq_true rfl) ⟨rF, rE, rfl, rfl, trivial, trivial⟩ ?_
   obtain ⟨e7, he7, h0⟩ := bindS h0
   obtain ⟨he7a, he7b, he7c⟩ := idxS he7
   refine awp_sr2 272 [1, 2, 4, 8, 9] (fun _ => none) rfl (fun _ _ => rS (rA he7a (rA he7b he7c))) ?_
   refine awp_re (s2 := ⟨[(1, .ref 0 0 0 0), (2, .ref 8 0 0 0), (4, .ref 24 0 0 0), (8, .int .i64 vr4), (9, .sl 176 1 1 0 ((vs1.At.set vr4.toNat (IntKind.i64.wrap (e7 + 1))).length))], [(0, { g := 0, own := true, pure := true, sz := 5, es := [[.psl 1 (List.map (encSl 4 TApiEntry.enc) vs1.Runs), .psl 1 (List.map (encInt .i64) vs1.At), .psl 2 (List.map TApiLsKey.enc vs1.Tree.Keys), .psl 1 (List.map (encInt .i64) vs1.Tree.Lose), .int .i64 vs1.Tree.Win]] }), (8, { g := 0, own := true, pure := true, sz := 4, es := [[.str [], .str [], .bool false, .int .i64 0]] }), (24, { g := 0, own := true, pure := true, sz := 5, es := [[.nils, .nils, .nils, .nils, .int .i64 0]] }), (176, { g := 1, own := true, pure := true, sz := 1, es := List.map (encInt .i64) (vs1.At.set vr4.toNat (IntKind.i64.wrap (e7 + 1))) })], 272, []⟩) [] (Nat.le_of_ble_eq_true rfl) ⟨rF, rE, rfl, rfl, trivial, trivial⟩ ?_
   obtain ⟨e8, he8, h0⟩ := bindS h0
   obtain ⟨he8a, he8b, he8c⟩ := idxS he8
   obtain ⟨e9, he9, h0⟩ := bindS h0
   obtain ⟨he9a, he9b, he9c⟩ := idxS he9
   obtain ⟨vr10, hvr10, h0⟩ := bindS h0
   refine awp_sd2 440 [2, 3, 4, 5] (fun | 16 => some (.agg (TApiMgState.enc vr10), []) | _ => none) rfl rfl rfl (fun _ _ => rBd (rA he7a (rA he7b (rA he7c (rA he8a (rA he8b (rA he8c (rA he9a (rA he9b he9c)))))))) (c_bookendref11_state hvr10)) ?_
   refine awp_ret ?_
   obtain rfl := Option.some.inj h0
   refine leave_retG [] ?_
   simp (maxSteps := 1000000) only [↓reduceIte, reduceCtorEq, Nat.reduceEqDiff, Nat.reduceLT, Nat.reduceLeDiff, Nat.reduceAdd, Nat.reduceMul, Int.reduceToNat, push_cast, Gives, he7a, he7b, he7c, he8a, he8b, he8c, he9a, he9b, he9c]
   all_goals exact rH
end Go.T
end
section
/- The program computes them. -/
namespace Go.T
open Go Go.AM Go.Proofs
set_option maxRecDepth 100000
set_option maxHeartbeats 4000000
set_option linter.unusedVariables false
theorem c_bookendref11_Peek {fu : Nat} {vs1 : TApiMgState} {r : TApiEntry × Int × Int} (h0 : bookendref11_Peek fu vs1 = some r) : PCall Try.prog 23 [.agg (TApiMgState.enc vs1)] (.tup [.agg (TApiEntry.enc r.1), .int .i64 r.2.1, .int .i64 r.2.2]) [] := by
 refine awp_pcall Try.func23 rfl (by decide) (Nat.le_of_ble_eq_true rfl) ?_
 dsimp only [Try.f23]
 rw [bookendref11_Peek] at h0
 refine (show AWP _ _ _ _ ⟨enumFr 0 _, [], 0, []⟩ from ?_)
 refine awp_sr2 32 [1, 2] (fun _ => none) rfl (fun _ _ => rT) ?_
 obtain ⟨vr2, hvr2, h0⟩ := bindS h0
 refine awp_sr2 136 [2, 5, 6, 8] (fun | 1 => some (.tup [.agg (TApiEntry.enc vr2.1), .int .i64 vr2.2.1, .agg (TApiMgState.enc vr2.2.2.1), .int .i64 vr2.2.2.2], []) | _ => none) rfl (fun _ _ => rC (c_bookendref11_Next hvr2)) ?_
 refine awp_sr2 184 [2, 3, 4] (fun _ => none) rfl (fun _ _ => rT) ?_
 refine awp_ret ?_
 obtain rfl := Option.some.inj h0
 refine leave_retG [] ?_
 exact rG
end Go.T
end
section
/- The program computes them. -/
namespace Go.T
open Go Go.AM Go.Proofs
set_option maxRecDepth 100000
set_option maxHeartbeats 4000000
set_option linter.unusedVariables false
theorem c_merge_Left {fu : Nat} {vs1 : TApiMgState} {r : Int × Int} (h0 : merge_Left fu vs1 = some r) : PCall Try.prog 25 [.agg (TApiMgState.enc vs1)] (.tup [.int .i64 r.1, .int .i64 r.2]) [] := by
 refine awp_pcall Try.func25 rfl (by decide) (Nat.le_of_ble_eq_true rfl) ?_
 dsimp only [Try.f25]
 rw [merge_Left] at h0
 refine (show AWP _ _ _ _ ⟨enumFr 0 _, [], 0, []⟩ from ?_)
 refine awp_sr2 24 [1] (fun _ => none) rfl (fun _ _ => rT) ?_
 refine awp_seq ?_
 obtain ⟨vr2, hvr2, h0⟩ := bindS h0
 refine awp_sr2 80 [1, 5] (fun | 1 => some (.tup [.int .i64 vr2.1, .int .i64 vr2.2], []) | _ => none) rfl (fun _ _ => rC (c_merge_Check hvr2)) ?_
 refine awp_sr2 96 [1, 5, 15] (fun _ => none) rfl (fun _ _ => rT) ?_
 refine awp_if rfl (fun hb3 => ?_) (fun hb3 => ?_)
 ·
  replace h0 := iteT h0 hb3
  refine awp_sr2 120 [2, 3] (fun _ => none) rfl (fun _ _ => rT) ?_
  refine awp_ret ?_
  refine kr_then ?_
  obtain rfl := Option.some.inj h0
  refine leave_retG [] ?_
  exact rG
 ·
  replace h0 := iteF h0 hb3
  refine awp_skip ?_
  refine kn_then ?_
  refine awp_sr2 104 [1, 6] (fun _ => none) rfl (fun _ _ => rT) ?_
  refine awp_seq ?_
  refine awp_sr2 136 [1, 6, 18, 19, 20] (fun _ => none) rfl (fun _ _ => rT) ?_
  obtain ⟨x12, hxx12, h0⟩ := bindS h0
  refine awp_bloop (fun s' => s'.nx ≤ 144 ∧ LeN [] s' ⟨[(6, .int .i64 x12)], [(0, { g := 0, own := true, pure := true, sz := 5, es := [[.psl 1 (List.map (encSl 4 TApiEntry.enc) vs1.Runs), .psl 1 (List.map (encInt .i64) vs1.At), .psl 2 (List.map TApiLsKey.enc vs1.Tree.Keys), .psl 1 (List.map (encInt .i64) vs1.Tree.Lose), .int .i64 vs1.Tree.Win]] })], 144, []⟩) ?_ ?_
  ·
   intro s' hs
   obtain ⟨hn, hs⟩ := hs
   refine kn_then ?_
   refine awp_re [] hn hs ?_
   refine awp_sr2 168 [2, 3] (fun _ => none) rfl (fun _ _ => rT) ?_
   refine awp_ret ?_
   obtain rfl := Option.some.inj h0
   refine leave_retG [] ?_
   exact rG
  ·
   refine awp_loopF (ι := { p : Nat × Int × Int // merge_Left_l1 vs1 p.1 p.2.1 p.2.2 = some x12 }) (fun p => ⟨[(1, .ref 0 0 0 0), (6, .int .i64 p.1.2.1), (18, .psl 1 (List.map (encSl 4 TApiEntry.enc) vs1.Runs)), (19, .int .i64 (vs1.Runs.length : Int)), (20, .int .i64 p.1.2.2)], [(0, { g := 0, own := true, pure := true, sz := 5, es := [[.psl 1 (List.map (encSl 4 TApiEntry.enc) vs1.Runs), .psl 1 (List.map (encInt .i64) vs1.At), .psl 2 (List.map TApiLsKey.enc vs1.Tree.Keys), .psl 1 (List.map (encInt .i64) vs1.Tree.Lose), .int .i64 vs1.Tree.Win]] })], 136, []⟩) (fun p => p.1.1) ⟨(fu, 0, 0), hxx12⟩ ⟨rF, rE, rfl, rfl, trivial, trivial⟩ (fun _ => Nat.le_refl _) ?_
   rintro ⟨⟨fu, n13, v14⟩, h1⟩
   cases fu with
   | zero =>
   replace h1 : merge_Left_l1 vs1 0 n13 v14 = some x12 := h1
   rw [merge_Left_l1] at h1; cases h1
   | succ fu =>
    replace h1 : merge_Left_l1 vs1 (fu + 1) n13 v14 = some x12 := h1
    rw [merge_Left_l1] at h1
    refine (show AWP _ _ _ _ ⟨[(1, .ref 0 0 0 0), (6, .int .i64 n13), (18, .psl 1 (List.map (encSl 4 TApiEntry.enc) vs1.Runs)), (19, .int .i64 (vs1.Runs.length : Int)), (20, .int .i64 v14)], [(0, { g := 0, own := true, pure := true, sz := 5, es := [[.psl 1 (List.map (encSl 4 TApiEntry.enc) vs1.Runs), .psl 1 (List.map (encInt .i64) vs1.At), .psl 2 (List.map TApiLsKey.enc vs1.Tree.Keys), .psl 1 (List.map (encInt .i64) vs1.Tree.Lose), .int .i64 vs1.Tree.Win]] })], 136, []⟩ from ?_)
    refine awp_sr2 144 [1, 6, 18, 19, 20, 21] (fun _ => none) rfl (fun _ _ => rT) ?_
    refine awp_seq ?_
    refine awp_if rfl (fun hb15 => ?_) (fun hb15 => ?_)
    ·
     replace h1 := iteT h1 hb15
     refine awp_skip ?_
     refine kn_then ?_
     refine awp_seq ?_
     refine awp_block ?_
     obtain ⟨e16, he16, h1⟩ := bindS h1
     obtain ⟨he16a, he16b, he16c⟩ := idxS he16
     refine awp_sr2 184 [1, 6, 7, 8, 18, 19, 20] (fun _ => none) rfl (fun _ _ => rS (rA he16a (rA he16b he16c))) ?_
     obtain ⟨e17, he17, h1⟩ := bindS h1
     obtain ⟨he17a, he17b, he17c⟩ := idxS he17
     refine awp_r2 272 [1, 6, 18, 19, 20] (fun _ => none) rfl (fun _ _ => rS (rA he16a (rA he16b (rA he16c (rA he17a (rA he17b he17c)))))) ?_
     refine kn_block ?_
     refine kn_then ?_
     refine awp_r2 288 [1, 6, 18, 19, 20] (fun _ => none) rfl (fun _ _ => rS (rA he16a (rA he16b (rA he16c (rA he17a (rA he17b he17c)))))) ?_
     refine kn_then ?_
     exact ⟨⟨(fu, (IntKind.i64.wrap (n13 + (IntKind.i64.wrap ((e16.length : Int) - e17)))), (IntKind.i64.wrap (v14 + 1))), h1⟩, ⟨rF, rE, rfl, rfl, trivial, trivial⟩, Nat.lt_succ_self _⟩
    ·
     replace h1 := iteF h1 hb15
     refine awp_exit ?_
     refine kx_then ?_
     refine kx_then ?_
     refine kx_done ?_
     obtain rfl := Option.some.inj h1
     exact ⟨Nat.le_of_ble_eq_true rfl, ⟨rF, rE, rfl, rfl, trivial, trivial⟩⟩
end Go.T
end
section
/- The program computes them. -/
namespace Go.T
open Go Go.AM Go.Proofs
set_option maxRecDepth 100000
set_option maxHeartbeats 4000000
set_option linter.unusedVariables false
theorem c_bookendref11_Left {fu : Nat} {vs1 : TApiMgState} {r : Int × Int} (h0 : bookendref11_Left fu vs1 = some r) : PCall Try.prog 26 [.agg (TApiMgState.enc vs1)] (.tup [.int .i64 r.1, .int .i64 r.2]) [] := by
 refine awp_pcall Try.func26 rfl (by decide) (Nat.le_of_ble_eq_true rfl) ?_
 dsimp only [Try.f26]
 rw [bookendref11_Left] at h0
 refine (show AWP _ _ _ _ ⟨enumFr 0 _, [], 0, []⟩ from ?_)
 refine awp_sr2 24 [1] (fun _ => none) rfl (fun _ _ => rT) ?_
 obtain ⟨vr2, hvr2, h0⟩ := bindS h0
 refine awp_sr2 80 [1, 5] (fun | 1 => some (.tup [.int .i64 vr2.1, .int .i64 vr2.2], []) | _ => none) rfl (fun _ _ => rC (c_bookendref11_Check hvr2)) ?_
 refine awp_seq ?_
 refine awp_sr2 96 [1, 5, 14] (fun _ => none) rfl (fun _ _ => rT) ?_
 refine awp_if rfl (fun hb3 => ?_) (fun hb3 => ?_)
 ·
  replace h0 := iteT h0 hb3
  refine awp_sr2 120 [2, 3] (fun _ => none) rfl (fun _ _ => rT) ?_
  refine awp_ret ?_
  refine kr_then ?_
  obtain rfl := Option.some.inj h0
  refine leave_retG [] ?_
  exact rG
 ·
  replace h0 := iteF h0 hb3
  refine awp_skip ?_
  refine kn_then ?_
  refine awp_sr2 104 [1, 6] (fun _ => none) rfl (fun _ _ => rT) ?_
  refine awp_seq ?_
  refine awp_sr2 112 [1, 6, 7] (fun _ => none) rfl (fun _ _ => rT) ?_
  obtain ⟨x12, hxx12, h0⟩ := bindS h0
  refine awp_bloop (fun s' => s'.nx ≤ 152 ∧ LeN [] s' ⟨[(6, .int .i64 x12)], [(0, { g := 0, own := true, pure := true, sz := 5, es := [[.psl 1 (List.map (encSl 4 TApiEntry.enc) vs1.Runs), .psl 1 (List.map (encInt .i64) vs1.At), .psl 2 (List.map TApiLsKey.enc vs1.Tree.Keys), .psl 1 (List.map (encInt .i64) vs1.Tree.Lose), .int .i64 vs1.Tree.Win]] })], 152, []⟩) ?_ ?_
  ·
   intro s' hs
   obtain ⟨hn, hs⟩ := hs
   refine kn_then ?_
   refine awp_re [] hn hs ?_
   refine awp_sr2 176 [2, 3] (fun _ => none) rfl (fun _ _ => rT) ?_
   refine awp_ret ?_
   obtain rfl := Option.some.inj h0
   refine leave_retG [] ?_
   exact rG
  ·
   refine awp_loopF (ι := { p : Nat × Int × Int // bookendref11_Left_l1 vs1 p.1 p.2.1 p.2.2 = some x12 }) (fun p => ⟨[(1, .ref 0 0 0 0), (6, .int .i64 p.1.2.1), (7, .int .i64 p.1.2.2)], [(0, { g := 0, own := true, pure := true, sz := 5, es := [[.psl 1 (List.map (encSl 4 TApiEntry.enc) vs1.Runs), .psl 1 (List.map (encInt .i64) vs1.At), .psl 2 (List.map TApiLsKey.enc vs1.Tree.Keys), .psl 1 (List.map (encInt .i64) vs1.Tree.Lose), .int .i64 vs1.Tree.Win]] })], 112, []⟩) (fun p => p.1.1) ⟨(fu, 0, 0), hxx12⟩ ⟨rF, rE, rfl, rfl, trivial, trivial⟩ (fun _ => Nat.le_refl _) ?_
   rintro ⟨⟨fu, n13, i14⟩, h1⟩
   cases fu with
   | zero =>
   replace h1 : bookendref11_Left_l1 vs1 0 n13 i14 = some x12 := h1
   rw [bookendref11_Left_l1] at h1; cases h1
   | succ fu =>
    replace h1 : bookendref11_Left_l1 vs1 (fu + 1) n13 i14 = some x12 := h1
    rw [bookendref11_Left_l1] at h1
    refine (show AWP _ _ _ _ ⟨[(1, .ref 0 0 0 0), (6, .int .i64 n13), (7, .int .i64 i14)], [(0, { g := 0, own := true, pure := true, sz := 5, es := [[.psl 1 (List.map (encSl 4 TApiEntry.enc) vs1.Runs), .psl 1 (List.map (encInt .i64) vs1.At), .psl 2 (List.map TApiLsKey.enc vs1.Tree.Keys), .psl 1 (List.map (encInt .i64) vs1.Tree.Lose), .int .i64 vs1.Tree.Win]] })], 112, []⟩ from ?_)
    refine awp_seq ?_
    refine awp_sr2 152 [1, 6, 7, 20] (fun _ => none) rfl (fun _ _ => rT) ?_
    refine awp_if rfl (fun hb15 => ?_) (fun hb15 => ?_)
    ·
     replace h1 := iteT h1 hb15
     refine awp_skip ?_
     refine kn_then ?_
     refine awp_seq ?_
     refine awp_block ?_
     obtain ⟨e16, he16, h1⟩ := bindS h1
     obtain ⟨he16a, he16b, he16c⟩ := idxS he16
     obtain ⟨e17, he17, h1⟩ := bindS h1
     obtain ⟨he17a, he17b, he17c⟩ := idxS he17
     refine awp_d2 272 [1, 6, 7] (fun _ => none) rfl rfl rfl (fun _ _ => rSd (rA he16a (rA he16b (rA he16c (rA he17a (rA he17b he17c)))))) ?_
     refine kn_block ?_
     refine kn_then ?_
     refine awp_r2 296 [1, 6, 7] (fun _ => none) rfl (fun _ _ => rS (rA he16a (rA he16b (rA he16c (rA he17a (rA he17b he17c)))))) ?_
     refine kn_then ?_
     exact ⟨⟨(fu, (IntKind.i64.wrap ((IntKind.i64.wrap (n13 + (e16.length : Int))) - e17)), (IntKind.i64.wrap (i14 + 1))), h1⟩, ⟨rF, rE, rfl, rfl, trivial, trivial⟩, Nat.lt_succ_self _⟩
    ·
     replace h1 := iteF h1 hb15
     refine awp_exit ?_
     refine kx_then ?_
     refine kx_then ?_
     refine kx_done ?_
     obtain rfl := Option.some.inj h1
     exact ⟨Nat.le_of_ble_eq_true rfl, ⟨rF, rE, rfl, rfl, trivial, trivial⟩⟩
end Go.T
end
section
/- The program computes them. -/
namespace Go.T
open Go Go.AM Go.Proofs
set_option maxRecDepth 100000
set_option maxHeartbeats 4000000
set_option linter.unusedVariables false
theorem c_bookendref11_Skip {fu : Nat} {vs1 : TApiMgState} {key2 : List UInt8} {r : TApiMgState × Int} (h0 : bookendref11_Skip fu vs1 key2 = some r) : PCall Try.prog 27 [.agg (TApiMgState.enc vs1), .str key2] (.tup [.agg (TApiMgState.enc r.1), .int .i64 r.2]) [] := by
 refine awp_pcall Try.func27 rfl (by decide) (Nat.le_of_ble_eq_true rfl) ?_
 dsimp only [Try.f27]
 rw [bookendref11_Skip] at h0
 refine (show AWP _ _ _ _ ⟨enumFr 0 _, [], 0, []⟩ from ?_)
 refine awp_sr2 24 [1, 2, 4] (fun _ => none) rfl (fun _ _ => rT) ?_
 obtain ⟨vr3, hvr3, h0⟩ := bindS h0
 refine awp_sr2 80 [1, 2, 4, 7] (fun | 1 => some (.tup [.int .i64 vr3.1, .int .i64 vr3.2], []) | _ => none) rfl (fun _ _ => rC (c_bookendref11_Check hvr3)) ?_
 refine awp_seq ?_
 refine awp_sr2 96 [1, 2, 4, 7, 16] (fun _ => none) rfl (fun _ _ => rT) ?_
 refine awp_if rfl (fun hb4 => ?_) (fun hb4 => ?_)
 ·
  replace h0 := iteT h0 hb4
  refine awp_sr2 128 [4, 5] (fun _ => none) rfl (fun _ _ => rT) ?_
  refine awp_ret ?_
  refine kr_then ?_
  obtain rfl := Option.some.inj h0
  refine leave_retG [] ?_
  exact rG
 ·
  replace h0 := iteF h0 hb4
  refine awp_skip ?_
  refine kn_then ?_
  obtain ⟨hc5, h0⟩ := guS h0
  refine awp_sr2 136 [1, 2, 4, 8] (fun _ => none) rfl (fun _ _ => rT) ?_
  refine awp_re (s2 := ⟨[(1, .str key2), (2, .ref 0 0 0 0), (4, .ref 8 0 0 0), (8, .sl 96 1 1 0 vs1.At.length)], [(0, { g := 0, own := true, pure := true, sz := 5, es := [[.psl 1 (List.map (encSl 4 TApiEntry.enc) vs1.Runs), .psl 1 (List.map (encInt .i64) vs1.At), .psl 2 (List.map TApiLsKey.enc vs1.Tree.Keys), .psl 1 (List.map (encInt .i64) vs1.Tree.Lose), .int .i64 vs1.Tree.Win]] }), (8, { g := 0, own := true, pure := true, sz := 5, es := [[.nils, .nils, .nils, .nils, .int .i64 0]] }), (96, { g := 1, own := true, pure := true, sz := 1, es := List.map (encInt .i64) vs1.At })], 136, []⟩) [] (Nat.le_of_ble_eq_true rfl) ⟨rF, rE, rfl, rfl, trivial, trivial⟩ ?_
  refine awp_seq ?_
  refine awp_sr2 144 [1, 2, 4, 8, 9] (fun _ => none) rfl (fun _ _ => rT) ?_
  obtain ⟨x59, hxx59, h0⟩ := bindS h0
  refine awp_bloop (fun s' => ∃ g88 : Nat, s'.nx ≤ 176 ∧ LeN [] s' ⟨[(2, .ref 0 0 0 0), (4, .ref 8 0 0 0), (8, .sl 96 g88 1 0 x59.length)], [(0, { g := 0, own := true, pure := true, sz := 5, es := [[.psl 1 (List.map (encSl 4 TApiEntry.enc) vs1.Runs), .psl 1 (List.map (encInt .i64) vs1.At), .psl 2 (List.map TApiLsKey.enc vs1.Tree.Keys), .psl 1 (List.map (encInt .i64) vs1.Tree.Lose), .int .i64 vs1.Tree.Win]] }), (8, { g := 0, own := true, pure := true, sz := 5, es := [[.nils, .nils, .nils, .nils, .int .i64 0]] }), (96, { g := g88, own := true, pure := true, sz := 1, es := List.map (encInt .i64) x59 })], 176, []⟩) ?_ ?_
  ·
   intro s' hs
   obtain ⟨g88, hn, hs⟩ := hs
   refine kn_then ?_
   refine awp_re [] hn hs ?_
   obtain ⟨vr89, hvr89, h0⟩ := bindS h0
   refine awp_sr2 224 [4, 5] (fun | 3 => some (.agg (TApiMgState.enc vr89), []) | _ => none) rfl (fun _ _ => rC (c_bookendref11_state hvr89)) ?_
   refine awp_ret ?_
   obtain rfl := Option.some.inj h0
   refine leave_retG [] ?_
   exact rG
  ·
   refine awp_loopF (ι := { p : Nat × Int × List Int × Nat // bookendref11_Skip_l3 vs1 key2 p.1 p.2.1 p.2.2.1 = some x59 }) (fun p => ⟨[(1, .str key2), (2, .ref 0 0 0 0), (4, .ref 8 0 0 0), (8, .sl 96 p.1.2.2.2 1 0 p.1.2.2.1.length), (9, .int .i64 p.1.2.1)], [(0, { g := 0, own := true, pure := true, sz := 5, es := [[.psl 1 (List.map (encSl 4 TApiEntry.enc) vs1.Runs), .psl 1 (List.map (encInt .i64) vs1.At), .psl 2 (List.map TApiLsKey.enc vs1.Tree.Keys), .psl 1 (List.map (encInt .i64) vs1.Tree.Lose), .int .i64 vs1.Tree.Win]] }), (8, { g := 0, own := true, pure := true, sz := 5, es := [[.nils, .nils, .nils, .nils, .int .i64 0]] }), (96, { g := p.1.2.2.2, own := true, pure := true, sz := 1, es := List.map (encInt .i64) p.1.2.2.1 })], 144, []⟩) (fun p => p.1.1) ⟨(fu, 0, vs1.At, 1), hxx59⟩ ⟨rF, rE, rfl, rfl, trivial, trivial⟩ (fun _ => Nat.le_refl _) ?_
   rintro ⟨⟨fu, i60, vat61, g62⟩, h1⟩
   cases fu with
   | zero =>
   replace h1 : bookendref11_Skip_l3 vs1 key2 0 i60 vat61 = some x59 := h1
   rw [bookendref11_Skip_l3] at h1; cases h1
   | succ fu =>
    replace h1 : bookendref11_Skip_l3 vs1 key2 (fu + 1) i60 vat61 = some x59 := h1
    rw [bookendref11_Skip_l3] at h1
    refine (show AWP _ _ _ _ ⟨[(1, .str key2), (2, .ref 0 0 0 0), (4, .ref 8 0 0 0), (8, .sl 96 g62 1 0 vat61.length), (9, .int .i64 i60)], [(0, { g := 0, own := true, pure := true, sz := 5, es := [[.psl 1 (List.map (encSl 4 TApiEntry.enc) vs1.Runs), .psl 1 (List.map (encInt .i64) vs1.At), .psl 2 (List.map TApiLsKey.enc vs1.Tree.Keys), .psl 1 (List.map (encInt .i64) vs1.Tree.Lose), .int .i64 vs1.Tree.Win]] }), (8, { g := 0, own := true, pure := true, sz := 5, es := [[.nils, .nils, .nils, .nils, .int .i64 0]] }), (96, { g := g62, own := true, pure := true, sz := 1, es := List.map (encInt .i64) vat61 })], 144, []⟩ from ?_)
    refine awp_seq ?_
    refine awp_sr2 176 [1, 2, 4, 8, 9, 26] (fun _ => none) rfl (fun _ _ => rT) ?_
    refine awp_if rfl (fun hb63 => ?_) (fun hb63 => ?_)
    ·
     replace h1 := iteT h1 hb63
     refine awp_skip ?_
     refine kn_then ?_
     refine awp_seq ?_
     refine awp_block ?_
     obtain ⟨x78, hxx78, h1⟩ := bindS h1
     refine awp_bloop (fun s' => ∃ g87 : Nat, s'.nx ≤ 392 ∧ LeN [] s' ⟨[(1, .str key2), (2, .ref 0 0 0 0), (4, .ref 8 0 0 0), (8, .sl 96 g87 1 0 x78.length), (9, .int .i64 i60)], [(0, { g := 0, own := true, pure := true, sz := 5, es := [[.psl 1 (List.map (encSl 4 TApiEntry.enc) vs1.Runs), .psl 1 (List.map (encInt .i64) vs1.At), .psl 2 (List.map TApiLsKey.enc vs1.Tree.Keys), .psl 1 (List.map (encInt .i64) vs1.Tree.Lose), .int .i64 vs1.Tree.Win]] }), (8, { g := 0, own := true, pure := true, sz := 5, es := [[.nils, .nils, .nils, .nils, .int .i64 0]] }), (96, { g := g87, own := true, pure := true, sz := 1, es := List.map (encInt .i64) x78 })], 392, []⟩) ?_ ?_
     ·
      intro s' hs
      obtain ⟨g87, hn, hs⟩ := hs
      refine kn_block ?_
      refine kn_then ?_
      refine awp_re [] hn hs ?_
      refine awp_r2 416 [1, 2, 4, 8, 9] (fun _ => none) rfl (fun _ _ => rT) ?_
      refine kn_then ?_
      exact ⟨⟨(fu, (IntKind.i64.wrap (i60 + 1)), x78, g87), h1⟩, ⟨rF, rE, rfl, rfl, trivial, trivial⟩, Nat.lt_succ_self _⟩
     ·
      refine awp_loopF (ι := { p : Nat × List Int × Nat // bookendref11_Skip_l4 i60 vs1 key2 p.1 p.2.1 = some x78 }) (fun p => ⟨[(1, .str key2), (2, .ref 0 0 0 0), (4, .ref 8 0 0 0), (8, .sl 96 p.1.2.2 1 0 p.1.2.1.length), (9, .int .i64 i60)], [(0, { g := 0, own := true, pure := true, sz := 5, es := [[.psl 1 (List.map (encSl 4 TApiEntry.enc) vs1.Runs), .psl 1 (List.map (encInt .i64) vs1.At), .psl 2 (List.map TApiLsKey.enc vs1.Tree.Keys), .psl 1 (List.map (encInt .i64) vs1.Tree.Lose), .int .i64 vs1.Tree.Win]] }), (8, { g := 0, own := true, pure := true, sz := 5, es := [[.nils, .nils, .nils, .nils, .int .i64 0]] }), (96, { g := p.1.2.2, own := true, pure := true, sz := 1, es := List.map (encInt .i64) p.1.2.1 })], 176, []⟩) (fun p => p.1.1) ⟨(fu, vat61, g62), hxx78⟩ ⟨rF, rE, rfl, rfl, trivial, trivial⟩ (fun _ => Nat.le_refl _) ?_
      rintro ⟨⟨fu, vat79, g80⟩, h2⟩
      cases fu with
      | zero =>
   replace h2 : bookendref11_Skip_l4 i60 vs1 key2 0 vat79 = some x78 := h2
   rw [bookendref11_Skip_l4] at h2; cases h2
      | succ fu =>
       replace h2 : bookendref11_Skip_l4 i60 vs1 key2 (fu + 1) vat79 = some x78 := h2
       rw [bookendref11_Skip_l4] at h2
       refine (show AWP _ _ _ _ ⟨[(1, .str key2), (2, .ref 0 0 0 0), (4, .ref 8 0 0 0), (8, .sl 96 g80 1 0 vat79.length), (9, .int .i64 i60)], [(0, { g := 0, own := true, pure := true, sz := 5, es := [[.psl 1 (List.map (encSl 4 TApiEntry.enc) vs1.Runs), .psl 1 (List.map (encInt .i64) vs1.At), .psl 2 (List.map TApiLsKey.enc vs1.Tree.Keys), .psl 1 (List.map (encInt .i64) vs1.Tree.Lose), .int .i64 vs1.Tree.Win]] }), (8, { g := 0, own := true, pure := true, sz := 5, es := [[.nils, .nils, .nils, .nils, .int .i64 0]] }), (96, { g := g80, own := true, pure := true, sz := 1, es := List.map (encInt .i64) vat79 })], 176, []⟩ from ?_)
       refine awp_seq ?_
       obtain ⟨e81, he81, h2⟩ := bindS h2
       obtain ⟨he81a, he81b, he81c⟩ := idxS he81
       obtain ⟨e82, he82, h2⟩ := bindS h2
       obtain ⟨he82a, he82b, he82c⟩ := idxS he82
       obtain ⟨b84, hb84, h2⟩ := bindS h2
       refine awp_sd3 (fr' := [(1, .str key2), (2, .ref 0 0 0 0), (4, .ref 8 0 0 0), (8, .sl 96 g80 1 0 vat79.length), (9, .int .i64 i60), (55, .bool b84)]) (hp' := [(0, { g := 0, own := true, pure := true, sz := 5, es := [[.psl 1 (List.map (encSl 4 TApiEntry.enc) vs1.Runs), .psl 1 (List.map (encInt .i64) vs1.At), .psl 2 (List.map TApiLsKey.enc vs1.Tree.Keys), .psl 1 (List.map (encInt .i64) vs1.Tree.Lose), .int .i64 vs1.Tree.Win]] }), (8, { g := 0, own := true, pure := true, sz := 5, es := [[.nils, .nils, .nils, .nils, .int .i64 0]] }), (96, { g := g80, own := true, pure := true, sz := 1, es := List.map (encInt .i64) vat79 })]) [0, 8, 96] 392 [1, 2, 4, 8, 9, 55] (fun _ => none) rfl rfl rfl (fun Kt hK => by
         cases hg85 : (decide (e81 < (e82.length : Int))) with
         | false =>
          replace hb84 := iteF hb84 hg85
          have hqb84 := Option.some.inj hb84
          subst hqb84
          simp (maxSteps := 1000000) only [↓reduceIte, reduceCtorEq, Nat.reduceEqDiff, Nat.reduceLT, Nat.reduceLeDiff, Nat.reduceAdd, Nat.reduceMul, Int.reduceToNat, push_cast, he81a, he81b, he81c, he82a, he82b, he82c, ↓hg85]
          try simp only [↓hg85] at hK
          all_goals exact rUd
         | true =>
          replace hb84 := iteT hb84 hg85
          obtain ⟨e83, he83, hb84⟩ := bindS hb84
          obtain ⟨he83a, he83b, he83c⟩ := idxS he83
          have hqb84 := Option.some.inj hb84
          subst hqb84
          simp (maxSteps := 1000000) only [↓reduceIte, reduceCtorEq, Nat.reduceEqDiff, Nat.reduceLT, Nat.reduceLeDiff, Nat.reduceAdd, Nat.reduceMul, Int.reduceToNat, push_cast, he81a, he81b, he81c, he82a, he82b, he82c, ↓hg85, he83a, he83b, he83c, he83]
          try simp only [↓hg85] at hK
          all_goals exact rUd) ?_
       refine awp_if rfl (fun hb86 => ?_) (fun hb86 => ?_)
       ·
        replace h2 := iteT h2 hb86
        refine awp_skip ?_
        refine kn_then ?_
        refine awp_block ?_
        refine awp_r2 448 [1, 2, 4, 8, 9] (fun _ => none) rfl (fun _ _ => rS (rA he81a (rA he81b (rA he81c (rA he82a (rA he82b he82c)))))) ?_
        refine kn_block ?_
        refine kn_then ?_
        exact ⟨⟨(fu, (vat79.set i60.toNat (IntKind.i64.wrap (e81 + 1))), g80), h2⟩, ⟨rF, rE, rfl, rfl, trivial, trivial⟩, Nat.lt_succ_self _⟩
       ·
        replace h2 := iteF h2 hb86
        refine awp_exit ?_
        refine kx_then ?_
        refine kx_then ?_
        refine kx_done ?_
        obtain rfl := Option.some.inj h2
        exact ⟨g80, Nat.le_of_ble_eq_true rfl, ⟨rF, rE, rfl, rfl, trivial, trivial⟩⟩
    ·
     replace h1 := iteF h1 hb63
     refine awp_exit ?_
     refine kx_then ?_
     refine kx_then ?_
     refine kx_done ?_
     obtain rfl := Option.some.inj h1
     exact ⟨g62, Nat.le_of_ble_eq_true rfl, ⟨rF, rE, rfl, rfl, trivial, trivial⟩⟩
end Go.T
end
section
/- The program computes them. -/
namespace Go.T
open Go Go.AM Go.Proofs
set_option maxRecDepth 100000
set_option maxHeartbeats 4000000
set_option linter.unusedVariables false
theorem c_bookendlaw11_MergeStates {fu : Nat} {vs1 : TApiMgState} {key2 : List UInt8} {r : Bool} (h0 : bookendlaw11_MergeStates fu vs1 key2 = some r) : PCall Try.prog 7 [.agg (TApiMgState.enc vs1), .str key2] (.bool r) [] := by
 refine awp_pcall Try.func7 rfl (by decide) (Nat.le_of_ble_eq_true rfl) ?_
 dsimp only [Try.f7]
 rw [bookendlaw11_MergeStates] at h0
 refine (show AWP _ _ _ _ ⟨enumFr 0 _, [], 0, []⟩ from ?_)
 refine awp_sr2 16 [1, 2] (fun _ => none) rfl (fun _ _ => rT) ?_
 refine awp_seq ?_
 obtain ⟨vr3, hvr3, h0⟩ := bindS h0
 obtain ⟨b4, hb4, h0⟩ := bindS h0
 obtain ⟨b5, hb5, h0⟩ := bindS h0
 obtain ⟨b6, hb6, h0⟩ := bindS h0
 obtain ⟨b7, hb7, h0⟩ := bindS h0
 refine awp_sr3 (fr' := [(1, .str key2), (2, .ref 0 0 0 0), (45, .bool b7)]) (hp' := [(0, { g := 0, own := true, pure := true, sz := 5, es := [[.psl 1 (List.map (encSl 4 TApiEntry.enc) vs1.Runs), .psl 1 (List.map (encInt .i64) vs1.At), .psl 2 (List.map TApiLsKey.enc vs1.Tree.Keys), .psl 1 (List.map (encInt .i64) vs1.Tree.Lose), .int .i64 vs1.Tree.Win]] })]) [0] 240 [1, 2, 45] (fun | 2 => some (.bool vr3, []) | _ => none) rfl (fun Kt hK => by
   cases vr3 with
   | false =>
    replace hb4 := iteF hb4 rfl
    have hqb4 := Option.some.inj hb4
    cases b4 with
    | false =>
     replace hb5 := iteF hb5 rfl
     have hqb5 := Option.some.inj hb5
     cases b5 with
     | false =>
      replace hb6 := iteF hb6 rfl
      have hqb6 := Option.some.inj hb6
      cases b6 with
      | false =>
       replace hb7 := iteF hb7 rfl
       have hqb7 := Option.some.inj hb7
       subst hqb7
       simp (maxSteps := 1000000) only [↓reduceIte, reduceCtorEq, Nat.reduceEqDiff, Nat.reduceLT, Nat.reduceLeDiff, Nat.reduceAdd, Nat.reduceMul, Int.reduceToNat, push_cast, ↓hqb4, ↓hqb5, ↓hqb6]
       try simp only [↓hqb4, ↓hqb5, ↓hqb6] at hK
       try have q0 := c_bookendlaw11_Far hvr3
       all_goals exact rU
      | true =>
       replace hb7 := iteT hb7 rfl
       have hqb7 := Option.some.inj hb7
       subst hqb7
       simp (maxSteps := 1000000) only [↓reduceIte, reduceCtorEq, Nat.reduceEqDiff, Nat.reduceLT, Nat.reduceLeDiff, Nat.reduceAdd, Nat.reduceMul, Int.reduceToNat, push_cast, ↓hqb4, ↓hqb5, ↓hqb6]
       try simp only [↓hqb4, ↓hqb5, ↓hqb6] at hK
       try have q0 := c_bookendlaw11_Far hvr3
       all_goals exact rU
     | true =>
      replace hb6 := iteT hb6 rfl
      have hqb6 := Option.some.inj hb6
      cases b6 with
      | false =>
       cases hqb6
      | true =>
       replace hb7 := iteT hb7 rfl
       have hqb7 := Option.some.inj hb7
       subst hqb7
       simp (maxSteps := 1000000) only [↓reduceIte, reduceCtorEq, Nat.reduceEqDiff, Nat.reduceLT, Nat.reduceLeDiff, Nat.reduceAdd, Nat.reduceMul, Int.reduceToNat, push_cast, ↓hqb4, ↓hqb5]
       try simp only [↓hqb4, ↓hqb5] at hK
       try have q0 := c_bookendlaw11_Far hvr3
       all_goals exact rU
    | true =>
     replace hb5 := iteT hb5 rfl
     have hqb5 := Option.some.inj hb5
     cases b5 with
     | false =>
      cases hqb5
     | true =>
      replace hb6 := iteT hb6 rfl
      have hqb6 := Option.some.inj hb6
      cases b6 with
      | false =>
       cases hqb6
      | true =>
       replace hb7 := iteT hb7 rfl
       have hqb7 := Option.some.inj hb7
       subst hqb7
       simp (maxSteps := 1000000) only [↓reduceIte, reduceCtorEq, Nat.reduceEqDiff, Nat.reduceLT, Nat.reduceLeDiff, Nat.reduceAdd, Nat.reduceMul, Int.reduceToNat, push_cast, ↓hqb4]
       try simp only [↓hqb4] at hK
       try have q0 := c_bookendlaw11_Far hvr3
       all_goals exact rU
   | true =>
    replace hb4 := iteT hb4 rfl
    have hqb4 := Option.some.inj hb4
    cases b4 with
    | false =>
     cases hqb4
    | true =>
     replace hb5 := iteT hb5 rfl
     have hqb5 := Option.some.inj hb5
     cases b5 with
     | false =>
      cases hqb5
     | true =>
      replace hb6 := iteT hb6 rfl
      have hqb6 := Option.some.inj hb6
      cases b6 with
      | false =>
       cases hqb6
      | true =>
       replace hb7 := iteT hb7 rfl
       have hqb7 := Option.some.inj hb7
       subst hqb7
       try have q0 := c_bookendlaw11_Far hvr3
       exact rT) ?_
 refine awp_if rfl (fun hb18 => ?_) (fun hb18 => ?_)
 ·
  replace h0 := iteT h0 hb18
  obtain ⟨vr19, hvr19, h0⟩ := bindS h0
  refine awp_sr2 256 [4] (fun | 0 => some (.bool vr19, []) | _ => none) rfl (fun _ _ => rC (c_bookendlaw11_awake hvr19)) ?_
  refine awp_ret ?_
  refine kr_then ?_
  obtain rfl := Option.some.inj h0
  refine leave_retG [] ?_
  exact rG
 ·
  replace h0 := iteF h0 hb18
  refine awp_skip ?_
  refine kn_then ?_
  refine awp_seq ?_
  refine awp_sr2 248 [1, 2, 5] (fun _ => none) rfl (fun _ _ => rT) ?_
  obtain ⟨x29, hxx29, h0⟩ := bindS h0
  refine awp_bloop (fun s' => ∃ o35 : Unit, x29 = .inl o35 ∧ s'.nx ≤ 296 ∧ LeN [] s' ⟨[(1, .str key2), (2, .ref 0 0 0 0)], [(0, { g := 0, own := true, pure := true, sz := 5, es := [[.psl 1 (List.map (encSl 4 TApiEntry.enc) vs1.Runs), .psl 1 (List.map (encInt .i64) vs1.At), .psl 2 (List.map TApiLsKey.enc vs1.Tree.Keys), .psl 1 (List.map (encInt .i64) vs1.Tree.Lose), .int .i64 vs1.Tree.Win]] })], 296, []⟩) ?_ ?_
  ·
   intro s' hs
   obtain ⟨o35, rfl, hn, hs⟩ := hs
   refine kn_then ?_
   refine awp_re [] hn hs ?_
   obtain ⟨vr36, hvr36, h0⟩ := bindS h0
   refine awp_sr2 352 [1, 2, 6, 7] (fun | 1 => some (.tup [.int .i64 vr36.1, .int .i64 vr36.2], []) | _ => none) rfl (fun _ _ => rC (c_merge_Check hvr36)) ?_
   obtain ⟨vr37, hvr37, h0⟩ := bindS h0
   refine awp_sr2 408 [1, 2, 6, 7, 8, 9] (fun | 1 => some (.tup [.int .i64 vr37.1, .int .i64 vr37.2], []) | _ => none) rfl (fun _ _ => rC (c_bookendref11_Check hvr37)) ?_
   obtain ⟨vr38, hvr38, h0⟩ := bindS h0
   refine awp_sr2 488 [1, 2, 6, 7, 8, 9, 10, 11, 12] (fun | 1 => some (.tup [.agg (TApiEntry.enc vr38.1), .int .i64 vr38.2.1, .int .i64 vr38.2.2], []) | _ => none) rfl (fun _ _ => rC (c_merge_Peek hvr38)) ?_
   obtain ⟨vr39, hvr39, h0⟩ := bindS h0
   refine awp_sr2 568 [1, 2, 6, 7, 8, 9, 10, 11, 12, 13, 14, 15] (fun | 1 => some (.tup [.agg (TApiEntry.enc vr39.1), .int .i64 vr39.2.1, .int .i64 vr39.2.2], []) | _ => none) rfl (fun _ _ => rC (c_bookendref11_Peek hvr39)) ?_
   refine awp_seq ?_
   obtain ⟨b40, hb40, h0⟩ := bindS h0
   obtain ⟨b41, hb41, h0⟩ := bindS h0
   obtain ⟨b42, hb42, h0⟩ := bindS h0
   obtain ⟨b43, hb43, h0⟩ := bindS h0
   refine awp_sr3 (fr' := [(1, .str key2), (2, .ref 0 0 0 0), (10, .ref 456 0 0 0), (13, .ref 536 0 0 0), (109, .bool b43)]) (hp' := [(0, { g := 0, own := true, pure := true, sz := 5, es := [[.psl 1 (List.map (encSl 4 TApiEntry.enc) vs1.Runs), .psl 1 (List.map (encInt .i64) vs1.At), .psl 2 (List.map TApiLsKey.enc vs1.Tree.Keys), .psl 1 (List.map (encInt .i64) vs1.Tree.Lose), .int .i64 vs1.Tree.Win]] }), (456, { g := 0, own := true, pure := true, sz := 4, es := [[.str vr38.1.Key, .str vr38.1.Val, .bool vr38.1.Dead, .int .i64 vr38.1.Seq]] }), (536, { g := 0, own := true, pure := true, sz := 4, es := [[.str vr39.1.Key, .str vr39.1.Val, .bool vr39.1.Dead, .int .i64 vr39.1.Seq]] })]) [0, 456, 536] 752 [1, 2, 10, 13, 109] (fun _ => none) rfl (fun Kt hK => by
     cases hg44 : (!(decide (vr36.1 = vr37.1))) with
     | false =>
      replace hb40 := iteF hb40 hg44
      have hqb40 := Option.some.inj hb40
      cases b40 with
      | false =>
       replace hb41 := iteF hb41 rfl
       have hqb41 := Option.some.inj hb41
       cases b41 with
       | false =>
        replace hb42 := iteF hb42 rfl
        have hqb42 := Option.some.inj hb42
        cases b42 with
        | false =>
         replace hb43 := iteF hb43 rfl
         have hqb43 := Option.some.inj hb43
         subst hqb43
         simp (maxSteps := 1000000) only [↓reduceIte, reduceCtorEq, Nat.reduceEqDiff, Nat.reduceLT, Nat.reduceLeDiff, Nat.reduceAdd, Nat.reduceMul, Int.reduceToNat, push_cast, ↓hg44, ↓hqb40, ↓hqb41, ↓hqb42]
         try simp only [↓hg44, ↓hqb40, ↓hqb41, ↓hqb42] at hK
         all_goals exact rU
        | true =>
         replace hb43 := iteT hb43 rfl
         have hqb43 := Option.some.inj hb43
         subst hqb43
         simp (maxSteps := 1000000) only [↓reduceIte, reduceCtorEq, Nat.reduceEqDiff, Nat.reduceLT, Nat.reduceLeDiff, Nat.reduceAdd, Nat.reduceMul, Int.reduceToNat, push_cast, ↓hg44, ↓hqb40, ↓hqb41, ↓hqb42]
         try simp only [↓hg44, ↓hqb40, ↓hqb41, ↓hqb42] at hK
         all_goals exact rU
       | true =>
        replace hb42 := iteT hb42 rfl
        have hqb42 := Option.some.inj hb42
        cases b42 with
        | false =>
         cases hqb42
        | true =>
         replace hb43 := iteT hb43 rfl
         have hqb43 := Option.some.inj hb43
         subst hqb43
         simp (maxSteps := 1000000) only [↓reduceIte, reduceCtorEq, Nat.reduceEqDiff, Nat.reduceLT, Nat.reduceLeDiff, Nat.reduceAdd, Nat.reduceMul, Int.reduceToNat, push_cast, ↓hg44, ↓hqb40, ↓hqb41]
         try simp only [↓hg44, ↓hqb40, ↓hqb41] at hK
         all_goals exact rU
      | true =>
       replace hb41 := iteT hb41 rfl
       have hqb41 := Option.some.inj hb41
       cases b41 with
       | false =>
        cases hqb41
       | true =>
        replace hb42 := iteT hb42 rfl
        have hqb42 := Option.some.inj hb42
        cases b42 with
        | false =>
         cases hqb42
        | true =>
         replace hb43 := iteT hb43 rfl
         have hqb43 := Option.some.inj hb43
         subst hqb43
         simp (maxSteps := 1000000) only [↓reduceIte, reduceCtorEq, Nat.reduceEqDiff, Nat.reduceLT, Nat.reduceLeDiff, Nat.reduceAdd, Nat.reduceMul, Int.reduceToNat, push_cast, ↓hg44, ↓hqb40]
         try simp only [↓hg44, ↓hqb40] at hK
         all_goals exact rU
     | true =>
      replace hb40 := iteT hb40 hg44
      have hqb40 := Option.some.inj hb40
      cases b40 with
      | false =>
       cases hqb40
      | true =>
       replace hb41 := iteT hb41 rfl
       have hqb41 := Option.some.inj hb41
       cases b41 with
       | false =>
        cases hqb41
       | true =>
        replace hb42 := iteT hb42 rfl
        have hqb42 := Option.some.inj hb42
        cases b42 with
        | false =>
         cases hqb42
        | true =>
         replace hb43 := iteT hb43 rfl
         have hqb43 := Option.some.inj hb43
         subst hqb43
         simp (maxSteps := 1000000) only [↓reduceIte, reduceCtorEq, Nat.reduceEqDiff, Nat.reduceLT, Nat.reduceLeDiff, Nat.reduceAdd, Nat.reduceMul, Int.reduceToNat, push_cast, ↓hg44]
         try simp only [↓hg44] at hK
         all_goals exact rU) ?_
   refine awp_if rfl (fun hb54 => ?_) (fun hb54 => ?_)
   ·
    replace h0 := iteT h0 hb54
    refine awp_sr2 760 [4] (fun _ => none) rfl (fun _ _ => rT) ?_
    refine awp_ret ?_
    refine kr_then ?_
    obtain rfl := Option.some.inj h0
    refine leave_retG [] ?_
    exact rG
   ·
    replace h0 := iteF h0 hb54
    refine awp_skip ?_
    refine kn_then ?_
    obtain ⟨vr55, hvr55, h0⟩ := bindS h0
    refine awp_sr2 848 [1, 2, 10, 11, 12, 13, 16] (fun | 1 => some (.tup [.agg (TApiEntry.enc vr55.1), .int .i64 vr55.2.1, .agg (TApiMgState.enc vr55.2.2.1), .int .i64 vr55.2.2.2], []) | _ => none) rfl (fun _ _ => rC (c_merge_Next hvr55)) ?_
    obtain ⟨vr56, hvr56, h0⟩ := bindS h0
    refine awp_sr2 944 [1, 2, 10, 11, 12, 13, 14, 15, 16, 17] (fun | 1 => some (.tup [.agg (TApiEntry.enc vr56.1), .int .i64 vr56.2.1, .agg (TApiMgState.enc vr56.2.2.1), .int .i64 vr56.2.2.2], []) | _ => none) rfl (fun _ _ => rC (c_bookendref11_Next hvr56)) ?_
    refine awp_seq ?_
    obtain ⟨b57, hb57, h0⟩ := bindS h0
    obtain ⟨b59, hb59, h0⟩ := bindS h0
    obtain ⟨b60, hb60, h0⟩ := bindS h0
    refine awp_sr3 (fr' := [(1, .str key2), (2, .ref 0 0 0 0), (16, .ref 808 0 0 0), (17, .ref 904 0 0 0), (142, .bool b60)]) (hp' := [(0, { g := 0, own := true, pure := true, sz := 5, es := [[.psl 1 (List.map (encSl 4 TApiEntry.enc) vs1.Runs), .psl 1 (List.map (encInt .i64) vs1.At), .psl 2 (List.map TApiLsKey.enc vs1.Tree.Keys), .psl 1 (List.map (encInt .i64) vs1.Tree.Lose), .int .i64 vs1.Tree.Win]] }), (456, { g := 0, own := true, pure := true, sz := 4, es := [[.str vr55.1.Key, .str vr55.1.Val, .bool vr55.1.Dead, .int .i64 vr55.1.Seq]] }), (536, { g := 0, own := true, pure := true, sz := 4, es := [[.str vr56.1.Key, .str vr56.1.Val, .bool vr56.1.Dead, .int .i64 vr56.1.Seq]] }), (808, { g := 0, own := true, pure := true, sz := 5, es := [[.psl 1 (List.map (encSl 4 TApiEntry.enc) vr55.2.2.1.Runs), .psl 1 (List.map (encInt .i64) vr55.2.2.1.At), .psl 2 (List.map TApiLsKey.enc vr55.2.2.1.Tree.Keys), .psl 1 (List.map (encInt .i64) vr55.2.2.1.Tree.Lose), .int .i64 vr55.2.2.1.Tree.Win]] }), (904, { g := 0, own := true, pure := true, sz := 5, es := [[.psl 1 (List.map (encSl 4 TApiEntry.enc) vr56.2.2.1.Runs), .psl 1 (List.map (encInt .i64) vr56.2.2.1.At), .psl 2 (List.map TApiLsKey.enc vr56.2.2.1.Tree.Keys), .psl 1 (List.map (encInt .i64) vr56.2.2.1.Tree.Lose), .int .i64 vr56.2.2.1.Tree.Win]] })]) [0, 456, 536, 808, 904] 1096 [1, 2, 16, 17, 142] (fun | 11 => (bookendref11_Same fu vr55.2.2.1 vr56.2.2.1).bind fun vr58 => some (.bool vr58, []) | _ => none) rfl (fun Kt hK => by
      cases hg61 : (!(TApiEntry.eqb vr55.1 vr56.1)) with
      | false =>
       replace hb57 := iteF hb57 hg61
       have hqb57 := Option.some.inj hb57
       cases b57 with
       | false =>
        replace hb59 := iteF hb59 rfl
        obtain ⟨vr58, hvr58, hb59⟩ := bindS hb59
        have hqb59 := Option.some.inj hb59
        cases b59 with
        | false =>
         replace hb60 := iteF hb60 rfl
         have hqb60 := Option.some.inj hb60
         subst hqb60
         simp (maxSteps := 1000000) only [↓reduceIte, reduceCtorEq, Nat.reduceEqDiff, Nat.reduceLT, Nat.reduceLeDiff, Nat.reduceAdd, Nat.reduceMul, Int.reduceToNat, push_cast, ↓hg61, ↓hqb57, hvr58, ↓hqb59]
         try simp only [↓hg61, ↓hqb57, ↓hqb59] at hK
         try have q0 := c_bookendref11_Same hvr58
         all_goals exact rU
        | true =>
         replace hb60 := iteT hb60 rfl
         have hqb60 := Option.some.inj hb60
         subst hqb60
         simp (maxSteps := 1000000) only [↓reduceIte, reduceCtorEq, Nat.reduceEqDiff, Nat.reduceLT, Nat.reduceLeDiff, Nat.reduceAdd, Nat.reduceMul, Int.reduceToNat, push_cast, ↓hg61, ↓hqb57, hvr58, ↓hqb59]
         try simp only [↓hg61, ↓hqb57, ↓hqb59] at hK
         try have q0 := c_bookendref11_Same hvr58
         all_goals exact rU
       | true =>
        replace hb59 := iteT hb59 rfl
        have hqb59 := Option.some.inj hb59
        cases b59 with
        | false =>
         cases hqb59
        | true =>
         replace hb60 := iteT hb60 rfl
         have hqb60 := Option.some.inj hb60
         subst hqb60
         simp (maxSteps := 1000000) only [↓reduceIte, reduceCtorEq, Nat.reduceEqDiff, Nat.reduceLT, Nat.reduceLeDiff, Nat.reduceAdd, Nat.reduceMul, Int.reduceToNat, push_cast, ↓hg61, ↓hqb57]
         try simp only [↓hg61, ↓hqb57] at hK
         try have q0 := c_bookendref11_Same hvr58
         all_goals exact rU
      | true =>
       replace hb57 := iteT hb57 hg61
       have hqb57 := Option.some.inj hb57
       cases b57 with
       | false =>
        cases hqb57
       | true =>
        replace hb59 := iteT hb59 rfl
        have hqb59 := Option.some.inj hb59
        cases b59 with
        | false =>
         cases hqb59
        | true =>
         replace hb60 := iteT hb60 rfl
         have hqb60 := Option.some.inj hb60
         subst hqb60
         simp (maxSteps := 1000000) only [↓reduceIte, reduceCtorEq, Nat.reduceEqDiff, Nat.reduceLT, Nat.reduceLeDiff, Nat.reduceAdd, Nat.reduceMul, Int.reduceToNat, push_cast, ↓hg61]
         try simp only [↓hg61] at hK
         try have q0 := c_bookendref11_Same hvr58
         all_goals exact rU) ?_
    refine awp_if rfl (fun hb67 => ?_) (fun hb67 => ?_)
    ·
     replace h0 := iteT h0 hb67
     refine awp_sr2 1104 [4] (fun _ => none) rfl (fun _ _ => rT) ?_
     refine awp_ret ?_
     refine kr_then ?_
     obtain rfl := Option.some.inj h0
     refine leave_retG [] ?_
     exact rG
    ·
     replace h0 := iteF h0 hb67
     refine awp_skip ?_
     refine kn_then ?_
     obtain ⟨vr68, hvr68, h0⟩ := bindS h0
     refine awp_sr2 1152 [1, 2, 6, 7, 16, 17] (fun | 1 => some (.tup [.int .i64 vr68.1, .int .i64 vr68.2], []) | _ => none) rfl (fun _ _ => rC (c_merge_Left hvr68)) ?_
     obtain ⟨vr69, hvr69, h0⟩ := bindS h0
     refine awp_sr2 1208 [1, 2, 6, 7, 8, 9, 16, 17] (fun | 1 => some (.tup [.int .i64 vr69.1, .int .i64 vr69.2], []) | _ => none) rfl (fun _ _ => rC (c_bookendref11_Left hvr69)) ?_
     obtain ⟨vr70, hvr70, h0⟩ := bindS h0
     refine awp_sr2 1272 [1, 2, 6, 7, 8, 9, 12, 16, 17] (fun | 2 => some (.tup [.agg (TApiMgState.enc vr70.1), .int .i64 vr70.2], []) | _ => none) rfl (fun _ _ => rC (c_merge_Skip hvr70)) ?_
     obtain ⟨vr71, hvr71, h0⟩ := bindS h0
     refine awp_sr2 1336 [6, 7, 8, 9, 12, 15, 16, 17] (fun | 2 => some (.tup [.agg (TApiMgState.enc vr71.1), .int .i64 vr71.2], []) | _ => none) rfl (fun _ _ => rC (c_bookendref11_Skip hvr71)) ?_
     obtain ⟨b72, hb72, h0⟩ := bindS h0
     obtain ⟨b74, hb74, h0⟩ := bindS h0
     obtain ⟨b75, hb75, h0⟩ := bindS h0
     obtain ⟨b77, hb77, h0⟩ := bindS h0
     refine awp_sr3 (fr' := [(4, .bool b77)]) (hp' := [(0, { g := 0, own := true, pure := true, sz := 5, es := [[.psl 1 (List.map (encSl 4 TApiEntry.enc) vs1.Runs), .psl 1 (List.map (encInt .i64) vs1.At), .psl 2 (List.map TApiLsKey.enc vs1.Tree.Keys), .psl 1 (List.map (encInt .i64) vs1.Tree.Lose), .int .i64 vs1.Tree.Win]] }), (456, { g := 0, own := true, pure := true, sz := 4, es := [[.str vr55.1.Key, .str vr55.1.Val, .bool vr55.1.Dead, .int .i64 vr55.1.Seq]] }), (536, { g := 0, own := true, pure := true, sz := 4, es := [[.str vr56.1.Key, .str vr56.1.Val, .bool vr56.1.Dead, .int .i64 vr56.1.Seq]] }), (808, { g := 0, own := true, pure := true, sz := 5, es := [[.psl 1 (List.map (encSl 4 TApiEntry.enc) vr70.1.Runs), .psl 1 (List.map (encInt .i64) vr70.1.At), .psl 2 (List.map TApiLsKey.enc vr70.1.Tree.Keys), .psl 1 (List.map (encInt .i64) vr70.1.Tree.Lose), .int .i64 vr70.1.Tree.Win]] }), (904, { g := 0, own := true, pure := true, sz := 5, es := [[.psl 1 (List.map (encSl 4 TApiEntry.enc) vr71.1.Runs), .psl 1 (List.map (encInt .i64) vr71.1.At), .psl 2 (List.map TApiLsKey.enc vr71.1.Tree.Keys), .psl 1 (List.map (encInt .i64) vr71.1.Tree.Lose), .int .i64 vr71.1.Tree.Win]] })]) [0, 456, 536, 808, 904] 1512 [4] (fun | 11 => (bookendref11_Same fu vr70.1 vr71.1).bind fun vr73 => some (.bool vr73, []) | 19 => (bookendlaw11_awake fu).bind fun vr76 => some (.bool vr76, []) | _ => none) rfl (fun Kt hK => by
       cases hg78 : (decide (vr68.1 = vr69.1)) with
       | false =>
        replace hb72 := iteF hb72 hg78
        have hqb72 := Option.some.inj hb72
        cases b72 with
        | false =>
         replace hb74 := iteF hb74 rfl
         have hqb74 := Option.some.inj hb74
         cases b74 with
         | false =>
          replace hb75 := iteF hb75 rfl
          have hqb75 := Option.some.inj hb75
          cases b75 with
          | false =>
           replace hb77 := iteF hb77 rfl
           have hqb77 := Option.some.inj hb77
           subst hqb77
           simp (maxSteps := 1000000) only [↓reduceIte, reduceCtorEq, Nat.reduceEqDiff, Nat.reduceLT, Nat.reduceLeDiff, Nat.reduceAdd, Nat.reduceMul, Int.reduceToNat, push_cast, ↓hg78]
           try simp only [↓hg78] at hK
           try have q0 := c_bookendref11_Same hvr73
           try have q1 := c_bookendlaw11_awake hvr76
           all_goals exact rU
          | true =>
           cases hqb75
         | true =>
          cases hqb74
        | true =>
         cases hqb72
       | true =>
        replace hb72 := iteT hb72 hg78
        have hqb72 := Option.some.inj hb72
        cases b72 with
        | false =>
         replace hb74 := iteF hb74 rfl
         have hqb74 := Option.some.inj hb74
         cases b74 with
         | false =>
          replace hb75 := iteF hb75 rfl
          have hqb75 := Option.some.inj hb75
          cases b75 with
          | false =>
           replace hb77 := iteF hb77 rfl
           have hqb77 := Option.some.inj hb77
           subst hqb77
           simp (maxSteps := 1000000) only [↓reduceIte, reduceCtorEq, Nat.reduceEqDiff, Nat.reduceLT, Nat.reduceLeDiff, Nat.reduceAdd, Nat.reduceMul, Int.reduceToNat, push_cast, ↓hg78, ↓hqb72]
           try simp only [↓hg78, ↓hqb72] at hK
           try have q0 := c_bookendref11_Same hvr73
           try have q1 := c_bookendlaw11_awake hvr76
           all_goals exact rU
          | true =>
           cases hqb75
         | true =>
          cases hqb74
        | true =>
         replace hb74 := iteT hb74 rfl
         obtain ⟨vr73, hvr73, hb74⟩ := bindS hb74
         have hqb74 := Option.some.inj hb74
         cases b74 with
         | false =>
          subst hqb74
          replace hb75 := iteF hb75 rfl
          have hqb75 := Option.some.inj hb75
          cases b75 with
          | false =>
           replace hb77 := iteF hb77 rfl
           have hqb77 := Option.some.inj hb77
           subst hqb77
           simp (maxSteps := 1000000) only [↓reduceIte, reduceCtorEq, Nat.reduceEqDiff, Nat.reduceLT, Nat.reduceLeDiff, Nat.reduceAdd, Nat.reduceMul, Int.reduceToNat, push_cast, ↓hg78, ↓hqb72, hvr73]
           try simp only [↓hg78, ↓hqb72] at hK
           try have q0 := c_bookendref11_Same hvr73
           try have q1 := c_bookendlaw11_awake hvr76
           all_goals exact rU
          | true =>
           cases hqb75
         | true =>
          subst hqb74
          replace hb75 := iteT hb75 rfl
          have hqb75 := Option.some.inj hb75
          cases b75 with
          | false =>
           replace hb77 := iteF hb77 rfl
           have hqb77 := Option.some.inj hb77
           subst hqb77
           simp (maxSteps := 1000000) only [↓reduceIte, reduceCtorEq, Nat.reduceEqDiff, Nat.reduceLT, Nat.reduceLeDiff, Nat.reduceAdd, Nat.reduceMul, Int.reduceToNat, push_cast, ↓hg78, ↓hqb72, hvr73, ↓hqb75]
           try simp only [↓hg78, ↓hqb72, ↓hqb75] at hK
           try have q0 := c_bookendref11_Same hvr73
           try have q1 := c_bookendlaw11_awake hvr76
           all_goals exact rU
          | true =>
           replace hb77 := iteT hb77 rfl
           obtain ⟨vr76, hvr76, hb77⟩ := bindS hb77
           have hqb77 := Option.some.inj hb77
           subst hqb77
           simp (maxSteps := 1000000) only [↓reduceIte, reduceCtorEq, Nat.reduceEqDiff, Nat.reduceLT, Nat.reduceLeDiff, Nat.reduceAdd, Nat.reduceMul, Int.reduceToNat, push_cast, ↓hg78, ↓hqb72, hvr73, ↓hqb75, hvr76]
           try simp only [↓hg78, ↓hqb72, ↓hqb75] at hK
           try have q0 := c_bookendref11_Same hvr73
           try have q1 := c_bookendlaw11_awake hvr76
           all_goals exact rU) ?_
     refine awp_ret ?_
     obtain rfl := Option.some.inj h0
     refine leave_retG [] ?_
     exact rG
  ·
   refine awp_loopF (ι := { p : Nat × Int // bookendlaw11_MergeStates_l1 vs1 p.1 p.2 = some x29 }) (fun p => ⟨[(1, .str key2), (2, .ref 0 0 0 0), (5, .int .i64 p.1.2)], [(0, { g := 0, own := true, pure := true, sz := 5, es := [[.psl 1 (List.map (encSl 4 TApiEntry.enc) vs1.Runs), .psl 1 (List.map (encInt .i64) vs1.At), .psl 2 (List.map TApiLsKey.enc vs1.Tree.Keys), .psl 1 (List.map (encInt .i64) vs1.Tree.Lose), .int .i64 vs1.Tree.Win]] })], 248, []⟩) (fun p => p.1.1) ⟨(fu, 0), hxx29⟩ ⟨rF, rE, rfl, rfl, trivial, trivial⟩ (fun _ => Nat.le_refl _) ?_
   rintro ⟨⟨fu, i30⟩, h1⟩
   cases fu with
   | zero =>
   replace h1 : bookendlaw11_MergeStates_l1 vs1 0 i30 = some x29 := h1
   rw [bookendlaw11_MergeStates_l1] at h1; cases h1
   | succ fu =>
    replace h1 : bookendlaw11_MergeStates_l1 vs1 (fu + 1) i30 = some x29 := h1
    rw [bookendlaw11_MergeStates_l1] at h1
    refine (show AWP _ _ _ _ ⟨[(1, .str key2), (2, .ref 0 0 0 0), (5, .int .i64 i30)], [(0, { g := 0, own := true, pure := true, sz := 5, es := [[.psl 1 (List.map (encSl 4 TApiEntry.enc) vs1.Runs), .psl 1 (List.map (encInt .i64) vs1.At), .psl 2 (List.map TApiLsKey.enc vs1.Tree.Keys), .psl 1 (List.map (encInt .i64) vs1.Tree.Lose), .int .i64 vs1.Tree.Win]] })], 248, []⟩ from ?_)
    refine awp_seq ?_
    refine awp_sr2 296 [1, 2, 5, 52] (fun _ => none) rfl (fun _ _ => rT) ?_
    refine awp_if rfl (fun hb31 => ?_) (fun hb31 => ?_)
    ·
     replace h1 := iteT h1 hb31
     refine awp_skip ?_
     refine kn_then ?_
     refine awp_seq ?_
     refine awp_block ?_
     obtain ⟨e32, he32, h1⟩ := bindS h1
     obtain ⟨he32a, he32b, he32c⟩ := idxS he32
     refine awp_sr2 368 [1, 2, 5, 63] (fun _ => none) rfl (fun _ _ => rS (rA he32a (rA he32b he32c))) ?_
     refine awp_if rfl (fun hb33 => ?_) (fun hb33 => ?_)
     ·
      replace h1 := iteT h1 hb33
      obtain ⟨vr34, hvr34, h1⟩ := bindS h1
      refine awp_sr2 384 [4] (fun | 0 => some (.bool vr34, []) | _ => none) rfl (fun _ _ => rB (rA he32a (rA he32b he32c)) (c_bookendlaw11_awake hvr34)) ?_
      refine awp_ret ?_
      obtain rfl := Option.some.inj h1
      refine kr_block ?_
      refine kr_then ?_
      refine kr_then ?_
      refine kr_loop ?_
      refine kr_then ?_
      obtain rfl := Option.some.inj h0
      refine leave_retG [] ?_
      simp (maxSteps := 1000000) only [↓reduceIte, reduceCtorEq, Nat.reduceEqDiff, Nat.reduceLT, Nat.reduceLeDiff, Nat.reduceAdd, Nat.reduceMul, Int.reduceToNat, push_cast, Gives, he32a, he32b, he32c]
      all_goals exact rH
     ·
      replace h1 := iteF h1 hb33
      refine awp_skip ?_
      refine kn_block ?_
      refine kn_then ?_
      refine awp_r2 392 [1, 2, 5] (fun _ => none) rfl (fun _ _ => rS (rA he32a (rA he32b he32c))) ?_
      refine kn_then ?_
      exact ⟨⟨(fu, (IntKind.i64.wrap (i30 + 1))), h1⟩, ⟨rF, rE, rfl, rfl, trivial, trivial⟩, Nat.lt_succ_self _⟩
    ·
     replace h1 := iteF h1 hb31
     refine awp_exit ?_
     refine kx_then ?_
     refine kx_then ?_
     refine kx_done ?_
     obtain rfl := Option.some.inj h1
     exact ⟨_, rfl, Nat.le_of_ble_eq_true rfl, ⟨rF, rE, rfl, rfl, trivial, trivial⟩⟩
end Go.T
end
section
/- MergeStates: of any state, Check, Peek, Next, Left and Skip return what the reference returns; no conditions. -/
namespace Go.Proofs.Ytfbaoblejikccaa
open Go.T
theorem mergeStates : Rows.MergeStatesSaid :=
  mergeStates_over (fun x0 x1 w0 w1 => by
    obtain ⟨fu, h⟩ := (mergeStates_ev x0 x1).one
    exact ⟨_, c_bookendlaw11_MergeStates h⟩)
end Go.Proofs.Ytfbaoblejikccaa
end
