/- MergeSkips: for all runs and keys, Skip is Next as often as there are entries with a lesser key; no conditions. -/
import Derived.Test.YtfbaoblejikccaaB2
set_option linter.unusedSimpArgs false
set_option linter.unusedVariables false
section
/- The program computes them. -/
namespace Go.T
open Go Go.AM Go.Proofs
set_option maxRecDepth 100000
set_option maxHeartbeats 4000000
set_option linter.unusedVariables false
theorem c_bookendlaw11_awake {fu : Nat} {r : Bool} (h0 : bookendlaw11_awake fu = some r) : PCall Try.prog 10 [] (.bool r) [] := by
 refine awp_pcall Try.func10 rfl (by decide) (Nat.le_of_ble_eq_true rfl) ?_
 dsimp only [Try.f10, List.append]
 rw [bookendlaw11_awake] at h0
 refine (show AWP _ _ _ _ ⟨enumFr 0 _, [], 0, []⟩ from ?_)
 refine awp_sr2 8 [] (fun _ => none) rfl (fun _ _ => rT) ?_
 obtain ⟨vr1, hvr1, h0⟩ := bindS h0
 refine awp_sr2 24 [1] (fun | 0 => some (.psl 1 (vr1.map (encSl 4 TApiEntry.enc)), []) | _ => none) rfl (fun _ _ => rC (c_bookendlaw11_Example hvr1)) ?_
 obtain ⟨vr2, hvr2, h0⟩ := bindS h0
 refine awp_sr2 96 [1, 2, 3, 4] (fun | 1 => some (.tup [.psl 4 (vr2.1.map TApiEntry.enc), .psl 1 (vr2.2.1.map (encInt .i64)), .int .i64 vr2.2.2], []) | _ => none) rfl (fun _ _ => rC (c_merge_All hvr2)) ?_
 obtain ⟨vr3, hvr3, h0⟩ := bindS h0
 refine awp_sr2 176 [1, 2, 3, 4, 5, 7] (fun | 1 => some (.tup [.agg (TApiMgState.enc vr3.1), .int .i64 vr3.2.1, .int .i64 vr3.2.2], []) | _ => none) rfl (fun _ _ => rC (c_merge_Begin hvr3)) ?_
 obtain ⟨vr4, hvr4, h0⟩ := bindS h0
 refine awp_sr2 256 [1, 2, 3, 4, 5, 7, 8, 9, 10] (fun | 1 => some (.tup [.agg (TApiEntry.enc vr4.1), .int .i64 vr4.2.1, .int .i64 vr4.2.2], []) | _ => none) rfl (fun _ _ => rC (c_merge_Peek hvr4)) ?_
 obtain ⟨vr5, hvr5, h0⟩ := bindS h0
 refine awp_sr2 320 [1, 2, 3, 4, 7, 8, 9, 10, 11, 12] (fun | 1 => some (.tup [.agg (TApiMgState.enc vr5.1), .int .i64 vr5.2], []) | _ => none) rfl (fun _ _ => rC (c_merge_Skip hvr5)) ?_
 obtain ⟨vr6, hvr6, h0⟩ := bindS h0
 refine awp_sr2 424 [1, 2, 3, 4, 7, 8, 9, 10, 11, 12, 13, 14, 15, 16] (fun | 1 => some (.tup [.agg (TApiEntry.enc vr6.1), .int .i64 vr6.2.1, .agg (TApiMgState.enc vr6.2.2.1), .int .i64 vr6.2.2.2], []) | _ => none) rfl (fun _ _ => rC (c_merge_Next hvr6)) ?_
 obtain ⟨vr7, hvr7, h0⟩ := bindS h0
 refine awp_sr2 504 [1, 2, 3, 4, 7, 8, 9, 10, 11, 12, 13, 14, 16, 19] (fun | 1 => some (.tup [.agg (TApiEntry.enc vr7.1), .int .i64 vr7.2.1, .int .i64 vr7.2.2], []) | _ => none) rfl (fun _ _ => rC (c_merge_Peek hvr7)) ?_
 obtain ⟨vr8, hvr8, h0⟩ := bindS h0
 refine awp_sr2 616 [1, 2, 3, 4, 7, 8, 9, 10, 11, 12, 13, 14, 16, 19, 20, 21] (fun | 8 => some (.tup [.int .i64 vr8.1, .int .i64 vr8.2], []) | _ => none) rfl (fun _ _ => rC (c_merge_Check hvr8)) ?_
 refine awp_re (s2 := ⟨[(1, .psl 1 (List.map (encSl 4 TApiEntry.enc) vr1)), (2, .psl 4 (List.map TApiEntry.enc vr2.1)), (3, .psl 1 (List.map (encInt .i64) vr2.2.1)), (4, .int .i64 vr2.2.2), (7, .int .i64 vr3.2.2), (8, .ref 224 0 0 0), (9, .int .i64 vr4.2.1), (10, .int .i64 vr4.2.2), (11, .ref 296 0 0 0), (12, .int .i64 vr5.2), (13, .ref 376 0 0 0), (14, .int .i64 vr6.2.1), (16, .int .i64 vr6.2.2.2), (19, .int .i64 vr7.2.2), (20, .int .i64 vr8.1), (21, .int .i64 vr8.2)], [(144, { g := 0, own := true, pure := true, sz := 5, es := [[.psl 1 (List.map (encSl 4 TApiEntry.enc) vr3.1.Runs), .psl 1 (List.map (encInt .i64) vr3.1.At), .psl 2 (List.map TApiLsKey.enc vr3.1.Tree.Keys), .psl 1 (List.map (encInt .i64) vr3.1.Tree.Lose), .int .i64 vr3.1.Tree.Win]] }), (224, { g := 0, own := true, pure := true, sz := 4, es := [[.str vr4.1.Key, .str vr4.1.Val, .bool vr4.1.Dead, .int .i64 vr4.1.Seq]] }), (296, { g := 0, own := true, pure := true, sz := 5, es := [[.psl 1 (List.map (encSl 4 TApiEntry.enc) vr5.1.Runs), .psl 1 (List.map (encInt .i64) vr5.1.At), .psl 2 (List.map TApiLsKey.enc vr5.1.Tree.Keys), .psl 1 (List.map (encInt .i64) vr5.1.Tree.Lose), .int .i64 vr5.1.Tree.Win]] }), (376, { g := 0, own := true, pure := true, sz := 4, es := [[.str vr6.1.Key, .str vr6.1.Val, .bool vr6.1.Dead, .int .i64 vr6.1.Seq]] }), (384, { g := 0, own := true, pure := true, sz := 5, es := [[.psl 1 (List.map (encSl 4 TApiEntry.enc) vr6.2.2.1.Runs), .psl 1 (List.map (encInt .i64) vr6.2.2.1.At), .psl 2 (List.map TApiLsKey.enc vr6.2.2.1.Tree.Keys), .psl 1 (List.map (encInt .i64) vr6.2.2.1.Tree.Lose), .int .i64 vr6.2.2.1.Tree.Win]] }), (472, { g := 0, own := true, pure := true, sz := 4, es := [[.str vr7.1.Key, .str vr7.1.Val, .bool vr7.1.Dead, .int .i64 vr7.1.Seq]] }), (512, { g := 0, own := true, pure := true, sz := 1, es := List.map (encInt .i64) [0, 3] }), (536, { g := 0, own := true, pure := true, sz := 2, es := List.map TApiLsKey.enc [(TApiLsKey.mk [98] false), (TApiLsKey.mk [] true)] }), (544, { g := 0, own := true, pure := true, sz := 1, es := List.map (encInt .i64) [0, 1] })], 616, []⟩) [] (Nat.le_of_ble_eq_true rfl) ⟨rF, rE, rfl, rfl, trivial, trivial⟩ ?_
 obtain ⟨e9, he9, h0⟩ := bindS h0
 have he9b := (idxS he9).2.1
 have he9c := (idxL 1 he9 rfl).1
 have he9a := (idxL 1 he9 rfl).2
 obtain ⟨e10, he10, h0⟩ := bindS h0
 have he10b := (idxS he10).2.1
 have he10c := (idxL 0 he10 rfl).1
 have he10a := (idxL 0 he10 rfl).2
 obtain ⟨e11, he11, h0⟩ := bindS h0
 have he11b := (idxS he11).2.1
 have he11c := (idxL 0 he11 rfl).1
 have he11a := (idxL 0 he11 rfl).2
 obtain ⟨e12, he12, h0⟩ := bindS h0
 have he12b := (idxS he12).2.1
 have he12c := (idxL 0 he12 rfl).1
 have he12a := (idxL 0 he12 rfl).2
 obtain ⟨e13, he13, h0⟩ := bindS h0
 have he13b := (idxS he13).2.1
 have he13c := (idxL 1 he13 rfl).1
 have he13a := (idxL 1 he13 rfl).2
 obtain ⟨e14, he14, h0⟩ := bindS h0
 have he14b := (idxS he14).2.1
 have he14c := (idxL 2 he14 rfl).1
 have he14a := (idxL 2 he14 rfl).2
 obtain ⟨vr15, hvr15, h0⟩ := bindS h0
 obtain ⟨b17, hb17, h0⟩ := bindS h0
 obtain ⟨b18, hb18, h0⟩ := bindS h0
 obtain ⟨b19, hb19, h0⟩ := bindS h0
 obtain ⟨b20, hb20, h0⟩ := bindS h0
 obtain ⟨b21, hb21, h0⟩ := bindS h0
 obtain ⟨b22, hb22, h0⟩ := bindS h0
 obtain ⟨b24, hb24, h0⟩ := bindS h0
 obtain ⟨b25, hb25, h0⟩ := bindS h0
 obtain ⟨b26, hb26, h0⟩ := bindS h0
 obtain ⟨b27, hb27, h0⟩ := bindS h0
 obtain ⟨b28, hb28, h0⟩ := bindS h0
 obtain ⟨b29, hb29, h0⟩ := bindS h0
 obtain ⟨b30, hb30, h0⟩ := bindS h0
 obtain ⟨b31, hb31, h0⟩ := bindS h0
 refine awp_sd3 (fr' := [(0, .bool b31)]) (hp' := [(144, { g := 0, own := true, pure := true, sz := 5, es := [[.psl 1 (List.map (encSl 4 TApiEntry.enc) vr3.1.Runs), .psl 1 (List.map (encInt .i64) vr3.1.At), .psl 2 (List.map TApiLsKey.enc vr3.1.Tree.Keys), .psl 1 (List.map (encInt .i64) vr3.1.Tree.Lose), .int .i64 vr3.1.Tree.Win]] }), (224, { g := 0, own := true, pure := true, sz := 4, es := [[.str vr4.1.Key, .str vr4.1.Val, .bool vr4.1.Dead, .int .i64 vr4.1.Seq]] }), (296, { g := 0, own := true, pure := true, sz := 5, es := [[.psl 1 (List.map (encSl 4 TApiEntry.enc) vr5.1.Runs), .psl 1 (List.map (encInt .i64) vr5.1.At), .psl 2 (List.map TApiLsKey.enc vr5.1.Tree.Keys), .psl 1 (List.map (encInt .i64) vr5.1.Tree.Lose), .int .i64 vr5.1.Tree.Win]] }), (376, { g := 0, own := true, pure := true, sz := 4, es := [[.str vr6.1.Key, .str vr6.1.Val, .bool vr6.1.Dead, .int .i64 vr6.1.Seq]] }), (384, { g := 0, own := true, pure := true, sz := 5, es := [[.psl 1 (List.map (encSl 4 TApiEntry.enc) vr6.2.2.1.Runs), .psl 1 (List.map (encInt .i64) vr6.2.2.1.At), .psl 2 (List.map TApiLsKey.enc vr6.2.2.1.Tree.Keys), .psl 1 (List.map (encInt .i64) vr6.2.2.1.Tree.Lose), .int .i64 vr6.2.2.1.Tree.Win]] }), (472, { g := 0, own := true, pure := true, sz := 4, es := [[.str vr7.1.Key, .str vr7.1.Val, .bool vr7.1.Dead, .int .i64 vr7.1.Seq]] }), (512, { g := 0, own := true, pure := true, sz := 1, es := List.map (encInt .i64) [0, 3] }), (536, { g := 0, own := true, pure := true, sz := 2, es := List.map TApiLsKey.enc [(TApiLsKey.mk [98] false), (TApiLsKey.mk [] true)] }), (544, { g := 0, own := true, pure := true, sz := 1, es := List.map (encInt .i64) [0, 1] }), (784, { g := 0, own := true, pure := true, sz := 4, es := List.map TApiEntry.enc [e10, e12, e13, e14] })]) [144, 224, 296, 376, 384, 472, 512, 536, 544, 784] 1360 [0] (fun | 22 => some (.bool vr15, []) | 26 => (bookendref10_Ints fu vr2.2.1 [1, 0, 1, 1]).bind fun vr16 => some (.bool vr16, []) | 57 => (bookendref10_Ints fu vr5.1.At [1, 2]).bind fun vr23 => some (.bool vr23, []) | _ => none) rfl rfl rfl (fun Kt hK => by
   cases vr15 with
   | false =>
    replace hb17 := iteF hb17 rfl
    have hqb17 := Option.some.inj hb17
    cases b17 with
    | false =>
     replace hb18 := iteF hb18 rfl
     have hqb18 := Option.some.inj hb18
     cases b18 with
     | false =>
      replace hb19 := iteF hb19 rfl
      have hqb19 := Option.some.inj hb19
      cases b19 with
      | false =>
       replace hb20 := iteF hb20 rfl
       have hqb20 := Option.some.inj hb20
       cases b20 with
       | false =>
        replace hb21 := iteF hb21 rfl
        have hqb21 := Option.some.inj hb21
        cases b21 with
        | false =>
         replace hb22 := iteF hb22 rfl
         have hqb22 := Option.some.inj hb22
         cases b22 with
         | false =>
          replace hb24 := iteF hb24 rfl
          have hqb24 := Option.some.inj hb24
          cases b24 with
          | false =>
           replace hb25 := iteF hb25 rfl
           have hqb25 := Option.some.inj hb25
           cases b25 with
           | false =>
            replace hb26 := iteF hb26 rfl
            have hqb26 := Option.some.inj hb26
            cases b26 with
            | false =>
             replace hb27 := iteF hb27 rfl
             have hqb27 := Option.some.inj hb27
             cases b27 with
             | false =>
              replace hb28 := iteF hb28 rfl
              have hqb28 := Option.some.inj hb28
              cases b28 with
              | false =>
               replace hb29 := iteF hb29 rfl
               have hqb29 := Option.some.inj hb29
               cases b29 with
               | false =>
                replace hb30 := iteF hb30 rfl
                have hqb30 := Option.some.inj hb30
                cases b30 with
                | false =>
                 replace hb31 := iteF hb31 rfl
                 have hqb31 := Option.some.inj hb31
                 subst hqb31
                 try have q0 := c_bookendref11_SameEntries hvr15
                 try have q1 := c_bookendref10_Ints hvr16
                 try have q2 := c_bookendref10_Ints hvr23
                 exact rSd (rA he9a (rA he9b (rA he9c (rA he10a (rA he10b (rA he10c (rA he11a (rA he11b (rA he11c (rA he12a (rA he12b (rA he12c (rA he13a (rA he13b (rA he13c (rA he14a (rA he14b he14c)))))))))))))))))
                | true =>
                 cases hqb30
               | true =>
                cases hqb29
              | true =>
               cases hqb28
             | true =>
              cases hqb27
            | true =>
             cases hqb26
           | true =>
            cases hqb25
          | true =>
           cases hqb24
         | true =>
          cases hqb22
        | true =>
         cases hqb21
       | true =>
        cases hqb20
      | true =>
       cases hqb19
     | true =>
      cases hqb18
    | true =>
     cases hqb17
   | true =>
    replace hb17 := iteT hb17 rfl
    obtain ⟨vr16, hvr16, hb17⟩ := bindS hb17
    have hqb17 := Option.some.inj hb17
    cases b17 with
    | false =>
     subst hqb17
     replace hb18 := iteF hb18 rfl
     have hqb18 := Option.some.inj hb18
     cases b18 with
     | false =>
      replace hb19 := iteF hb19 rfl
      have hqb19 := Option.some.inj hb19
      cases b19 with
      | false =>
       replace hb20 := iteF hb20 rfl
       have hqb20 := Option.some.inj hb20
       cases b20 with
       | false =>
        replace hb21 := iteF hb21 rfl
        have hqb21 := Option.some.inj hb21
        cases b21 with
        | false =>
         replace hb22 := iteF hb22 rfl
         have hqb22 := Option.some.inj hb22
         cases b22 with
         | false =>
          replace hb24 := iteF hb24 rfl
          have hqb24 := Option.some.inj hb24
          cases b24 with
          | false =>
           replace hb25 := iteF hb25 rfl
           have hqb25 := Option.some.inj hb25
           cases b25 with
           | false =>
            replace hb26 := iteF hb26 rfl
            have hqb26 := Option.some.inj hb26
            cases b26 with
            | false =>
             replace hb27 := iteF hb27 rfl
             have hqb27 := Option.some.inj hb27
             cases b27 with
             | false =>
              replace hb28 := iteF hb28 rfl
              have hqb28 := Option.some.inj hb28
              cases b28 with
              | false =>
               replace hb29 := iteF hb29 rfl
               have hqb29 := Option.some.inj hb29
               cases b29 with
               | false =>
                replace hb30 := iteF hb30 rfl
                have hqb30 := Option.some.inj hb30
                cases b30 with
                | false =>
                 replace hb31 := iteF hb31 rfl
                 have hqb31 := Option.some.inj hb31
                 subst hqb31
                 try have q0 := c_bookendref11_SameEntries hvr15
                 try have q1 := c_bookendref10_Ints hvr16
                 try have q2 := c_bookendref10_Ints hvr23
                 exact rSd (rA he9a (rA he9b (rA he9c (rA he10a (rA he10b (rA he10c (rA he11a (rA he11b (rA he11c (rA he12a (rA he12b (rA he12c (rA he13a (rA he13b (rA he13c (rA he14a (rA he14b (rA he14c hvr16))))))))))))))))))
                | true =>
                 cases hqb30
               | true =>
                cases hqb29
              | true =>
               cases hqb28
             | true =>
              cases hqb27
            | true =>
             cases hqb26
           | true =>
            cases hqb25
          | true =>
           cases hqb24
         | true =>
          cases hqb22
        | true =>
         cases hqb21
       | true =>
        cases hqb20
      | true =>
       cases hqb19
     | true =>
      cases hqb18
    | true =>
     subst hqb17
     replace hb18 := iteT hb18 rfl
     have hqb18 := Option.some.inj hb18
     cases b18 with
     | false =>
      replace hb19 := iteF hb19 rfl
      have hqb19 := Option.some.inj hb19
      cases b19 with
      | false =>
       replace hb20 := iteF hb20 rfl
       have hqb20 := Option.some.inj hb20
       cases b20 with
       | false =>
        replace hb21 := iteF hb21 rfl
        have hqb21 := Option.some.inj hb21
        cases b21 with
        | false =>
         replace hb22 := iteF hb22 rfl
         have hqb22 := Option.some.inj hb22
         cases b22 with
         | false =>
          replace hb24 := iteF hb24 rfl
          have hqb24 := Option.some.inj hb24
          cases b24 with
          | false =>
           replace hb25 := iteF hb25 rfl
           have hqb25 := Option.some.inj hb25
           cases b25 with
           | false =>
            replace hb26 := iteF hb26 rfl
            have hqb26 := Option.some.inj hb26
            cases b26 with
            | false =>
             replace hb27 := iteF hb27 rfl
             have hqb27 := Option.some.inj hb27
             cases b27 with
             | false =>
              replace hb28 := iteF hb28 rfl
              have hqb28 := Option.some.inj hb28
              cases b28 with
              | false =>
               replace hb29 := iteF hb29 rfl
               have hqb29 := Option.some.inj hb29
               cases b29 with
               | false =>
                replace hb30 := iteF hb30 rfl
                have hqb30 := Option.some.inj hb30
                cases b30 with
                | false =>
                 replace hb31 := iteF hb31 rfl
                 have hqb31 := Option.some.inj hb31
                 subst hqb31
                 simp (maxSteps := 1000000) only [↓reduceIte, reduceCtorEq, Nat.reduceEqDiff, Nat.reduceLT, Nat.reduceLeDiff, Nat.reduceAdd, Nat.reduceMul, Int.reduceToNat, push_cast, he9a, he9b, he9c, he10a, he10b, he10c, he11a, he11b, he11c, he12a, he12b, he12c, he13a, he13b, he13c, he14a, he14b, he14c, hvr16, ↓hqb18]
                 try simp only [↓hqb18] at hK
                 try have q0 := c_bookendref11_SameEntries hvr15
                 try have q1 := c_bookendref10_Ints hvr16
                 try have q2 := c_bookendref10_Ints hvr23
                 all_goals exact rUd
                | true =>
                 cases hqb30
               | true =>
                cases hqb29
              | true =>
               cases hqb28
             | true =>
              cases hqb27
            | true =>
             cases hqb26
           | true =>
            cases hqb25
          | true =>
           cases hqb24
         | true =>
          cases hqb22
        | true =>
         cases hqb21
       | true =>
        cases hqb20
      | true =>
       cases hqb19
     | true =>
      replace hb19 := iteT hb19 rfl
      have hqb19 := Option.some.inj hb19
      cases b19 with
      | false =>
       replace hb20 := iteF hb20 rfl
       have hqb20 := Option.some.inj hb20
       cases b20 with
       | false =>
        replace hb21 := iteF hb21 rfl
        have hqb21 := Option.some.inj hb21
        cases b21 with
        | false =>
         replace hb22 := iteF hb22 rfl
         have hqb22 := Option.some.inj hb22
         cases b22 with
         | false =>
          replace hb24 := iteF hb24 rfl
          have hqb24 := Option.some.inj hb24
          cases b24 with
          | false =>
           replace hb25 := iteF hb25 rfl
           have hqb25 := Option.some.inj hb25
           cases b25 with
           | false =>
            replace hb26 := iteF hb26 rfl
            have hqb26 := Option.some.inj hb26
            cases b26 with
            | false =>
             replace hb27 := iteF hb27 rfl
             have hqb27 := Option.some.inj hb27
             cases b27 with
             | false =>
              replace hb28 := iteF hb28 rfl
              have hqb28 := Option.some.inj hb28
              cases b28 with
              | false =>
               replace hb29 := iteF hb29 rfl
               have hqb29 := Option.some.inj hb29
               cases b29 with
               | false =>
                replace hb30 := iteF hb30 rfl
                have hqb30 := Option.some.inj hb30
                cases b30 with
                | false =>
                 replace hb31 := iteF hb31 rfl
                 have hqb31 := Option.some.inj hb31
                 subst hqb31
                 simp (maxSteps := 1000000) only [↓reduceIte, reduceCtorEq, Nat.reduceEqDiff, Nat.reduceLT, Nat.reduceLeDiff, Nat.reduceAdd, Nat.reduceMul, Int.reduceToNat, push_cast, he9a, he9b, he9c, he10a, he10b, he10c, he11a, he11b, he11c, he12a, he12b, he12c, he13a, he13b, he13c, he14a, he14b, he14c, hvr16, ↓hqb18, ↓hqb19]
                 try simp only [↓hqb18, ↓hqb19] at hK
                 try have q0 := c_bookendref11_SameEntries hvr15
                 try have q1 := c_bookendref10_Ints hvr16
                 try have q2 := c_bookendref10_Ints hvr23
                 all_goals exact rUd
                | true =>
                 cases hqb30
               | true =>
                cases hqb29
              | true =>
               cases hqb28
             | true =>
              cases hqb27
            | true =>
             cases hqb26
           | true =>
            cases hqb25
          | true =>
           cases hqb24
         | true =>
          cases hqb22
        | true =>
         cases hqb21
       | true =>
        cases hqb20
      | true =>
       replace hb20 := iteT hb20 rfl
       have hqb20 := Option.some.inj hb20
       cases b20 with
       | false =>
        replace hb21 := iteF hb21 rfl
        have hqb21 := Option.some.inj hb21
        cases b21 with
        | false =>
         replace hb22 := iteF hb22 rfl
         have hqb22 := Option.some.inj hb22
         cases b22 with
         | false =>
          replace hb24 := iteF hb24 rfl
          have hqb24 := Option.some.inj hb24
          cases b24 with
          | false =>
           replace hb25 := iteF hb25 rfl
           have hqb25 := Option.some.inj hb25
           cases b25 with
           | false =>
            replace hb26 := iteF hb26 rfl
            have hqb26 := Option.some.inj hb26
            cases b26 with
            | false =>
             replace hb27 := iteF hb27 rfl
             have hqb27 := Option.some.inj hb27
             cases b27 with
             | false =>
              replace hb28 := iteF hb28 rfl
              have hqb28 := Option.some.inj hb28
              cases b28 with
              | false =>
               replace hb29 := iteF hb29 rfl
               have hqb29 := Option.some.inj hb29
               cases b29 with
               | false =>
                replace hb30 := iteF hb30 rfl
                have hqb30 := Option.some.inj hb30
                cases b30 with
                | false =>
                 replace hb31 := iteF hb31 rfl
                 have hqb31 := Option.some.inj hb31
                 subst hqb31
                 simp (maxSteps := 1000000) only [↓reduceIte, reduceCtorEq, Nat.reduceEqDiff, Nat.reduceLT, Nat.reduceLeDiff, Nat.reduceAdd, Nat.reduceMul, Int.reduceToNat, push_cast, he9a, he9b, he9c, he10a, he10b, he10c, he11a, he11b, he11c, he12a, he12b, he12c, he13a, he13b, he13c, he14a, he14b, he14c, hvr16, ↓hqb18, ↓hqb19, ↓hqb20]
                 try simp only [↓hqb18, ↓hqb19, ↓hqb20] at hK
                 try have q0 := c_bookendref11_SameEntries hvr15
                 try have q1 := c_bookendref10_Ints hvr16
                 try have q2 := c_bookendref10_Ints hvr23
                 all_goals exact rUd
                | true =>
                 cases hqb30
               | true =>
                cases hqb29
              | true =>
               cases hqb28
             | true =>
              cases hqb27
            | true =>
             cases hqb26
           | true =>
            cases hqb25
          | true =>
           cases hqb24
         | true =>
          cases hqb22
        | true =>
         cases hqb21
       | true =>
        replace hb21 := iteT hb21 rfl
        have hqb21 := Option.some.inj hb21
        cases b21 with
        | false =>
         replace hb22 := iteF hb22 rfl
         have hqb22 := Option.some.inj hb22
         cases b22 with
         | false =>
          replace hb24 := iteF hb24 rfl
          have hqb24 := Option.some.inj hb24
          cases b24 with
          | false =>
           replace hb25 := iteF hb25 rfl
           have hqb25 := Option.some.inj hb25
           cases b25 with
           | false =>
            replace hb26 := iteF hb26 rfl
            have hqb26 := Option.some.inj hb26
            cases b26 with
            | false =>
             replace hb27 := iteF hb27 rfl
             have hqb27 := Option.some.inj hb27
             cases b27 with
             | false =>
              replace hb28 := iteF hb28 rfl
              have hqb28 := Option.some.inj hb28
              cases b28 with
              | false =>
               replace hb29 := iteF hb29 rfl
               have hqb29 := Option.some.inj hb29
               cases b29 with
               | false =>
                replace hb30 := iteF hb30 rfl
                have hqb30 := Option.some.inj hb30
                cases b30 with
                | false =>
                 replace hb31 := iteF hb31 rfl
                 have hqb31 := Option.some.inj hb31
                 subst hqb31
                 simp (maxSteps := 1000000) only [↓reduceIte, reduceCtorEq, Nat.reduceEqDiff, Nat.reduceLT, Nat.reduceLeDiff, Nat.reduceAdd, Nat.reduceMul, Int.reduceToNat, push_cast, he9a, he9b, he9c, he10a, he10b, he10c, he11a, he11b, he11c, he12a, he12b, he12c, he13a, he13b, he13c, he14a, he14b, he14c, hvr16, ↓hqb18, ↓hqb19, ↓hqb20, ↓hqb21]
                 try simp only [↓hqb18, ↓hqb19, ↓hqb20, ↓hqb21] at hK
                 try have q0 := c_bookendref11_SameEntries hvr15
                 try have q1 := c_bookendref10_Ints hvr16
                 try have q2 := c_bookendref10_Ints hvr23
                 all_goals exact rUd
                | true =>
                 cases hqb30
               | true =>
                cases hqb29
              | true =>
               cases hqb28
             | true =>
              cases hqb27
            | true =>
             cases hqb26
           | true =>
            cases hqb25
          | true =>
           cases hqb24
         | true =>
          cases hqb22
        | true =>
         replace hb22 := iteT hb22 rfl
         have hqb22 := Option.some.inj hb22
         cases b22 with
         | false =>
          replace hb24 := iteF hb24 rfl
          have hqb24 := Option.some.inj hb24
          cases b24 with
          | false =>
           replace hb25 := iteF hb25 rfl
           have hqb25 := Option.some.inj hb25
           cases b25 with
           | false =>
            replace hb26 := iteF hb26 rfl
            have hqb26 := Option.some.inj hb26
            cases b26 with
            | false =>
             replace hb27 := iteF hb27 rfl
             have hqb27 := Option.some.inj hb27
             cases b27 with
             | false =>
              replace hb28 := iteF hb28 rfl
              have hqb28 := Option.some.inj hb28
              cases b28 with
              | false =>
               replace hb29 := iteF hb29 rfl
               have hqb29 := Option.some.inj hb29
               cases b29 with
               | false =>
                replace hb30 := iteF hb30 rfl
                have hqb30 := Option.some.inj hb30
                cases b30 with
                | false =>
                 replace hb31 := iteF hb31 rfl
                 have hqb31 := Option.some.inj hb31
                 subst hqb31
                 simp (maxSteps := 1000000) only [↓reduceIte, reduceCtorEq, Nat.reduceEqDiff, Nat.reduceLT, Nat.reduceLeDiff, Nat.reduceAdd, Nat.reduceMul, Int.reduceToNat, push_cast, he9a, he9b, he9c, he10a, he10b, he10c, he11a, he11b, he11c, he12a, he12b, he12c, he13a, he13b, he13c, he14a, he14b, he14c, hvr16, ↓hqb18, ↓hqb19, ↓hqb20, ↓hqb21, ↓hqb22]
                 try simp only [↓hqb18, ↓hqb19, ↓hqb20, ↓hqb21, ↓hqb22] at hK
                 try have q0 := c_bookendref11_SameEntries hvr15
                 try have q1 := c_bookendref10_Ints hvr16
                 try have q2 := c_bookendref10_Ints hvr23
                 all_goals exact rUd
                | true =>
                 cases hqb30
               | true =>
                cases hqb29
              | true =>
               cases hqb28
             | true =>
              cases hqb27
            | true =>
             cases hqb26
           | true =>
            cases hqb25
          | true =>
           cases hqb24
         | true =>
          replace hb24 := iteT hb24 rfl
          obtain ⟨vr23, hvr23, hb24⟩ := bindS hb24
          have hqb24 := Option.some.inj hb24
          cases b24 with
          | false =>
           subst hqb24
           replace hb25 := iteF hb25 rfl
           have hqb25 := Option.some.inj hb25
           cases b25 with
           | false =>
            replace hb26 := iteF hb26 rfl
            have hqb26 := Option.some.inj hb26
            cases b26 with
            | false =>
             replace hb27 := iteF hb27 rfl
             have hqb27 := Option.some.inj hb27
             cases b27 with
             | false =>
              replace hb28 := iteF hb28 rfl
              have hqb28 := Option.some.inj hb28
              cases b28 with
              | false =>
               replace hb29 := iteF hb29 rfl
               have hqb29 := Option.some.inj hb29
               cases b29 with
               | false =>
                replace hb30 := iteF hb30 rfl
                have hqb30 := Option.some.inj hb30
                cases b30 with
                | false =>
                 replace hb31 := iteF hb31 rfl
                 have hqb31 := Option.some.inj hb31
                 subst hqb31
                 simp (maxSteps := 1000000) only [↓reduceIte, reduceCtorEq, Nat.reduceEqDiff, Nat.reduceLT, Nat.reduceLeDiff, Nat.reduceAdd, Nat.reduceMul, Int.reduceToNat, push_cast, he9a, he9b, he9c, he10a, he10b, he10c, he11a, he11b, he11c, he12a, he12b, he12c, he13a, he13b, he13c, he14a, he14b, he14c, hvr16, ↓hqb18, ↓hqb19, ↓hqb20, ↓hqb21, ↓hqb22, hvr23]
                 try simp only [↓hqb18, ↓hqb19, ↓hqb20, ↓hqb21, ↓hqb22] at hK
                 try have q0 := c_bookendref11_SameEntries hvr15
                 try have q1 := c_bookendref10_Ints hvr16
                 try have q2 := c_bookendref10_Ints hvr23
                 all_goals exact rUd
                | true =>
                 cases hqb30
               | true =>
                cases hqb29
              | true =>
               cases hqb28
             | true =>
              cases hqb27
            | true =>
             cases hqb26
           | true =>
            cases hqb25
          | true =>
           subst hqb24
           replace hb25 := iteT hb25 rfl
           have hqb25 := Option.some.inj hb25
           cases b25 with
           | false =>
            replace hb26 := iteF hb26 rfl
            have hqb26 := Option.some.inj hb26
            cases b26 with
            | false =>
             replace hb27 := iteF hb27 rfl
             have hqb27 := Option.some.inj hb27
             cases b27 with
             | false =>
              replace hb28 := iteF hb28 rfl
              have hqb28 := Option.some.inj hb28
              cases b28 with
              | false =>
               replace hb29 := iteF hb29 rfl
               have hqb29 := Option.some.inj hb29
               cases b29 with
               | false =>
                replace hb30 := iteF hb30 rfl
                have hqb30 := Option.some.inj hb30
                cases b30 with
                | false =>
                 replace hb31 := iteF hb31 rfl
                 have hqb31 := Option.some.inj hb31
                 subst hqb31
                 simp (maxSteps := 1000000) only [↓reduceIte, reduceCtorEq, Nat.reduceEqDiff, Nat.reduceLT, Nat.reduceLeDiff, Nat.reduceAdd, Nat.reduceMul, Int.reduceToNat, push_cast, he9a, he9b, he9c, he10a, he10b, he10c, he11a, he11b, he11c, he12a, he12b, he12c, he13a, he13b, he13c, he14a, he14b, he14c, hvr16, ↓hqb18, ↓hqb19, ↓hqb20, ↓hqb21, ↓hqb22, hvr23, ↓hqb25]
                 try simp only [↓hqb18, ↓hqb19, ↓hqb20, ↓hqb21, ↓hqb22, ↓hqb25] at hK
                 try have q0 := c_bookendref11_SameEntries hvr15
                 try have q1 := c_bookendref10_Ints hvr16
                 try have q2 := c_bookendref10_Ints hvr23
                 all_goals exact rUd
                | true =>
                 cases hqb30
               | true =>
                cases hqb29
              | true =>
               cases hqb28
             | true =>
              cases hqb27
            | true =>
             cases hqb26
           | true =>
            replace hb26 := iteT hb26 rfl
            have hqb26 := Option.some.inj hb26
            cases b26 with
            | false =>
             replace hb27 := iteF hb27 rfl
             have hqb27 := Option.some.inj hb27
             cases b27 with
             | false =>
              replace hb28 := iteF hb28 rfl
              have hqb28 := Option.some.inj hb28
              cases b28 with
              | false =>
               replace hb29 := iteF hb29 rfl
               have hqb29 := Option.some.inj hb29
               cases b29 with
               | false =>
                replace hb30 := iteF hb30 rfl
                have hqb30 := Option.some.inj hb30
                cases b30 with
                | false =>
                 replace hb31 := iteF hb31 rfl
                 have hqb31 := Option.some.inj hb31
                 subst hqb31
                 simp (maxSteps := 1000000) only [↓reduceIte, reduceCtorEq, Nat.reduceEqDiff, Nat.reduceLT, Nat.reduceLeDiff, Nat.reduceAdd, Nat.reduceMul, Int.reduceToNat, push_cast, he9a, he9b, he9c, he10a, he10b, he10c, he11a, he11b, he11c, he12a, he12b, he12c, he13a, he13b, he13c, he14a, he14b, he14c, hvr16, ↓hqb18, ↓hqb19, ↓hqb20, ↓hqb21, ↓hqb22, hvr23, ↓hqb25, ↓hqb26]
                 try simp only [↓hqb18, ↓hqb19, ↓hqb20, ↓hqb21, ↓hqb22, ↓hqb25, ↓hqb26] at hK
                 try have q0 := c_bookendref11_SameEntries hvr15
                 try have q1 := c_bookendref10_Ints hvr16
                 try have q2 := c_bookendref10_Ints hvr23
                 all_goals exact rUd
                | true =>
                 cases hqb30
               | true =>
                cases hqb29
              | true =>
               cases hqb28
             | true =>
              cases hqb27
            | true =>
             replace hb27 := iteT hb27 rfl
             have hqb27 := Option.some.inj hb27
             cases b27 with
             | false =>
              replace hb28 := iteF hb28 rfl
              have hqb28 := Option.some.inj hb28
              cases b28 with
              | false =>
               replace hb29 := iteF hb29 rfl
               have hqb29 := Option.some.inj hb29
               cases b29 with
               | false =>
                replace hb30 := iteF hb30 rfl
                have hqb30 := Option.some.inj hb30
                cases b30 with
                | false =>
                 replace hb31 := iteF hb31 rfl
                 have hqb31 := Option.some.inj hb31
                 subst hqb31
                 simp (maxSteps := 1000000) only [↓reduceIte, reduceCtorEq, Nat.reduceEqDiff, Nat.reduceLT, Nat.reduceLeDiff, Nat.reduceAdd, Nat.reduceMul, Int.reduceToNat, push_cast, he9a, he9b, he9c, he10a, he10b, he10c, he11a, he11b, he11c, he12a, he12b, he12c, he13a, he13b, he13c, he14a, he14b, he14c, hvr16, ↓hqb18, ↓hqb19, ↓hqb20, ↓hqb21, ↓hqb22, hvr23, ↓hqb25, ↓hqb26, ↓hqb27]
                 try simp only [↓hqb18, ↓hqb19, ↓hqb20, ↓hqb21, ↓hqb22, ↓hqb25, ↓hqb26, ↓hqb27] at hK
                 try have q0 := c_bookendref11_SameEntries hvr15
                 try have q1 := c_bookendref10_Ints hvr16
                 try have q2 := c_bookendref10_Ints hvr23
                 all_goals exact rUd
                | true =>
                 cases hqb30
               | true =>
                cases hqb29
              | true =>
               cases hqb28
             | true =>
              replace hb28 := iteT hb28 rfl
              have hqb28 := Option.some.inj hb28
              cases b28 with
              | false =>
               replace hb29 := iteF hb29 rfl
               have hqb29 := Option.some.inj hb29
               cases b29 with
               | false =>
                replace hb30 := iteF hb30 rfl
                have hqb30 := Option.some.inj hb30
                cases b30 with
                | false =>
                 replace hb31 := iteF hb31 rfl
                 have hqb31 := Option.some.inj hb31
                 subst hqb31
                 simp (maxSteps := 1000000) only [↓reduceIte, reduceCtorEq, Nat.reduceEqDiff, Nat.reduceLT, Nat.reduceLeDiff, Nat.reduceAdd, Nat.reduceMul, Int.reduceToNat, push_cast, he9a, he9b, he9c, he10a, he10b, he10c, he11a, he11b, he11c, he12a, he12b, he12c, he13a, he13b, he13c, he14a, he14b, he14c, hvr16, ↓hqb18, ↓hqb19, ↓hqb20, ↓hqb21, ↓hqb22, hvr23, ↓hqb25, ↓hqb26, ↓hqb27, ↓hqb28]
                 try simp only [↓hqb18, ↓hqb19, ↓hqb20, ↓hqb21, ↓hqb22, ↓hqb25, ↓hqb26, ↓hqb27, ↓hqb28] at hK
                 try have q0 := c_bookendref11_SameEntries hvr15
                 try have q1 := c_bookendref10_Ints hvr16
                 try have q2 := c_bookendref10_Ints hvr23
                 all_goals exact rUd
                | true =>
                 cases hqb30
               | true =>
                cases hqb29
              | true =>
               replace hb29 := iteT hb29 rfl
               have hqb29 := Option.some.inj hb29
               cases b29 with
               | false =>
                replace hb30 := iteF hb30 rfl
                have hqb30 := Option.some.inj hb30
                cases b30 with
                | false =>
                 replace hb31 := iteF hb31 rfl
                 have hqb31 := Option.some.inj hb31
                 subst hqb31
                 simp (maxSteps := 1000000) only [↓reduceIte, reduceCtorEq, Nat.reduceEqDiff, Nat.reduceLT, Nat.reduceLeDiff, Nat.reduceAdd, Nat.reduceMul, Int.reduceToNat, push_cast, he9a, he9b, he9c, he10a, he10b, he10c, he11a, he11b, he11c, he12a, he12b, he12c, he13a, he13b, he13c, he14a, he14b, he14c, hvr16, ↓hqb18, ↓hqb19, ↓hqb20, ↓hqb21, ↓hqb22, hvr23, ↓hqb25, ↓hqb26, ↓hqb27, ↓hqb28, ↓hqb29]
                 try simp only [↓hqb18, ↓hqb19, ↓hqb20, ↓hqb21, ↓hqb22, ↓hqb25, ↓hqb26, ↓hqb27, ↓hqb28, ↓hqb29] at hK
                 try have q0 := c_bookendref11_SameEntries hvr15
                 try have q1 := c_bookendref10_Ints hvr16
                 try have q2 := c_bookendref10_Ints hvr23
                 all_goals exact rUd
                | true =>
                 cases hqb30
               | true =>
                replace hb30 := iteT hb30 rfl
                have hqb30 := Option.some.inj hb30
                cases b30 with
                | false =>
                 replace hb31 := iteF hb31 rfl
                 have hqb31 := Option.some.inj hb31
                 subst hqb31
                 simp (maxSteps := 1000000) only [↓reduceIte, reduceCtorEq, Nat.reduceEqDiff, Nat.reduceLT, Nat.reduceLeDiff, Nat.reduceAdd, Nat.reduceMul, Int.reduceToNat, push_cast, he9a, he9b, he9c, he10a, he10b, he10c, he11a, he11b, he11c, he12a, he12b, he12c, he13a, he13b, he13c, he14a, he14b, he14c, hvr16, ↓hqb18, ↓hqb19, ↓hqb20, ↓hqb21, ↓hqb22, hvr23, ↓hqb25, ↓hqb26, ↓hqb27, ↓hqb28, ↓hqb29, ↓hqb30]
                 try simp only [↓hqb18, ↓hqb19, ↓hqb20, ↓hqb21, ↓hqb22, ↓hqb25, ↓hqb26, ↓hqb27, ↓hqb28, ↓hqb29, ↓hqb30] at hK
                 try have q0 := c_bookendref11_SameEntries hvr15
                 try have q1 := c_bookendref10_Ints hvr16
                 try have q2 := c_bookendref10_Ints hvr23
                 all_goals exact rUd
                | true =>
                 replace hb31 := iteT hb31 rfl
                 have hqb31 := Option.some.inj hb31
                 subst hqb31
                 simp (maxSteps := 1000000) only [↓reduceIte, reduceCtorEq, Nat.reduceEqDiff, Nat.reduceLT, Nat.reduceLeDiff, Nat.reduceAdd, Nat.reduceMul, Int.reduceToNat, push_cast, he9a, he9b, he9c, he10a, he10b, he10c, he11a, he11b, he11c, he12a, he12b, he12c, he13a, he13b, he13c, he14a, he14b, he14c, hvr16, ↓hqb18, ↓hqb19, ↓hqb20, ↓hqb21, ↓hqb22, hvr23, ↓hqb25, ↓hqb26, ↓hqb27, ↓hqb28, ↓hqb29, ↓hqb30]
                 try simp only [↓hqb18, ↓hqb19, ↓hqb20, ↓hqb21, ↓hqb22, ↓hqb25, ↓hqb26, ↓hqb27, ↓hqb28, ↓hqb29, ↓hqb30] at hK
                 try have q0 := c_bookendref11_SameEntries hvr15
                 try have q1 := c_bookendref10_Ints hvr16
                 try have q2 := c_bookendref10_Ints hvr23
                 all_goals exact rUd) ?_
 refine awp_re (s2 := ⟨[(0, .bool b31)], [(144, { g := 0, own := true, pure := true, sz := 5, es := [[.psl 1 (List.map (encSl 4 TApiEntry.enc) vr3.1.Runs), .psl 1 (List.map (encInt .i64) vr3.1.At), .psl 2 (List.map TApiLsKey.enc vr3.1.Tree.Keys), .psl 1 (List.map (encInt .i64) vr3.1.Tree.Lose), .int .i64 vr3.1.Tree.Win]] }), (224, { g := 0, own := true, pure := true, sz := 4, es := [[.str vr4.1.Key, .str vr4.1.Val, .bool vr4.1.Dead, .int .i64 vr4.1.Seq]] }), (296, { g := 0, own := true, pure := true, sz := 5, es := [[.psl 1 (List.map (encSl 4 TApiEntry.enc) vr5.1.Runs), .psl 1 (List.map (encInt .i64) vr5.1.At), .psl 2 (List.map TApiLsKey.enc vr5.1.Tree.Keys), .psl 1 (List.map (encInt .i64) vr5.1.Tree.Lose), .int .i64 vr5.1.Tree.Win]] }), (376, { g := 0, own := true, pure := true, sz := 4, es := [[.str vr6.1.Key, .str vr6.1.Val, .bool vr6.1.Dead, .int .i64 vr6.1.Seq]] }), (384, { g := 0, own := true, pure := true, sz := 5, es := [[.psl 1 (List.map (encSl 4 TApiEntry.enc) vr6.2.2.1.Runs), .psl 1 (List.map (encInt .i64) vr6.2.2.1.At), .psl 2 (List.map TApiLsKey.enc vr6.2.2.1.Tree.Keys), .psl 1 (List.map (encInt .i64) vr6.2.2.1.Tree.Lose), .int .i64 vr6.2.2.1.Tree.Win]] }), (472, { g := 0, own := true, pure := true, sz := 4, es := [[.str vr7.1.Key, .str vr7.1.Val, .bool vr7.1.Dead, .int .i64 vr7.1.Seq]] }), (512, { g := 0, own := true, pure := true, sz := 1, es := List.map (encInt .i64) [0, 3] }), (536, { g := 0, own := true, pure := true, sz := 2, es := List.map TApiLsKey.enc [(TApiLsKey.mk [98] false), (TApiLsKey.mk [] true)] }), (544, { g := 0, own := true, pure := true, sz := 1, es := List.map (encInt .i64) [0, 1] }), (784, { g := 0, own := true, pure := true, sz := 4, es := List.map TApiEntry.enc [e10, e12, e13, e14] })], 1360, []⟩) [] (Nat.le_of_ble_eq_true rfl) ⟨rF, rE, rfl, rfl, trivial, trivial⟩ ?_
 refine awp_ret ?_
 obtain rfl := Option.some.inj h0
 refine leave_retG [] ?_
 simp (maxSteps := 1000000) only [↓reduceIte, reduceCtorEq, Nat.reduceEqDiff, Nat.reduceLT, Nat.reduceLeDiff, Nat.reduceAdd, Nat.reduceMul, Int.reduceToNat, push_cast, Gives, he9a, he9b, he9c, he10a, he10b, he10c, he11a, he11b, he11c, he12a, he12b, he12c, he13a, he13b, he13c, he14a, he14b, he14c]
 all_goals exact rH
end Go.T
end
section
/- The program computes them. -/
namespace Go.T
open Go Go.AM Go.Proofs
set_option maxRecDepth 100000
set_option maxHeartbeats 4000000
set_option linter.unusedVariables false
theorem c_bookendref10_Same {fu : Nat} {a1 : TApiLsTree} {b2 : TApiLsTree} {r : Bool} (h0 : bookendref10_Same fu a1 b2 = some r) : PCall Try.prog 36 [.agg (TApiLsTree.enc a1), .agg (TApiLsTree.enc b2)] (.bool r) [] := by
 refine awp_pcall Try.func36 rfl (by decide) (Nat.le_of_ble_eq_true rfl) ?_
 dsimp only [Try.f36]
 rw [bookendref10_Same] at h0
 refine (show AWP _ _ _ _ ⟨enumFr 0 _, [], 0, []⟩ from ?_)
 refine awp_sr2 24 [2, 3] (fun _ => none) rfl (fun _ _ => rT) ?_
 refine awp_seq ?_
 obtain ⟨b3, hb3, h0⟩ := bindS h0
 obtain ⟨b5, hb5, h0⟩ := bindS h0
 refine awp_sr3 (fr' := [(2, .ref 0 0 0 0), (3, .ref 8 0 0 0), (27, .bool b5)]) (hp' := [(0, { g := 0, own := true, pure := true, sz := 3, es := [[.psl 2 (List.map TApiLsKey.enc a1.Keys), .psl 1 (List.map (encInt .i64) a1.Lose), .int .i64 a1.Win]] }), (8, { g := 0, own := true, pure := true, sz := 3, es := [[.psl 2 (List.map TApiLsKey.enc b2.Keys), .psl 1 (List.map (encInt .i64) b2.Lose), .int .i64 b2.Win]] })]) [0, 8] 200 [2, 3, 27] (fun | 19 => (bookendref10_Ints fu a1.Lose b2.Lose).bind fun vr4 => some (.bool vr4, []) | _ => none) rfl (fun Kt hK => by
   cases hg6 : (!(decide ((a1.Keys.length : Int) = (b2.Keys.length : Int)))) with
   | false =>
    replace hb3 := iteF hb3 hg6
    have hqb3 := Option.some.inj hb3
    cases b3 with
    | false =>
     replace hb5 := iteF hb5 rfl
     obtain ⟨vr4, hvr4, hb5⟩ := bindS hb5
     have hqb5 := Option.some.inj hb5
     subst hqb5
     simp (maxSteps := 1000000) only [↓reduceIte, reduceCtorEq, Nat.reduceEqDiff, Nat.reduceLT, Nat.reduceLeDiff, Nat.reduceAdd, Nat.reduceMul, Int.reduceToNat, push_cast, ↓hg6, ↓hqb3, hvr4]
     try simp only [↓hg6, ↓hqb3] at hK
     try have q0 := c_bookendref10_Ints hvr4
     all_goals exact rU
    | true =>
     replace hb5 := iteT hb5 rfl
     have hqb5 := Option.some.inj hb5
     subst hqb5
     simp (maxSteps := 1000000) only [↓reduceIte, reduceCtorEq, Nat.reduceEqDiff, Nat.reduceLT, Nat.reduceLeDiff, Nat.reduceAdd, Nat.reduceMul, Int.reduceToNat, push_cast, ↓hg6, ↓hqb3]
     try simp only [↓hg6, ↓hqb3] at hK
     try have q0 := c_bookendref10_Ints hvr4
     all_goals exact rU
   | true =>
    replace hb3 := iteT hb3 hg6
    have hqb3 := Option.some.inj hb3
    cases b3 with
    | false =>
     cases hqb3
    | true =>
     replace hb5 := iteT hb5 rfl
     have hqb5 := Option.some.inj hb5
     subst hqb5
     simp (maxSteps := 1000000) only [↓reduceIte, reduceCtorEq, Nat.reduceEqDiff, Nat.reduceLT, Nat.reduceLeDiff, Nat.reduceAdd, Nat.reduceMul, Int.reduceToNat, push_cast, ↓hg6]
     try simp only [↓hg6] at hK
     try have q0 := c_bookendref10_Ints hvr4
     all_goals exact rU) ?_
 refine awp_if rfl (fun hb9 => ?_) (fun hb9 => ?_)
 ·
  replace h0 := iteT h0 hb9
  refine awp_sr2 208 [4] (fun _ => none) rfl (fun _ _ => rT) ?_
  refine awp_ret ?_
  refine kr_then ?_
  obtain rfl := Option.some.inj h0
  refine leave_retG [] ?_
  exact rG
 ·
  replace h0 := iteF h0 hb9
  refine awp_skip ?_
  refine kn_then ?_
  refine awp_seq ?_
  refine awp_sr2 208 [2, 3, 5] (fun _ => none) rfl (fun _ _ => rT) ?_
  obtain ⟨x19, hxx19, h0⟩ := bindS h0
  refine awp_bloop (fun s' => ∃ o25 : Unit, x19 = .inl o25 ∧ s'.nx ≤ 248 ∧ LeN [] s' ⟨[], [(0, { g := 0, own := true, pure := true, sz := 3, es := [[.psl 2 (List.map TApiLsKey.enc a1.Keys), .psl 1 (List.map (encInt .i64) a1.Lose), .int .i64 a1.Win]] }), (8, { g := 0, own := true, pure := true, sz := 3, es := [[.psl 2 (List.map TApiLsKey.enc b2.Keys), .psl 1 (List.map (encInt .i64) b2.Lose), .int .i64 b2.Win]] })], 248, []⟩) ?_ ?_
  ·
   intro s' hs
   obtain ⟨o25, rfl, hn, hs⟩ := hs
   refine kn_then ?_
   refine awp_re [] hn hs ?_
   refine awp_sr2 256 [4] (fun _ => none) rfl (fun _ _ => rT) ?_
   refine awp_ret ?_
   obtain rfl := Option.some.inj h0
   refine leave_retG [] ?_
   exact rG
  ·
   refine awp_loopF (ι := { p : Nat × Int // bookendref10_Same_l1 a1 b2 p.1 p.2 = some x19 }) (fun p => ⟨[(2, .ref 0 0 0 0), (3, .ref 8 0 0 0), (5, .int .i64 p.1.2)], [(0, { g := 0, own := true, pure := true, sz := 3, es := [[.psl 2 (List.map TApiLsKey.enc a1.Keys), .psl 1 (List.map (encInt .i64) a1.Lose), .int .i64 a1.Win]] }), (8, { g := 0, own := true, pure := true, sz := 3, es := [[.psl 2 (List.map TApiLsKey.enc b2.Keys), .psl 1 (List.map (encInt .i64) b2.Lose), .int .i64 b2.Win]] })], 208, []⟩) (fun p => p.1.1) ⟨(fu, 0), hxx19⟩ ⟨rF, rE, rfl, rfl, trivial, trivial⟩ (fun _ => Nat.le_refl _) ?_
   rintro ⟨⟨fu, i20⟩, h1⟩
   cases fu with
   | zero =>
   replace h1 : bookendref10_Same_l1 a1 b2 0 i20 = some x19 := h1
   rw [bookendref10_Same_l1] at h1; cases h1
   | succ fu =>
    replace h1 : bookendref10_Same_l1 a1 b2 (fu + 1) i20 = some x19 := h1
    rw [bookendref10_Same_l1] at h1
    refine (show AWP _ _ _ _ ⟨[(2, .ref 0 0 0 0), (3, .ref 8 0 0 0), (5, .int .i64 i20)], [(0, { g := 0, own := true, pure := true, sz := 3, es := [[.psl 2 (List.map TApiLsKey.enc a1.Keys), .psl 1 (List.map (encInt .i64) a1.Lose), .int .i64 a1.Win]] }), (8, { g := 0, own := true, pure := true, sz := 3, es := [[.psl 2 (List.map TApiLsKey.enc b2.Keys), .psl 1 (List.map (encInt .i64) b2.Lose), .int .i64 b2.Win]] })], 208, []⟩ from ?_)
    refine awp_seq ?_
    refine awp_sr2 248 [2, 3, 5, 32] (fun _ => none) rfl (fun _ _ => rT) ?_
    refine awp_if rfl (fun hb21 => ?_) (fun hb21 => ?_)
    ·
     replace h1 := iteT h1 hb21
     refine awp_skip ?_
     refine kn_then ?_
     refine awp_seq ?_
     refine awp_block ?_
     obtain ⟨e22, he22, h1⟩ := bindS h1
     obtain ⟨he22a, he22b, he22c⟩ := idxS he22
     obtain ⟨e23, he23, h1⟩ := bindS h1
     obtain ⟨he23a, he23b, he23c⟩ := idxS he23
     refine awp_sd2 336 [2, 3, 5, 45] (fun _ => none) rfl rfl rfl (fun _ _ => rSd (rA he22a (rA he22b (rA he22c (rA he23a (rA he23b he23c)))))) ?_
     refine awp_if rfl (fun hb24 => ?_) (fun hb24 => ?_)
     ·
      replace h1 := iteT h1 hb24
      refine awp_sr2 344 [4] (fun _ => none) rfl (fun _ _ => rS (rA he22a (rA he22b (rA he22c (rA he23a (rA he23b he23c)))))) ?_
      refine awp_ret ?_
      obtain rfl := Option.some.inj h1
      refine kr_block ?_
      refine kr_then ?_
      refine kr_then ?_
      refine kr_loop ?_
      refine kr_then ?_
      obtain rfl := Option.some.inj h0
      refine leave_retG [] ?_
      simp (maxSteps := 1000000) only [↓reduceIte, reduceCtorEq, Nat.reduceEqDiff, Nat.reduceLT, Nat.reduceLeDiff, Nat.reduceAdd, Nat.reduceMul, Int.reduceToNat, push_cast, Gives, he22a, he22b, he22c, he23a, he23b, he23c]
      all_goals exact rH
     ·
      replace h1 := iteF h1 hb24
      refine awp_skip ?_
      refine kn_block ?_
      refine kn_then ?_
      refine awp_r2 360 [2, 3, 5] (fun _ => none) rfl (fun _ _ => rS (rA he22a (rA he22b (rA he22c (rA he23a (rA he23b he23c)))))) ?_
      refine kn_then ?_
      exact ⟨⟨(fu, (IntKind.i64.wrap (i20 + 1))), h1⟩, ⟨rF, rE, rfl, rfl, trivial, trivial⟩, Nat.lt_succ_self _⟩
    ·
     replace h1 := iteF h1 hb21
     refine awp_exit ?_
     refine kx_then ?_
     refine kx_then ?_
     refine kx_done ?_
     obtain rfl := Option.some.inj h1
     exact ⟨_, rfl, Nat.le_of_ble_eq_true rfl, ⟨rF, rE, rfl, rfl, trivial, trivial⟩⟩
end Go.T
end
section
/- The program computes them. -/
namespace Go.T
open Go Go.AM Go.Proofs
set_option maxRecDepth 100000
set_option maxHeartbeats 4000000
set_option linter.unusedVariables false
theorem c_bookendref11_Same {fu : Nat} {a1 : TApiMgState} {b2 : TApiMgState} {r : Bool} (h0 : bookendref11_Same fu a1 b2 = some r) : PCall Try.prog 15 [.agg (TApiMgState.enc a1), .agg (TApiMgState.enc b2)] (.bool r) [] := by
 refine awp_pcall Try.func15 rfl (by decide) (Nat.le_of_ble_eq_true rfl) ?_
 dsimp only [Try.f15]
 rw [bookendref11_Same] at h0
 refine (show AWP _ _ _ _ ⟨enumFr 0 _, [], 0, []⟩ from ?_)
 refine awp_sr2 24 [2, 3] (fun _ => none) rfl (fun _ _ => rT) ?_
 refine awp_seq ?_
 obtain ⟨b4, hb4, h0⟩ := bindS h0
 obtain ⟨b6, hb6, h0⟩ := bindS h0
 refine awp_sr3 (fr' := [(2, .ref 0 0 0 0), (3, .ref 8 0 0 0), (28, .bool b6)]) (hp' := [(0, { g := 0, own := true, pure := true, sz := 5, es := [[.psl 1 (List.map (encSl 4 TApiEntry.enc) a1.Runs), .psl 1 (List.map (encInt .i64) a1.At), .psl 2 (List.map TApiLsKey.enc a1.Tree.Keys), .psl 1 (List.map (encInt .i64) a1.Tree.Lose), .int .i64 a1.Tree.Win]] }), (8, { g := 0, own := true, pure := true, sz := 5, es := [[.psl 1 (List.map (encSl 4 TApiEntry.enc) b2.Runs), .psl 1 (List.map (encInt .i64) b2.At), .psl 2 (List.map TApiLsKey.enc b2.Tree.Keys), .psl 1 (List.map (encInt .i64) b2.Tree.Lose), .int .i64 b2.Tree.Win]] })]) [0, 8] 208 [2, 3, 28] (fun | 12 => (bookendref10_Ints fu a1.At b2.At).bind fun vr3 => some (.bool vr3, []) | 20 => (bookendref10_Same fu a1.Tree b2.Tree).bind fun vr5 => some (.bool vr5, []) | _ => none) rfl (fun Kt hK => by
   cases hg7 : (!(decide ((a1.Runs.length : Int) = (b2.Runs.length : Int)))) with
   | false =>
    replace hb4 := iteF hb4 hg7
    obtain ⟨vr3, hvr3, hb4⟩ := bindS hb4
    have hqb4 := Option.some.inj hb4
    cases b4 with
    | false =>
     replace hb6 := iteF hb6 rfl
     obtain ⟨vr5, hvr5, hb6⟩ := bindS hb6
     have hqb6 := Option.some.inj hb6
     subst hqb6
     simp (maxSteps := 1000000) only [↓reduceIte, reduceCtorEq, Nat.reduceEqDiff, Nat.reduceLT, Nat.reduceLeDiff, Nat.reduceAdd, Nat.reduceMul, Int.reduceToNat, push_cast, ↓hg7, hvr3, ↓hqb4, hvr5]
     try simp only [↓hg7, ↓hqb4] at hK
     try have q0 := c_bookendref10_Ints hvr3
     try have q1 := c_bookendref10_Same hvr5
     all_goals exact rU
    | true =>
     replace hb6 := iteT hb6 rfl
     have hqb6 := Option.some.inj hb6
     subst hqb6
     simp (maxSteps := 1000000) only [↓reduceIte, reduceCtorEq, Nat.reduceEqDiff, Nat.reduceLT, Nat.reduceLeDiff, Nat.reduceAdd, Nat.reduceMul, Int.reduceToNat, push_cast, ↓hg7, hvr3, ↓hqb4]
     try simp only [↓hg7, ↓hqb4] at hK
     try have q0 := c_bookendref10_Ints hvr3
     try have q1 := c_bookendref10_Same hvr5
     all_goals exact rU
   | true =>
    replace hb4 := iteT hb4 hg7
    have hqb4 := Option.some.inj hb4
    cases b4 with
    | false =>
     cases hqb4
    | true =>
     replace hb6 := iteT hb6 rfl
     have hqb6 := Option.some.inj hb6
     subst hqb6
     simp (maxSteps := 1000000) only [↓reduceIte, reduceCtorEq, Nat.reduceEqDiff, Nat.reduceLT, Nat.reduceLeDiff, Nat.reduceAdd, Nat.reduceMul, Int.reduceToNat, push_cast, ↓hg7]
     try simp only [↓hg7] at hK
     try have q0 := c_bookendref10_Ints hvr3
     try have q1 := c_bookendref10_Same hvr5
     all_goals exact rU) ?_
 refine awp_if rfl (fun hb10 => ?_) (fun hb10 => ?_)
 ·
  replace h0 := iteT h0 hb10
  refine awp_sr2 216 [4] (fun _ => none) rfl (fun _ _ => rT) ?_
  refine awp_ret ?_
  refine kr_then ?_
  obtain rfl := Option.some.inj h0
  refine leave_retG [] ?_
  exact rG
 ·
  replace h0 := iteF h0 hb10
  refine awp_skip ?_
  refine kn_then ?_
  refine awp_seq ?_
  refine awp_sr2 216 [2, 3, 5] (fun _ => none) rfl (fun _ _ => rT) ?_
  obtain ⟨x22, hxx22, h0⟩ := bindS h0
  refine awp_bloop (fun s' => ∃ o29 : Unit, x22 = .inl o29 ∧ s'.nx ≤ 256 ∧ LeN [] s' ⟨[], [(0, { g := 0, own := true, pure := true, sz := 5, es := [[.psl 1 (List.map (encSl 4 TApiEntry.enc) a1.Runs), .psl 1 (List.map (encInt .i64) a1.At), .psl 2 (List.map TApiLsKey.enc a1.Tree.Keys), .psl 1 (List.map (encInt .i64) a1.Tree.Lose), .int .i64 a1.Tree.Win]] }), (8, { g := 0, own := true, pure := true, sz := 5, es := [[.psl 1 (List.map (encSl 4 TApiEntry.enc) b2.Runs), .psl 1 (List.map (encInt .i64) b2.At), .psl 2 (List.map TApiLsKey.enc b2.Tree.Keys), .psl 1 (List.map (encInt .i64) b2.Tree.Lose), .int .i64 b2.Tree.Win]] })], 256, []⟩) ?_ ?_
  ·
   intro s' hs
   obtain ⟨o29, rfl, hn, hs⟩ := hs
   refine kn_then ?_
   refine awp_re [] hn hs ?_
   refine awp_sr2 264 [4] (fun _ => none) rfl (fun _ _ => rT) ?_
   refine awp_ret ?_
   obtain rfl := Option.some.inj h0
   refine leave_retG [] ?_
   exact rG
  ·
   refine awp_loopF (ι := { p : Nat × Int // bookendref11_Same_l1 a1 b2 p.1 p.2 = some x22 }) (fun p => ⟨[(2, .ref 0 0 0 0), (3, .ref 8 0 0 0), (5, .int .i64 p.1.2)], [(0, { g := 0, own := true, pure := true, sz := 5, es := [[.psl 1 (List.map (encSl 4 TApiEntry.enc) a1.Runs), .psl 1 (List.map (encInt .i64) a1.At), .psl 2 (List.map TApiLsKey.enc a1.Tree.Keys), .psl 1 (List.map (encInt .i64) a1.Tree.Lose), .int .i64 a1.Tree.Win]] }), (8, { g := 0, own := true, pure := true, sz := 5, es := [[.psl 1 (List.map (encSl 4 TApiEntry.enc) b2.Runs), .psl 1 (List.map (encInt .i64) b2.At), .psl 2 (List.map TApiLsKey.enc b2.Tree.Keys), .psl 1 (List.map (encInt .i64) b2.Tree.Lose), .int .i64 b2.Tree.Win]] })], 216, []⟩) (fun p => p.1.1) ⟨(fu, 0), hxx22⟩ ⟨rF, rE, rfl, rfl, trivial, trivial⟩ (fun _ => Nat.le_refl _) ?_
   rintro ⟨⟨fu, i23⟩, h1⟩
   cases fu with
   | zero =>
   replace h1 : bookendref11_Same_l1 a1 b2 0 i23 = some x22 := h1
   rw [bookendref11_Same_l1] at h1; cases h1
   | succ fu =>
    replace h1 : bookendref11_Same_l1 a1 b2 (fu + 1) i23 = some x22 := h1
    rw [bookendref11_Same_l1] at h1
    refine (show AWP _ _ _ _ ⟨[(2, .ref 0 0 0 0), (3, .ref 8 0 0 0), (5, .int .i64 i23)], [(0, { g := 0, own := true, pure := true, sz := 5, es := [[.psl 1 (List.map (encSl 4 TApiEntry.enc) a1.Runs), .psl 1 (List.map (encInt .i64) a1.At), .psl 2 (List.map TApiLsKey.enc a1.Tree.Keys), .psl 1 (List.map (encInt .i64) a1.Tree.Lose), .int .i64 a1.Tree.Win]] }), (8, { g := 0, own := true, pure := true, sz := 5, es := [[.psl 1 (List.map (encSl 4 TApiEntry.enc) b2.Runs), .psl 1 (List.map (encInt .i64) b2.At), .psl 2 (List.map TApiLsKey.enc b2.Tree.Keys), .psl 1 (List.map (encInt .i64) b2.Tree.Lose), .int .i64 b2.Tree.Win]] })], 216, []⟩ from ?_)
    refine awp_seq ?_
    refine awp_sr2 256 [2, 3, 5, 33] (fun _ => none) rfl (fun _ _ => rT) ?_
    refine awp_if rfl (fun hb24 => ?_) (fun hb24 => ?_)
    ·
     replace h1 := iteT h1 hb24
     refine awp_skip ?_
     refine kn_then ?_
     refine awp_seq ?_
     refine awp_block ?_
     obtain ⟨e25, he25, h1⟩ := bindS h1
     obtain ⟨he25a, he25b, he25c⟩ := idxS he25
     obtain ⟨e26, he26, h1⟩ := bindS h1
     obtain ⟨he26a, he26b, he26c⟩ := idxS he26
     obtain ⟨vr27, hvr27, h1⟩ := bindS h1
     refine awp_sd2 352 [2, 3, 5, 47] (fun | 10 => some (.bool vr27, []) | _ => none) rfl rfl rfl (fun _ _ => rBd (rA he25a (rA he25b (rA he25c (rA he26a (rA he26b he26c))))) (c_bookendref11_SameEntries hvr27)) ?_
     refine awp_if rfl (fun hb28 => ?_) (fun hb28 => ?_)
     ·
      replace h1 := iteT h1 hb28
      refine awp_sr2 360 [4] (fun _ => none) rfl (fun _ _ => rS (rA he25a (rA he25b (rA he25c (rA he26a (rA he26b he26c)))))) ?_
      refine awp_ret ?_
      obtain rfl := Option.some.inj h1
      refine kr_block ?_
      refine kr_then ?_
      refine kr_then ?_
      refine kr_loop ?_
      refine kr_then ?_
      obtain rfl := Option.some.inj h0
      refine leave_retG [] ?_
      simp (maxSteps := 1000000) only [↓reduceIte, reduceCtorEq, Nat.reduceEqDiff, Nat.reduceLT, Nat.reduceLeDiff, Nat.reduceAdd, Nat.reduceMul, Int.reduceToNat, push_cast, Gives, he25a, he25b, he25c, he26a, he26b, he26c]
      all_goals exact rH
     ·
      replace h1 := iteF h1 hb28
      refine awp_skip ?_
      refine kn_block ?_
      refine kn_then ?_
      refine awp_r2 376 [2, 3, 5] (fun _ => none) rfl (fun _ _ => rS (rA he25a (rA he25b (rA he25c (rA he26a (rA he26b he26c)))))) ?_
      refine kn_then ?_
      exact ⟨⟨(fu, (IntKind.i64.wrap (i23 + 1))), h1⟩, ⟨rF, rE, rfl, rfl, trivial, trivial⟩, Nat.lt_succ_self _⟩
    ·
     replace h1 := iteF h1 hb24
     refine awp_exit ?_
     refine kx_then ?_
     refine kx_then ?_
     refine kx_done ?_
     obtain rfl := Option.some.inj h1
     exact ⟨_, rfl, Nat.le_of_ble_eq_true rfl, ⟨rF, rE, rfl, rfl, trivial, trivial⟩⟩
end Go.T
end
section
/- The program computes them. -/
namespace Go.T
open Go Go.AM Go.Proofs
set_option maxRecDepth 100000
set_option maxHeartbeats 4000000
set_option linter.unusedVariables false
theorem c_bookendlaw11_MergeSkips {fu : Nat} {runs1 : List (List TApiEntry)} {key2 : List UInt8} {r : Bool} (h0 : bookendlaw11_MergeSkips fu runs1 key2 = some r) : PCall Try.prog 5 [.psl 1 (runs1.map (encSl 4 TApiEntry.enc)), .str key2] (.bool r) [] := by
 refine awp_pcall Try.func5 rfl (by decide) (Nat.le_of_ble_eq_true rfl) ?_
 dsimp only [Try.f5]
 rw [bookendlaw11_MergeSkips] at h0
 refine (show AWP _ _ _ _ ⟨enumFr 0 _, [], 0, []⟩ from ?_)
 refine awp_sr2 8 [0, 1] (fun _ => none) rfl (fun _ _ => rT) ?_
 refine awp_seq ?_
 obtain ⟨vr3, hvr3, h0⟩ := bindS h0
 obtain ⟨b4, hb4, h0⟩ := bindS h0
 refine awp_sr3 (fr' := [(0, .psl 1 (List.map (encSl 4 TApiEntry.enc) runs1)), (1, .str key2), (27, .bool b4)]) (hp' := []) [] 64 [0, 1, 27] (fun | 1 => some (.bool vr3, []) | _ => none) rfl (fun Kt hK => by
   cases vr3 with
   | false =>
    replace hb4 := iteF hb4 rfl
    have hqb4 := Option.some.inj hb4
    subst hqb4
    try have q0 := c_bookendlaw11_Far hvr3
    exact rT
   | true =>
    replace hb4 := iteT hb4 rfl
    have hqb4 := Option.some.inj hb4
    subst hqb4
    try have q0 := c_bookendlaw11_Far hvr3
    exact rT) ?_
 refine awp_if rfl (fun hb6 => ?_) (fun hb6 => ?_)
 ·
  replace h0 := iteT h0 hb6
  obtain ⟨vr7, hvr7, h0⟩ := bindS h0
  refine awp_sr2 80 [4] (fun | 0 => some (.bool vr7, []) | _ => none) rfl (fun _ _ => rC (c_bookendlaw11_awake hvr7)) ?_
  refine awp_ret ?_
  refine kr_then ?_
  obtain rfl := Option.some.inj h0
  refine leave_retG [] ?_
  exact rG
 ·
  replace h0 := iteF h0 hb6
  refine awp_skip ?_
  refine kn_then ?_
  obtain ⟨vr8, hvr8, h0⟩ := bindS h0
  refine awp_sr2 144 [0, 1, 5, 7] (fun | 1 => some (.tup [.agg (TApiMgState.enc vr8.1), .int .i64 vr8.2.1, .int .i64 vr8.2.2], []) | _ => none) rfl (fun _ _ => rC (c_merge_Begin hvr8)) ?_
  refine awp_seq ?_
  refine awp_sr2 160 [0, 1, 5, 36] (fun _ => none) rfl (fun _ _ => rT) ?_
  refine awp_if rfl (fun hb9 => ?_) (fun hb9 => ?_)
  ·
   replace h0 := iteT h0 hb9
   obtain ⟨vr10, hvr10, h0⟩ := bindS h0
   refine awp_sr2 176 [4] (fun | 0 => some (.bool vr10, []) | _ => none) rfl (fun _ _ => rC (c_bookendlaw11_awake hvr10)) ?_
   refine awp_ret ?_
   refine kr_then ?_
   obtain rfl := Option.some.inj h0
   refine leave_retG [] ?_
   exact rG
  ·
   replace h0 := iteF h0 hb9
   refine awp_skip ?_
   refine kn_then ?_
   obtain ⟨vr11, hvr11, h0⟩ := bindS h0
   refine awp_sr2 232 [0, 1, 5, 8, 9] (fun | 2 => some (.tup [.agg (TApiMgState.enc vr11.1), .int .i64 vr11.2], []) | _ => none) rfl (fun _ _ => rC (c_merge_Skip hvr11)) ?_
   refine awp_sr2 240 [0, 1, 5, 8, 9, 10] (fun _ => none) rfl (fun _ _ => rT) ?_
   refine awp_seq ?_
   refine awp_sr2 248 [0, 1, 5, 8, 9, 10, 11] (fun _ => none) rfl (fun _ _ => rT) ?_
   obtain ⟨x18, hxx18, h0⟩ := bindS h0
   refine awp_bloop (fun s' => s'.nx ≤ 280 ∧ LeN [] s' ⟨[(1, .str key2), (5, .ref 112 0 0 0), (8, .ref 208 0 0 0), (9, .int .i64 vr11.2), (10, .int .i64 x18)], [(112, { g := 0, own := true, pure := true, sz := 5, es := [[.psl 1 (List.map (encSl 4 TApiEntry.enc) vr8.1.Runs), .psl 1 (List.map (encInt .i64) vr8.1.At), .psl 2 (List.map TApiLsKey.enc vr8.1.Tree.Keys), .psl 1 (List.map (encInt .i64) vr8.1.Tree.Lose), .int .i64 vr8.1.Tree.Win]] }), (208, { g := 0, own := true, pure := true, sz := 5, es := [[.psl 1 (List.map (encSl 4 TApiEntry.enc) vr11.1.Runs), .psl 1 (List.map (encInt .i64) vr11.1.At), .psl 2 (List.map TApiLsKey.enc vr11.1.Tree.Keys), .psl 1 (List.map (encInt .i64) vr11.1.Tree.Lose), .int .i64 vr11.1.Tree.Win]] })], 280, []⟩) ?_ ?_
   ·
    intro s' hs
    obtain ⟨hn, hs⟩ := hs
    refine kn_then ?_
    refine awp_re [] hn hs ?_
    refine awp_seq ?_
    refine awp_sr2 288 [1, 5, 8, 9, 10, 12] (fun _ => none) rfl (fun _ _ => rT) ?_
    obtain ⟨x45, hxx45, h0⟩ := bindS h0
    refine awp_bloop (fun s' => ∃ o60 : List (List TApiEntry) × List Int × List TApiLsKey × List Int × Int, x45 = .inl o60 ∧ s'.nx ≤ 480 ∧ LeN [] s' ⟨[(5, .ref 112 0 0 0), (8, .ref 208 0 0 0), (9, .int .i64 vr11.2)], [(112, { g := 0, own := true, pure := true, sz := 5, es := [[.psl 1 (List.map (encSl 4 TApiEntry.enc) o60.1), .psl 1 (List.map (encInt .i64) o60.2.1), .psl 2 (List.map TApiLsKey.enc o60.2.2.1), .psl 1 (List.map (encInt .i64) o60.2.2.2.1), .int .i64 o60.2.2.2.2]] }), (208, { g := 0, own := true, pure := true, sz := 5, es := [[.psl 1 (List.map (encSl 4 TApiEntry.enc) vr11.1.Runs), .psl 1 (List.map (encInt .i64) vr11.1.At), .psl 2 (List.map TApiLsKey.enc vr11.1.Tree.Keys), .psl 1 (List.map (encInt .i64) vr11.1.Tree.Lose), .int .i64 vr11.1.Tree.Win]] })], 480, []⟩) ?_ ?_
    ·
     intro s' hs
     obtain ⟨o60, rfl, hn, hs⟩ := hs
     refine kn_then ?_
     refine awp_re [] hn hs ?_
     obtain ⟨vr61, hvr61, h0⟩ := bindS h0
     refine awp_sr2 536 [5, 8, 9, 19, 20] (fun | 1 => some (.tup [.int .i64 vr61.1, .int .i64 vr61.2], []) | _ => none) rfl (fun _ _ => rC (c_merge_Check hvr61)) ?_
     obtain ⟨b63, hb63, h0⟩ := bindS h0
     obtain ⟨b64, hb64, h0⟩ := bindS h0
     obtain ⟨b65, hb65, h0⟩ := bindS h0
     obtain ⟨b67, hb67, h0⟩ := bindS h0
     refine awp_sr3 (fr' := [(4, .bool b67)]) (hp' := [(112, { g := 0, own := true, pure := true, sz := 5, es := [[.psl 1 (List.map (encSl 4 TApiEntry.enc) o60.1), .psl 1 (List.map (encInt .i64) o60.2.1), .psl 2 (List.map TApiLsKey.enc o60.2.2.1), .psl 1 (List.map (encInt .i64) o60.2.2.2.1), .int .i64 o60.2.2.2.2]] }), (208, { g := 0, own := true, pure := true, sz := 5, es := [[.psl 1 (List.map (encSl 4 TApiEntry.enc) vr11.1.Runs), .psl 1 (List.map (encInt .i64) vr11.1.At), .psl 2 (List.map TApiLsKey.enc vr11.1.Tree.Keys), .psl 1 (List.map (encInt .i64) vr11.1.Tree.Lose), .int .i64 vr11.1.Tree.Win]] })]) [112, 208] 688 [4] (fun | 5 => (bookendref11_Same fu (TApiMgState.mk o60.1 o60.2.1 (TApiLsTree.mk o60.2.2.1 o60.2.2.2.1 o60.2.2.2.2)) vr11.1).bind fun vr62 => some (.bool vr62, []) | 16 => (bookendlaw11_awake fu).bind fun vr66 => some (.bool vr66, []) | _ => none) rfl (fun Kt hK => by
       cases hg68 : (decide (vr11.2 = 0)) with
       | false =>
        replace hb63 := iteF hb63 hg68
        have hqb63 := Option.some.inj hb63
        cases b63 with
        | false =>
         replace hb64 := iteF hb64 rfl
         have hqb64 := Option.some.inj hb64
         cases b64 with
         | false =>
          replace hb65 := iteF hb65 rfl
          have hqb65 := Option.some.inj hb65
          cases b65 with
          | false =>
           replace hb67 := iteF hb67 rfl
           have hqb67 := Option.some.inj hb67
           subst hqb67
           simp (maxSteps := 1000000) only [↓reduceIte, reduceCtorEq, Nat.reduceEqDiff, Nat.reduceLT, Nat.reduceLeDiff, Nat.reduceAdd, Nat.reduceMul, Int.reduceToNat, push_cast, ↓hg68]
           try simp only [↓hg68] at hK
           try have q0 := c_bookendref11_Same hvr62
           try have q1 := c_bookendlaw11_awake hvr66
           all_goals exact rU
          | true =>
           cases hqb65
         | true =>
          cases hqb64
        | true =>
         cases hqb63
       | true =>
        replace hb63 := iteT hb63 hg68
        obtain ⟨vr62, hvr62, hb63⟩ := bindS hb63
        have hqb63 := Option.some.inj hb63
        cases b63 with
        | false =>
         subst hqb63
         replace hb64 := iteF hb64 rfl
         have hqb64 := Option.some.inj hb64
         cases b64 with
         | false =>
          replace hb65 := iteF hb65 rfl
          have hqb65 := Option.some.inj hb65
          cases b65 with
          | false =>
           replace hb67 := iteF hb67 rfl
           have hqb67 := Option.some.inj hb67
           subst hqb67
           simp (maxSteps := 1000000) only [↓reduceIte, reduceCtorEq, Nat.reduceEqDiff, Nat.reduceLT, Nat.reduceLeDiff, Nat.reduceAdd, Nat.reduceMul, Int.reduceToNat, push_cast, ↓hg68, hvr62]
           try simp only [↓hg68] at hK
           try have q0 := c_bookendref11_Same hvr62
           try have q1 := c_bookendlaw11_awake hvr66
           all_goals exact rU
          | true =>
           cases hqb65
         | true =>
          cases hqb64
        | true =>
         subst hqb63
         replace hb64 := iteT hb64 rfl
         have hqb64 := Option.some.inj hb64
         cases b64 with
         | false =>
          replace hb65 := iteF hb65 rfl
          have hqb65 := Option.some.inj hb65
          cases b65 with
          | false =>
           replace hb67 := iteF hb67 rfl
           have hqb67 := Option.some.inj hb67
           subst hqb67
           simp (maxSteps := 1000000) only [↓reduceIte, reduceCtorEq, Nat.reduceEqDiff, Nat.reduceLT, Nat.reduceLeDiff, Nat.reduceAdd, Nat.reduceMul, Int.reduceToNat, push_cast, ↓hg68, hvr62, ↓hqb64]
           try simp only [↓hg68, ↓hqb64] at hK
           try have q0 := c_bookendref11_Same hvr62
           try have q1 := c_bookendlaw11_awake hvr66
           all_goals exact rU
          | true =>
           cases hqb65
         | true =>
          replace hb65 := iteT hb65 rfl
          have hqb65 := Option.some.inj hb65
          cases b65 with
          | false =>
           replace hb67 := iteF hb67 rfl
           have hqb67 := Option.some.inj hb67
           subst hqb67
           simp (maxSteps := 1000000) only [↓reduceIte, reduceCtorEq, Nat.reduceEqDiff, Nat.reduceLT, Nat.reduceLeDiff, Nat.reduceAdd, Nat.reduceMul, Int.reduceToNat, push_cast, ↓hg68, hvr62, ↓hqb64, ↓hqb65]
           try simp only [↓hg68, ↓hqb64, ↓hqb65] at hK
           try have q0 := c_bookendref11_Same hvr62
           try have q1 := c_bookendlaw11_awake hvr66
           all_goals exact rU
          | true =>
           replace hb67 := iteT hb67 rfl
           obtain ⟨vr66, hvr66, hb67⟩ := bindS hb67
           have hqb67 := Option.some.inj hb67
           subst hqb67
           simp (maxSteps := 1000000) only [↓reduceIte, reduceCtorEq, Nat.reduceEqDiff, Nat.reduceLT, Nat.reduceLeDiff, Nat.reduceAdd, Nat.reduceMul, Int.reduceToNat, push_cast, ↓hg68, hvr62, ↓hqb64, ↓hqb65, hvr66]
           try simp only [↓hg68, ↓hqb64, ↓hqb65] at hK
           try have q0 := c_bookendref11_Same hvr62
           try have q1 := c_bookendlaw11_awake hvr66
           all_goals exact rU) ?_
     refine awp_ret ?_
     obtain rfl := Option.some.inj h0
     refine leave_retG [] ?_
     exact rG
    ·
     refine awp_loopF (ι := { p : Nat × Int × List (List TApiEntry) × List Int × List TApiLsKey × List Int × Int // bookendlaw11_MergeSkips_l2 vr11 x18 key2 p.1 p.2.1 p.2.2.1 p.2.2.2.1 p.2.2.2.2.1 p.2.2.2.2.2.1 p.2.2.2.2.2.2 = some x45 }) (fun p => ⟨[(1, .str key2), (5, .ref 112 0 0 0), (8, .ref 208 0 0 0), (9, .int .i64 vr11.2), (10, .int .i64 x18), (12, .int .i64 p.1.2.1)], [(112, { g := 0, own := true, pure := true, sz := 5, es := [[.psl 1 (List.map (encSl 4 TApiEntry.enc) p.1.2.2.1), .psl 1 (List.map (encInt .i64) p.1.2.2.2.1), .psl 2 (List.map TApiLsKey.enc p.1.2.2.2.2.1), .psl 1 (List.map (encInt .i64) p.1.2.2.2.2.2.1), .int .i64 p.1.2.2.2.2.2.2]] }), (208, { g := 0, own := true, pure := true, sz := 5, es := [[.psl 1 (List.map (encSl 4 TApiEntry.enc) vr11.1.Runs), .psl 1 (List.map (encInt .i64) vr11.1.At), .psl 2 (List.map TApiLsKey.enc vr11.1.Tree.Keys), .psl 1 (List.map (encInt .i64) vr11.1.Tree.Lose), .int .i64 vr11.1.Tree.Win]] })], 288, []⟩) (fun p => p.1.1) ⟨(fu, 0, vr8.1.Runs, vr8.1.At, vr8.1.Tree.Keys, vr8.1.Tree.Lose, vr8.1.Tree.Win), hxx45⟩ ⟨rF, rE, rfl, rfl, trivial, trivial⟩ (fun _ => Nat.le_refl _) ?_
     rintro ⟨⟨fu, n46, vs47, vs48, vs49, vs50, vs51⟩, h1⟩
     cases fu with
     | zero =>
   replace h1 : bookendlaw11_MergeSkips_l2 vr11 x18 key2 0 n46 vs47 vs48 vs49 vs50 vs51 = some x45 := h1
   rw [bookendlaw11_MergeSkips_l2] at h1; cases h1
     | succ fu =>
      replace h1 : bookendlaw11_MergeSkips_l2 vr11 x18 key2 (fu + 1) n46 vs47 vs48 vs49 vs50 vs51 = some x45 := h1
      rw [bookendlaw11_MergeSkips_l2] at h1
      refine (show AWP _ _ _ _ ⟨[(1, .str key2), (5, .ref 112 0 0 0), (8, .ref 208 0 0 0), (9, .int .i64 vr11.2), (10, .int .i64 x18), (12, .int .i64 n46)], [(112, { g := 0, own := true, pure := true, sz := 5, es := [[.psl 1 (List.map (encSl 4 TApiEntry.enc) vs47), .psl 1 (List.map (encInt .i64) vs48), .psl 2 (List.map TApiLsKey.enc vs49), .psl 1 (List.map (encInt .i64) vs50), .int .i64 vs51]] }), (208, { g := 0, own := true, pure := true, sz := 5, es := [[.psl 1 (List.map (encSl 4 TApiEntry.enc) vr11.1.Runs), .psl 1 (List.map (encInt .i64) vr11.1.At), .psl 2 (List.map TApiLsKey.enc vr11.1.Tree.Keys), .psl 1 (List.map (encInt .i64) vr11.1.Tree.Lose), .int .i64 vr11.1.Tree.Win]] })], 288, []⟩ from ?_)
      refine awp_seq ?_
      refine awp_sr2 304 [1, 5, 8, 9, 10, 12, 58] (fun _ => none) rfl (fun _ _ => rT) ?_
      refine awp_if rfl (fun hb52 => ?_) (fun hb52 => ?_)
      ·
       replace h1 := iteT h1 hb52
       refine awp_skip ?_
       refine kn_then ?_
       refine awp_seq ?_
       refine awp_block ?_
       refine awp_seq ?_
       refine awp_sr2 336 [1, 5, 8, 9, 10, 12, 64] (fun _ => none) rfl (fun _ _ => rT) ?_
       refine awp_if rfl (fun hb53 => ?_) (fun hb53 => ?_)
       ·
        replace h1 := iteT h1 hb53
        refine awp_sr2 344 [4] (fun _ => none) rfl (fun _ _ => rT) ?_
        refine awp_ret ?_
        obtain rfl := Option.some.inj h1
        refine kr_then ?_
        refine kr_block ?_
        refine kr_then ?_
        refine kr_then ?_
        refine kr_loop ?_
        refine kr_then ?_
        obtain rfl := Option.some.inj h0
        refine leave_retG [] ?_
        exact rG
       ·
        replace h1 := iteF h1 hb53
        refine awp_skip ?_
        refine kn_then ?_
        obtain ⟨vr54, hvr54, h1⟩ := bindS h1
        refine awp_sr2 416 [1, 5, 8, 9, 10, 12, 13, 15] (fun | 1 => some (.tup [.agg (TApiEntry.enc vr54.1), .int .i64 vr54.2.1, .int .i64 vr54.2.2], []) | _ => none) rfl (fun _ _ => rC (c_merge_Peek hvr54)) ?_
        refine awp_seq ?_
        obtain ⟨b55, hb55, h1⟩ := bindS h1
        refine awp_sr3 (fr' := [(1, .str key2), (5, .ref 112 0 0 0), (8, .ref 208 0 0 0), (9, .int .i64 vr11.2), (10, .int .i64 x18), (12, .int .i64 n46), (78, .bool b55)]) (hp' := [(112, { g := 0, own := true, pure := true, sz := 5, es := [[.psl 1 (List.map (encSl 4 TApiEntry.enc) vs47), .psl 1 (List.map (encInt .i64) vs48), .psl 2 (List.map TApiLsKey.enc vs49), .psl 1 (List.map (encInt .i64) vs50), .int .i64 vs51]] }), (208, { g := 0, own := true, pure := true, sz := 5, es := [[.psl 1 (List.map (encSl 4 TApiEntry.enc) vr11.1.Runs), .psl 1 (List.map (encInt .i64) vr11.1.At), .psl 2 (List.map TApiLsKey.enc vr11.1.Tree.Keys), .psl 1 (List.map (encInt .i64) vr11.1.Tree.Lose), .int .i64 vr11.1.Tree.Win]] }), (384, { g := 0, own := true, pure := true, sz := 4, es := [[.str vr54.1.Key, .str vr54.1.Val, .bool vr54.1.Dead, .int .i64 vr54.1.Seq]] })]) [112, 208, 384] 480 [1, 5, 8, 9, 10, 12, 78] (fun _ => none) rfl (fun Kt hK => by
          cases hg56 : (!(decide (vr54.2.2 = 0))) with
          | false =>
           replace hb55 := iteF hb55 hg56
           have hqb55 := Option.some.inj hb55
           subst hqb55
           simp (maxSteps := 1000000) only [↓reduceIte, reduceCtorEq, Nat.reduceEqDiff, Nat.reduceLT, Nat.reduceLeDiff, Nat.reduceAdd, Nat.reduceMul, Int.reduceToNat, push_cast, ↓hg56]
           try simp only [↓hg56] at hK
           all_goals exact rU
          | true =>
           replace hb55 := iteT hb55 hg56
           have hqb55 := Option.some.inj hb55
           subst hqb55
           simp (maxSteps := 1000000) only [↓reduceIte, reduceCtorEq, Nat.reduceEqDiff, Nat.reduceLT, Nat.reduceLeDiff, Nat.reduceAdd, Nat.reduceMul, Int.reduceToNat, push_cast, ↓hg56]
           try simp only [↓hg56] at hK
           all_goals exact rU) ?_
        refine awp_if rfl (fun hb57 => ?_) (fun hb57 => ?_)
        ·
         replace h1 := iteT h1 hb57
         refine awp_exit ?_
         refine kx_then ?_
         refine kx_other (by decide) ?_
         refine kx_then ?_
         refine kx_then ?_
         refine kx_done ?_
         obtain rfl := Option.some.inj h1
         exact ⟨_, rfl, Nat.le_of_ble_eq_true rfl, ⟨rF, rE, rfl, rfl, trivial, trivial⟩⟩
        ·
         replace h1 := iteF h1 hb57
         refine awp_skip ?_
         refine kn_then ?_
         obtain ⟨vr58, hvr58, h1⟩ := bindS h1
         refine awp_sr2 584 [1, 5, 8, 9, 10, 12, 15, 18] (fun | 1 => some (.tup [.agg (TApiEntry.enc vr58.1), .int .i64 vr58.2.1, .agg (TApiMgState.enc vr58.2.2.1), .int .i64 vr58.2.2.2], []) | _ => none) rfl (fun _ _ => rC (c_merge_Next hvr58)) ?_
         refine awp_seq ?_
         refine awp_sr2 600 [1, 5, 8, 9, 10, 12, 18, 87] (fun _ => none) rfl (fun _ _ => rT) ?_
         refine awp_if rfl (fun hb59 => ?_) (fun hb59 => ?_)
         ·
          replace h1 := iteT h1 hb59
          refine awp_sr2 608 [4] (fun _ => none) rfl (fun _ _ => rT) ?_
          refine awp_ret ?_
          obtain rfl := Option.some.inj h1
          refine kr_then ?_
          refine kr_block ?_
          refine kr_then ?_
          refine kr_then ?_
          refine kr_loop ?_
          refine kr_then ?_
          obtain rfl := Option.some.inj h0
          refine leave_retG [] ?_
          exact rG
         ·
          replace h1 := iteF h1 hb59
          refine awp_skip ?_
          refine kn_then ?_
          refine awp_r2 616 [1, 5, 8, 9, 10, 12] (fun _ => none) rfl (fun _ _ => rT) ?_
          refine kn_block ?_
          refine kn_then ?_
          refine awp_r2 640 [1, 5, 8, 9, 10, 12] (fun _ => none) rfl (fun _ _ => rT) ?_
          refine kn_then ?_
          exact ⟨⟨(fu, (IntKind.i64.wrap (n46 + 1)), vr58.2.2.1.Runs, vr58.2.2.1.At, vr58.2.2.1.Tree.Keys, vr58.2.2.1.Tree.Lose, vr58.2.2.1.Tree.Win), h1⟩, ⟨rF, rE, rfl, rfl, trivial, trivial⟩, Nat.lt_succ_self _⟩
      ·
       replace h1 := iteF h1 hb52
       refine awp_exit ?_
       refine kx_then ?_
       refine kx_then ?_
       refine kx_done ?_
       obtain rfl := Option.some.inj h1
       exact ⟨_, rfl, Nat.le_of_ble_eq_true rfl, ⟨rF, rE, rfl, rfl, trivial, trivial⟩⟩
   ·
    refine awp_loopF (ι := { p : Nat × Int × Int // bookendlaw11_MergeSkips_l1 runs1 p.1 p.2.1 p.2.2 = some x18 }) (fun p => ⟨[(0, .psl 1 (List.map (encSl 4 TApiEntry.enc) runs1)), (1, .str key2), (5, .ref 112 0 0 0), (8, .ref 208 0 0 0), (9, .int .i64 vr11.2), (10, .int .i64 p.1.2.1), (11, .int .i64 p.1.2.2)], [(112, { g := 0, own := true, pure := true, sz := 5, es := [[.psl 1 (List.map (encSl 4 TApiEntry.enc) vr8.1.Runs), .psl 1 (List.map (encInt .i64) vr8.1.At), .psl 2 (List.map TApiLsKey.enc vr8.1.Tree.Keys), .psl 1 (List.map (encInt .i64) vr8.1.Tree.Lose), .int .i64 vr8.1.Tree.Win]] }), (208, { g := 0, own := true, pure := true, sz := 5, es := [[.psl 1 (List.map (encSl 4 TApiEntry.enc) vr11.1.Runs), .psl 1 (List.map (encInt .i64) vr11.1.At), .psl 2 (List.map TApiLsKey.enc vr11.1.Tree.Keys), .psl 1 (List.map (encInt .i64) vr11.1.Tree.Lose), .int .i64 vr11.1.Tree.Win]] })], 248, []⟩) (fun p => p.1.1) ⟨(fu, 0, 0), hxx18⟩ ⟨rF, rE, rfl, rfl, trivial, trivial⟩ (fun _ => Nat.le_refl _) ?_
    rintro ⟨⟨fu, most19, i20⟩, h1⟩
    cases fu with
    | zero =>
   replace h1 : bookendlaw11_MergeSkips_l1 runs1 0 most19 i20 = some x18 := h1
   rw [bookendlaw11_MergeSkips_l1] at h1; cases h1
    | succ fu =>
     replace h1 : bookendlaw11_MergeSkips_l1 runs1 (fu + 1) most19 i20 = some x18 := h1
     rw [bookendlaw11_MergeSkips_l1] at h1
     refine (show AWP _ _ _ _ ⟨[(0, .psl 1 (List.map (encSl 4 TApiEntry.enc) runs1)), (1, .str key2), (5, .ref 112 0 0 0), (8, .ref 208 0 0 0), (9, .int .i64 vr11.2), (10, .int .i64 most19), (11, .int .i64 i20)], [(112, { g := 0, own := true, pure := true, sz := 5, es := [[.psl 1 (List.map (encSl 4 TApiEntry.enc) vr8.1.Runs), .psl 1 (List.map (encInt .i64) vr8.1.At), .psl 2 (List.map TApiLsKey.enc vr8.1.Tree.Keys), .psl 1 (List.map (encInt .i64) vr8.1.Tree.Lose), .int .i64 vr8.1.Tree.Win]] }), (208, { g := 0, own := true, pure := true, sz := 5, es := [[.psl 1 (List.map (encSl 4 TApiEntry.enc) vr11.1.Runs), .psl 1 (List.map (encInt .i64) vr11.1.At), .psl 2 (List.map TApiLsKey.enc vr11.1.Tree.Keys), .psl 1 (List.map (encInt .i64) vr11.1.Tree.Lose), .int .i64 vr11.1.Tree.Win]] })], 248, []⟩ from ?_)
     refine awp_seq ?_
     refine awp_sr2 280 [0, 1, 5, 8, 9, 10, 11, 47] (fun _ => none) rfl (fun _ _ => rT) ?_
     refine awp_if rfl (fun hb21 => ?_) (fun hb21 => ?_)
     ·
      replace h1 := iteT h1 hb21
      refine awp_skip ?_
      refine kn_then ?_
      refine awp_seq ?_
      refine awp_block ?_
      obtain ⟨e22, he22, h1⟩ := bindS h1
      obtain ⟨he22a, he22b, he22c⟩ := idxS he22
      refine awp_r2 344 [0, 1, 5, 8, 9, 10, 11] (fun _ => none) rfl (fun _ _ => rS (rA he22a (rA he22b he22c))) ?_
      refine kn_block ?_
      refine kn_then ?_
      refine awp_r2 368 [0, 1, 5, 8, 9, 10, 11] (fun _ => none) rfl (fun _ _ => rS (rA he22a (rA he22b he22c))) ?_
      refine kn_then ?_
      exact ⟨⟨(fu, (IntKind.i64.wrap (most19 + (e22.length : Int))), (IntKind.i64.wrap (i20 + 1))), h1⟩, ⟨rF, rE, rfl, rfl, trivial, trivial⟩, Nat.lt_succ_self _⟩
     ·
      replace h1 := iteF h1 hb21
      refine awp_exit ?_
      refine kx_then ?_
      refine kx_then ?_
      refine kx_done ?_
      obtain rfl := Option.some.inj h1
      exact ⟨Nat.le_of_ble_eq_true rfl, ⟨rF, rE, rfl, rfl, trivial, trivial⟩⟩
end Go.T
end
section
/- MergeSkips: for all runs and keys, Skip is Next as often as there are entries with a lesser key; no conditions. -/
namespace Go.Proofs.Ytfbaoblejikccaa
open Go.T
theorem mergeSkips : Rows.MergeSkipsSaid :=
  mergeSkips_over (fun x0 x1 w0 w1 => by
    obtain ⟨fu, h⟩ := (mergeSkips_ev x0 x1).one
    exact ⟨_, c_bookendlaw11_MergeSkips h⟩)
end Go.Proofs.Ytfbaoblejikccaa
end
