/- MergeOwn: for all runs and keys, a state is not changed by what is done with it; no conditions. -/
import Derived.Test.YtfbaoblejikccaaGt
import Derived.Test.YtfbaoblejikccaaC2
set_option linter.unusedSimpArgs false
set_option linter.unusedVariables false
section
/- The program computes them. -/
namespace Go.T
open Go Go.AM Go.Proofs
set_option maxRecDepth 100000
set_option maxHeartbeats 4000000
set_option linter.unusedVariables false
theorem c_bookendlaw11_awake {fu : Nat} {r : Bool} (h0 : bookendlaw11_awake fu = some r) : PCall Try.prog 10 [] (.bool r) [] := by
 refine awp_pcall Try.func10 rfl (by decide) (Nat.le_of_ble_eq_true rfl) ?_
 dsimp only [Try.f10, List.append]
 rw [bookendlaw11_awake] at h0
 refine (show AWP _ _ _ _ ⟨enumFr 0 _, [], 0, []⟩ from ?_)
 refine awp_sr2 8 [] (fun _ => none) rfl (fun _ _ => rT) ?_
 obtain ⟨vr1, hvr1, h0⟩ := bindS h0
 refine awp_sr2 24 [1] (fun | 0 => some (.psl 1 (vr1.map (encSl 4 TApiEntry.enc)), []) | _ => none) rfl (fun _ _ => rC (c_bookendlaw11_Example hvr1)) ?_
 obtain ⟨vr2, hvr2, h0⟩ := bindS h0
 refine awp_sr2 96 [1, 2, 3, 4] (fun | 1 => some (.tup [.psl 4 (vr2.1.map TApiEntry.enc), .psl 1 (vr2.2.1.map (encInt .i64)), .int .i64 vr2.2.2], []) | _ => none) rfl (fun _ _ => rC (c_merge_All hvr2)) ?_
 obtain ⟨vr3, hvr3, h0⟩ := bindS h0
 refine awp_sr2 176 [1, 2, 3, 4, 5, 7] (fun | 1 => some (.tup [.agg (TApiMgState.enc vr3.1), .int .i64 vr3.2.1, .int .i64 vr3.2.2], []) | _ => none) rfl (fun _ _ => rC (c_merge_Begin hvr3)) ?_
 obtain ⟨vr4, hvr4, h0⟩ := bindS h0
 refine awp_sr2 256 [1, 2, 3, 4, 5, 7, 8, 9, 10] (fun | 1 => some (.tup [.agg (TApiEntry.enc vr4.1), .int .i64 vr4.2.1, .int .i64 vr4.2.2], []) | _ => none) rfl (fun _ _ => rC (c_merge_Peek hvr4)) ?_
 obtain ⟨vr5, hvr5, h0⟩ := bindS h0
 refine awp_sr2 320 [1, 2, 3, 4, 7, 8, 9, 10, 11, 12] (fun | 1 => some (.tup [.agg (TApiMgState.enc vr5.1), .int .i64 vr5.2], []) | _ => none) rfl (fun _ _ => rC (c_merge_Skip hvr5)) ?_
 obtain ⟨vr6, hvr6, h0⟩ := bindS h0
 refine awp_sr2 424 [1, 2, 3, 4, 7, 8, 9, 10, 11, 12, 13, 14, 15, 16] (fun | 1 => some (.tup [.agg (TApiEntry.enc vr6.1), .int .i64 vr6.2.1, .agg (TApiMgState.enc vr6.2.2.1), .int .i64 vr6.2.2.2], []) | _ => none) rfl (fun _ _ => rC (c_merge_Next hvr6)) ?_
 obtain ⟨vr7, hvr7, h0⟩ := bindS h0
 refine awp_sr2 504 [1, 2, 3, 4, 7, 8, 9, 10, 11, 12, 13, 14, 16, 19] (fun | 1 => some (.tup [.agg (TApiEntry.enc vr7.1), .int .i64 vr7.2.1, .int .i64 vr7.2.2], []) | _ => none) rfl (fun _ _ => rC (c_merge_Peek hvr7)) ?_
 obtain ⟨vr8, hvr8, h0⟩ := bindS h0
 refine awp_sr2 616 [1, 2, 3, 4, 7, 8, 9, 10, 11, 12, 13, 14, 16, 19, 20, 21] (fun | 8 => some (.tup [.int .i64 vr8.1, .int .i64 vr8.2], []) | _ => none) rfl (fun _ _ => rC (c_merge_Check hvr8)) ?_
 refine awp_re (s2 := ⟨[(1, .psl 1 (List.map (encSl 4 TApiEntry.enc) vr1)), (2, .psl 4 (List.map TApiEntry.enc vr2.1)), (3, .psl 1 (List.map (encInt .i64) vr2.2.1)), (4, .int .i64 vr2.2.2), (7, .int .i64 vr3.2.2), (8, .ref 224 0 0 0), (9, .int .i64 vr4.2.1), (10, .int .i64 vr4.2.2), (11, .ref 296 0 0 0), (12, .int .i64 vr5.2), (13, .ref 376 0 0 0), (14, .int .i64 vr6.2.1), (16, .int .i64 vr6.2.2.2), (19, .int .i64 vr7.2.2), (20, .int .i64 vr8.1), (21, .int .i64 vr8.2)], [(144, { g := 0, own := true, pure := true, sz := 5, es := [[.psl 1 (List.map (encSl 4 TApiEntry.enc) vr3.1.Runs), .psl 1 (List.map (encInt .i64) vr3.1.At), .psl 2 (List.map TApiLsKey.enc vr3.1.Tree.Keys), .psl 1 (List.map (encInt .i64) vr3.1.Tree.Lose), .int .i64 vr3.1.Tree.Win]] }), (224, { g := 0, own := true, pure := true, sz := 4, es := [[.str vr4.1.Key, .str vr4.1.Val, .bool vr4.1.Dead, .int .i64 vr4.1.Seq]] }), (296, { g := 0, own := true, pure := true, sz := 5, es := [[.psl 1 (List.map (encSl 4 TApiEntry.enc) vr5.1.Runs), .psl 1 (List.map (encInt .i64) vr5.1.At), .psl 2 (List.map TApiLsKey.enc vr5.1.Tree.Keys), .psl 1 (List.map (encInt .i64) vr5.1.Tree.Lose), .int .i64 vr5.1.Tree.Win]] }), (376, { g := 0, own := true, pure := true, sz := 4, es := [[.str vr6.1.Key, .str vr6.1.Val, .bool vr6.1.Dead, .int .i64 vr6.1.Seq]] }), (384, { g := 0, own := true, pure := true, sz := 5, es := [[.psl 1 (List.map (encSl 4 TApiEntry.enc) vr6.2.2.1.Runs), .psl 1 (List.map (encInt .i64) vr6.2.2.1.At), .psl 2 (List.map TApiLsKey.enc vr6.2.2.1.Tree.Keys), .psl 1 (List.map (encInt .i64) vr6.2.2.1.Tree.Lose), .int .i64 vr6.2.2.1.Tree.Win]] }), (472, { g := 0, own := true, pure := true, sz := 4, es := [[.str vr7.1.Key, .str vr7.1.Val, .bool vr7.1.Dead, .int .i64 vr7.1.Seq]] }), (512, { g := 0, own := true, pure := true, sz := 1, es := List.map (encInt .i64) [0, 3] }), (536, { g := 0, own := true, pure := true, sz := 2, es := List.map TApiLsKey.enc [(TApiLsKey.mk [98] false), (TApiLsKey.mk [] true)] }), (544, { g := 0, own := true, pure := true, sz := 1, es := List.map (encInt .i64) [0, 1] })], 616, []⟩) [] (Nat.le_of_ble_eq_true rfl) ⟨rF, rE, rfl, rfl, trivial, trivial⟩ ?_
 obtain ⟨e9, he9, h0⟩ := bindS h0
 have he9b := (idxS he9).2.1
 have he9c := (idxL 1 he9 rfl).1
 have he9a := (idxL 1 he9 rfl).2
 obtain ⟨e10, he10, h0⟩ := bindS h0
 have he10b := (idxS he10).2.1
 have he10c := (idxL 0 he10 rfl).1
 have he10a := (idxL 0 he10 rfl).2
 obtain ⟨e11, he11, h0⟩ := bindS h0
 have he11b := (idxS he11).2.1
 have he11c := (idxL 0 he11 rfl).1
 have he11a := (idxL 0 he11 rfl).2
 obtain ⟨e12, he12, h0⟩ := bindS h0
 have he12b := (idxS he12).2.1
 have he12c := (idxL 0 he12 rfl).1
 have he12a := (idxL 0 he12 rfl).2
 obtain ⟨e13, he13, h0⟩ := bindS h0
 have he13b := (idxS he13).2.1
 have he13c := (idxL 1 he13 rfl).1
 have he13a := (idxL 1 he13 rfl).2
 obtain ⟨e14, he14, h0⟩ := bindS h0
 have he14b := (idxS he14).2.1
 have he14c := (idxL 2 he14 rfl).1
 have he14a := (idxL 2 he14 rfl).2
 obtain ⟨vr15, hvr15, h0⟩ := bindS h0
 obtain ⟨b17, hb17, h0⟩ := bindS h0
 obtain ⟨b18, hb18, h0⟩ := bindS h0
 obtain ⟨b19, hb19, h0⟩ := bindS h0
 obtain ⟨b20, hb20, h0⟩ := bindS h0
 obtain ⟨b21, hb21, h0⟩ := bindS h0
 obtain ⟨b22, hb22, h0⟩ := bindS h0
 obtain ⟨b24, hb24, h0⟩ := bindS h0
 obtain ⟨b25, hb25, h0⟩ := bindS h0
 obtain ⟨b26, hb26, h0⟩ := bindS h0
 obtain ⟨b27, hb27, h0⟩ := bindS h0
 obtain ⟨b28, hb28, h0⟩ := bindS h0
 obtain ⟨b29, hb29, h0⟩ := bindS h0
 obtain ⟨b30, hb30, h0⟩ := bindS h0
 obtain ⟨b31, hb31, h0⟩ := bindS h0
 refine awp_sd3 (fr' := [(0, .bool b31)]) (hp' := [(144, { g := 0, own := true, pure := true, sz := 5, es := [[.psl 1 (List.map (encSl 4 TApiEntry.enc) vr3.1.Runs), .psl 1 (List.map (encInt .i64) vr3.1.At), .psl 2 (List.map TApiLsKey.enc vr3.1.Tree.Keys), .psl 1 (List.map (encInt .i64) vr3.1.Tree.Lose), .int .i64 vr3.1.Tree.Win]] }), (224, { g := 0, own := true, pure := true, sz := 4, es := [[.str vr4.1.Key, .str vr4.1.Val, .bool vr4.1.Dead, .int .i64 vr4.1.Seq]] }), (296, { g := 0, own := true, pure := true, sz := 5, es := [[.psl 1 (List.map (encSl 4 TApiEntry.enc) vr5.1.Runs), .psl 1 (List.map (encInt .i64) vr5.1.At), .psl 2 (List.map TApiLsKey.enc vr5.1.Tree.Keys), .psl 1 (List.map (encInt .i64) vr5.1.Tree.Lose), .int .i64 vr5.1.Tree.Win]] }), (376, { g := 0, own := true, pure := true, sz := 4, es := [[.str vr6.1.Key, .str vr6.1.Val, .bool vr6.1.Dead, .int .i64 vr6.1.Seq]] }), (384, { g := 0, own := true, pure := true, sz := 5, es := [[.psl 1 (List.map (encSl 4 TApiEntry.enc) vr6.2.2.1.Runs), .psl 1 (List.map (encInt .i64) vr6.2.2.1.At), .psl 2 (List.map TApiLsKey.enc vr6.2.2.1.Tree.Keys), .psl 1 (List.map (encInt .i64) vr6.2.2.1.Tree.Lose), .int .i64 vr6.2.2.1.Tree.Win]] }), (472, { g := 0, own := true, pure := true, sz := 4, es := [[.str vr7.1.Key, .str vr7.1.Val, .bool vr7.1.Dead, .int .i64 vr7.1.Seq]] }), (512, { g := 0, own := true, pure := true, sz := 1, es := List.map (encInt .i64) [0, 3] }), (536, { g := 0, own := true, pure := true, sz := 2, es := List.map TApiLsKey.enc [(TApiLsKey.mk [98] false), (TApiLsKey.mk [] true)] }), (544, { g := 0, own := true, pure := true, sz := 1, es := List.map (encInt .i64) [0, 1] }), (784, { g := 0, own := true, pure := true, sz := 4, es := List.map TApiEntry.enc [e10, e12, e13, e14] })]) [144, 224, 296, 376, 384, 472, 512, 536, 544, 784] 1360 [0] (fun | 22 => some (.bool vr15, []) | 26 => (bookendref10_Ints fu vr2.2.1 [1, 0, 1, 1]).bind fun vr16 => some (.bool vr16, []) | 57 => (bookendref10_Ints fu vr5.1.At [1, 2]).bind fun vr23 => some (.bool vr23, []) | _ => none) rfl rfl rfl (fun Kt hK => by
   cases vr15 with
   | false =>
    replace hb17 := iteF hb17 rfl
    have hqb17 := Option.some.inj hb17
    cases b17 with
    | false =>
     replace hb18 := iteF hb18 rfl
     have hqb18 := Option.some.inj hb18
     cases b18 with
     | false =>
      replace hb19 := iteF hb19 rfl
      have hqb19 := Option.some.inj hb19
      cases b19 with
      | false =>
       replace hb20 := iteF hb20 rfl
       have hqb20 := Option.some.inj hb20
       cases b20 with
       | false =>
        replace hb21 := iteF hb21 rfl
        have hqb21 := Option.some.inj hb21
        cases b21 with
        | false =>
         replace hb22 := iteF hb22 rfl
         have hqb22 := Option.some.inj hb22
         cases b22 with
         | false =>
          replace hb24 := iteF hb24 rfl
          have hqb24 := Option.some.inj hb24
          cases b24 with
          | false =>
           replace hb25 := iteF hb25 rfl
           have hqb25 := Option.some.inj hb25
           cases b25 with
           | false =>
            replace hb26 := iteF hb26 rfl
            have hqb26 := Option.some.inj hb26
            cases b26 with
            | false =>
             replace hb27 := iteF hb27 rfl
             have hqb27 := Option.some.inj hb27
             cases b27 with
             | false =>
              replace hb28 := iteF hb28 rfl
              have hqb28 := Option.some.inj hb28
              cases b28 with
              | false =>
               replace hb29 := iteF hb29 rfl
               have hqb29 := Option.some.inj hb29
               cases b29 with
               | false =>
                replace hb30 := iteF hb30 rfl
                have hqb30 := Option.some.inj hb30
                cases b30 with
                | false =>
                 replace hb31 := iteF hb31 rfl
                 have hqb31 := Option.some.inj hb31
                 subst hqb31
                 try have q0 := c_bookendref11_SameEntries hvr15
                 try have q1 := c_bookendref10_Ints hvr16
                 try have q2 := c_bookendref10_Ints hvr23
                 exact rSd (rA he9a (rA he9b (rA he9c (rA he10a (rA he10b (rA he10c (rA he11a (rA he11b (rA he11c (rA he12a (rA he12b (rA he12c (rA he13a (rA he13b (rA he13c (rA he14a (rA he14b he14c)))))))))))))))))
                | true =>
                 cases hqb30
               | true =>
                cases hqb29
              | true =>
               cases hqb28
             | true =>
              cases hqb27
            | true =>
             cases hqb26
           | true =>
            cases hqb25
          | true =>
           cases hqb24
         | true =>
          cases hqb22
        | true =>
         cases hqb21
       | true =>
        cases hqb20
      | true =>
       cases hqb19
     | true =>
      cases hqb18
    | true =>
     cases hqb17
   | true =>
    replace hb17 := iteT hb17 rfl
    obtain ⟨vr16, hvr16, hb17⟩ := bindS hb17
    have hqb17 := Option.some.inj hb17
    cases b17 with
    | false =>
     subst hqb17
     replace hb18 := iteF hb18 rfl
     have hqb18 := Option.some.inj hb18
     cases b18 with
     | false =>
      replace hb19 := iteF hb19 rfl
      have hqb19 := Option.some.inj hb19
      cases b19 with
      | false =>
       replace hb20 := iteF hb20 rfl
       have hqb20 := Option.some.inj hb20
       cases b20 with
       | false =>
        replace hb21 := iteF hb21 rfl
        have hqb21 := Option.some.inj hb21
        cases b21 with
        | false =>
         replace hb22 := iteF hb22 rfl
         have hqb22 := Option.some.inj hb22
         cases b22 with
         | false =>
          replace hb24 := iteF hb24 rfl
          have hqb24 := Option.some.inj hb24
          cases b24 with
          | false =>
           replace hb25 := iteF hb25 rfl
           have hqb25 := Option.some.inj hb25
           cases b25 with
           | false =>
            replace hb26 := iteF hb26 rfl
            have hqb26 := Option.some.inj hb26
            cases b26 with
            | false =>
             replace hb27 := iteF hb27 rfl
             have hqb27 := Option.some.inj hb27
             cases b27 with
             | false =>
              replace hb28 := iteF hb28 rfl
              have hqb28 := Option.some.inj hb28
              cases b28 with
              | false =>
               replace hb29 := iteF hb29 rfl
               have hqb29 := Option.some.inj hb29
               cases b29 with
               | false =>
                replace hb30 := iteF hb30 rfl
                have hqb30 := Option.some.inj hb30
                cases b30 with
                | false =>
                 replace hb31 := iteF hb31 rfl
                 have hqb31 := Option.some.inj hb31
                 subst hqb31
                 try have q0 := c_bookendref11_SameEntries hvr15
                 try have q1 := c_bookendref10_Ints hvr16
                 try have q2 := c_bookendref10_Ints hvr23
                 exact rSd (rA he9a (rA he9b (rA he9c (rA he10a (rA he10b (rA he10c (rA he11a (rA he11b (rA he11c (rA he12a (rA he12b (rA he12c (rA he13a (rA he13b (rA he13c (rA he14a (rA he14b (rA he14c hvr16))))))))))))))))))
                | true =>
                 cases hqb30
               | true =>
                cases hqb29
              | true =>
               cases hqb28
             | true =>
              cases hqb27
            | true =>
             cases hqb26
           | true =>
            cases hqb25
          | true =>
           cases hqb24
         | true =>
          cases hqb22
        | true =>
         cases hqb21
       | true =>
        cases hqb20
      | true =>
       cases hqb19
     | true =>
      cases hqb18
    | true =>
     subst hqb17
     replace hb18 := iteT hb18 rfl
     have hqb18 := Option.some.inj hb18
     cases b18 with
     | false =>
      replace hb19 := iteF hb19 rfl
      have hqb19 := Option.some.inj hb19
      cases b19 with
      | false =>
       replace hb20 := iteF hb20 rfl
       have hqb20 := Option.some.inj hb20
       cases b20 with
       | false =>
        replace hb21 := iteF hb21 rfl
        have hqb21 := Option.some.inj hb21
        cases b21 with
        | false =>
         replace hb22 := iteF hb22 rfl
         have hqb22 := Option.some.inj hb22
         cases b22 with
         | false =>
          replace hb24 := iteF hb24 rfl
          have hqb24 := Option.some.inj hb24
          cases b24 with
          | false =>
           replace hb25 := iteF hb25 rfl
           have hqb25 := Option.some.inj hb25
           cases b25 with
           | false =>
            replace hb26 := iteF hb26 rfl
            have hqb26 := Option.some.inj hb26
            cases b26 with
            | false =>
             replace hb27 := iteF hb27 rfl
             have hqb27 := Option.some.inj hb27
             cases b27 with
             | false =>
              replace hb28 := iteF hb28 rfl
              have hqb28 := Option.some.inj hb28
              cases b28 with
              | false =>
               replace hb29 := iteF hb29 rfl
               have hqb29 := Option.some.inj hb29
               cases b29 with
               | false =>
                replace hb30 := iteF hb30 rfl
                have hqb30 := Option.some.inj hb30
                cases b30 with
                | false =>
                 replace hb31 := iteF hb31 rfl
                 have hqb31 := Option.some.inj hb31
                 subst hqb31
                 simp (maxSteps := 1000000) only [↓reduceIte, reduceCtorEq, Nat.reduceEqDiff, Nat.reduceLT, Nat.reduceLeDiff, Nat.reduceAdd, Nat.reduceMul, Int.reduceToNat, push_cast, he9a, he9b, he9c, he10a, he10b, he10c, he11a, he11b, he11c, he12a, he12b, he12c, he13a, he13b, he13c, he14a, he14b, he14c, hvr16, ↓hqb18]
                 try simp only [↓hqb18] at hK
                 try have q0 := c_bookendref11_SameEntries hvr15
                 try have q1 := c_bookendref10_Ints hvr16
                 try have q2 := c_bookendref10_Ints hvr23
                 all_goals exact rUd
                | true =>
                 cases hqb30
               | true =>
                cases hqb29
              | true =>
               cases hqb28
             | true =>
              cases hqb27
            | true =>
             cases hqb26
           | true =>
            cases hqb25
          | true =>
           cases hqb24
         | true =>
          cases hqb22
        | true =>
         cases hqb21
       | true =>
        cases hqb20
      | true =>
       cases hqb19
     | true =>
      replace hb19 := iteT hb19 rfl
      have hqb19 := Option.some.inj hb19
      cases b19 with
      | false =>
       replace hb20 := iteF hb20 rfl
       have hqb20 := Option.some.inj hb20
       cases b20 with
       | false =>
        replace hb21 := iteF hb21 rfl
        have hqb21 := Option.some.inj hb21
        cases b21 with
        | false =>
         replace hb22 := iteF hb22 rfl
         have hqb22 := Option.some.inj hb22
         cases b22 with
         | false =>
          replace hb24 := iteF hb24 rfl
          have hqb24 := Option.some.inj hb24
          cases b24 with
          | false =>
           replace hb25 := iteF hb25 rfl
           have hqb25 := Option.some.inj hb25
           cases b25 with
           | false =>
            replace hb26 := iteF hb26 rfl
            have hqb26 := Option.some.inj hb26
            cases b26 with
            | false =>
             replace hb27 := iteF hb27 rfl
             have hqb27 := Option.some.inj hb27
             cases b27 with
             | false =>
              replace hb28 := iteF hb28 rfl
              have hqb28 := Option.some.inj hb28
              cases b28 with
              | false =>
               replace hb29 := iteF hb29 rfl
               have hqb29 := Option.some.inj hb29
               cases b29 with
               | false =>
                replace hb30 := iteF hb30 rfl
                have hqb30 := Option.some.inj hb30
                cases b30 with
                | false =>
                 replace hb31 := iteF hb31 rfl
                 have hqb31 := Option.some.inj hb31
                 subst hqb31
                 simp (maxSteps := 1000000) only [↓reduceIte, reduceCtorEq, Nat.reduceEqDiff, Nat.reduceLT, Nat.reduceLeDiff, Nat.reduceAdd, Nat.reduceMul, Int.reduceToNat, push_cast, he9a, he9b, he9c, he10a, he10b, he10c, he11a, he11b, he11c, he12a, he12b, he12c, he13a, he13b, he13c, he14a, he14b, he14c, hvr16, ↓hqb18, ↓hqb19]
                 try simp only [↓hqb18, ↓hqb19] at hK
                 try have q0 := c_bookendref11_SameEntries hvr15
                 try have q1 := c_bookendref10_Ints hvr16
                 try have q2 := c_bookendref10_Ints hvr23
                 all_goals exact rUd
                | true =>
                 cases hqb30
               | true =>
                cases hqb29
              | true =>
               cases hqb28
             | true =>
              cases hqb27
            | true =>
             cases hqb26
           | true =>
            cases hqb25
          | true =>
           cases hqb24
         | true =>
          cases hqb22
        | true =>
         cases hqb21
       | true =>
        cases hqb20
      | true =>
       replace hb20 := iteT hb20 rfl
       have hqb20 := Option.some.inj hb20
       cases b20 with
       | false =>
        replace hb21 := iteF hb21 rfl
        have hqb21 := Option.some.inj hb21
        cases b21 with
        | false =>
         replace hb22 := iteF hb22 rfl
         have hqb22 := Option.some.inj hb22
         cases b22 with
         | false =>
          replace hb24 := iteF hb24 rfl
          have hqb24 := Option.some.inj hb24
          cases b24 with
          | false =>
           replace hb25 := iteF hb25 rfl
           have hqb25 := Option.some.inj hb25
           cases b25 with
           | false =>
            replace hb26 := iteF hb26 rfl
            have hqb26 := Option.some.inj hb26
            cases b26 with
            | false =>
             replace hb27 := iteF hb27 rfl
             have hqb27 := Option.some.inj hb27
             cases b27 with
             | false =>
              replace hb28 := iteF hb28 rfl
              have hqb28 := Option.some.inj hb28
              cases b28 with
              | false =>
               replace hb29 := iteF hb29 rfl
               have hqb29 := Option.some.inj hb29
               cases b29 with
               | false =>
                replace hb30 := iteF hb30 rfl
                have hqb30 := Option.some.inj hb30
                cases b30 with
                | false =>
                 replace hb31 := iteF hb31 rfl
                 have hqb31 := Option.some.inj hb31
                 subst hqb31
                 simp (maxSteps := 1000000) only [↓reduceIte, reduceCtorEq, Nat.reduceEqDiff, Nat.reduceLT, Nat.reduceLeDiff, Nat.reduceAdd, Nat.reduceMul, Int.reduceToNat, push_cast, he9a, he9b, he9c, he10a, he10b, he10c, he11a, he11b, he11c, he12a, he12b, he12c, he13a, he13b, he13c, he14a, he14b, he14c, hvr16, ↓hqb18, ↓hqb19, ↓hqb20]
                 try simp only [↓hqb18, ↓hqb19, ↓hqb20] at hK
                 try have q0 := c_bookendref11_SameEntries hvr15
                 try have q1 := c_bookendref10_Ints hvr16
                 try have q2 := c_bookendref10_Ints hvr23
                 all_goals exact rUd
                | true =>
                 cases hqb30
               | true =>
                cases hqb29
              | true =>
               cases hqb28
             | true =>
              cases hqb27
            | true =>
             cases hqb26
           | true =>
            cases hqb25
          | true =>
           cases hqb24
         | true =>
          cases hqb22
        | true =>
         cases hqb21
       | true =>
        replace hb21 := iteT hb21 rfl
        have hqb21 := Option.some.inj hb21
        cases b21 with
        | false =>
         replace hb22 := iteF hb22 rfl
         have hqb22 := Option.some.inj hb22
         cases b22 with
         | false =>
          replace hb24 := iteF hb24 rfl
          have hqb24 := Option.some.inj hb24
          cases b24 with
          | false =>
           replace hb25 := iteF hb25 rfl
           have hqb25 := Option.some.inj hb25
           cases b25 with
           | false =>
            replace hb26 := iteF hb26 rfl
            have hqb26 := Option.some.inj hb26
            cases b26 with
            | false =>
             replace hb27 := iteF hb27 rfl
             have hqb27 := Option.some.inj hb27
             cases b27 with
             | false =>
              replace hb28 := iteF hb28 rfl
              have hqb28 := Option.some.inj hb28
              cases b28 with
              | false =>
               replace hb29 := iteF hb29 rfl
               have hqb29 := Option.some.inj hb29
               cases b29 with
               | false =>
                replace hb30 := iteF hb30 rfl
                have hqb30 := Option.some.inj hb30
                cases b30 with
                | false =>
                 replace hb31 := iteF hb31 rfl
                 have hqb31 := Option.some.inj hb31
                 subst hqb31
                 simp (maxSteps := 1000000) only [↓reduceIte, reduceCtorEq, Nat.reduceEqDiff, Nat.reduceLT, Nat.reduceLeDiff, Nat.reduceAdd, Nat.reduceMul, Int.reduceToNat, push_cast, he9a, he9b, he9c, he10a, he10b, he10c, he11a, he11b, he11c, he12a, he12b, he12c, he13a, he13b, he13c, he14a, he14b, he14c, hvr16, ↓hqb18, ↓hqb19, ↓hqb20, ↓hqb21]
                 try simp only [↓hqb18, ↓hqb19, ↓hqb20, ↓hqb21] at hK
                 try have q0 := c_bookendref11_SameEntries hvr15
                 try have q1 := c_bookendref10_Ints hvr16
                 try have q2 := c_bookendref10_Ints hvr23
                 all_goals exact rUd
                | true =>
                 cases hqb30
               | true =>
                cases hqb29
              | true =>
               cases hqb28
             | true =>
              cases hqb27
            | true =>
             cases hqb26
           | true =>
            cases hqb25
          | true =>
           cases hqb24
         | true =>
          cases hqb22
        | true =>
         replace hb22 := iteT hb22 rfl
         have hqb22 := Option.some.inj hb22
         cases b22 with
         | false =>
          replace hb24 := iteF hb24 rfl
          have hqb24 := Option.some.inj hb24
          cases b24 with
          | false =>
           replace hb25 := iteF hb25 rfl
           have hqb25 := Option.some.inj hb25
           cases b25 with
           | false =>
            replace hb26 := iteF hb26 rfl
            have hqb26 := Option.some.inj hb26
            cases b26 with
            | false =>
             replace hb27 := iteF hb27 rfl
             have hqb27 := Option.some.inj hb27
             cases b27 with
             | false =>
              replace hb28 := iteF hb28 rfl
              have hqb28 := Option.some.inj hb28
              cases b28 with
              | false =>
               replace hb29 := iteF hb29 rfl
               have hqb29 := Option.some.inj hb29
               cases b29 with
               | false =>
                replace hb30 := iteF hb30 rfl
                have hqb30 := Option.some.inj hb30
                cases b30 with
                | false =>
                 replace hb31 := iteF hb31 rfl
                 have hqb31 := Option.some.inj hb31
                 subst hqb31
                 simp (maxSteps := 1000000) only [↓reduceIte, reduceCtorEq, Nat.reduceEqDiff, Nat.reduceLT, Nat.reduceLeDiff, Nat.reduceAdd, Nat.reduceMul, Int.reduceToNat, push_cast, he9a, he9b, he9c, he10a, he10b, he10c, he11a, he11b, he11c, he12a, he12b, he12c, he13a, he13b, he13c, he14a, he14b, he14c, hvr16, ↓hqb18, ↓hqb19, ↓hqb20, ↓hqb21, ↓hqb22]
                 try simp only [↓hqb18, ↓hqb19, ↓hqb20, ↓hqb21, ↓hqb22] at hK
                 try have q0 := c_bookendref11_SameEntries hvr15
                 try have q1 := c_bookendref10_Ints hvr16
                 try have q2 := c_bookendref10_Ints hvr23
                 all_goals exact rUd
                | true =>
                 cases hqb30
               | true =>
                cases hqb29
              | true =>
               cases hqb28
             | true =>
              cases hqb27
            | true =>
             cases hqb26
           | true =>
            cases hqb25
          | true =>
           cases hqb24
         | true =>
          replace hb24 := iteT hb24 rfl
          obtain ⟨vr23, hvr23, hb24⟩ := bindS hb24
          have hqb24 := Option.some.inj hb24
          cases b24 with
          | false =>
           subst hqb24
           replace hb25 := iteF hb25 rfl
           have hqb25 := Option.some.inj hb25
           cases b25 with
           | false =>
            replace hb26 := iteF hb26 rfl
            have hqb26 := Option.some.inj hb26
            cases b26 with
            | false =>
             replace hb27 := iteF hb27 rfl
             have hqb27 := Option.some.inj hb27
             cases b27 with
             | false =>
              replace hb28 := iteF hb28 rfl
              have hqb28 := Option.some.inj hb28
              cases b28 with
              | false =>
               replace hb29 := iteF hb29 rfl
               have hqb29 := Option.some.inj hb29
               cases b29 with
               | false =>
                replace hb30 := iteF hb30 rfl
                have hqb30 := Option.some.inj hb30
                cases b30 with
                | false =>
                 replace hb31 := iteF hb31 rfl
                 have hqb31 := Option.some.inj hb31
                 subst hqb31
                 simp (maxSteps := 1000000) only [↓reduceIte, reduceCtorEq, Nat.reduceEqDiff, Nat.reduceLT, Nat.reduceLeDiff, Nat.reduceAdd, Nat.reduceMul, Int.reduceToNat, push_cast, he9a, he9b, he9c, he10a, he10b, he10c, he11a, he11b, he11c, he12a, he12b, he12c, he13a, he13b, he13c, he14a, he14b, he14c, hvr16, ↓hqb18, ↓hqb19, ↓hqb20, ↓hqb21, ↓hqb22, hvr23]
                 try simp only [↓hqb18, ↓hqb19, ↓hqb20, ↓hqb21, ↓hqb22] at hK
                 try have q0 := c_bookendref11_SameEntries hvr15
                 try have q1 := c_bookendref10_Ints hvr16
                 try have q2 := c_bookendref10_Ints hvr23
                 all_goals exact rUd
                | true =>
                 cases hqb30
               | true =>
                cases hqb29
              | true =>
               cases hqb28
             | true =>
              cases hqb27
            | true =>
             cases hqb26
           | true =>
            cases hqb25
          | true =>
           subst hqb24
           replace hb25 := iteT hb25 rfl
           have hqb25 := Option.some.inj hb25
           cases b25 with
           | false =>
            replace hb26 := iteF hb26 rfl
            have hqb26 := Option.some.inj hb26
            cases b26 with
            | false =>
             replace hb27 := iteF hb27 rfl
             have hqb27 := Option.some.inj hb27
             cases b27 with
             | false =>
              replace hb28 := iteF hb28 rfl
              have hqb28 := Option.some.inj hb28
              cases b28 with
              | false =>
               replace hb29 := iteF hb29 rfl
               have hqb29 := Option.some.inj hb29
               cases b29 with
               | false =>
                replace hb30 := iteF hb30 rfl
                have hqb30 := Option.some.inj hb30
                cases b30 with
                | false =>
                 replace hb31 := iteF hb31 rfl
                 have hqb31 := Option.some.inj hb31
                 subst hqb31
                 simp (maxSteps := 1000000) only [↓reduceIte, reduceCtorEq, Nat.reduceEqDiff, Nat.reduceLT, Nat.reduceLeDiff, Nat.reduceAdd, Nat.reduceMul, Int.reduceToNat, push_cast, he9a, he9b, he9c, he10a, he10b, he10c, he11a, he11b, he11c, he12a, he12b, he12c, he13a, he13b, he13c, he14a, he14b, he14c, hvr16, ↓hqb18, ↓hqb19, ↓hqb20, ↓hqb21, ↓hqb22, hvr23, ↓hqb25]
                 try simp only [↓hqb18, ↓hqb19, ↓hqb20, ↓hqb21, ↓hqb22, ↓hqb25] at hK
                 try have q0 := c_bookendref11_SameEntries hvr15
                 try have q1 := c_bookendref10_Ints hvr16
                 try have q2 := c_bookendref10_Ints hvr23
                 all_goals exact rUd
                | true =>
                 cases hqb30
               | true =>
                cases hqb29
              | true =>
               cases hqb28
             | true =>
              cases hqb27
            | true =>
             cases hqb26
           | true =>
            replace hb26 := iteT hb26 rfl
            have hqb26 := Option.some.inj hb26
            cases b26 with
            | false =>
             replace hb27 := iteF hb27 rfl
             have hqb27 := Option.some.inj hb27
             cases b27 with
             | false =>
              replace hb28 := iteF hb28 rfl
              have hqb28 := Option.some.inj hb28
              cases b28 with
              | false =>
               replace hb29 := iteF hb29 rfl
               have hqb29 := Option.some.inj hb29
               cases b29 with
               | false =>
                replace hb30 := iteF hb30 rfl
                have hqb30 := Option.some.inj hb30
                cases b30 with
                | false =>
                 replace hb31 := iteF hb31 rfl
                 have hqb31 := Option.some.inj hb31
                 subst hqb31
                 simp (maxSteps := 1000000) only [↓reduceIte, reduceCtorEq, Nat.reduceEqDiff, Nat.reduceLT, Nat.reduceLeDiff, Nat.reduceAdd, Nat.reduceMul, Int.reduceToNat, push_cast, he9a, he9b, he9c, he10a, he10b, he10c, he11a, he11b, he11c, he12a, he12b, he12c, he13a, he13b, he13c, he14a, he14b, he14c, hvr16, ↓hqb18, ↓hqb19, ↓hqb20, ↓hqb21, ↓hqb22, hvr23, ↓hqb25, ↓hqb26]
                 try simp only [↓hqb18, ↓hqb19, ↓hqb20, ↓hqb21, ↓hqb22, ↓hqb25, ↓hqb26] at hK
                 try have q0 := c_bookendref11_SameEntries hvr15
                 try have q1 := c_bookendref10_Ints hvr16
                 try have q2 := c_bookendref10_Ints hvr23
                 all_goals exact rUd
                | true =>
                 cases hqb30
               | true =>
                cases hqb29
              | true =>
               cases hqb28
             | true =>
              cases hqb27
            | true =>
             replace hb27 := iteT hb27 rfl
             have hqb27 := Option.some.inj hb27
             cases b27 with
             | false =>
              replace hb28 := iteF hb28 rfl
              have hqb28 := Option.some.inj hb28
              cases b28 with
              | false =>
               replace hb29 := iteF hb29 rfl
               have hqb29 := Option.some.inj hb29
               cases b29 with
               | false =>
                replace hb30 := iteF hb30 rfl
                have hqb30 := Option.some.inj hb30
                cases b30 with
                | false =>
                 replace hb31 := iteF hb31 rfl
                 have hqb31 := Option.some.inj hb31
                 subst hqb31
                 simp (maxSteps := 1000000) only [↓reduceIte, reduceCtorEq, Nat.reduceEqDiff, Nat.reduceLT, Nat.reduceLeDiff, Nat.reduceAdd, Nat.reduceMul, Int.reduceToNat, push_cast, he9a, he9b, he9c, he10a, he10b, he10c, he11a, he11b, he11c, he12a, he12b, he12c, he13a, he13b, he13c, he14a, he14b, he14c, hvr16, ↓hqb18, ↓hqb19, ↓hqb20, ↓hqb21, ↓hqb22, hvr23, ↓hqb25, ↓hqb26, ↓hqb27]
                 try simp only [↓hqb18, ↓hqb19, ↓hqb20, ↓hqb21, ↓hqb22, ↓hqb25, ↓hqb26, ↓hqb27] at hK
                 try have q0 := c_bookendref11_SameEntries hvr15
                 try have q1 := c_bookendref10_Ints hvr16
                 try have q2 := c_bookendref10_Ints hvr23
                 all_goals exact rUd
                | true =>
                 cases hqb30
               | true =>
                cases hqb29
              | true =>
               cases hqb28
             | true =>
              replace hb28 := iteT hb28 rfl
              have hqb28 := Option.some.inj hb28
              cases b28 with
              | false =>
               replace hb29 := iteF hb29 rfl
               have hqb29 := Option.some.inj hb29
               cases b29 with
               | false =>
                replace hb30 := iteF hb30 rfl
                have hqb30 := Option.some.inj hb30
                cases b30 with
                | false =>
                 replace hb31 := iteF hb31 rfl
                 have hqb31 := Option.some.inj hb31
                 subst hqb31
                 simp (maxSteps := 1000000) only [↓reduceIte, reduceCtorEq, Nat.reduceEqDiff, Nat.reduceLT, Nat.reduceLeDiff, Nat.reduceAdd, Nat.reduceMul, Int.reduceToNat, push_cast, he9a, he9b, he9c, he10a, he10b, he10c, he11a, he11b, he11c, he12a, he12b, he12c, he13a, he13b, he13c, he14a, he14b, he14c, hvr16, ↓hqb18, ↓hqb19, ↓hqb20, ↓hqb21, ↓hqb22, hvr23, ↓hqb25, ↓hqb26, ↓hqb27, ↓hqb28]
                 try simp only [↓hqb18, ↓hqb19, ↓hqb20, ↓hqb21, ↓hqb22, ↓hqb25, ↓hqb26, ↓hqb27, ↓hqb28] at hK
                 try have q0 := c_bookendref11_SameEntries hvr15
                 try have q1 := c_bookendref10_Ints hvr16
                 try have q2 := c_bookendref10_Ints hvr23
                 all_goals exact rUd
                | true =>
                 cases hqb30
               | true =>
                cases hqb29
              | true =>
               replace hb29 := iteT hb29 rfl
               have hqb29 := Option.some.inj hb29
               cases b29 with
               | false =>
                replace hb30 := iteF hb30 rfl
                have hqb30 := Option.some.inj hb30
                cases b30 with
                | false =>
                 replace hb31 := iteF hb31 rfl
                 have hqb31 := Option.some.inj hb31
                 subst hqb31
                 simp (maxSteps := 1000000) only [↓reduceIte, reduceCtorEq, Nat.reduceEqDiff, Nat.reduceLT, Nat.reduceLeDiff, Nat.reduceAdd, Nat.reduceMul, Int.reduceToNat, push_cast, he9a, he9b, he9c, he10a, he10b, he10c, he11a, he11b, he11c, he12a, he12b, he12c, he13a, he13b, he13c, he14a, he14b, he14c, hvr16, ↓hqb18, ↓hqb19, ↓hqb20, ↓hqb21, ↓hqb22, hvr23, ↓hqb25, ↓hqb26, ↓hqb27, ↓hqb28, ↓hqb29]
                 try simp only [↓hqb18, ↓hqb19, ↓hqb20, ↓hqb21, ↓hqb22, ↓hqb25, ↓hqb26, ↓hqb27, ↓hqb28, ↓hqb29] at hK
                 try have q0 := c_bookendref11_SameEntries hvr15
                 try have q1 := c_bookendref10_Ints hvr16
                 try have q2 := c_bookendref10_Ints hvr23
                 all_goals exact rUd
                | true =>
                 cases hqb30
               | true =>
                replace hb30 := iteT hb30 rfl
                have hqb30 := Option.some.inj hb30
                cases b30 with
                | false =>
                 replace hb31 := iteF hb31 rfl
                 have hqb31 := Option.some.inj hb31
                 subst hqb31
                 simp (maxSteps := 1000000) only [↓reduceIte, reduceCtorEq, Nat.reduceEqDiff, Nat.reduceLT, Nat.reduceLeDiff, Nat.reduceAdd, Nat.reduceMul, Int.reduceToNat, push_cast, he9a, he9b, he9c, he10a, he10b, he10c, he11a, he11b, he11c, he12a, he12b, he12c, he13a, he13b, he13c, he14a, he14b, he14c, hvr16, ↓hqb18, ↓hqb19, ↓hqb20, ↓hqb21, ↓hqb22, hvr23, ↓hqb25, ↓hqb26, ↓hqb27, ↓hqb28, ↓hqb29, ↓hqb30]
                 try simp only [↓hqb18, ↓hqb19, ↓hqb20, ↓hqb21, ↓hqb22, ↓hqb25, ↓hqb26, ↓hqb27, ↓hqb28, ↓hqb29, ↓hqb30] at hK
                 try have q0 := c_bookendref11_SameEntries hvr15
                 try have q1 := c_bookendref10_Ints hvr16
                 try have q2 := c_bookendref10_Ints hvr23
                 all_goals exact rUd
                | true =>
                 replace hb31 := iteT hb31 rfl
                 have hqb31 := Option.some.inj hb31
                 subst hqb31
                 simp (maxSteps := 1000000) only [↓reduceIte, reduceCtorEq, Nat.reduceEqDiff, Nat.reduceLT, Nat.reduceLeDiff, Nat.reduceAdd, Nat.reduceMul, Int.reduceToNat, push_cast, he9a, he9b, he9c, he10a, he10b, he10c, he11a, he11b, he11c, he12a, he12b, he12c, he13a, he13b, he13c, he14a, he14b, he14c, hvr16, ↓hqb18, ↓hqb19, ↓hqb20, ↓hqb21, ↓hqb22, hvr23, ↓hqb25, ↓hqb26, ↓hqb27, ↓hqb28, ↓hqb29, ↓hqb30]
                 try simp only [↓hqb18, ↓hqb19, ↓hqb20, ↓hqb21, ↓hqb22, ↓hqb25, ↓hqb26, ↓hqb27, ↓hqb28, ↓hqb29, ↓hqb30] at hK
                 try have q0 := c_bookendref11_SameEntries hvr15
                 try have q1 := c_bookendref10_Ints hvr16
                 try have q2 := c_bookendref10_Ints hvr23
                 all_goals exact rUd) ?_
 refine awp_re (s2 := ⟨[(0, .bool b31)], [(144, { g := 0, own := true, pure := true, sz := 5, es := [[.psl 1 (List.map (encSl 4 TApiEntry.enc) vr3.1.Runs), .psl 1 (List.map (encInt .i64) vr3.1.At), .psl 2 (List.map TApiLsKey.enc vr3.1.Tree.Keys), .psl 1 (List.map (encInt .i64) vr3.1.Tree.Lose), .int .i64 vr3.1.Tree.Win]] }), (224, { g := 0, own := true, pure := true, sz := 4, es := [[.str vr4.1.Key, .str vr4.1.Val, .bool vr4.1.Dead, .int .i64 vr4.1.Seq]] }), (296, { g := 0, own := true, pure := true, sz := 5, es := [[.psl 1 (List.map (encSl 4 TApiEntry.enc) vr5.1.Runs), .psl 1 (List.map (encInt .i64) vr5.1.At), .psl 2 (List.map TApiLsKey.enc vr5.1.Tree.Keys), .psl 1 (List.map (encInt .i64) vr5.1.Tree.Lose), .int .i64 vr5.1.Tree.Win]] }), (376, { g := 0, own := true, pure := true, sz := 4, es := [[.str vr6.1.Key, .str vr6.1.Val, .bool vr6.1.Dead, .int .i64 vr6.1.Seq]] }), (384, { g := 0, own := true, pure := true, sz := 5, es := [[.psl 1 (List.map (encSl 4 TApiEntry.enc) vr6.2.2.1.Runs), .psl 1 (List.map (encInt .i64) vr6.2.2.1.At), .psl 2 (List.map TApiLsKey.enc vr6.2.2.1.Tree.Keys), .psl 1 (List.map (encInt .i64) vr6.2.2.1.Tree.Lose), .int .i64 vr6.2.2.1.Tree.Win]] }), (472, { g := 0, own := true, pure := true, sz := 4, es := [[.str vr7.1.Key, .str vr7.1.Val, .bool vr7.1.Dead, .int .i64 vr7.1.Seq]] }), (512, { g := 0, own := true, pure := true, sz := 1, es := List.map (encInt .i64) [0, 3] }), (536, { g := 0, own := true, pure := true, sz := 2, es := List.map TApiLsKey.enc [(TApiLsKey.mk [98] false), (TApiLsKey.mk [] true)] }), (544, { g := 0, own := true, pure := true, sz := 1, es := List.map (encInt .i64) [0, 1] }), (784, { g := 0, own := true, pure := true, sz := 4, es := List.map TApiEntry.enc [e10, e12, e13, e14] })], 1360, []⟩) [] (Nat.le_of_ble_eq_true rfl) ⟨rF, rE, rfl, rfl, trivial, trivial⟩ ?_
 refine awp_ret ?_
 obtain rfl := Option.some.inj h0
 refine leave_retG [] ?_
 simp (maxSteps := 1000000) only [↓reduceIte, reduceCtorEq, Nat.reduceEqDiff, Nat.reduceLT, Nat.reduceLeDiff, Nat.reduceAdd, Nat.reduceMul, Int.reduceToNat, push_cast, Gives, he9a, he9b, he9c, he10a, he10b, he10c, he11a, he11b, he11c, he12a, he12b, he12c, he13a, he13b, he13c, he14a, he14b, he14c]
 all_goals exact rH
end Go.T
end
section
/- The program computes them. -/
namespace Go.T
open Go Go.AM Go.Proofs
set_option maxRecDepth 100000
set_option maxHeartbeats 4000000
set_option linter.unusedVariables false
theorem c_bookendref03_Check {fu : Nat} {vx1 : TApiEntry} {r : Int} (h0 : bookendref03_Check fu vx1 = some r) : PCall Try.prog 63 [.agg (TApiEntry.enc vx1)] (.int .i64 r) [] := by
 refine awp_pcall Try.func63 rfl (by decide) (Nat.le_of_ble_eq_true rfl) ?_
 dsimp only [Try.f63]
 rw [bookendref03_Check] at h0
 refine (show AWP _ _ _ _ ⟨enumFr 0 _, [], 0, []⟩ from ?_)
 refine awp_sr2 16 [1] (fun _ => none) rfl (fun _ _ => rT) ?_
 refine awp_seq ?_
 obtain ⟨b2, hb2, h0⟩ := bindS h0
 refine awp_sr3 (fr' := [(1, .ref 0 0 0 0), (12, .bool b2)]) (hp' := [(0, { g := 0, own := true, pure := true, sz := 4, es := [[.str vx1.Key, .str vx1.Val, .bool vx1.Dead, .int .i64 vx1.Seq]] })]) [0] 96 [1, 12] (fun _ => none) rfl (fun Kt hK => by
   cases hg3 : (decide (32 < (vx1.Key.length : Int))) with
   | false =>
    replace hb2 := iteF hb2 hg3
    have hqb2 := Option.some.inj hb2
    subst hqb2
    simp (maxSteps := 1000000) only [↓reduceIte, reduceCtorEq, Nat.reduceEqDiff, Nat.reduceLT, Nat.reduceLeDiff, Nat.reduceAdd, Nat.reduceMul, Int.reduceToNat, push_cast, ↓hg3]
    try simp only [↓hg3] at hK
    all_goals exact rU
   | true =>
    replace hb2 := iteT hb2 hg3
    have hqb2 := Option.some.inj hb2
    subst hqb2
    simp (maxSteps := 1000000) only [↓reduceIte, reduceCtorEq, Nat.reduceEqDiff, Nat.reduceLT, Nat.reduceLeDiff, Nat.reduceAdd, Nat.reduceMul, Int.reduceToNat, push_cast, ↓hg3]
    try simp only [↓hg3] at hK
    all_goals exact rU) ?_
 refine awp_if rfl (fun hb4 => ?_) (fun hb4 => ?_)
 ·
  replace h0 := iteT h0 hb4
  refine awp_sr2 104 [2] (fun _ => none) rfl (fun _ _ => rT) ?_
  refine awp_ret ?_
  refine kr_then ?_
  obtain rfl := Option.some.inj h0
  refine leave_retG [] ?_
  exact rG
 ·
  replace h0 := iteF h0 hb4
  refine awp_skip ?_
  refine kn_then ?_
  refine awp_seq ?_
  obtain ⟨b5, hb5, h0⟩ := bindS h0
  refine awp_sr3 (fr' := [(1, .ref 0 0 0 0), (19, .bool b5)]) (hp' := [(0, { g := 0, own := true, pure := true, sz := 4, es := [[.str vx1.Key, .str vx1.Val, .bool vx1.Dead, .int .i64 vx1.Seq]] })]) [0] 152 [1, 19] (fun _ => none) rfl (fun Kt hK => by
    cases hg6 : vx1.Dead with
    | false =>
     replace hb5 := iteF hb5 hg6
     have hqb5 := Option.some.inj hb5
     subst hqb5
     simp (maxSteps := 1000000) only [↓reduceIte, reduceCtorEq, Nat.reduceEqDiff, Nat.reduceLT, Nat.reduceLeDiff, Nat.reduceAdd, Nat.reduceMul, Int.reduceToNat, push_cast, ↓hg6]
     try simp only [↓hg6] at hK
     all_goals exact rU
    | true =>
     replace hb5 := iteT hb5 hg6
     have hqb5 := Option.some.inj hb5
     subst hqb5
     simp (maxSteps := 1000000) only [↓reduceIte, reduceCtorEq, Nat.reduceEqDiff, Nat.reduceLT, Nat.reduceLeDiff, Nat.reduceAdd, Nat.reduceMul, Int.reduceToNat, push_cast, ↓hg6]
     try simp only [↓hg6] at hK
     all_goals exact rU) ?_
  refine awp_if rfl (fun hb7 => ?_) (fun hb7 => ?_)
  ·
   replace h0 := iteT h0 hb7
   refine awp_sr2 160 [2] (fun _ => none) rfl (fun _ _ => rT) ?_
   refine awp_ret ?_
   refine kr_then ?_
   obtain rfl := Option.some.inj h0
   refine leave_retG [] ?_
   exact rG
  ·
   replace h0 := iteF h0 hb7
   refine awp_skip ?_
   refine kn_then ?_
   refine awp_seq ?_
   obtain ⟨b8, hb8, h0⟩ := bindS h0
   refine awp_sr3 (fr' := [(27, .bool b8)]) (hp' := [(0, { g := 0, own := true, pure := true, sz := 4, es := [[.str vx1.Key, .str vx1.Val, .bool vx1.Dead, .int .i64 vx1.Seq]] })]) [0] 216 [27] (fun _ => none) rfl (fun Kt hK => by
     cases hg9 : (decide (vx1.Seq < 1)) with
     | false =>
      replace hb8 := iteF hb8 hg9
      have hqb8 := Option.some.inj hb8
      subst hqb8
      simp (maxSteps := 1000000) only [↓reduceIte, reduceCtorEq, Nat.reduceEqDiff, Nat.reduceLT, Nat.reduceLeDiff, Nat.reduceAdd, Nat.reduceMul, Int.reduceToNat, push_cast, ↓hg9]
      try simp only [↓hg9] at hK
      all_goals exact rU
     | true =>
      replace hb8 := iteT hb8 hg9
      have hqb8 := Option.some.inj hb8
      subst hqb8
      simp (maxSteps := 1000000) only [↓reduceIte, reduceCtorEq, Nat.reduceEqDiff, Nat.reduceLT, Nat.reduceLeDiff, Nat.reduceAdd, Nat.reduceMul, Int.reduceToNat, push_cast, ↓hg9]
      try simp only [↓hg9] at hK
      all_goals exact rU) ?_
   refine awp_if rfl (fun hb10 => ?_) (fun hb10 => ?_)
   ·
    replace h0 := iteT h0 hb10
    refine awp_sr2 224 [2] (fun _ => none) rfl (fun _ _ => rT) ?_
    refine awp_ret ?_
    refine kr_then ?_
    obtain rfl := Option.some.inj h0
    refine leave_retG [] ?_
    exact rG
   ·
    replace h0 := iteF h0 hb10
    refine awp_skip ?_
    refine kn_then ?_
    refine awp_sr2 224 [2] (fun _ => none) rfl (fun _ _ => rT) ?_
    refine awp_ret ?_
    obtain rfl := Option.some.inj h0
    refine leave_retG [] ?_
    exact rG
end Go.T
end
section
/- The program computes them. -/
namespace Go.T
open Go Go.AM Go.Proofs
set_option maxRecDepth 100000
set_option maxHeartbeats 4000000
set_option linter.unusedVariables false
theorem c_bookendref02_common {fu : Nat} {a1 : List UInt8} {b2 : List UInt8} {r : Int} (h0 : bookendref02_common fu a1 b2 = some r) : PCall Try.prog 72 [.str a1, .str b2] (.int .i64 r) [] := by
 refine awp_pcall Try.func72 rfl (by decide) (Nat.le_of_ble_eq_true rfl) ?_
 dsimp only [Try.f72]
 rw [bookendref02_common] at h0
 refine (show AWP _ _ _ _ ⟨enumFr 0 _, [], 0, []⟩ from ?_)
 refine awp_sr2 8 [0, 1] (fun _ => none) rfl (fun _ _ => rT) ?_
 refine awp_sr2 16 [0, 1, 5] (fun _ => none) rfl (fun _ _ => rT) ?_
 obtain ⟨x20, hxx20, h0⟩ := bindS h0
 refine awp_sloop (fun s' => s'.nx ≤ 168 ∧ LeN [] s' ⟨[(5, .int .i64 x20)], [], 168, []⟩) ?_ ?_
 ·
  intro s' hs
  obtain ⟨hn, hs⟩ := hs
  refine awp_re [] hn hs ?_
  refine awp_sr2 184 [4] (fun _ => none) rfl (fun _ _ => rT) ?_
  refine awp_ret ?_
  obtain rfl := Option.some.inj h0
  refine leave_retG [] ?_
  exact rG
 ·
  refine awp_loopF (ι := { p : Nat × Int // bookendref02_common_l1 a1 b2 p.1 p.2 = some x20 }) (fun p => ⟨[(0, .str a1), (1, .str b2), (5, .int .i64 p.1.2)], [], 16, []⟩) (fun p => p.1.1) ⟨(fu, 0), hxx20⟩ ⟨rF, rE, rfl, rfl, trivial, trivial⟩ (fun _ => Nat.le_refl _) ?_
  rintro ⟨⟨fu, n21⟩, h1⟩
  cases fu with
  | zero =>
   replace h1 : bookendref02_common_l1 a1 b2 0 n21 = some x20 := h1
   rw [bookendref02_common_l1] at h1; cases h1
  | succ fu =>
   replace h1 : bookendref02_common_l1 a1 b2 (fu + 1) n21 = some x20 := h1
   rw [bookendref02_common_l1] at h1
   refine (show AWP _ _ _ _ ⟨[(0, .str a1), (1, .str b2), (5, .int .i64 n21)], [], 16, []⟩ from ?_)
   refine awp_seq ?_
   obtain ⟨b22, hb22, h1⟩ := bindS h1
   obtain ⟨b25, hb25, h1⟩ := bindS h1
   refine awp_sd3 (fr' := [(0, .str a1), (1, .str b2), (5, .int .i64 n21), (24, .bool b25)]) (hp' := []) [] 168 [0, 1, 5, 24] (fun _ => none) rfl rfl rfl (fun Kt hK => by
     cases hg26 : (decide (n21 < (a1.length : Int))) with
     | false =>
      replace hb22 := iteF hb22 hg26
      have hqb22 := Option.some.inj hb22
      cases b22 with
      | false =>
       replace hb25 := iteF hb25 rfl
       have hqb25 := Option.some.inj hb25
       subst hqb25
       simp (maxSteps := 1000000) only [↓reduceIte, reduceCtorEq, Nat.reduceEqDiff, Nat.reduceLT, Nat.reduceLeDiff, Nat.reduceAdd, Nat.reduceMul, Int.reduceToNat, push_cast, ↓hg26]
       try simp only [↓hg26] at hK
       all_goals exact rUd
      | true =>
       cases hqb22
     | true =>
      replace hb22 := iteT hb22 hg26
      have hqb22 := Option.some.inj hb22
      cases b22 with
      | false =>
       replace hb25 := iteF hb25 rfl
       have hqb25 := Option.some.inj hb25
       subst hqb25
       simp (maxSteps := 1000000) only [↓reduceIte, reduceCtorEq, Nat.reduceEqDiff, Nat.reduceLT, Nat.reduceLeDiff, Nat.reduceAdd, Nat.reduceMul, Int.reduceToNat, push_cast, ↓hg26, ↓hqb22]
       try simp only [↓hg26, ↓hqb22] at hK
       all_goals exact rUd
      | true =>
       replace hb25 := iteT hb25 rfl
       obtain ⟨e23, he23, hb25⟩ := bindS hb25
       obtain ⟨he23a, he23b, he23c⟩ := idxS he23
       obtain ⟨e24, he24, hb25⟩ := bindS hb25
       obtain ⟨he24a, he24b, he24c⟩ := idxS he24
       have hqb25 := Option.some.inj hb25
       subst hqb25
       simp (maxSteps := 1000000) only [↓reduceIte, reduceCtorEq, Nat.reduceEqDiff, Nat.reduceLT, Nat.reduceLeDiff, Nat.reduceAdd, Nat.reduceMul, Int.reduceToNat, push_cast, ↓hg26, ↓hqb22, he23a, he23b, he23c, he23, he24a, he24b, he24c, he24]
       try simp only [↓hg26, ↓hqb22] at hK
       all_goals exact rUd) ?_
   refine awp_if rfl (fun hb29 => ?_) (fun hb29 => ?_)
   ·
    replace h1 := iteT h1 hb29
    refine awp_skip ?_
    refine kn_then ?_
    refine awp_block ?_
    refine awp_r2 192 [0, 1, 5] (fun _ => none) rfl (fun _ _ => rT) ?_
    refine kn_block ?_
    refine kn_then ?_
    exact ⟨⟨(fu, (IntKind.i64.wrap (n21 + 1))), h1⟩, ⟨rF, rE, rfl, rfl, trivial, trivial⟩, Nat.lt_succ_self _⟩
   ·
    replace h1 := iteF h1 hb29
    refine awp_exit ?_
    refine kx_then ?_
    refine kx_then ?_
    refine kx_done ?_
    obtain rfl := Option.some.inj h1
    exact ⟨Nat.le_of_ble_eq_true rfl, ⟨rF, rE, rfl, rfl, trivial, trivial⟩⟩
end Go.T
end
section
/- The program computes them. -/
namespace Go.T
open Go Go.AM Go.Proofs
set_option maxRecDepth 100000
set_option maxHeartbeats 4000000
set_option linter.unusedVariables false
theorem c_bookendref02_Order {fu : Nat} {a1 : List UInt8} {b2 : List UInt8} {r : Int} (h0 : bookendref02_Order fu a1 b2 = some r) : PCall Try.prog 64 [.str a1, .str b2] (.int .i64 r) [] := by
 refine awp_pcall Try.func64 rfl (by decide) (Nat.le_of_ble_eq_true rfl) ?_
 dsimp only [Try.f64]
 rw [bookendref02_Order] at h0
 refine (show AWP _ _ _ _ ⟨enumFr 0 _, [], 0, []⟩ from ?_)
 refine awp_sr2 8 [0, 1] (fun _ => none) rfl (fun _ _ => rT) ?_
 obtain ⟨vr3, hvr3, h0⟩ := bindS h0
 refine awp_sr2 40 [0, 1, 5] (fun | 2 => some (.int .i64 vr3, []) | _ => none) rfl (fun _ _ => rC (c_bookendref02_common hvr3)) ?_
 refine awp_seq ?_
 obtain ⟨b4, hb4, h0⟩ := bindS h0
 refine awp_sr3 (fr' := [(0, .str a1), (1, .str b2), (5, .int .i64 vr3), (18, .bool b4)]) (hp' := []) [] 120 [0, 1, 5, 18] (fun _ => none) rfl (fun Kt hK => by
   cases hg5 : (decide (vr3 = (a1.length : Int))) with
   | false =>
    replace hb4 := iteF hb4 hg5
    have hqb4 := Option.some.inj hb4
    subst hqb4
    simp (maxSteps := 1000000) only [↓reduceIte, reduceCtorEq, Nat.reduceEqDiff, Nat.reduceLT, Nat.reduceLeDiff, Nat.reduceAdd, Nat.reduceMul, Int.reduceToNat, push_cast, ↓hg5]
    try simp only [↓hg5] at hK
    all_goals exact rU
   | true =>
    replace hb4 := iteT hb4 hg5
    have hqb4 := Option.some.inj hb4
    subst hqb4
    simp (maxSteps := 1000000) only [↓reduceIte, reduceCtorEq, Nat.reduceEqDiff, Nat.reduceLT, Nat.reduceLeDiff, Nat.reduceAdd, Nat.reduceMul, Int.reduceToNat, push_cast, ↓hg5]
    try simp only [↓hg5] at hK
    all_goals exact rU) ?_
 refine awp_if rfl (fun hb6 => ?_) (fun hb6 => ?_)
 ·
  replace h0 := iteT h0 hb6
  refine awp_sr2 128 [4] (fun _ => none) rfl (fun _ _ => rT) ?_
  refine awp_ret ?_
  refine kr_then ?_
  obtain rfl := Option.some.inj h0
  refine leave_retG [] ?_
  exact rG
 ·
  replace h0 := iteF h0 hb6
  refine awp_skip ?_
  refine kn_then ?_
  refine awp_seq ?_
  obtain ⟨b10, hb10, h0⟩ := bindS h0
  refine awp_sd3 (fr' := [(37, .bool b10)]) (hp' := []) [] 272 [37] (fun _ => none) rfl rfl rfl (fun Kt hK => by
    cases hg11 : (decide (vr3 = (a1.length : Int))) with
    | false =>
     replace hb10 := iteF hb10 hg11
     obtain ⟨b9, hb9, hb10⟩ := bindS hb10
     have hqb10 := Option.some.inj hb10
     cases hg12 : (decide (vr3 < (b2.length : Int))) with
     | false =>
      replace hb9 := iteF hb9 hg12
      have hqb9 := Option.some.inj hb9
      subst hqb10
      subst hqb9
      simp (maxSteps := 1000000) only [↓reduceIte, reduceCtorEq, Nat.reduceEqDiff, Nat.reduceLT, Nat.reduceLeDiff, Nat.reduceAdd, Nat.reduceMul, Int.reduceToNat, push_cast, ↓hg11, ↓hg12]
      try simp only [↓hg11, ↓hg12] at hK
      all_goals exact rUd
     | true =>
      replace hb9 := iteT hb9 hg12
      obtain ⟨e7, he7, hb9⟩ := bindS hb9
      obtain ⟨he7a, he7b, he7c⟩ := idxS he7
      obtain ⟨e8, he8, hb9⟩ := bindS hb9
      obtain ⟨he8a, he8b, he8c⟩ := idxS he8
      have hqb9 := Option.some.inj hb9
      subst hqb10
      subst hqb9
      simp (maxSteps := 1000000) only [↓reduceIte, reduceCtorEq, Nat.reduceEqDiff, Nat.reduceLT, Nat.reduceLeDiff, Nat.reduceAdd, Nat.reduceMul, Int.reduceToNat, push_cast, ↓hg11, ↓hg12, he7a, he7b, he7c, he7, he8a, he8b, he8c, he8]
      try simp only [↓hg11, ↓hg12] at hK
      all_goals exact rUd
    | true =>
     replace hb10 := iteT hb10 hg11
     have hqb10 := Option.some.inj hb10
     subst hqb10
     simp (maxSteps := 1000000) only [↓reduceIte, reduceCtorEq, Nat.reduceEqDiff, Nat.reduceLT, Nat.reduceLeDiff, Nat.reduceAdd, Nat.reduceMul, Int.reduceToNat, push_cast, ↓hg11]
     try simp only [↓hg11] at hK
     all_goals exact rUd) ?_
  refine awp_if rfl (fun hb13 => ?_) (fun hb13 => ?_)
  ·
   replace h0 := iteT h0 hb13
   refine awp_sr2 280 [4] (fun _ => none) rfl (fun _ _ => rT) ?_
   refine awp_ret ?_
   refine kr_then ?_
   obtain rfl := Option.some.inj h0
   refine leave_retG [] ?_
   exact rG
  ·
   replace h0 := iteF h0 hb13
   refine awp_skip ?_
   refine kn_then ?_
   refine awp_sr2 280 [4] (fun _ => none) rfl (fun _ _ => rT) ?_
   refine awp_ret ?_
   obtain rfl := Option.some.inj h0
   refine leave_retG [] ?_
   exact rG
end Go.T
end
section
/- The program computes them. -/
namespace Go.T
open Go Go.AM Go.Proofs
set_option maxRecDepth 100000
set_option maxHeartbeats 4000000
set_option linter.unusedVariables false
theorem c_bookendref03_CheckList {fu : Nat} {l1 : List TApiEntry} {r : Int × Int} (h0 : bookendref03_CheckList fu l1 = some r) : PCall Try.prog 49 [.psl 4 (l1.map TApiEntry.enc)] (.tup [.int .i64 r.1, .int .i64 r.2]) [] := by
 refine awp_pcall Try.func49 rfl (by decide) (Nat.le_of_ble_eq_true rfl) ?_
 dsimp only [Try.f49]
 rw [bookendref03_CheckList] at h0
 refine (show AWP _ _ _ _ ⟨enumFr 0 _, [], 0, []⟩ from ?_)
 refine awp_sr2 16 [0] (fun _ => none) rfl (fun _ _ => rT) ?_
 refine awp_seq ?_
 refine awp_sr2 40 [0, 8] (fun _ => none) rfl (fun _ _ => rT) ?_
 refine awp_if rfl (fun hb2 => ?_) (fun hb2 => ?_)
 ·
  replace h0 := iteT h0 hb2
  refine awp_sr2 56 [2, 3] (fun _ => none) rfl (fun _ _ => rT) ?_
  refine awp_ret ?_
  refine kr_then ?_
  obtain rfl := Option.some.inj h0
  refine leave_retG [] ?_
  exact rG
 ·
  replace h0 := iteF h0 hb2
  refine awp_skip ?_
  refine kn_then ?_
  refine awp_seq ?_
  refine awp_sr2 48 [0, 4] (fun _ => none) rfl (fun _ _ => rT) ?_
  obtain ⟨x28, hxx28, h0⟩ := bindS h0
  refine awp_bloop (fun s' => ∃ o42 : Unit, x28 = .inl o42 ∧ s'.nx ≤ 80 ∧ LeN [] s' ⟨[], [], 80, []⟩) ?_ ?_
  ·
   intro s' hs
   obtain ⟨o42, rfl, hn, hs⟩ := hs
   refine kn_then ?_
   refine awp_re [] hn hs ?_
   refine awp_sr2 96 [2, 3] (fun _ => none) rfl (fun _ _ => rT) ?_
   refine awp_ret ?_
   obtain rfl := Option.some.inj h0
   refine leave_retG [] ?_
   exact rG
  ·
   refine awp_loopF (ι := { p : Nat × Int // bookendref03_CheckList_l1 l1 p.1 p.2 = some x28 }) (fun p => ⟨[(0, .psl 4 (List.map TApiEntry.enc l1)), (4, .int .i64 p.1.2)], [], 48, []⟩) (fun p => p.1.1) ⟨(fu, 0), hxx28⟩ ⟨rF, rE, rfl, rfl, trivial, trivial⟩ (fun _ => Nat.le_refl _) ?_
   rintro ⟨⟨fu, i29⟩, h1⟩
   cases fu with
   | zero =>
   replace h1 : bookendref03_CheckList_l1 l1 0 i29 = some x28 := h1
   rw [bookendref03_CheckList_l1] at h1; cases h1
   | succ fu =>
    replace h1 : bookendref03_CheckList_l1 l1 (fu + 1) i29 = some x28 := h1
    rw [bookendref03_CheckList_l1] at h1
    refine (show AWP _ _ _ _ ⟨[(0, .psl 4 (List.map TApiEntry.enc l1)), (4, .int .i64 i29)], [], 48, []⟩ from ?_)
    refine awp_seq ?_
    refine awp_sr2 80 [0, 4, 12] (fun _ => none) rfl (fun _ _ => rT) ?_
    refine awp_if rfl (fun hb30 => ?_) (fun hb30 => ?_)
    ·
     replace h1 := iteT h1 hb30
     refine awp_skip ?_
     refine kn_then ?_
     refine awp_seq ?_
     refine awp_block ?_
     obtain ⟨e31, he31, h1⟩ := bindS h1
     obtain ⟨he31a, he31b, he31c⟩ := idxS he31
     obtain ⟨vr32, hvr32, h1⟩ := bindS h1
     refine awp_sr2 128 [0, 4, 5] (fun | 4 => some (.int .i64 vr32, []) | _ => none) rfl (fun _ _ => rB (rA he31a (rA he31b he31c)) (c_bookendref03_Check hvr32)) ?_
     refine awp_seq ?_
     obtain ⟨b33, hb33, h1⟩ := bindS h1
     obtain ⟨b36, hb36, h1⟩ := bindS h1
     refine awp_sd3 (fr' := [(0, .psl 4 (List.map TApiEntry.enc l1)), (4, .int .i64 i29), (5, .int .i64 vr32), (40, .bool b36)]) (hp' := []) [] 296 [0, 4, 5, 40] (fun | 18 => (ix l1 (IntKind.i64.wrap (i29 - 1))).bind fun e34 => (bookendref02_Order fu e34.Key e31.Key).bind fun vr35 => some (.int .i64 vr35, []) | _ => none) rfl rfl rfl (fun Kt hK => by
       cases hg37 : (decide (vr32 = 0)) with
       | false =>
        replace hb33 := iteF hb33 hg37
        have hqb33 := Option.some.inj hb33
        cases b33 with
        | false =>
         replace hb36 := iteF hb36 rfl
         have hqb36 := Option.some.inj hb36
         subst hqb36
         simp (maxSteps := 1000000) only [↓reduceIte, reduceCtorEq, Nat.reduceEqDiff, Nat.reduceLT, Nat.reduceLeDiff, Nat.reduceAdd, Nat.reduceMul, Int.reduceToNat, push_cast, he31a, he31b, he31c, ↓hg37]
         try simp only [↓hg37] at hK
         try have q0 := c_bookendref02_Order hvr35
         all_goals exact rUd
        | true =>
         cases hqb33
       | true =>
        replace hb33 := iteT hb33 hg37
        have hqb33 := Option.some.inj hb33
        cases b33 with
        | false =>
         replace hb36 := iteF hb36 rfl
         have hqb36 := Option.some.inj hb36
         subst hqb36
         simp (maxSteps := 1000000) only [↓reduceIte, reduceCtorEq, Nat.reduceEqDiff, Nat.reduceLT, Nat.reduceLeDiff, Nat.reduceAdd, Nat.reduceMul, Int.reduceToNat, push_cast, he31a, he31b, he31c, ↓hg37, ↓hqb33]
         try simp only [↓hg37, ↓hqb33] at hK
         try have q0 := c_bookendref02_Order hvr35
         all_goals exact rUd
        | true =>
         replace hb36 := iteT hb36 rfl
         obtain ⟨e34, he34, hb36⟩ := bindS hb36
         obtain ⟨he34a, he34b, he34c⟩ := idxS he34
         obtain ⟨vr35, hvr35, hb36⟩ := bindS hb36
         have hqb36 := Option.some.inj hb36
         subst hqb36
         simp (maxSteps := 1000000) only [↓reduceIte, reduceCtorEq, Nat.reduceEqDiff, Nat.reduceLT, Nat.reduceLeDiff, Nat.reduceAdd, Nat.reduceMul, Int.reduceToNat, push_cast, he31a, he31b, he31c, ↓hg37, ↓hqb33, he34a, he34b, he34c, he34, hvr35]
         try simp only [↓hg37, ↓hqb33] at hK
         try have q0 := c_bookendref02_Order hvr35
         all_goals exact rUd) ?_
     refine awp_if rfl (fun hb40 => ?_) (fun hb40 => ?_)
     ·
      replace h1 := iteT h1 hb40
      refine awp_r2 304 [0, 4, 5] (fun _ => none) rfl (fun _ _ => rS (rA he31a (rA he31b he31c))) ?_
      refine kn_then ?_
      refine awp_sr2 320 [0, 4, 5, 42] (fun _ => none) rfl (fun _ _ => rS (rA he31a (rA he31b he31c))) ?_
      refine awp_condT rfl ?_
      refine awp_sr2 352 [2, 3] (fun _ => none) rfl (fun _ _ => rS (rA he31a (rA he31b he31c))) ?_
      refine awp_ret ?_
      obtain rfl := Option.some.inj h1
      refine kr_block ?_
      refine kr_then ?_
      refine kr_then ?_
      refine kr_loop ?_
      refine kr_then ?_
      obtain rfl := Option.some.inj h0
      refine leave_retG [] ?_
      simp (maxSteps := 1000000) only [↓reduceIte, reduceCtorEq, Nat.reduceEqDiff, Nat.reduceLT, Nat.reduceLeDiff, Nat.reduceAdd, Nat.reduceMul, Int.reduceToNat, push_cast, Gives, he31a, he31b, he31c]
      all_goals exact rH
     ·
      replace h1 := iteF h1 hb40
      refine awp_skip ?_
      refine kn_then ?_
      refine awp_sr2 312 [0, 4, 5, 42] (fun _ => none) rfl (fun _ _ => rS (rA he31a (rA he31b he31c))) ?_
      refine awp_if rfl (fun hb41 => ?_) (fun hb41 => ?_)
      ·
       replace h1 := iteT h1 hb41
       refine awp_sr2 344 [2, 3] (fun _ => none) rfl (fun _ _ => rS (rA he31a (rA he31b he31c))) ?_
       refine awp_ret ?_
       obtain rfl := Option.some.inj h1
       refine kr_block ?_
       refine kr_then ?_
       refine kr_then ?_
       refine kr_loop ?_
       refine kr_then ?_
       obtain rfl := Option.some.inj h0
       refine leave_retG [] ?_
       simp (maxSteps := 1000000) only [↓reduceIte, reduceCtorEq, Nat.reduceEqDiff, Nat.reduceLT, Nat.reduceLeDiff, Nat.reduceAdd, Nat.reduceMul, Int.reduceToNat, push_cast, Gives, he31a, he31b, he31c]
       all_goals exact rH
      ·
       replace h1 := iteF h1 hb41
       refine awp_skip ?_
       refine kn_block ?_
       refine kn_then ?_
       refine awp_r2 336 [0, 4] (fun _ => none) rfl (fun _ _ => rS (rA he31a (rA he31b he31c))) ?_
       refine kn_then ?_
       exact ⟨⟨(fu, (IntKind.i64.wrap (i29 + 1))), h1⟩, ⟨rF, rE, rfl, rfl, trivial, trivial⟩, Nat.lt_succ_self _⟩
    ·
     replace h1 := iteF h1 hb30
     refine awp_exit ?_
     refine kx_then ?_
     refine kx_then ?_
     refine kx_done ?_
     obtain rfl := Option.some.inj h1
     exact ⟨_, rfl, Nat.le_of_ble_eq_true rfl, ⟨rF, rE, rfl, rfl, trivial, trivial⟩⟩
end Go.T
end
section
/- The program computes them. -/
namespace Go.T
open Go Go.AM Go.Proofs
set_option maxRecDepth 100000
set_option maxHeartbeats 4000000
set_option linter.unusedVariables false
theorem c_bookendref11_right {fu : Nat} {runs1 : List (List TApiEntry)} {r : Int × Int} (h0 : bookendref11_right fu runs1 = some r) : PCall Try.prog 32 [.psl 1 (runs1.map (encSl 4 TApiEntry.enc))] (.tup [.int .i64 r.1, .int .i64 r.2]) [] := by
 refine awp_pcall Try.func32 rfl (by decide) (Nat.le_of_ble_eq_true rfl) ?_
 dsimp only [Try.f32]
 rw [bookendref11_right] at h0
 refine (show AWP _ _ _ _ ⟨enumFr 0 _, [], 0, []⟩ from ?_)
 refine awp_sr2 16 [0] (fun _ => none) rfl (fun _ _ => rT) ?_
 refine awp_seq ?_
 refine awp_sr2 40 [0, 9] (fun _ => none) rfl (fun _ _ => rT) ?_
 refine awp_if rfl (fun hb2 => ?_) (fun hb2 => ?_)
 ·
  replace h0 := iteT h0 hb2
  refine awp_sr2 56 [2, 3] (fun _ => none) rfl (fun _ _ => rT) ?_
  refine awp_ret ?_
  refine kr_then ?_
  obtain rfl := Option.some.inj h0
  refine leave_retG [] ?_
  exact rG
 ·
  replace h0 := iteF h0 hb2
  refine awp_skip ?_
  refine kn_then ?_
  refine awp_seq ?_
  refine awp_sr2 64 [0, 12] (fun _ => none) rfl (fun _ _ => rT) ?_
  refine awp_if rfl (fun hb3 => ?_) (fun hb3 => ?_)
  ·
   replace h0 := iteT h0 hb3
   refine awp_sr2 80 [2, 3] (fun _ => none) rfl (fun _ _ => rT) ?_
   refine awp_ret ?_
   refine kr_then ?_
   obtain rfl := Option.some.inj h0
   refine leave_retG [] ?_
   exact rG
  ·
   replace h0 := iteF h0 hb3
   refine awp_skip ?_
   refine kn_then ?_
   refine awp_seq ?_
   refine awp_sr2 72 [0, 4] (fun _ => none) rfl (fun _ _ => rT) ?_
   obtain ⟨x13, hxx13, h0⟩ := bindS h0
   refine awp_bloop (fun s' => ∃ o19 : Unit, x13 = .inl o19 ∧ s'.nx ≤ 104 ∧ LeN [] s' ⟨[], [], 104, []⟩) ?_ ?_
   ·
    intro s' hs
    obtain ⟨o19, rfl, hn, hs⟩ := hs
    refine kn_then ?_
    refine awp_re [] hn hs ?_
    refine awp_sr2 120 [2, 3] (fun _ => none) rfl (fun _ _ => rT) ?_
    refine awp_ret ?_
    obtain rfl := Option.some.inj h0
    refine leave_retG [] ?_
    exact rG
   ·
    refine awp_loopF (ι := { p : Nat × Int // bookendref11_right_l1 runs1 p.1 p.2 = some x13 }) (fun p => ⟨[(0, .psl 1 (List.map (encSl 4 TApiEntry.enc) runs1)), (4, .int .i64 p.1.2)], [], 72, []⟩) (fun p => p.1.1) ⟨(fu, 0), hxx13⟩ ⟨rF, rE, rfl, rfl, trivial, trivial⟩ (fun _ => Nat.le_refl _) ?_
    rintro ⟨⟨fu, i14⟩, h1⟩
    cases fu with
    | zero =>
   replace h1 : bookendref11_right_l1 runs1 0 i14 = some x13 := h1
   rw [bookendref11_right_l1] at h1; cases h1
    | succ fu =>
     replace h1 : bookendref11_right_l1 runs1 (fu + 1) i14 = some x13 := h1
     rw [bookendref11_right_l1] at h1
     refine (show AWP _ _ _ _ ⟨[(0, .psl 1 (List.map (encSl 4 TApiEntry.enc) runs1)), (4, .int .i64 i14)], [], 72, []⟩ from ?_)
     refine awp_seq ?_
     refine awp_sr2 104 [0, 4, 16] (fun _ => none) rfl (fun _ _ => rT) ?_
     refine awp_if rfl (fun hb15 => ?_) (fun hb15 => ?_)
     ·
      replace h1 := iteT h1 hb15
      refine awp_skip ?_
      refine kn_then ?_
      refine awp_seq ?_
      refine awp_block ?_
      obtain ⟨e16, he16, h1⟩ := bindS h1
      obtain ⟨he16a, he16b, he16c⟩ := idxS he16
      obtain ⟨vr17, hvr17, h1⟩ := bindS h1
      refine awp_sr2 184 [0, 4, 6] (fun | 4 => some (.tup [.int .i64 vr17.1, .int .i64 vr17.2], []) | _ => none) rfl (fun _ _ => rB (rA he16a (rA he16b he16c)) (c_bookendref03_CheckList hvr17)) ?_
      refine awp_sr2 200 [0, 4, 6, 28] (fun _ => none) rfl (fun _ _ => rS (rA he16a (rA he16b he16c))) ?_
      refine awp_if rfl (fun hb18 => ?_) (fun hb18 => ?_)
      ·
       replace h1 := iteT h1 hb18
       refine awp_sr2 232 [2, 3] (fun _ => none) rfl (fun _ _ => rS (rA he16a (rA he16b he16c))) ?_
       refine awp_ret ?_
       obtain rfl := Option.some.inj h1
       refine kr_block ?_
       refine kr_then ?_
       refine kr_then ?_
       refine kr_loop ?_
       refine kr_then ?_
       obtain rfl := Option.some.inj h0
       refine leave_retG [] ?_
       simp (maxSteps := 1000000) only [↓reduceIte, reduceCtorEq, Nat.reduceEqDiff, Nat.reduceLT, Nat.reduceLeDiff, Nat.reduceAdd, Nat.reduceMul, Int.reduceToNat, push_cast, Gives, he16a, he16b, he16c]
       all_goals exact rH
      ·
       replace h1 := iteF h1 hb18
       refine awp_skip ?_
       refine kn_block ?_
       refine kn_then ?_
       refine awp_r2 224 [0, 4] (fun _ => none) rfl (fun _ _ => rS (rA he16a (rA he16b he16c))) ?_
       refine kn_then ?_
       exact ⟨⟨(fu, (IntKind.i64.wrap (i14 + 1))), h1⟩, ⟨rF, rE, rfl, rfl, trivial, trivial⟩, Nat.lt_succ_self _⟩
     ·
      replace h1 := iteF h1 hb15
      refine awp_exit ?_
      refine kx_then ?_
      refine kx_then ?_
      refine kx_done ?_
      obtain rfl := Option.some.inj h1
      exact ⟨_, rfl, Nat.le_of_ble_eq_true rfl, ⟨rF, rE, rfl, rfl, trivial, trivial⟩⟩
end Go.T
end
section
/- The program computes them. -/
namespace Go.T
open Go Go.AM Go.Proofs
set_option maxRecDepth 100000
set_option maxHeartbeats 4000000
set_option linter.unusedVariables false
theorem c_bookendref10_right {fu : Nat} {keys1 : List TApiLsKey} {r : Int} (h0 : bookendref10_right fu keys1 = some r) : PCall Try.prog 65 [.psl 2 (keys1.map TApiLsKey.enc)] (.int .i64 r) [] := by
 refine awp_pcall Try.func65 rfl (by decide) (Nat.le_of_ble_eq_true rfl) ?_
 dsimp only [Try.f65]
 rw [bookendref10_right] at h0
 refine (show AWP _ _ _ _ ⟨enumFr 0 _, [], 0, []⟩ from ?_)
 refine awp_sr2 8 [0] (fun _ => none) rfl (fun _ _ => rT) ?_
 refine awp_seq ?_
 refine awp_sr2 32 [0, 6] (fun _ => none) rfl (fun _ _ => rT) ?_
 refine awp_if rfl (fun hb2 => ?_) (fun hb2 => ?_)
 ·
  replace h0 := iteT h0 hb2
  refine awp_sr2 40 [2] (fun _ => none) rfl (fun _ _ => rT) ?_
  refine awp_ret ?_
  refine kr_then ?_
  obtain rfl := Option.some.inj h0
  refine leave_retG [] ?_
  exact rG
 ·
  replace h0 := iteF h0 hb2
  refine awp_skip ?_
  refine kn_then ?_
  refine awp_seq ?_
  refine awp_sr2 56 [0, 9] (fun _ => none) rfl (fun _ _ => rT) ?_
  refine awp_if rfl (fun hb3 => ?_) (fun hb3 => ?_)
  ·
   replace h0 := iteT h0 hb3
   refine awp_sr2 64 [2] (fun _ => none) rfl (fun _ _ => rT) ?_
   refine awp_ret ?_
   refine kr_then ?_
   obtain rfl := Option.some.inj h0
   refine leave_retG [] ?_
   exact rG
  ·
   replace h0 := iteF h0 hb3
   refine awp_skip ?_
   refine kn_then ?_
   refine awp_seq ?_
   refine awp_sr2 64 [0, 3] (fun _ => none) rfl (fun _ _ => rT) ?_
   obtain ⟨x15, hxx15, h0⟩ := bindS h0
   refine awp_bloop (fun s' => ∃ o22 : Unit, x15 = .inl o22 ∧ s'.nx ≤ 96 ∧ LeN [] s' ⟨[], [], 96, []⟩) ?_ ?_
   ·
    intro s' hs
    obtain ⟨o22, rfl, hn, hs⟩ := hs
    refine kn_then ?_
    refine awp_re [] hn hs ?_
    refine awp_sr2 104 [2] (fun _ => none) rfl (fun _ _ => rT) ?_
    refine awp_ret ?_
    obtain rfl := Option.some.inj h0
    refine leave_retG [] ?_
    exact rG
   ·
    refine awp_loopF (ι := { p : Nat × Int // bookendref10_right_l1 keys1 p.1 p.2 = some x15 }) (fun p => ⟨[(0, .psl 2 (List.map TApiLsKey.enc keys1)), (3, .int .i64 p.1.2)], [], 64, []⟩) (fun p => p.1.1) ⟨(fu, 0), hxx15⟩ ⟨rF, rE, rfl, rfl, trivial, trivial⟩ (fun _ => Nat.le_refl _) ?_
    rintro ⟨⟨fu, i16⟩, h1⟩
    cases fu with
    | zero =>
   replace h1 : bookendref10_right_l1 keys1 0 i16 = some x15 := h1
   rw [bookendref10_right_l1] at h1; cases h1
    | succ fu =>
     replace h1 : bookendref10_right_l1 keys1 (fu + 1) i16 = some x15 := h1
     rw [bookendref10_right_l1] at h1
     refine (show AWP _ _ _ _ ⟨[(0, .psl 2 (List.map TApiLsKey.enc keys1)), (3, .int .i64 i16)], [], 64, []⟩ from ?_)
     refine awp_seq ?_
     refine awp_sr2 96 [0, 3, 13] (fun _ => none) rfl (fun _ _ => rT) ?_
     refine awp_if rfl (fun hb17 => ?_) (fun hb17 => ?_)
     ·
      replace h1 := iteT h1 hb17
      refine awp_skip ?_
      refine kn_then ?_
      refine awp_seq ?_
      refine awp_block ?_
      obtain ⟨e18, he18, h1⟩ := bindS h1
      obtain ⟨he18a, he18b, he18c⟩ := idxS he18
      obtain ⟨b19, hb19, h1⟩ := bindS h1
      refine awp_sr3 (fr' := [(0, .psl 2 (List.map TApiLsKey.enc keys1)), (3, .int .i64 i16), (28, .bool b19)]) (hp' := []) [] 200 [0, 3, 28] (fun _ => none) rfl (fun Kt hK => by
        cases hg20 : e18.Done with
        | false =>
         replace hb19 := iteF hb19 hg20
         have hqb19 := Option.some.inj hb19
         subst hqb19
         simp (maxSteps := 1000000) only [↓reduceIte, reduceCtorEq, Nat.reduceEqDiff, Nat.reduceLT, Nat.reduceLeDiff, Nat.reduceAdd, Nat.reduceMul, Int.reduceToNat, push_cast, he18a, he18b, he18c, ↓hg20]
         try simp only [↓hg20] at hK
         all_goals exact rU
        | true =>
         replace hb19 := iteT hb19 hg20
         have hqb19 := Option.some.inj hb19
         subst hqb19
         simp (maxSteps := 1000000) only [↓reduceIte, reduceCtorEq, Nat.reduceEqDiff, Nat.reduceLT, Nat.reduceLeDiff, Nat.reduceAdd, Nat.reduceMul, Int.reduceToNat, push_cast, he18a, he18b, he18c, ↓hg20]
         try simp only [↓hg20] at hK
         all_goals exact rU) ?_
      refine awp_if rfl (fun hb21 => ?_) (fun hb21 => ?_)
      ·
       replace h1 := iteT h1 hb21
       refine awp_sr2 208 [2] (fun _ => none) rfl (fun _ _ => rS (rA he18a (rA he18b he18c))) ?_
       refine awp_ret ?_
       obtain rfl := Option.some.inj h1
       refine kr_block ?_
       refine kr_then ?_
       refine kr_then ?_
       refine kr_loop ?_
       refine kr_then ?_
       obtain rfl := Option.some.inj h0
       refine leave_retG [] ?_
       simp (maxSteps := 1000000) only [↓reduceIte, reduceCtorEq, Nat.reduceEqDiff, Nat.reduceLT, Nat.reduceLeDiff, Nat.reduceAdd, Nat.reduceMul, Int.reduceToNat, push_cast, Gives, he18a, he18b, he18c]
       all_goals exact rH
      ·
       replace h1 := iteF h1 hb21
       refine awp_skip ?_
       refine kn_block ?_
       refine kn_then ?_
       refine awp_r2 224 [0, 3] (fun _ => none) rfl (fun _ _ => rS (rA he18a (rA he18b he18c))) ?_
       refine kn_then ?_
       exact ⟨⟨(fu, (IntKind.i64.wrap (i16 + 1))), h1⟩, ⟨rF, rE, rfl, rfl, trivial, trivial⟩, Nat.lt_succ_self _⟩
     ·
      replace h1 := iteF h1 hb17
      refine awp_exit ?_
      refine kx_then ?_
      refine kx_then ?_
      refine kx_done ?_
      obtain rfl := Option.some.inj h1
      exact ⟨_, rfl, Nat.le_of_ble_eq_true rfl, ⟨rF, rE, rfl, rfl, trivial, trivial⟩⟩
end Go.T
end
section
/- The program computes them. -/
namespace Go.T
open Go Go.AM Go.Proofs
set_option maxRecDepth 100000
set_option maxHeartbeats 4000000
set_option linter.unusedVariables false
theorem c_bookendref10_wins {fu : Nat} {keys1 : List TApiLsKey} {p2 : Int} {q3 : Int} {r : Bool} (h0 : bookendref10_wins fu keys1 p2 q3 = some r) : PCall Try.prog 76 [.psl 2 (keys1.map TApiLsKey.enc), .int .i64 p2, .int .i64 q3] (.bool r) [] := by
 refine awp_pcall Try.func76 rfl (by decide) (Nat.le_of_ble_eq_true rfl) ?_
 dsimp only [Try.f76]
 rw [bookendref10_wins] at h0
 refine (show AWP _ _ _ _ ⟨enumFr 0 _, [], 0, []⟩ from ?_)
 refine awp_sr2 8 [0, 1, 2] (fun _ => none) rfl (fun _ _ => rT) ?_
 obtain ⟨e4, he4, h0⟩ := bindS h0
 obtain ⟨he4a, he4b, he4c⟩ := idxS he4
 obtain ⟨e5, he5, h0⟩ := bindS h0
 obtain ⟨he5a, he5b, he5c⟩ := idxS he5
 refine awp_sd2 104 [1, 2, 7, 8] (fun _ => none) rfl rfl rfl (fun _ _ => rSd (rA he4a (rA he4b (rA he4c (rA he5a (rA he5b he5c)))))) ?_
 refine awp_seq ?_
 refine awp_sr2 144 [1, 2, 7, 8, 21] (fun _ => none) rfl (fun _ _ => rS (rA he4a (rA he4b (rA he4c (rA he5a (rA he5b he5c)))))) ?_
 refine awp_if rfl (fun hb6 => ?_) (fun hb6 => ?_)
 ·
  replace h0 := iteT h0 hb6
  refine awp_sr2 168 [6] (fun _ => none) rfl (fun _ _ => rS (rA he4a (rA he4b (rA he4c (rA he5a (rA he5b he5c)))))) ?_
  refine awp_ret ?_
  refine kr_then ?_
  obtain rfl := Option.some.inj h0
  refine leave_retG [] ?_
  simp (maxSteps := 1000000) only [↓reduceIte, reduceCtorEq, Nat.reduceEqDiff, Nat.reduceLT, Nat.reduceLeDiff, Nat.reduceAdd, Nat.reduceMul, Int.reduceToNat, push_cast, Gives, he4a, he4b, he4c, he5a, he5b, he5c]
  all_goals exact rH
 ·
  replace h0 := iteF h0 hb6
  refine awp_skip ?_
  refine kn_then ?_
  refine awp_seq ?_
  obtain ⟨b7, hb7, h0⟩ := bindS h0
  refine awp_sr3 (fr' := [(1, .int .i64 p2), (2, .int .i64 q3), (7, .ref 72 0 0 0), (8, .ref 80 0 0 0), (33, .bool b7)]) (hp' := [(72, { g := 0, own := true, pure := true, sz := 2, es := [[.str e4.Key, .bool e4.Done]] }), (80, { g := 0, own := true, pure := true, sz := 2, es := [[.str e5.Key, .bool e5.Done]] })]) [72, 80] 224 [1, 2, 7, 8, 33] (fun _ => none) rfl (fun Kt hK => by
    cases hg8 : (!e4.Done) with
    | false =>
     replace hb7 := iteF hb7 hg8
     have hqb7 := Option.some.inj hb7
     subst hqb7
     simp (maxSteps := 1000000) only [↓reduceIte, reduceCtorEq, Nat.reduceEqDiff, Nat.reduceLT, Nat.reduceLeDiff, Nat.reduceAdd, Nat.reduceMul, Int.reduceToNat, push_cast, he4a, he4b, he4c, he5a, he5b, he5c, ↓hg8]
     try simp only [↓hg8] at hK
     all_goals exact rU
    | true =>
     replace hb7 := iteT hb7 hg8
     have hqb7 := Option.some.inj hb7
     subst hqb7
     simp (maxSteps := 1000000) only [↓reduceIte, reduceCtorEq, Nat.reduceEqDiff, Nat.reduceLT, Nat.reduceLeDiff, Nat.reduceAdd, Nat.reduceMul, Int.reduceToNat, push_cast, he4a, he4b, he4c, he5a, he5b, he5c, ↓hg8]
     try simp only [↓hg8] at hK
     all_goals exact rU) ?_
  refine awp_if rfl (fun hb9 => ?_) (fun hb9 => ?_)
  ·
   replace h0 := iteT h0 hb9
   refine awp_sr2 272 [6] (fun _ => none) rfl (fun _ _ => rS (rA he4a (rA he4b (rA he4c (rA he5a (rA he5b he5c)))))) ?_
   refine awp_ret ?_
   refine kr_then ?_
   obtain rfl := Option.some.inj h0
   refine leave_retG [] ?_
   simp (maxSteps := 1000000) only [↓reduceIte, reduceCtorEq, Nat.reduceEqDiff, Nat.reduceLT, Nat.reduceLeDiff, Nat.reduceAdd, Nat.reduceMul, Int.reduceToNat, push_cast, Gives, he4a, he4b, he4c, he5a, he5b, he5c]
   all_goals exact rH
  ·
   replace h0 := iteF h0 hb9
   refine awp_skip ?_
   refine kn_then ?_
   refine awp_sr2 256 [6] (fun _ => none) rfl (fun _ _ => rS (rA he4a (rA he4b (rA he4c (rA he5a (rA he5b he5c)))))) ?_
   refine awp_ret ?_
   obtain rfl := Option.some.inj h0
   refine leave_retG [] ?_
   simp (maxSteps := 1000000) only [↓reduceIte, reduceCtorEq, Nat.reduceEqDiff, Nat.reduceLT, Nat.reduceLeDiff, Nat.reduceAdd, Nat.reduceMul, Int.reduceToNat, push_cast, Gives, he4a, he4b, he4c, he5a, he5b, he5c]
   all_goals exact rH
end Go.T
end
section
/- The program computes them. -/
namespace Go.T
open Go Go.AM Go.Proofs
set_option maxRecDepth 100000
set_option maxHeartbeats 4000000
set_option linter.unusedVariables false
theorem c_bookendref10_player {fu : Nat} : ∀ {keys1 : List TApiLsKey} {node2 : Int} {r : Int × Int}, bookendref10_player fu keys1 node2 = some r → PCall Try.prog 73 [.psl 2 (keys1.map TApiLsKey.enc), .int .i64 node2] (.tup [.int .i64 r.1, .int .i64 r.2]) [] := by
 induction fu with
 | zero => intro keys1 node2 r h0; rw [bookendref10_player] at h0; cases h0
 | succ fu ih =>
 intro keys1 node2 r h0
 refine awp_pcall Try.func73 rfl (by decide) (Nat.le_of_ble_eq_true rfl) ?_
 dsimp only [Try.f73]
 rw [bookendref10_player] at h0
 refine (show AWP _ _ _ _ ⟨enumFr 0 _, [], 0, []⟩ from ?_)
 refine awp_sr2 16 [0, 1] (fun _ => none) rfl (fun _ _ => rT) ?_
 refine awp_sr2 40 [0, 1, 6] (fun _ => none) rfl (fun _ _ => rT) ?_
 refine awp_seq ?_
 refine awp_sr2 64 [0, 1, 6, 15] (fun _ => none) rfl (fun _ _ => rT) ?_
 refine awp_if rfl (fun hb3 => ?_) (fun hb3 => ?_)
 ·
  replace h0 := iteT h0 hb3
  refine awp_sr2 104 [4, 5] (fun _ => none) rfl (fun _ _ => rT) ?_
  refine awp_ret ?_
  refine kr_then ?_
  obtain rfl := Option.some.inj h0
  refine leave_retG [] ?_
  exact rG
 ·
  replace h0 := iteF h0 hb3
  refine awp_skip ?_
  refine kn_then ?_
  obtain ⟨vr4, hvr4, h0⟩ := bindS h0
  refine awp_sr2 136 [0, 1, 7] (fun | 3 => some (.tup [.int .i64 vr4.1, .int .i64 vr4.2], []) | _ => none) rfl (fun Kt hK => by
    simp (maxSteps := 1000000) only [↓reduceIte, reduceCtorEq, Nat.reduceEqDiff, Nat.reduceLT, Nat.reduceLeDiff, Nat.reduceAdd, Nat.reduceMul, Int.reduceToNat, push_cast]
    repeat' (first | exact hK | exact ih hvr4 | refine And.intro ?_ ?_ | exact Nat.le_refl _ | assumption | omega | (intro _) | (simp; done))) ?_
  obtain ⟨vr5, hvr5, h0⟩ := bindS h0
  refine awp_sr2 216 [0, 7, 9] (fun | 4 => some (.tup [.int .i64 vr5.1, .int .i64 vr5.2], []) | _ => none) rfl (fun Kt hK => by
    simp (maxSteps := 1000000) only [↓reduceIte, reduceCtorEq, Nat.reduceEqDiff, Nat.reduceLT, Nat.reduceLeDiff, Nat.reduceAdd, Nat.reduceMul, Int.reduceToNat, push_cast]
    repeat' (first | exact hK | exact ih hvr5 | refine And.intro ?_ ?_ | exact Nat.le_refl _ | assumption | omega | (intro _) | (simp; done))) ?_
  refine awp_seq ?_
  obtain ⟨vr6, hvr6, h0⟩ := bindS h0
  refine awp_sr2 248 [7, 9, 37] (fun | 3 => some (.bool vr6, []) | _ => none) rfl (fun _ _ => rC (c_bookendref10_wins hvr6)) ?_
  refine awp_if rfl (fun hb7 => ?_) (fun hb7 => ?_)
  ·
   replace h0 := iteT h0 hb7
   refine awp_sr2 280 [4, 5] (fun _ => none) rfl (fun _ _ => rT) ?_
   refine awp_ret ?_
   refine kr_then ?_
   obtain rfl := Option.some.inj h0
   refine leave_retG [] ?_
   exact rG
  ·
   replace h0 := iteF h0 hb7
   refine awp_skip ?_
   refine kn_then ?_
   refine awp_sr2 280 [4, 5] (fun _ => none) rfl (fun _ _ => rT) ?_
   refine awp_ret ?_
   obtain rfl := Option.some.inj h0
   refine leave_retG [] ?_
   exact rG
end Go.T
end
section
/- The program computes them. -/
namespace Go.T
open Go Go.AM Go.Proofs
set_option maxRecDepth 100000
set_option maxHeartbeats 4000000
set_option linter.unusedVariables false
theorem c_bookendref10_tree {fu : Nat} {keys1 : List TApiLsKey} {r : TApiLsTree} (h0 : bookendref10_tree fu keys1 = some r) : PCall Try.prog 66 [.psl 2 (keys1.map TApiLsKey.enc)] (.agg (TApiLsTree.enc r)) [] := by
 refine awp_pcall Try.func66 rfl (by decide) (Nat.le_of_ble_eq_true rfl) ?_
 dsimp only [Try.f66]
 rw [bookendref10_tree] at h0
 refine (show AWP _ _ _ _ ⟨enumFr 0 _, [], 0, []⟩ from ?_)
 refine awp_sr2 8 [0, 2] (fun _ => none) rfl (fun _ _ => rT) ?_
 obtain ⟨hc2, h0⟩ := guS h0
 obtain ⟨hc3, h0⟩ := guS h0
 refine awp_sd2 80 [0, 2, 3] (fun _ => none) rfl rfl rfl (fun _ _ => rTd) ?_
 refine awp_re (s2 := ⟨[(0, .psl 2 (List.map TApiLsKey.enc keys1)), (2, .ref 0 0 0 0), (3, .ref 64 0 0 0)], [(0, { g := 0, own := true, pure := true, sz := 3, es := [[.nils, .nils, .int .i64 0]] }), (8, { g := 1, own := true, pure := true, sz := 2, es := List.map TApiLsKey.enc keys1 }), (48, { g := 0, own := true, pure := true, sz := 1, es := List.map (encInt .i64) (List.replicate keys1.length 0 : List Int) }), (64, { g := 0, own := true, pure := false, sz := 3, es := [[.sl 8 1 2 0 keys1.length, .sl 48 0 1 0 ((List.replicate keys1.length 0 : List Int).length), .int .i64 0]] })], 80, []⟩) [] (Nat.le_of_ble_eq_true rfl) ⟨rF, rE, rfl, rfl, trivial, trivial⟩ ?_
 refine awp_seq ?_
 refine awp_sr2 88 [0, 2, 3, 4] (fun _ => none) rfl (fun _ _ => rT) ?_
 obtain ⟨x13, hxx13, h0⟩ := bindS h0
 refine awp_bloop (fun s' => ∃ g20 : Nat, s'.nx ≤ 120 ∧ LeN [] s' ⟨[(0, .psl 2 (List.map TApiLsKey.enc keys1)), (2, .ref 0 0 0 0), (3, .ref 64 0 0 0)], [(0, { g := 0, own := true, pure := true, sz := 3, es := [[.nils, .nils, .int .i64 0]] }), (8, { g := 1, own := true, pure := true, sz := 2, es := List.map TApiLsKey.enc keys1 }), (48, { g := g20, own := true, pure := true, sz := 1, es := List.map (encInt .i64) x13 }), (64, { g := 0, own := true, pure := false, sz := 3, es := [[.sl 8 1 2 0 keys1.length, .sl 48 g20 1 0 x13.length, .int .i64 0]] })], 120, []⟩) ?_ ?_
 ·
  intro s' hs
  obtain ⟨g20, hn, hs⟩ := hs
  refine kn_then ?_
  refine awp_re [] hn hs ?_
  obtain ⟨vr21, hvr21, h0⟩ := bindS h0
  refine awp_sr2 176 [2, 3] (fun | 1 => some (.tup [.int .i64 vr21.1, .int .i64 vr21.2], []) | _ => none) rfl (fun _ _ => rC (c_bookendref10_player hvr21)) ?_
  refine awp_sr2 192 [2] (fun _ => none) rfl (fun _ _ => rT) ?_
  refine awp_ret ?_
  obtain rfl := Option.some.inj h0
  refine leave_retG [] ?_
  exact rG
 ·
  refine awp_loopF (ι := { p : Nat × Int × List Int × Nat // bookendref10_tree_l1 keys1 p.1 p.2.1 p.2.2.1 = some x13 }) (fun p => ⟨[(0, .psl 2 (List.map TApiLsKey.enc keys1)), (2, .ref 0 0 0 0), (3, .ref 64 0 0 0), (4, .int .i64 p.1.2.1)], [(0, { g := 0, own := true, pure := true, sz := 3, es := [[.nils, .nils, .int .i64 0]] }), (8, { g := 1, own := true, pure := true, sz := 2, es := List.map TApiLsKey.enc keys1 }), (48, { g := p.1.2.2.2, own := true, pure := true, sz := 1, es := List.map (encInt .i64) p.1.2.2.1 }), (64, { g := 0, own := true, pure := false, sz := 3, es := [[.sl 8 1 2 0 keys1.length, .sl 48 p.1.2.2.2 1 0 p.1.2.2.1.length, .int .i64 0]] })], 88, []⟩) (fun p => p.1.1) ⟨(fu, 1, (List.replicate keys1.length 0 : List Int), 0), hxx13⟩ ⟨rF, rE, rfl, rfl, trivial, trivial⟩ (fun _ => Nat.le_refl _) ?_
  rintro ⟨⟨fu, i14, v15, g16⟩, h1⟩
  cases fu with
  | zero =>
   replace h1 : bookendref10_tree_l1 keys1 0 i14 v15 = some x13 := h1
   rw [bookendref10_tree_l1] at h1; cases h1
  | succ fu =>
   replace h1 : bookendref10_tree_l1 keys1 (fu + 1) i14 v15 = some x13 := h1
   rw [bookendref10_tree_l1] at h1
   refine (show AWP _ _ _ _ ⟨[(0, .psl 2 (List.map TApiLsKey.enc keys1)), (2, .ref 0 0 0 0), (3, .ref 64 0 0 0), (4, .int .i64 i14)], [(0, { g := 0, own := true, pure := true, sz := 3, es := [[.nils, .nils, .int .i64 0]] }), (8, { g := 1, own := true, pure := true, sz := 2, es := List.map TApiLsKey.enc keys1 }), (48, { g := g16, own := true, pure := true, sz := 1, es := List.map (encInt .i64) v15 }), (64, { g := 0, own := true, pure := false, sz := 3, es := [[.sl 8 1 2 0 keys1.length, .sl 48 g16 1 0 v15.length, .int .i64 0]] })], 88, []⟩ from ?_)
   refine awp_seq ?_
   refine awp_sr2 120 [0, 2, 3, 4, 15] (fun _ => none) rfl (fun _ _ => rT) ?_
   refine awp_if rfl (fun hb17 => ?_) (fun hb17 => ?_)
   ·
    replace h1 := iteT h1 hb17
    refine awp_skip ?_
    refine kn_then ?_
    refine awp_seq ?_
    refine awp_block ?_
    obtain ⟨vr18, hvr18, h1⟩ := bindS h1
    obtain ⟨e19, he19, h1⟩ := bindS h1
    obtain ⟨he19a, he19b, he19c⟩ := idxS he19
    refine awp_d2 208 [0, 2, 3, 4] (fun | 5 => some (.tup [.int .i64 vr18.1, .int .i64 vr18.2], []) | _ => none) rfl rfl rfl (fun _ _ => rBd (rA he19a (rA he19b he19c)) (c_bookendref10_player hvr18)) ?_
    refine kn_block ?_
    refine kn_then ?_
    refine awp_re (s2 := ⟨[(0, .psl 2 (List.map TApiLsKey.enc keys1)), (2, .ref 0 0 0 0), (3, .ref 64 0 0 0), (4, .int .i64 i14)], [(0, { g := 0, own := true, pure := true, sz := 3, es := [[.nils, .nils, .int .i64 0]] }), (8, { g := 1, own := true, pure := true, sz := 2, es := List.map TApiLsKey.enc keys1 }), (48, { g := g16, own := true, pure := true, sz := 1, es := List.map (encInt .i64) (v15.set i14.toNat vr18.2) }), (64, { g := 0, own := true, pure := false, sz := 3, es := [[.sl 8 1 2 0 keys1.length, .sl 48 g16 1 0 ((v15.set i14.toNat vr18.2).length), .int .i64 0]] })], 208, []⟩) [] (Nat.le_of_ble_eq_true rfl) ⟨rF, rE, rfl, rfl, trivial, trivial⟩ ?_
    refine awp_r2 232 [0, 2, 3, 4] (fun _ => none) rfl (fun _ _ => rS (rA he19a (rA he19b he19c))) ?_
    refine kn_then ?_
    exact ⟨⟨(fu, (IntKind.i64.wrap (i14 + 1)), (v15.set i14.toNat vr18.2), g16), h1⟩, ⟨rF, rE, rfl, rfl, trivial, trivial⟩, Nat.lt_succ_self _⟩
   ·
    replace h1 := iteF h1 hb17
    refine awp_exit ?_
    refine kx_then ?_
    refine kx_then ?_
    refine kx_done ?_
    obtain rfl := Option.some.inj h1
    exact ⟨g16, Nat.le_of_ble_eq_true rfl, ⟨rF, rE, rfl, rfl, trivial, trivial⟩⟩
end Go.T
end
section
/- The program computes them. -/
namespace Go.T
open Go Go.AM Go.Proofs
set_option maxRecDepth 100000
set_option maxHeartbeats 4000000
set_option linter.unusedVariables false
theorem c_bookendref10_Build {fu : Nat} {keys1 : List TApiLsKey} {r : TApiLsTree × Int} (h0 : bookendref10_Build fu keys1 = some r) : PCall Try.prog 50 [.psl 2 (keys1.map TApiLsKey.enc)] (.tup [.agg (TApiLsTree.enc r.1), .int .i64 r.2]) [] := by
 refine awp_pcall Try.func50 rfl (by decide) (Nat.le_of_ble_eq_true rfl) ?_
 dsimp only [Try.f50]
 rw [bookendref10_Build] at h0
 refine (show AWP _ _ _ _ ⟨enumFr 0 _, [], 0, []⟩ from ?_)
 refine awp_sr2 16 [0, 2] (fun _ => none) rfl (fun _ _ => rT) ?_
 obtain ⟨vr2, hvr2, h0⟩ := bindS h0
 refine awp_sr2 40 [0, 2, 4] (fun | 1 => some (.int .i64 vr2, []) | _ => none) rfl (fun _ _ => rC (c_bookendref10_right hvr2)) ?_
 refine awp_seq ?_
 refine awp_sr2 56 [0, 2, 4, 8] (fun _ => none) rfl (fun _ _ => rT) ?_
 refine awp_if rfl (fun hb3 => ?_) (fun hb3 => ?_)
 ·
  replace h0 := iteT h0 hb3
  refine awp_sr2 88 [2, 3] (fun _ => none) rfl (fun _ _ => rT) ?_
  refine awp_ret ?_
  refine kr_then ?_
  obtain rfl := Option.some.inj h0
  refine leave_retG [] ?_
  exact rG
 ·
  replace h0 := iteF h0 hb3
  refine awp_skip ?_
  refine kn_then ?_
  obtain ⟨vr4, hvr4, h0⟩ := bindS h0
  refine awp_sr2 88 [2, 3] (fun | 1 => some (.agg (TApiLsTree.enc vr4), []) | _ => none) rfl (fun _ _ => rC (c_bookendref10_tree hvr4)) ?_
  refine awp_ret ?_
  obtain rfl := Option.some.inj h0
  refine leave_retG [] ?_
  exact rG
end Go.T
end
section
/- The program computes them. -/
namespace Go.T
open Go Go.AM Go.Proofs
set_option maxRecDepth 100000
set_option maxHeartbeats 4000000
set_option linter.unusedVariables false
theorem c_bookendref11_state {fu : Nat} {runs1 : List (List TApiEntry)} {vat2 : List Int} {r : TApiMgState} (h0 : bookendref11_state fu runs1 vat2 = some r) : PCall Try.prog 33 [.psl 1 (runs1.map (encSl 4 TApiEntry.enc)), .psl 1 (vat2.map (encInt .i64))] (.agg (TApiMgState.enc r)) [] := by
 refine awp_pcall Try.func33 rfl (by decide) (Nat.le_of_ble_eq_true rfl) ?_
 dsimp only [Try.f33]
 rw [bookendref11_state] at h0
 refine (show AWP _ _ _ _ ⟨enumFr 0 _, [], 0, []⟩ from ?_)
 refine awp_sr2 8 [0, 1, 4] (fun _ => none) rfl (fun _ _ => rT) ?_
 obtain ⟨hc3, h0⟩ := guS h0
 obtain ⟨hc4, h0⟩ := guS h0
 refine awp_sr2 80 [0, 1, 4, 5] (fun _ => none) rfl (fun _ _ => rT) ?_
 refine awp_re (s2 := ⟨[(0, .psl 1 (List.map (encSl 4 TApiEntry.enc) runs1)), (1, .psl 1 (List.map (encInt .i64) vat2)), (4, .ref 0 0 0 0), (5, .ref 64 0 0 0)], [(0, { g := 0, own := true, pure := true, sz := 5, es := [[.nils, .nils, .nils, .nils, .int .i64 0]] }), (8, { g := 1, own := true, pure := true, sz := 1, es := List.map (encSl 4 TApiEntry.enc) runs1 }), (32, { g := 1, own := true, pure := true, sz := 1, es := List.map (encInt .i64) vat2 }), (64, { g := 0, own := true, pure := false, sz := 5, es := [[.sl 8 1 1 0 runs1.length, .sl 32 1 1 0 vat2.length, .nils, .nils, .int .i64 0]] })], 80, []⟩) [] (Nat.le_of_ble_eq_true rfl) ⟨rF, rE, rfl, rfl, trivial, trivial⟩ ?_
 refine awp_sr2 88 [0, 1, 4, 5, 6] (fun _ => none) rfl (fun _ _ => rT) ?_
 refine awp_seq ?_
 refine awp_sr2 96 [0, 1, 4, 5, 6, 7] (fun _ => none) rfl (fun _ _ => rT) ?_
 refine awp_re (s2 := ⟨[(0, .psl 1 (List.map (encSl 4 TApiEntry.enc) runs1)), (1, .psl 1 (List.map (encInt .i64) vat2)), (4, .ref 0 0 0 0), (5, .ref 64 0 0 0), (6, .sl 96 0 2 0 0), (7, .int .i64 0)], [(0, { g := 0, own := true, pure := true, sz := 5, es := [[.nils, .nils, .nils, .nils, .int .i64 0]] }), (8, { g := 1, own := true, pure := true, sz := 1, es := List.map (encSl 4 TApiEntry.enc) runs1 }), (32, { g := 1, own := true, pure := true, sz := 1, es := List.map (encInt .i64) vat2 }), (64, { g := 0, own := true, pure := false, sz := 5, es := [[.sl 8 1 1 0 runs1.length, .sl 32 1 1 0 vat2.length, .nils, .nils, .int .i64 0]] }), (96, { g := 0, own := true, pure := true, sz := 2, es := List.map TApiLsKey.enc [] })], 97, []⟩) [(96, 2)] (Nat.le_of_ble_eq_true rfl) ⟨rF, rE, rfl, rfl, trivial, rN⟩ ?_
 obtain ⟨x25, hxx25, h0⟩ := bindS h0
 refine awp_bloop (fun s' => ∃ g36 : Nat, s'.nx ≤ 129 ∧ LeN [] s' ⟨[(4, .ref 0 0 0 0), (5, .ref 64 0 0 0), (6, .sl 96 g36 2 0 x25.length)], [(0, { g := 0, own := true, pure := true, sz := 5, es := [[.nils, .nils, .nils, .nils, .int .i64 0]] }), (8, { g := 1, own := true, pure := true, sz := 1, es := List.map (encSl 4 TApiEntry.enc) runs1 }), (32, { g := 1, own := true, pure := true, sz := 1, es := List.map (encInt .i64) vat2 }), (64, { g := 0, own := true, pure := false, sz := 5, es := [[.sl 8 1 1 0 runs1.length, .sl 32 1 1 0 vat2.length, .nils, .nils, .int .i64 0]] }), (96, { g := g36, own := true, pure := true, sz := 2, es := List.map TApiLsKey.enc x25 })], 129, []⟩) ?_ ?_
 ·
  intro s' hs
  obtain ⟨g36, hn, hs⟩ := hs
  refine kn_then ?_
  refine awp_re [] hn hs ?_
  obtain ⟨vr37, hvr37, h0⟩ := bindS h0
  refine awp_sr2 185 [4, 5] (fun | 1 => some (.tup [.agg (TApiLsTree.enc vr37.1), .int .i64 vr37.2], []) | _ => none) rfl (fun _ _ => rC (c_bookendref10_Build hvr37)) ?_
  refine awp_sr2 201 [4] (fun _ => none) rfl (fun _ _ => rT) ?_
  refine awp_ret ?_
  obtain rfl := Option.some.inj h0
  refine leave_retG [] ?_
  exact rG
 ·
  refine awp_loopF (ι := { p : Nat × Int × List TApiLsKey × Nat // bookendref11_state_l1 runs1 vat2 p.1 p.2.1 p.2.2.1 = some x25 }) (fun p => ⟨[(0, .psl 1 (List.map (encSl 4 TApiEntry.enc) runs1)), (1, .psl 1 (List.map (encInt .i64) vat2)), (4, .ref 0 0 0 0), (5, .ref 64 0 0 0), (6, .sl 96 p.1.2.2.2 2 0 p.1.2.2.1.length), (7, .int .i64 p.1.2.1)], [(0, { g := 0, own := true, pure := true, sz := 5, es := [[.nils, .nils, .nils, .nils, .int .i64 0]] }), (8, { g := 1, own := true, pure := true, sz := 1, es := List.map (encSl 4 TApiEntry.enc) runs1 }), (32, { g := 1, own := true, pure := true, sz := 1, es := List.map (encInt .i64) vat2 }), (64, { g := 0, own := true, pure := false, sz := 5, es := [[.sl 8 1 1 0 runs1.length, .sl 32 1 1 0 vat2.length, .nils, .nils, .int .i64 0]] }), (96, { g := p.1.2.2.2, own := true, pure := true, sz := 2, es := List.map TApiLsKey.enc p.1.2.2.1 })], 97, []⟩) (fun p => p.1.1) ⟨(fu, 0, [], 0), hxx25⟩ ⟨rF, rE, rfl, rfl, trivial, trivial⟩ (fun _ => Nat.le_refl _) ?_
  rintro ⟨⟨fu, i26, keys27, g28⟩, h1⟩
  cases fu with
  | zero =>
   replace h1 : bookendref11_state_l1 runs1 vat2 0 i26 keys27 = some x25 := h1
   rw [bookendref11_state_l1] at h1; cases h1
  | succ fu =>
   replace h1 : bookendref11_state_l1 runs1 vat2 (fu + 1) i26 keys27 = some x25 := h1
   rw [bookendref11_state_l1] at h1
   refine (show AWP _ _ _ _ ⟨[(0, .psl 1 (List.map (encSl 4 TApiEntry.enc) runs1)), (1, .psl 1 (List.map (encInt .i64) vat2)), (4, .ref 0 0 0 0), (5, .ref 64 0 0 0), (6, .sl 96 g28 2 0 keys27.length), (7, .int .i64 i26)], [(0, { g := 0, own := true, pure := true, sz := 5, es := [[.nils, .nils, .nils, .nils, .int .i64 0]] }), (8, { g := 1, own := true, pure := true, sz := 1, es := List.map (encSl 4 TApiEntry.enc) runs1 }), (32, { g := 1, own := true, pure := true, sz := 1, es := List.map (encInt .i64) vat2 }), (64, { g := 0, own := true, pure := false, sz := 5, es := [[.sl 8 1 1 0 runs1.length, .sl 32 1 1 0 vat2.length, .nils, .nils, .int .i64 0]] }), (96, { g := g28, own := true, pure := true, sz := 2, es := List.map TApiLsKey.enc keys27 })], 97, []⟩ from ?_)
   refine awp_seq ?_
   refine awp_sr2 129 [0, 1, 4, 5, 6, 7, 19] (fun _ => none) rfl (fun _ _ => rT) ?_
   refine awp_if rfl (fun hb29 => ?_) (fun hb29 => ?_)
   ·
    replace h1 := iteT h1 hb29
    refine awp_skip ?_
    refine kn_then ?_
    refine awp_seq ?_
    refine awp_block ?_
    obtain ⟨e30, he30, h1⟩ := bindS h1
    obtain ⟨he30a, he30b, he30c⟩ := idxS he30
    obtain ⟨e31, he31, h1⟩ := bindS h1
    obtain ⟨he31a, he31b, he31c⟩ := idxS he31
    refine awp_sd2 233 [0, 1, 4, 5, 6, 7, 8] (fun _ => none) rfl rfl rfl (fun _ _ => rSd (rA he30a (rA he30b (rA he30c (rA he31a (rA he31b he31c)))))) ?_
    refine awp_seq ?_
    refine awp_sr2 257 [0, 1, 4, 5, 6, 7, 8, 35] (fun _ => none) rfl (fun _ _ => rS (rA he30a (rA he30b (rA he30c (rA he31a (rA he31b he31c)))))) ?_
    refine awp_if rfl (fun hb32 => ?_) (fun hb32 => ?_)
    ·
     replace h1 := iteT h1 hb32
     obtain ⟨e33, he33, h1⟩ := bindS h1
     obtain ⟨he33a, he33b, he33c⟩ := idxS he33
     refine awp_d2 361 [0, 1, 4, 5, 6, 7, 8] (fun _ => none) rfl rfl rfl (fun _ _ => rSd (rA he30a (rA he30b (rA he30c (rA he31a (rA he31b (rA he31c (rA he33a (rA he33b he33c))))))))) ?_
     refine kn_then ?_
     obtain ⟨hc34, h1⟩ := guS h1
     refine awp_r2 401 [0, 1, 4, 5, 6, 7] (fun _ => none) rfl (fun _ _ => rS (rA he30a (rA he30b (rA he30c (rA he31a (rA he31b (rA he31c (rA he33a (rA he33b he33c))))))))) ?_
     refine kn_block ?_
     refine kn_then ?_
     refine awp_re (s2 := ⟨[(0, .psl 1 (List.map (encSl 4 TApiEntry.enc) runs1)), (1, .psl 1 (List.map (encInt .i64) vat2)), (4, .ref 0 0 0 0), (5, .ref 64 0 0 0), (6, .sl 96 (g28 + 1) 2 0 ((keys27 ++ [(TApiLsKey.mk e33.Key (decide (e30 = (e31.length : Int))))]).length)), (7, .int .i64 i26)], [(0, { g := 0, own := true, pure := true, sz := 5, es := [[.nils, .nils, .nils, .nils, .int .i64 0]] }), (8, { g := 1, own := true, pure := true, sz := 1, es := List.map (encSl 4 TApiEntry.enc) runs1 }), (32, { g := 1, own := true, pure := true, sz := 1, es := List.map (encInt .i64) vat2 }), (64, { g := 0, own := true, pure := false, sz := 5, es := [[.sl 8 1 1 0 runs1.length, .sl 32 1 1 0 vat2.length, .nils, .nils, .int .i64 0]] }), (96, { g := (g28 + 1), own := true, pure := true, sz := 2, es := List.map TApiLsKey.enc (keys27 ++ [(TApiLsKey.mk e33.Key (decide (e30 = (e31.length : Int))))]) }), (217, { g := 0, own := true, pure := true, sz := 2, es := [[.str e33.Key, .bool (decide (e30 = (e31.length : Int)))]] }), (377, { g := 0, own := true, pure := true, sz := 2, es := List.map TApiLsKey.enc [(TApiLsKey.mk e33.Key (decide (e30 = (e31.length : Int))))] })], 401, []⟩) [] (Nat.le_of_ble_eq_true rfl) ⟨rF, rE, rfl, rfl, trivial, trivial⟩ ?_
     refine awp_r2 425 [0, 1, 4, 5, 6, 7] (fun _ => none) rfl (fun _ _ => rS (rA he30a (rA he30b (rA he30c (rA he31a (rA he31b (rA he31c (rA he33a (rA he33b he33c))))))))) ?_
     refine kn_then ?_
     exact ⟨⟨(fu, (IntKind.i64.wrap (i26 + 1)), (keys27 ++ [(TApiLsKey.mk e33.Key (decide (e30 = (e31.length : Int))))]), (g28 + 1)), h1⟩, ⟨rF, rE, rfl, rfl, trivial, trivial⟩, Nat.lt_succ_self _⟩
    ·
     replace h1 := iteF h1 hb32
     refine awp_skip ?_
     refine kn_then ?_
     obtain ⟨hc35, h1⟩ := guS h1
     refine awp_r2 297 [0, 1, 4, 5, 6, 7] (fun _ => none) rfl (fun _ _ => rS (rA he30a (rA he30b (rA he30c (rA he31a (rA he31b he31c)))))) ?_
     refine kn_block ?_
     refine kn_then ?_
     refine awp_re (s2 := ⟨[(0, .psl 1 (List.map (encSl 4 TApiEntry.enc) runs1)), (1, .psl 1 (List.map (encInt .i64) vat2)), (4, .ref 0 0 0 0), (5, .ref 64 0 0 0), (6, .sl 96 (g28 + 1) 2 0 ((keys27 ++ [(TApiLsKey.mk [] (decide (e30 = (e31.length : Int))))]).length)), (7, .int .i64 i26)], [(0, { g := 0, own := true, pure := true, sz := 5, es := [[.nils, .nils, .nils, .nils, .int .i64 0]] }), (8, { g := 1, own := true, pure := true, sz := 1, es := List.map (encSl 4 TApiEntry.enc) runs1 }), (32, { g := 1, own := true, pure := true, sz := 1, es := List.map (encInt .i64) vat2 }), (64, { g := 0, own := true, pure := false, sz := 5, es := [[.sl 8 1 1 0 runs1.length, .sl 32 1 1 0 vat2.length, .nils, .nils, .int .i64 0]] }), (96, { g := (g28 + 1), own := true, pure := true, sz := 2, es := List.map TApiLsKey.enc (keys27 ++ [(TApiLsKey.mk [] (decide (e30 = (e31.length : Int))))]) }), (217, { g := 0, own := true, pure := true, sz := 2, es := [[.str [], .bool (decide (e30 = (e31.length : Int)))]] }), (273, { g := 0, own := true, pure := true, sz := 2, es := List.map TApiLsKey.enc [(TApiLsKey.mk [] (decide (e30 = (e31.length : Int))))] })], 297, []⟩) [] (Nat.le_of_ble_eq_true rfl) ⟨rF, rE, rfl, rfl, trivial, trivial⟩ ?_
     refine awp_r2 321 [0, 1, 4, 5, 6, 7] (fun _ => none) rfl (fun _ _ => rS (rA he30a (rA he30b (rA he30c (rA he31a (rA he31b he31c)))))) ?_
     refine kn_then ?_
     exact ⟨⟨(fu, (IntKind.i64.wrap (i26 + 1)), (keys27 ++ [(TApiLsKey.mk [] (decide (e30 = (e31.length : Int))))]), (g28 + 1)), h1⟩, ⟨rF, rE, rfl, rfl, trivial, trivial⟩, Nat.lt_succ_self _⟩
   ·
    replace h1 := iteF h1 hb29
    refine awp_exit ?_
    refine kx_then ?_
    refine kx_then ?_
    refine kx_done ?_
    obtain rfl := Option.some.inj h1
    exact ⟨g28, Nat.le_of_ble_eq_true rfl, ⟨rF, rE, rfl, rfl, trivial, trivial⟩⟩
end Go.T
end
section
/- The program computes them. -/
namespace Go.T
open Go Go.AM Go.Proofs
set_option maxRecDepth 100000
set_option maxHeartbeats 4000000
set_option linter.unusedVariables false
theorem c_bookendref11_Begin {fu : Nat} {runs1 : List (List TApiEntry)} {r : TApiMgState × Int × Int} (h0 : bookendref11_Begin fu runs1 = some r) : PCall Try.prog 12 [.psl 1 (runs1.map (encSl 4 TApiEntry.enc))] (.tup [.agg (TApiMgState.enc r.1), .int .i64 r.2.1, .int .i64 r.2.2]) [] := by
 refine awp_pcall Try.func12 rfl (by decide) (Nat.le_of_ble_eq_true rfl) ?_
 dsimp only [Try.f12]
 rw [bookendref11_Begin] at h0
 refine (show AWP _ _ _ _ ⟨enumFr 0 _, [], 0, []⟩ from ?_)
 refine awp_sr2 24 [0, 2] (fun _ => none) rfl (fun _ _ => rT) ?_
 obtain ⟨vr2, hvr2, h0⟩ := bindS h0
 refine awp_sr2 80 [0, 2, 5, 6] (fun | 1 => some (.tup [.int .i64 vr2.1, .int .i64 vr2.2], []) | _ => none) rfl (fun _ _ => rC (c_bookendref11_right hvr2)) ?_
 refine awp_seq ?_
 refine awp_sr2 96 [0, 2, 5, 6, 13] (fun _ => none) rfl (fun _ _ => rT) ?_
 refine awp_if rfl (fun hb3 => ?_) (fun hb3 => ?_)
 ·
  replace h0 := iteT h0 hb3
  refine awp_sr2 144 [2, 3, 4] (fun _ => none) rfl (fun _ _ => rT) ?_
  refine awp_ret ?_
  refine kr_then ?_
  obtain rfl := Option.some.inj h0
  refine leave_retG [] ?_
  exact rG
 ·
  replace h0 := iteF h0 hb3
  refine awp_skip ?_
  refine kn_then ?_
  obtain ⟨hc4, h0⟩ := guS h0
  obtain ⟨vr5, hvr5, h0⟩ := bindS h0
  refine awp_sr2 160 [2, 3, 4] (fun | 4 => some (.agg (TApiMgState.enc vr5), []) | _ => none) rfl (fun _ _ => rC (c_bookendref11_state hvr5)) ?_
  refine awp_re (s2 := ⟨[(2, .ref 0 0 0 0), (3, .int .i64 0), (4, .int .i64 0)], [(0, { g := 0, own := true, pure := true, sz := 5, es := [[.psl 1 (List.map (encSl 4 TApiEntry.enc) vr5.Runs), .psl 1 (List.map (encInt .i64) vr5.At), .psl 2 (List.map TApiLsKey.enc vr5.Tree.Keys), .psl 1 (List.map (encInt .i64) vr5.Tree.Lose), .int .i64 vr5.Tree.Win]] }), (120, { g := 0, own := false, pure := true, sz := 1, es := List.map (encInt .i64) (List.replicate runs1.length 0 : List Int) })], 160, []⟩) [] (Nat.le_of_ble_eq_true rfl) ⟨rF, rE, rfl, rfl, trivial, trivial⟩ ?_
  refine awp_ret ?_
  obtain rfl := Option.some.inj h0
  refine leave_retG [] ?_
  exact rG
end Go.T
end
section
/- The program computes them. -/
namespace Go.T
open Go Go.AM Go.Proofs
set_option maxRecDepth 100000
set_option maxHeartbeats 4000000
set_option linter.unusedVariables false
theorem c_bookendref10_Same {fu : Nat} {a1 : TApiLsTree} {b2 : TApiLsTree} {r : Bool} (h0 : bookendref10_Same fu a1 b2 = some r) : PCall Try.prog 36 [.agg (TApiLsTree.enc a1), .agg (TApiLsTree.enc b2)] (.bool r) [] := by
 refine awp_pcall Try.func36 rfl (by decide) (Nat.le_of_ble_eq_true rfl) ?_
 dsimp only [Try.f36]
 rw [bookendref10_Same] at h0
 refine (show AWP _ _ _ _ ⟨enumFr 0 _, [], 0, []⟩ from ?_)
 refine awp_sr2 24 [2, 3] (fun _ => none) rfl (fun _ _ => rT) ?_
 refine awp_seq ?_
 obtain ⟨b3, hb3, h0⟩ := bindS h0
 obtain ⟨b5, hb5, h0⟩ := bindS h0
 refine awp_sr3 (fr' := [(2, .ref 0 0 0 0), (3, .ref 8 0 0 0), (27, .bool b5)]) (hp' := [(0, { g := 0, own := true, pure := true, sz := 3, es := [[.psl 2 (List.map TApiLsKey.enc a1.Keys), .psl 1 (List.map (encInt .i64) a1.Lose), .int .i64 a1.Win]] }), (8, { g := 0, own := true, pure := true, sz := 3, es := [[.psl 2 (List.map TApiLsKey.enc b2.Keys), .psl 1 (List.map (encInt .i64) b2.Lose), .int .i64 b2.Win]] })]) [0, 8] 200 [2, 3, 27] (fun | 19 => (bookendref10_Ints fu a1.Lose b2.Lose).bind fun vr4 => some (.bool vr4, []) | _ => none) rfl (fun Kt hK => by
   cases hg6 : (!(decide ((a1.Keys.length : Int) = (b2.Keys.length : Int)))) with
   | false =>
    replace hb3 := iteF hb3 hg6
    have hqb3 := Option.some.inj hb3
    cases b3 with
    | false =>
     replace hb5 := iteF hb5 rfl
     obtain ⟨vr4, hvr4, hb5⟩ := bindS hb5
     have hqb5 := Option.some.inj hb5
     subst hqb5
     simp (maxSteps := 1000000) only [↓reduceIte, reduceCtorEq, Nat.reduceEqDiff, Nat.reduceLT, Nat.reduceLeDiff, Nat.reduceAdd, Nat.reduceMul, Int.reduceToNat, push_cast, ↓hg6, ↓hqb3, hvr4]
     try simp only [↓hg6, ↓hqb3] at hK
     try have q0 := c_bookendref10_Ints hvr4
     all_goals exact rU
    | true =>
     replace hb5 := iteT hb5 rfl
     have hqb5 := Option.some.inj hb5
     subst hqb5
     simp (maxSteps := 1000000) only [↓reduceIte, reduceCtorEq, Nat.reduceEqDiff, Nat.reduceLT, Nat.reduceLeDiff, Nat.reduceAdd, Nat.reduceMul, Int.reduceToNat, push_cast, ↓hg6, ↓hqb3]
     try simp only [↓hg6, ↓hqb3] at hK
     try have q0 := c_bookendref10_Ints hvr4
     all_goals exact rU
   | true =>
    replace hb3 := iteT hb3 hg6
    have hqb3 := Option.some.inj hb3
    cases b3 with
    | false =>
     cases hqb3
    | true =>
     replace hb5 := iteT hb5 rfl
     have hqb5 := Option.some.inj hb5
     subst hqb5
     simp (maxSteps := 1000000) only [↓reduceIte, reduceCtorEq, Nat.reduceEqDiff, Nat.reduceLT, Nat.reduceLeDiff, Nat.reduceAdd, Nat.reduceMul, Int.reduceToNat, push_cast, ↓hg6]
     try simp only [↓hg6] at hK
     try have q0 := c_bookendref10_Ints hvr4
     all_goals exact rU) ?_
 refine awp_if rfl (fun hb9 => ?_) (fun hb9 => ?_)
 ·
  replace h0 := iteT h0 hb9
  refine awp_sr2 208 [4] (fun _ => none) rfl (fun _ _ => rT) ?_
  refine awp_ret ?_
  refine kr_then ?_
  obtain rfl := Option.some.inj h0
  refine leave_retG [] ?_
  exact rG
 ·
  replace h0 := iteF h0 hb9
  refine awp_skip ?_
  refine kn_then ?_
  refine awp_seq ?_
  refine awp_sr2 208 [2, 3, 5] (fun _ => none) rfl (fun _ _ => rT) ?_
  obtain ⟨x19, hxx19, h0⟩ := bindS h0
  refine awp_bloop (fun s' => ∃ o25 : Unit, x19 = .inl o25 ∧ s'.nx ≤ 248 ∧ LeN [] s' ⟨[], [(0, { g := 0, own := true, pure := true, sz := 3, es := [[.psl 2 (List.map TApiLsKey.enc a1.Keys), .psl 1 (List.map (encInt .i64) a1.Lose), .int .i64 a1.Win]] }), (8, { g := 0, own := true, pure := true, sz := 3, es := [[.psl 2 (List.map TApiLsKey.enc b2.Keys), .psl 1 (List.map (encInt .i64) b2.Lose), .int .i64 b2.Win]] })], 248, []⟩) ?_ ?_
  ·
   intro s' hs
   obtain ⟨o25, rfl, hn, hs⟩ := hs
   refine kn_then ?_
   refine awp_re [] hn hs ?_
   refine awp_sr2 256 [4] (fun _ => none) rfl (fun _ _ => rT) ?_
   refine awp_ret ?_
   obtain rfl := Option.some.inj h0
   refine leave_retG [] ?_
   exact rG
  ·
   refine awp_loopF (ι := { p : Nat × Int // bookendref10_Same_l1 a1 b2 p.1 p.2 = some x19 }) (fun p => ⟨[(2, .ref 0 0 0 0), (3, .ref 8 0 0 0), (5, .int .i64 p.1.2)], [(0, { g := 0, own := true, pure := true, sz := 3, es := [[.psl 2 (List.map TApiLsKey.enc a1.Keys), .psl 1 (List.map (encInt .i64) a1.Lose), .int .i64 a1.Win]] }), (8, { g := 0, own := true, pure := true, sz := 3, es := [[.psl 2 (List.map TApiLsKey.enc b2.Keys), .psl 1 (List.map (encInt .i64) b2.Lose), .int .i64 b2.Win]] })], 208, []⟩) (fun p => p.1.1) ⟨(fu, 0), hxx19⟩ ⟨rF, rE, rfl, rfl, trivial, trivial⟩ (fun _ => Nat.le_refl _) ?_
   rintro ⟨⟨fu, i20⟩, h1⟩
   cases fu with
   | zero =>
   replace h1 : bookendref10_Same_l1 a1 b2 0 i20 = some x19 := h1
   rw [bookendref10_Same_l1] at h1; cases h1
   | succ fu =>
    replace h1 : bookendref10_Same_l1 a1 b2 (fu + 1) i20 = some x19 := h1
    rw [bookendref10_Same_l1] at h1
    refine (show AWP _ _ _ _ ⟨[(2, .ref 0 0 0 0), (3, .ref 8 0 0 0), (5, .int .i64 i20)], [(0, { g := 0, own := true, pure := true, sz := 3, es := [[.psl 2 (List.map TApiLsKey.enc a1.Keys), .psl 1 (List.map (encInt .i64) a1.Lose), .int .i64 a1.Win]] }), (8, { g := 0, own := true, pure := true, sz := 3, es := [[.psl 2 (List.map TApiLsKey.enc b2.Keys), .psl 1 (List.map (encInt .i64) b2.Lose), .int .i64 b2.Win]] })], 208, []⟩ from ?_)
    refine awp_seq ?_
    refine awp_sr2 248 [2, 3, 5, 32] (fun _ => none) rfl (fun _ _ => rT) ?_
    refine awp_if rfl (fun hb21 => ?_) (fun hb21 => ?_)
    ·
     replace h1 := iteT h1 hb21
     refine awp_skip ?_
     refine kn_then ?_
     refine awp_seq ?_
     refine awp_block ?_
     obtain ⟨e22, he22, h1⟩ := bindS h1
     obtain ⟨he22a, he22b, he22c⟩ := idxS he22
     obtain ⟨e23, he23, h1⟩ := bindS h1
     obtain ⟨he23a, he23b, he23c⟩ := idxS he23
     refine awp_sd2 336 [2, 3, 5, 45] (fun _ => none) rfl rfl rfl (fun _ _ => rSd (rA he22a (rA he22b (rA he22c (rA he23a (rA he23b he23c)))))) ?_
     refine awp_if rfl (fun hb24 => ?_) (fun hb24 => ?_)
     ·
      replace h1 := iteT h1 hb24
      refine awp_sr2 344 [4] (fun _ => none) rfl (fun _ _ => rS (rA he22a (rA he22b (rA he22c (rA he23a (rA he23b he23c)))))) ?_
      refine awp_ret ?_
      obtain rfl := Option.some.inj h1
      refine kr_block ?_
      refine kr_then ?_
      refine kr_then ?_
      refine kr_loop ?_
      refine kr_then ?_
      obtain rfl := Option.some.inj h0
      refine leave_retG [] ?_
      simp (maxSteps := 1000000) only [↓reduceIte, reduceCtorEq, Nat.reduceEqDiff, Nat.reduceLT, Nat.reduceLeDiff, Nat.reduceAdd, Nat.reduceMul, Int.reduceToNat, push_cast, Gives, he22a, he22b, he22c, he23a, he23b, he23c]
      all_goals exact rH
     ·
      replace h1 := iteF h1 hb24
      refine awp_skip ?_
      refine kn_block ?_
      refine kn_then ?_
      refine awp_r2 360 [2, 3, 5] (fun _ => none) rfl (fun _ _ => rS (rA he22a (rA he22b (rA he22c (rA he23a (rA he23b he23c)))))) ?_
      refine kn_then ?_
      exact ⟨⟨(fu, (IntKind.i64.wrap (i20 + 1))), h1⟩, ⟨rF, rE, rfl, rfl, trivial, trivial⟩, Nat.lt_succ_self _⟩
    ·
     replace h1 := iteF h1 hb21
     refine awp_exit ?_
     refine kx_then ?_
     refine kx_then ?_
     refine kx_done ?_
     obtain rfl := Option.some.inj h1
     exact ⟨_, rfl, Nat.le_of_ble_eq_true rfl, ⟨rF, rE, rfl, rfl, trivial, trivial⟩⟩
end Go.T
end
section
/- The program computes them. -/
namespace Go.T
open Go Go.AM Go.Proofs
set_option maxRecDepth 100000
set_option maxHeartbeats 4000000
set_option linter.unusedVariables false
theorem c_bookendref11_Same {fu : Nat} {a1 : TApiMgState} {b2 : TApiMgState} {r : Bool} (h0 : bookendref11_Same fu a1 b2 = some r) : PCall Try.prog 15 [.agg (TApiMgState.enc a1), .agg (TApiMgState.enc b2)] (.bool r) [] := by
 refine awp_pcall Try.func15 rfl (by decide) (Nat.le_of_ble_eq_true rfl) ?_
 dsimp only [Try.f15]
 rw [bookendref11_Same] at h0
 refine (show AWP _ _ _ _ ⟨enumFr 0 _, [], 0, []⟩ from ?_)
 refine awp_sr2 24 [2, 3] (fun _ => none) rfl (fun _ _ => rT) ?_
 refine awp_seq ?_
 obtain ⟨b4, hb4, h0⟩ := bindS h0
 obtain ⟨b6, hb6, h0⟩ := bindS h0
 refine awp_sr3 (fr' := [(2, .ref 0 0 0 0), (3, .ref 8 0 0 0), (28, .bool b6)]) (hp' := [(0, { g := 0, own := true, pure := true, sz := 5, es := [[.psl 1 (List.map (encSl 4 TApiEntry.enc) a1.Runs), .psl 1 (List.map (encInt .i64) a1.At), .psl 2 (List.map TApiLsKey.enc a1.Tree.Keys), .psl 1 (List.map (encInt .i64) a1.Tree.Lose), .int .i64 a1.Tree.Win]] }), (8, { g := 0, own := true, pure := true, sz := 5, es := [[.psl 1 (List.map (encSl 4 TApiEntry.enc) b2.Runs), .psl 1 (List.map (encInt .i64) b2.At), .psl 2 (List.map TApiLsKey.enc b2.Tree.Keys), .psl 1 (List.map (encInt .i64) b2.Tree.Lose), .int .i64 b2.Tree.Win]] })]) [0, 8] 208 [2, 3, 28] (fun | 12 => (bookendref10_Ints fu a1.At b2.At).bind fun vr3 => some (.bool vr3, []) | 20 => (bookendref10_Same fu a1.Tree b2.Tree).bind fun vr5 => some (.bool vr5, []) | _ => none) rfl (fun Kt hK => by
   cases hg7 : (!(decide ((a1.Runs.length : Int) = (b2.Runs.length : Int)))) with
   | false =>
    replace hb4 := iteF hb4 hg7
    obtain ⟨vr3, hvr3, hb4⟩ := bindS hb4
    have hqb4 := Option.some.inj hb4
    cases b4 with
    | false =>
     replace hb6 := iteF hb6 rfl
     obtain ⟨vr5, hvr5, hb6⟩ := bindS hb6
     have hqb6 := Option.some.inj hb6
     subst hqb6
     simp (maxSteps := 1000000) only [↓reduceIte, reduceCtorEq, Nat.reduceEqDiff, Nat.reduceLT, Nat.reduceLeDiff, Nat.reduceAdd, Nat.reduceMul, Int.reduceToNat, push_cast, ↓hg7, hvr3, ↓hqb4, hvr5]
     try simp only [↓hg7, ↓hqb4] at hK
     try have q0 := c_bookendref10_Ints hvr3
     try have q1 := c_bookendref10_Same hvr5
     all_goals exact rU
    | true =>
     replace hb6 := iteT hb6 rfl
     have hqb6 := Option.some.inj hb6
     subst hqb6
     simp (maxSteps := 1000000) only [↓reduceIte, reduceCtorEq, Nat.reduceEqDiff, Nat.reduceLT, Nat.reduceLeDiff, Nat.reduceAdd, Nat.reduceMul, Int.reduceToNat, push_cast, ↓hg7, hvr3, ↓hqb4]
     try simp only [↓hg7, ↓hqb4] at hK
     try have q0 := c_bookendref10_Ints hvr3
     try have q1 := c_bookendref10_Same hvr5
     all_goals exact rU
   | true =>
    replace hb4 := iteT hb4 hg7
    have hqb4 := Option.some.inj hb4
    cases b4 with
    | false =>
     cases hqb4
    | true =>
     replace hb6 := iteT hb6 rfl
     have hqb6 := Option.some.inj hb6
     subst hqb6
     simp (maxSteps := 1000000) only [↓reduceIte, reduceCtorEq, Nat.reduceEqDiff, Nat.reduceLT, Nat.reduceLeDiff, Nat.reduceAdd, Nat.reduceMul, Int.reduceToNat, push_cast, ↓hg7]
     try simp only [↓hg7] at hK
     try have q0 := c_bookendref10_Ints hvr3
     try have q1 := c_bookendref10_Same hvr5
     all_goals exact rU) ?_
 refine awp_if rfl (fun hb10 => ?_) (fun hb10 => ?_)
 ·
  replace h0 := iteT h0 hb10
  refine awp_sr2 216 [4] (fun _ => none) rfl (fun _ _ => rT) ?_
  refine awp_ret ?_
  refine kr_then ?_
  obtain rfl := Option.some.inj h0
  refine leave_retG [] ?_
  exact rG
 ·
  replace h0 := iteF h0 hb10
  refine awp_skip ?_
  refine kn_then ?_
  refine awp_seq ?_
  refine awp_sr2 216 [2, 3, 5] (fun _ => none) rfl (fun _ _ => rT) ?_
  obtain ⟨x22, hxx22, h0⟩ := bindS h0
  refine awp_bloop (fun s' => ∃ o29 : Unit, x22 = .inl o29 ∧ s'.nx ≤ 256 ∧ LeN [] s' ⟨[], [(0, { g := 0, own := true, pure := true, sz := 5, es := [[.psl 1 (List.map (encSl 4 TApiEntry.enc) a1.Runs), .psl 1 (List.map (encInt .i64) a1.At), .psl 2 (List.map TApiLsKey.enc a1.Tree.Keys), .psl 1 (List.map (encInt .i64) a1.Tree.Lose), .int .i64 a1.Tree.Win]] }), (8, { g := 0, own := true, pure := true, sz := 5, es := [[.psl 1 (List.map (encSl 4 TApiEntry.enc) b2.Runs), .psl 1 (List.map (encInt .i64) b2.At), .psl 2 (List.map TApiLsKey.enc b2.Tree.Keys), .psl 1 (List.map (encInt .i64) b2.Tree.Lose), .int .i64 b2.Tree.Win]] })], 256, []⟩) ?_ ?_
  ·
   intro s' hs
   obtain ⟨o29, rfl, hn, hs⟩ := hs
   refine kn_then ?_
   refine awp_re [] hn hs ?_
   refine awp_sr2 264 [4] (fun _ => none) rfl (fun _ _ => rT) ?_
   refine awp_ret ?_
   obtain rfl := Option.some.inj h0
   refine leave_retG [] ?_
   exact rG
  ·
   refine awp_loopF (ι := { p : Nat × Int // bookendref11_Same_l1 a1 b2 p.1 p.2 = some x22 }) (fun p => ⟨[(2, .ref 0 0 0 0), (3, .ref 8 0 0 0), (5, .int .i64 p.1.2)], [(0, { g := 0, own := true, pure := true, sz := 5, es := [[.psl 1 (List.map (encSl 4 TApiEntry.enc) a1.Runs), .psl 1 (List.map (encInt .i64) a1.At), .psl 2 (List.map TApiLsKey.enc a1.Tree.Keys), .psl 1 (List.map (encInt .i64) a1.Tree.Lose), .int .i64 a1.Tree.Win]] }), (8, { g := 0, own := true, pure := true, sz := 5, es := [[.psl 1 (List.map (encSl 4 TApiEntry.enc) b2.Runs), .psl 1 (List.map (encInt .i64) b2.At), .psl 2 (List.map TApiLsKey.enc b2.Tree.Keys), .psl 1 (List.map (encInt .i64) b2.Tree.Lose), .int .i64 b2.Tree.Win]] })], 216, []⟩) (fun p => p.1.1) ⟨(fu, 0), hxx22⟩ ⟨rF, rE, rfl, rfl, trivial, trivial⟩ (fun _ => Nat.le_refl _) ?_
   rintro ⟨⟨fu, i23⟩, h1⟩
   cases fu with
   | zero =>
   replace h1 : bookendref11_Same_l1 a1 b2 0 i23 = some x22 := h1
   rw [bookendref11_Same_l1] at h1; cases h1
   | succ fu =>
    replace h1 : bookendref11_Same_l1 a1 b2 (fu + 1) i23 = some x22 := h1
    rw [bookendref11_Same_l1] at h1
    refine (show AWP _ _ _ _ ⟨[(2, .ref 0 0 0 0), (3, .ref 8 0 0 0), (5, .int .i64 i23)], [(0, { g := 0, own := true, pure := true, sz := 5, es := [[.psl 1 (List.map (encSl 4 TApiEntry.enc) a1.Runs), .psl 1 (List.map (encInt .i64) a1.At), .psl 2 (List.map TApiLsKey.enc a1.Tree.Keys), .psl 1 (List.map (encInt .i64) a1.Tree.Lose), .int .i64 a1.Tree.Win]] }), (8, { g := 0, own := true, pure := true, sz := 5, es := [[.psl 1 (List.map (encSl 4 TApiEntry.enc) b2.Runs), .psl 1 (List.map (encInt .i64) b2.At), .psl 2 (List.map TApiLsKey.enc b2.Tree.Keys), .psl 1 (List.map (encInt .i64) b2.Tree.Lose), .int .i64 b2.Tree.Win]] })], 216, []⟩ from ?_)
    refine awp_seq ?_
    refine awp_sr2 256 [2, 3, 5, 33] (fun _ => none) rfl (fun _ _ => rT) ?_
    refine awp_if rfl (fun hb24 => ?_) (fun hb24 => ?_)
    ·
     replace h1 := iteT h1 hb24
     refine awp_skip ?_
     refine kn_then ?_
     refine awp_seq ?_
     refine awp_block ?_
     obtain ⟨e25, he25, h1⟩ := bindS h1
     obtain ⟨he25a, he25b, he25c⟩ := idxS he25
     obtain ⟨e26, he26, h1⟩ := bindS h1
     obtain ⟨he26a, he26b, he26c⟩ := idxS he26
     obtain ⟨vr27, hvr27, h1⟩ := bindS h1
     refine awp_sd2 352 [2, 3, 5, 47] (fun | 10 => some (.bool vr27, []) | _ => none) rfl rfl rfl (fun _ _ => rBd (rA he25a (rA he25b (rA he25c (rA he26a (rA he26b he26c))))) (c_bookendref11_SameEntries hvr27)) ?_
     refine awp_if rfl (fun hb28 => ?_) (fun hb28 => ?_)
     ·
      replace h1 := iteT h1 hb28
      refine awp_sr2 360 [4] (fun _ => none) rfl (fun _ _ => rS (rA he25a (rA he25b (rA he25c (rA he26a (rA he26b he26c)))))) ?_
      refine awp_ret ?_
      obtain rfl := Option.some.inj h1
      refine kr_block ?_
      refine kr_then ?_
      refine kr_then ?_
      refine kr_loop ?_
      refine kr_then ?_
      obtain rfl := Option.some.inj h0
      refine leave_retG [] ?_
      simp (maxSteps := 1000000) only [↓reduceIte, reduceCtorEq, Nat.reduceEqDiff, Nat.reduceLT, Nat.reduceLeDiff, Nat.reduceAdd, Nat.reduceMul, Int.reduceToNat, push_cast, Gives, he25a, he25b, he25c, he26a, he26b, he26c]
      all_goals exact rH
     ·
      replace h1 := iteF h1 hb28
      refine awp_skip ?_
      refine kn_block ?_
      refine kn_then ?_
      refine awp_r2 376 [2, 3, 5] (fun _ => none) rfl (fun _ _ => rS (rA he25a (rA he25b (rA he25c (rA he26a (rA he26b he26c)))))) ?_
      refine kn_then ?_
      exact ⟨⟨(fu, (IntKind.i64.wrap (i23 + 1))), h1⟩, ⟨rF, rE, rfl, rfl, trivial, trivial⟩, Nat.lt_succ_self _⟩
    ·
     replace h1 := iteF h1 hb24
     refine awp_exit ?_
     refine kx_then ?_
     refine kx_then ?_
     refine kx_done ?_
     obtain rfl := Option.some.inj h1
     exact ⟨_, rfl, Nat.le_of_ble_eq_true rfl, ⟨rF, rE, rfl, rfl, trivial, trivial⟩⟩
end Go.T
end
section
/- The program computes them. -/
namespace Go.T
open Go Go.AM Go.Proofs
set_option maxRecDepth 100000
set_option maxHeartbeats 4000000
set_option linter.unusedVariables false
theorem c_merge_Skip_2 {fu : Nat} {vs1 : TApiMgState} {key2 : List UInt8} {r : TApiMgState × Int} (h0 : merge_Skip_2 fu vs1 key2 = some r) : PCall Try.prog 18 [.agg (TApiMgState.enc vs1), .str key2] (.tup [.agg [.psl 1 (List.map (encSl 4 TApiEntry.enc) r.1.Runs), .sl 0 0 1 0 r.1.At.length, .psl 2 (List.map TApiLsKey.enc r.1.Tree.Keys), .psl 1 (List.map (encInt .i64) r.1.Tree.Lose), .int .i64 r.1.Tree.Win], .int .i64 r.2]) [{ g := 0, own := true, pure := true, sz := 1, es := r.1.At.map (encInt .i64) }] := by
 refine awp_pcall Try.func18 rfl (by decide) (Nat.le_of_ble_eq_true rfl) ?_
 dsimp only [Try.f18]
 rw [merge_Skip_2] at h0
 refine (show AWP _ _ _ _ ⟨enumFr 0 _, [], 0, []⟩ from ?_)
 refine awp_sr2 32 [2, 3, 4, 5] (fun _ => none) rfl (fun _ _ => rT) ?_
 refine awp_sops2 7 rfl ?_
 refine awpo_cut (l' := List.range' 0 1 ++ (1 :: (List.range' 2 5 ++ []))) rfl ?_
 refine awpo_seg 0 1 40 (1 :: (List.range' 2 5 ++ [])) (fun _ => none) rfl rfl rfl (fun _ _ => rT) ?_
 refine awpo_in rfl rfl rfl rfl rfl Try.func37 rfl (by decide) rfl (Nat.le_of_ble_eq_true rfl) ?_
 dsimp only [Try.f37]
 refine awp_re (s2 := ⟨[(0, .agg [.psl 1 (List.map (encSl 4 TApiEntry.enc) vs1.Runs), .psl 1 (List.map (encInt .i64) vs1.At), .psl 2 (List.map TApiLsKey.enc vs1.Tree.Keys), .psl 1 (List.map (encInt .i64) vs1.Tree.Lose), .int .i64 vs1.Tree.Win])], [(0, { g := 0, own := true, pure := true, sz := 5, es := [[.psl 1 (List.map (encSl 4 TApiEntry.enc) vs1.Runs), .psl 1 (List.map (encInt .i64) vs1.At), .psl 2 (List.map TApiLsKey.enc vs1.Tree.Keys), .psl 1 (List.map (encInt .i64) vs1.Tree.Lose), .int .i64 vs1.Tree.Win]] }), (8, { g := 0, own := true, pure := true, sz := 1, es := [[.str key2]] }), (16, { g := 0, own := true, pure := true, sz := 5, es := [[.nils, .nils, .nils, .nils, .int .i64 0]] })], 40, []⟩) [] (Nat.le_of_ble_eq_true rfl) ⟨rF, rE, rfl, rfl, trivial, trivial⟩ ?_
 refine awp_sr2 64 [1] (fun _ => none) rfl (fun _ _ => rT) ?_
 refine awp_seq ?_
 obtain ⟨vr3, hvr3, h0⟩ := bindS h0
 refine awp_sr2 120 [1, 5] (fun | 1 => some (.tup [.int .i64 vr3.1, .int .i64 vr3.2], []) | _ => none) rfl (fun _ _ => rC (c_merge_Check hvr3)) ?_
 refine awp_sr2 136 [1, 5, 12] (fun _ => none) rfl (fun _ _ => rT) ?_
 refine awp_if rfl (fun hb4 => ?_) (fun hb4 => ?_)
 ·
  replace h0 := iteT h0 hb4
  refine awp_sr2 160 [2, 3] (fun _ => none) rfl (fun _ _ => rT) ?_
  refine awp_ret ?_
  refine kr_then ?_
  refine leave_retK (fun _ _ => rT) ?_
  refine awpo_re (s2 := ⟨[(2, .ref 0 0 0 0), (3, .ref 8 0 0 0), (4, .ref 16 0 0 0), (5, .int .i64 0), (11, .agg [.psl 1 (List.map (encSl 4 TApiEntry.enc) vs1.Runs), .psl 1 (List.map (encInt .i64) vs1.At), .psl 2 (List.map TApiLsKey.enc vs1.Tree.Keys), .psl 1 (List.map (encInt .i64) vs1.Tree.Lose), .int .i64 vs1.Tree.Win]), (12, .tup [.nilp, .int .i64 vr3.2])], [(0, { g := 0, own := true, pure := true, sz := 5, es := [[.psl 1 (List.map (encSl 4 TApiEntry.enc) vs1.Runs), .psl 1 (List.map (encInt .i64) vs1.At), .psl 2 (List.map TApiLsKey.enc vs1.Tree.Keys), .psl 1 (List.map (encInt .i64) vs1.Tree.Lose), .int .i64 vs1.Tree.Win]] }), (8, { g := 0, own := true, pure := true, sz := 1, es := [[.str key2]] }), (16, { g := 0, own := true, pure := true, sz := 5, es := [[.nils, .nils, .nils, .nils, .int .i64 0]] })], 160, []⟩) [] (Nat.le_of_ble_eq_true rfl) ⟨rF, rE, rfl, rfl, trivial, trivial⟩ ?_
  refine awpo_cut (l' := List.range' 2 5 ++ []) rfl ?_
  refine awpo_seg 2 5 200 [] (fun _ => none) rfl rfl rfl (fun _ _ => rT) ?_
  refine awpo_nil ?_
  refine kn_then ?_
  refine awp_re (s2 := ⟨[(3, .ref 8 0 0 0), (4, .ref 16 0 0 0), (5, .int .i64 0), (6, .nilp), (7, .int .i64 vr3.2)], [(0, { g := 0, own := true, pure := true, sz := 5, es := [[.psl 1 (List.map (encSl 4 TApiEntry.enc) vs1.Runs), .psl 1 (List.map (encInt .i64) vs1.At), .psl 2 (List.map TApiLsKey.enc vs1.Tree.Keys), .psl 1 (List.map (encInt .i64) vs1.Tree.Lose), .int .i64 vs1.Tree.Win]] }), (8, { g := 0, own := true, pure := true, sz := 1, es := [[.str key2]] }), (16, { g := 0, own := true, pure := true, sz := 5, es := [[.nils, .nils, .nils, .nils, .int .i64 0]] })], 200, []⟩) [] (Nat.le_of_ble_eq_true rfl) ⟨rF, rE, rfl, rfl, trivial, trivial⟩ ?_
  refine awp_seq ?_
  refine awp_sr2 216 [3, 4, 5, 6, 7, 16] (fun _ => none) rfl (fun _ _ => rT) ?_
  refine awp_condKT rfl hb4 ?_
  refine awp_sr2 248 [4, 5] (fun _ => none) rfl (fun _ _ => rT) ?_
  refine awp_re (s2 := ⟨[(4, .ref 16 0 0 0), (5, .int .i64 vr3.2)], [(0, { g := 0, own := true, pure := true, sz := 5, es := [[.psl 1 (List.map (encSl 4 TApiEntry.enc) vs1.Runs), .psl 1 (List.map (encInt .i64) vs1.At), .psl 2 (List.map TApiLsKey.enc vs1.Tree.Keys), .psl 1 (List.map (encInt .i64) vs1.Tree.Lose), .int .i64 vs1.Tree.Win]] }), (8, { g := 0, own := true, pure := true, sz := 1, es := [[.str key2]] }), (16, { g := 0, own := true, pure := false, sz := 5, es := [[.nils, .sl 248 0 1 0 0, .nils, .nils, .int .i64 0]] }), (248, { g := 0, own := true, pure := true, sz := 1, es := List.map (encInt .i64) [] })], 249, []⟩) [(248, 1)] (Nat.le_of_ble_eq_true rfl) ⟨rF, rE, rfl, rfl, trivial, rN⟩ ?_
  refine awp_ret ?_
  refine kr_then ?_
  obtain rfl := Option.some.inj h0
  refine leave_retG [248] ?_
  exact rG
 ·
  replace h0 := iteF h0 hb4
  refine awp_skip ?_
  refine kn_then ?_
  obtain ⟨vr5, hvr5, h0⟩ := bindS h0
  obtain ⟨vr6, hvr6, h0⟩ := bindS h0
  refine awp_sd2 240 [2, 3] (fun | 2 => some (.psl 1 (vr5.map (encSl 4 TApiEntry.enc)), []) | 5 => some (.sl 0 0 1 0 vr6.length, [{ g := 0, own := true, pure := true, sz := 1, es := vr6.map (encInt .i64) }]) | _ => none) rfl rfl rfl (fun Kt hK => by
    try have q0 := c_slices_Clone_apiEntry hvr5
    try have q1 := c_slices_Clone_int_2 hvr6
    exact rTd) ?_
  refine awp_ret ?_
  refine leave_retK (fun _ _ => rT) ?_
  refine awpo_re (s2 := ⟨[(2, .ref 0 0 0 0), (3, .ref 8 0 0 0), (4, .ref 16 0 0 0), (5, .int .i64 0), (11, .agg [.psl 1 (List.map (encSl 4 TApiEntry.enc) vs1.Runs), .psl 1 (List.map (encInt .i64) vs1.At), .psl 2 (List.map TApiLsKey.enc vs1.Tree.Keys), .psl 1 (List.map (encInt .i64) vs1.Tree.Lose), .int .i64 vs1.Tree.Win]), (12, .tup [.ref 216 0 0 0, .int .i64 0])], [(0, { g := 0, own := true, pure := true, sz := 5, es := [[.psl 1 (List.map (encSl 4 TApiEntry.enc) vs1.Runs), .psl 1 (List.map (encInt .i64) vs1.At), .psl 2 (List.map TApiLsKey.enc vs1.Tree.Keys), .psl 1 (List.map (encInt .i64) vs1.Tree.Lose), .int .i64 vs1.Tree.Win]] }), (8, { g := 0, own := true, pure := true, sz := 1, es := [[.str key2]] }), (16, { g := 0, own := true, pure := true, sz := 5, es := [[.nils, .nils, .nils, .nils, .int .i64 0]] }), (176, { g := 0, own := true, pure := true, sz := 1, es := List.map (encInt .i64) vr6 }), (216, { g := 0, own := true, pure := false, sz := 5, es := [[.psl 1 (List.map (encSl 4 TApiEntry.enc) vr5), .sl 176 0 1 0 vr6.length, .psl 2 (List.map TApiLsKey.enc vs1.Tree.Keys), .psl 1 (List.map (encInt .i64) vs1.Tree.Lose), .int .i64 vs1.Tree.Win]] })], 240, []⟩) [] (Nat.le_of_ble_eq_true rfl) ⟨rF, rE, rfl, rfl, trivial, trivial⟩ ?_
  refine awpo_cut (l' := List.range' 2 5 ++ []) rfl ?_
  refine awpo_seg 2 5 280 [] (fun _ => none) rfl rfl rfl (fun _ _ => rT) ?_
  refine awpo_nil ?_
  refine kn_then ?_
  refine awp_re (s2 := ⟨[(3, .ref 8 0 0 0), (4, .ref 16 0 0 0), (5, .int .i64 0), (6, .ref 216 0 0 0), (7, .int .i64 0)], [(0, { g := 0, own := true, pure := true, sz := 5, es := [[.psl 1 (List.map (encSl 4 TApiEntry.enc) vs1.Runs), .psl 1 (List.map (encInt .i64) vs1.At), .psl 2 (List.map TApiLsKey.enc vs1.Tree.Keys), .psl 1 (List.map (encInt .i64) vs1.Tree.Lose), .int .i64 vs1.Tree.Win]] }), (8, { g := 0, own := true, pure := true, sz := 1, es := [[.str key2]] }), (16, { g := 0, own := true, pure := true, sz := 5, es := [[.nils, .nils, .nils, .nils, .int .i64 0]] }), (176, { g := 0, own := true, pure := true, sz := 1, es := List.map (encInt .i64) vr6 }), (216, { g := 0, own := true, pure := false, sz := 5, es := [[.psl 1 (List.map (encSl 4 TApiEntry.enc) vr5), .sl 176 0 1 0 vr6.length, .psl 2 (List.map TApiLsKey.enc vs1.Tree.Keys), .psl 1 (List.map (encInt .i64) vs1.Tree.Lose), .int .i64 vs1.Tree.Win]] })], 280, []⟩) [] (Nat.le_of_ble_eq_true rfl) ⟨rF, rE, rfl, rfl, trivial, trivial⟩ ?_
  refine awp_seq ?_
  refine awp_sr2 296 [3, 4, 5, 6, 7, 16] (fun _ => none) rfl (fun _ _ => rT) ?_
  refine awp_condF rfl ?_
  refine awp_skip ?_
  refine kn_then ?_
  refine awp_seq ?_
  refine awp_sops2 2 rfl ?_
  refine awpo_cut (l' := List.range' 0 1 ++ (1 :: (List.range' 2 0 ++ []))) rfl ?_
  refine awpo_seg 0 1 304 (1 :: (List.range' 2 0 ++ [])) (fun _ => none) rfl rfl rfl (fun _ _ => rT) ?_
  refine awpo_in rfl rfl rfl rfl rfl Try.func34 rfl (by decide) rfl (Nat.le_of_ble_eq_true rfl) ?_
  dsimp only [Try.f34]
  refine awp_re (s2 := ⟨[(0, .ref 216 0 0 0)], [(0, { g := 0, own := true, pure := true, sz := 5, es := [[.psl 1 (List.map (encSl 4 TApiEntry.enc) vs1.Runs), .psl 1 (List.map (encInt .i64) vs1.At), .psl 2 (List.map TApiLsKey.enc vs1.Tree.Keys), .psl 1 (List.map (encInt .i64) vs1.Tree.Lose), .int .i64 vs1.Tree.Win]] }), (8, { g := 0, own := true, pure := true, sz := 1, es := [[.str key2]] }), (16, { g := 0, own := true, pure := true, sz := 5, es := [[.nils, .nils, .nils, .nils, .int .i64 0]] }), (176, { g := 0, own := true, pure := true, sz := 1, es := List.map (encInt .i64) vr6 }), (216, { g := 0, own := true, pure := false, sz := 5, es := [[.psl 1 (List.map (encSl 4 TApiEntry.enc) vr5), .sl 176 0 1 0 vr6.length, .psl 2 (List.map TApiLsKey.enc vs1.Tree.Keys), .psl 1 (List.map (encInt .i64) vs1.Tree.Lose), .int .i64 vs1.Tree.Win]] })], 304, []⟩) [] (Nat.le_of_ble_eq_true rfl) ⟨rF, rE, rfl, rfl, trivial, trivial⟩ ?_
  refine awp_sr2 320 [1] (fun _ => none) rfl (fun _ _ => rT) ?_
  refine awp_sr2 336 [2] (fun _ => none) rfl (fun _ _ => rT) ?_
  refine awp_ret ?_
  refine leave_retK (fun _ _ => rT) ?_
  refine awpo_re (s2 := ⟨[(3, .ref 8 0 0 0), (4, .ref 16 0 0 0), (5, .int .i64 0), (6, .ref 216 0 0 0), (7, .int .i64 0), (16, .bool false), (19, .ref 216 0 0 0), (20, .fn 51 [] [.ref 304 0 0 0])], [(0, { g := 0, own := true, pure := true, sz := 5, es := [[.psl 1 (List.map (encSl 4 TApiEntry.enc) vs1.Runs), .psl 1 (List.map (encInt .i64) vs1.At), .psl 2 (List.map TApiLsKey.enc vs1.Tree.Keys), .psl 1 (List.map (encInt .i64) vs1.Tree.Lose), .int .i64 vs1.Tree.Win]] }), (8, { g := 0, own := true, pure := true, sz := 1, es := [[.str key2]] }), (16, { g := 0, own := true, pure := true, sz := 5, es := [[.nils, .nils, .nils, .nils, .int .i64 0]] }), (176, { g := 0, own := true, pure := true, sz := 1, es := List.map (encInt .i64) vr6 }), (216, { g := 0, own := true, pure := false, sz := 5, es := [[.psl 1 (List.map (encSl 4 TApiEntry.enc) vr5), .sl 176 0 1 0 vr6.length, .psl 2 (List.map TApiLsKey.enc vs1.Tree.Keys), .psl 1 (List.map (encInt .i64) vs1.Tree.Lose), .int .i64 vs1.Tree.Win]] }), (304, { g := 0, own := true, pure := false, sz := 1, es := [[.ref 216 0 0 0]] })], 336, []⟩) [] (Nat.le_of_ble_eq_true rfl) ⟨rF, rE, rfl, rfl, trivial, trivial⟩ ?_
  refine awpo_cut (l' := []) rfl ?_
  refine awpo_nil ?_
  refine kn_then ?_
  refine awp_re (s2 := ⟨[(3, .ref 8 0 0 0), (4, .ref 16 0 0 0), (5, .int .i64 0), (6, .ref 216 0 0 0), (20, .fn 51 [] [.ref 304 0 0 0])], [(0, { g := 0, own := true, pure := true, sz := 5, es := [[.psl 1 (List.map (encSl 4 TApiEntry.enc) vs1.Runs), .psl 1 (List.map (encInt .i64) vs1.At), .psl 2 (List.map TApiLsKey.enc vs1.Tree.Keys), .psl 1 (List.map (encInt .i64) vs1.Tree.Lose), .int .i64 vs1.Tree.Win]] }), (8, { g := 0, own := true, pure := true, sz := 1, es := [[.str key2]] }), (16, { g := 0, own := true, pure := true, sz := 5, es := [[.nils, .nils, .nils, .nils, .int .i64 0]] }), (176, { g := 0, own := true, pure := true, sz := 1, es := List.map (encInt .i64) vr6 }), (216, { g := 0, own := true, pure := false, sz := 5, es := [[.psl 1 (List.map (encSl 4 TApiEntry.enc) vr5), .sl 176 0 1 0 vr6.length, .psl 2 (List.map TApiLsKey.enc vs1.Tree.Keys), .psl 1 (List.map (encInt .i64) vs1.Tree.Lose), .int .i64 vs1.Tree.Win]] }), (304, { g := 0, own := true, pure := false, sz := 1, es := [[.ref 216 0 0 0]] })], 336, []⟩) [] (Nat.le_of_ble_eq_true rfl) ⟨rF, rE, rfl, rfl, trivial, trivial⟩ ?_
  refine awp_block ?_
  refine awp_rangeV rfl Try.func51 rfl (by decide) (Nat.le_of_ble_eq_true rfl) ?_
  intro RC7 hRC7
  have stRC7 : RC7.st = .ready ∧ RC7.pend = none := by rw [hRC7]; exact ⟨rfl, rfl⟩
  have okRC7 : RCok 336 RC7 := by rw [hRC7]; exact And.intro (rR) rfl
  dsimp only [Try.f51]
  refine awp_re (s2 := ⟨[(0, .yld 336), (1, .ref 304 0 0 0)], [(0, { g := 0, own := true, pure := true, sz := 5, es := [[.psl 1 (List.map (encSl 4 TApiEntry.enc) vs1.Runs), .psl 1 (List.map (encInt .i64) vs1.At), .psl 2 (List.map TApiLsKey.enc vs1.Tree.Keys), .psl 1 (List.map (encInt .i64) vs1.Tree.Lose), .int .i64 vs1.Tree.Win]] }), (8, { g := 0, own := true, pure := true, sz := 1, es := [[.str key2]] }), (16, { g := 0, own := true, pure := true, sz := 5, es := [[.nils, .nils, .nils, .nils, .int .i64 0]] }), (176, { g := 0, own := true, pure := true, sz := 1, es := List.map (encInt .i64) vr6 }), (216, { g := 0, own := true, pure := false, sz := 5, es := [[.psl 1 (List.map (encSl 4 TApiEntry.enc) vr5), .sl 176 0 1 0 vr6.length, .psl 2 (List.map TApiLsKey.enc vs1.Tree.Keys), .psl 1 (List.map (encInt .i64) vs1.Tree.Lose), .int .i64 vs1.Tree.Win]] }), (304, { g := 0, own := true, pure := false, sz := 1, es := [[.ref 216 0 0 0]] })], 337, [(336, RC7)]⟩) [] (Nat.le_of_ble_eq_true rfl) ⟨rF, rE, rfl, rfl, (LpLe.consR (Nat.le_of_ble_eq_true rfl) rfl okRC7 (Nat.le_of_ble_eq_true rfl) trivial), trivial⟩ ?_
  obtain ⟨x37, hxx37, h0⟩ := bindS h0
  refine awp_bloop (fun _ => False) ?_ ?_
  ·
   intro _ h; exact h.elim
  ·
   refine awp_loopF (ι := { p : Nat × List Int × List TApiLsKey × List Int × Int × Nat // merge_Skip_2_l1 vr5 key2 p.1 p.2.1 p.2.2.1 p.2.2.2.1 p.2.2.2.2.1 = some x37 }) (fun p => ⟨[(0, .yld 336), (1, .ref 304 0 0 0)], [(0, { g := 0, own := true, pure := true, sz := 5, es := [[.psl 1 (List.map (encSl 4 TApiEntry.enc) vs1.Runs), .psl 1 (List.map (encInt .i64) vs1.At), .psl 2 (List.map TApiLsKey.enc vs1.Tree.Keys), .psl 1 (List.map (encInt .i64) vs1.Tree.Lose), .int .i64 vs1.Tree.Win]] }), (8, { g := 0, own := true, pure := true, sz := 1, es := [[.str key2]] }), (16, { g := 0, own := true, pure := true, sz := 5, es := [[.nils, .nils, .nils, .nils, .int .i64 0]] }), (176, { g := p.1.2.2.2.2.2, own := true, pure := true, sz := 1, es := List.map (encInt .i64) p.1.2.1 }), (216, { g := 0, own := true, pure := false, sz := 5, es := [[.psl 1 (List.map (encSl 4 TApiEntry.enc) vr5), .sl 176 p.1.2.2.2.2.2 1 0 p.1.2.1.length, .psl 2 (List.map TApiLsKey.enc p.1.2.2.1), .psl 1 (List.map (encInt .i64) p.1.2.2.2.1), .int .i64 p.1.2.2.2.2.1]] }), (304, { g := 0, own := true, pure := false, sz := 1, es := [[.ref 216 0 0 0]] })], 337, [(336, RC7)]⟩) (fun p => p.1.1) ⟨(fu, vr6, vs1.Tree.Keys, vs1.Tree.Lose, vs1.Tree.Win, 0), hxx37⟩ ⟨rF, rE, rfl, rfl, (LpLe.consR (Nat.le_of_ble_eq_true rfl) rfl okRC7 (Nat.le_of_ble_eq_true rfl) trivial), trivial⟩ (fun _ => Nat.le_refl _) ?_
   rintro ⟨⟨fu, v38, v39, v40, v41, g42⟩, h1⟩
   cases fu with
   | zero =>
   replace h1 : merge_Skip_2_l1 vr5 key2 0 v38 v39 v40 v41 = some x37 := h1
   rw [merge_Skip_2_l1] at h1; cases h1
   | succ fu =>
    replace h1 : merge_Skip_2_l1 vr5 key2 (fu + 1) v38 v39 v40 v41 = some x37 := h1
    rw [merge_Skip_2_l1] at h1
    refine (show AWP _ _ _ _ ⟨[(0, .yld 336), (1, .ref 304 0 0 0)], [(0, { g := 0, own := true, pure := true, sz := 5, es := [[.psl 1 (List.map (encSl 4 TApiEntry.enc) vs1.Runs), .psl 1 (List.map (encInt .i64) vs1.At), .psl 2 (List.map TApiLsKey.enc vs1.Tree.Keys), .psl 1 (List.map (encInt .i64) vs1.Tree.Lose), .int .i64 vs1.Tree.Win]] }), (8, { g := 0, own := true, pure := true, sz := 1, es := [[.str key2]] }), (16, { g := 0, own := true, pure := true, sz := 5, es := [[.nils, .nils, .nils, .nils, .int .i64 0]] }), (176, { g := g42, own := true, pure := true, sz := 1, es := List.map (encInt .i64) v38 }), (216, { g := 0, own := true, pure := false, sz := 5, es := [[.psl 1 (List.map (encSl 4 TApiEntry.enc) vr5), .sl 176 g42 1 0 v38.length, .psl 2 (List.map TApiLsKey.enc v39), .psl 1 (List.map (encInt .i64) v40), .int .i64 v41]] }), (304, { g := 0, own := true, pure := false, sz := 1, es := [[.ref 216 0 0 0]] })], 337, [(336, RC7)]⟩ from ?_)
    refine awp_block ?_
    obtain ⟨vr43, hvr43, h1⟩ := bindS h1
    refine awp_sr2 417 [0, 1, 3, 4, 5] (fun | 1 => some (.tup [.agg (TApiEntry.enc vr43.1), .int .i64 vr43.2.1, .int .i64 vr43.2.2], []) | _ => none) rfl (fun _ _ => rC (c_merge_reader_peek hvr43)) ?_
    refine awp_seq ?_
    refine awp_sops2 9 rfl ?_
    refine awpo_cut (l' := List.range' 0 3 ++ (List.range' 3 6 ++ [])) rfl ?_
    refine awpo_seg 0 3 441 (List.range' 3 6 ++ []) (fun _ => none) rfl rfl rfl (fun _ _ => rT) ?_
    refine awpo_re (s2 := ⟨[(0, .yld 336), (1, .ref 304 0 0 0), (3, .ref 385 0 0 0), (4, .int .i64 vr43.2.1), (5, .int .i64 vr43.2.2), (12, .int .i64 vr43.2.2), (13, .bool (!(decide (vr43.2.2 = 0)))), (14, .bool (!(decide (vr43.2.2 = 0))))], [(0, { g := 0, own := true, pure := true, sz := 5, es := [[.psl 1 (List.map (encSl 4 TApiEntry.enc) vs1.Runs), .psl 1 (List.map (encInt .i64) vs1.At), .psl 2 (List.map TApiLsKey.enc vs1.Tree.Keys), .psl 1 (List.map (encInt .i64) vs1.Tree.Lose), .int .i64 vs1.Tree.Win]] }), (8, { g := 0, own := true, pure := true, sz := 1, es := [[.str key2]] }), (16, { g := 0, own := true, pure := true, sz := 5, es := [[.nils, .nils, .nils, .nils, .int .i64 0]] }), (176, { g := g42, own := true, pure := true, sz := 1, es := List.map (encInt .i64) v38 }), (216, { g := 0, own := true, pure := false, sz := 5, es := [[.psl 1 (List.map (encSl 4 TApiEntry.enc) vr5), .sl 176 g42 1 0 v38.length, .psl 2 (List.map TApiLsKey.enc v39), .psl 1 (List.map (encInt .i64) v40), .int .i64 v41]] }), (304, { g := 0, own := true, pure := false, sz := 1, es := [[.ref 216 0 0 0]] }), (385, { g := 0, own := true, pure := true, sz := 4, es := [[.str vr43.1.Key, .str vr43.1.Val, .bool vr43.1.Dead, .int .i64 vr43.1.Seq]] })], 441, [(336, RC7)]⟩) [] (Nat.le_of_ble_eq_true rfl) ⟨rF, rE, rfl, rfl, (LpLe.consR (Nat.le_of_ble_eq_true rfl) rfl okRC7 (Nat.le_of_ble_eq_true rfl) trivial), trivial⟩ ?_
    generalize hg44 : (!(decide (vr43.2.2 = 0))) = b44
    cases b44 with
    | true =>
     replace h1 := iteT h1 hg44
     refine awpo_cut (l' := List.range' 3 6 ++ []) rfl ?_
     refine awpo_seg 3 6 489 [] (fun _ => none) rfl rfl rfl (fun _ _ => rT) ?_
     refine awpo_nil ?_
     refine kn_then ?_
     refine awp_re (s2 := ⟨[(0, .yld 336), (1, .ref 304 0 0 0), (4, .int .i64 vr43.2.1), (20, .bool true)], [(0, { g := 0, own := true, pure := true, sz := 5, es := [[.psl 1 (List.map (encSl 4 TApiEntry.enc) vs1.Runs), .psl 1 (List.map (encInt .i64) vs1.At), .psl 2 (List.map TApiLsKey.enc vs1.Tree.Keys), .psl 1 (List.map (encInt .i64) vs1.Tree.Lose), .int .i64 vs1.Tree.Win]] }), (8, { g := 0, own := true, pure := true, sz := 1, es := [[.str key2]] }), (16, { g := 0, own := true, pure := true, sz := 5, es := [[.nils, .nils, .nils, .nils, .int .i64 0]] }), (176, { g := g42, own := true, pure := true, sz := 1, es := List.map (encInt .i64) v38 }), (216, { g := 0, own := true, pure := false, sz := 5, es := [[.psl 1 (List.map (encSl 4 TApiEntry.enc) vr5), .sl 176 g42 1 0 v38.length, .psl 2 (List.map TApiLsKey.enc v39), .psl 1 (List.map (encInt .i64) v40), .int .i64 v41]] }), (304, { g := 0, own := true, pure := false, sz := 1, es := [[.ref 216 0 0 0]] }), (385, { g := 0, own := true, pure := true, sz := 4, es := [[.str vr43.1.Key, .str vr43.1.Val, .bool vr43.1.Dead, .int .i64 vr43.1.Seq]] })], 489, [(336, RC7)]⟩) [] (Nat.le_of_ble_eq_true rfl) ⟨rF, rE, rfl, rfl, (LpLe.consR (Nat.le_of_ble_eq_true rfl) rfl okRC7 (Nat.le_of_ble_eq_true rfl) trivial), trivial⟩ ?_
     refine awp_condT rfl ?_
     refine awp_ret ?_
     obtain rfl := Option.some.inj h1
     refine kr_then ?_
     refine kr_block ?_
     refine kr_then ?_
     refine kr_loop ?_
     refine leave_retK (fun _ _ => rT) ?_
     refine behind_ok stRC7 rfl ?_
     refine kn_block ?_
     refine kn_then ?_
     refine awp_re (s2 := ⟨[(3, .ref 8 0 0 0), (4, .ref 16 0 0 0), (5, .int .i64 0), (6, .ref 216 0 0 0), (20, .fn 51 [] [.ref 304 0 0 0])], [(0, { g := 0, own := true, pure := true, sz := 5, es := [[.psl 1 (List.map (encSl 4 TApiEntry.enc) vs1.Runs), .psl 1 (List.map (encInt .i64) vs1.At), .psl 2 (List.map TApiLsKey.enc vs1.Tree.Keys), .psl 1 (List.map (encInt .i64) vs1.Tree.Lose), .int .i64 vs1.Tree.Win]] }), (8, { g := 0, own := true, pure := true, sz := 1, es := [[.str key2]] }), (16, { g := 0, own := true, pure := true, sz := 5, es := [[.nils, .nils, .nils, .nils, .int .i64 0]] }), (176, { g := g42, own := true, pure := true, sz := 1, es := List.map (encInt .i64) v38 }), (216, { g := 0, own := true, pure := false, sz := 5, es := [[.psl 1 (List.map (encSl 4 TApiEntry.enc) vr5), .sl 176 g42 1 0 v38.length, .psl 2 (List.map TApiLsKey.enc v39), .psl 1 (List.map (encInt .i64) v40), .int .i64 v41]] }), (304, { g := 0, own := true, pure := false, sz := 1, es := [[.ref 216 0 0 0]] }), (385, { g := 0, own := true, pure := true, sz := 4, es := [[.str vr43.1.Key, .str vr43.1.Val, .bool vr43.1.Dead, .int .i64 vr43.1.Seq]] })], 489, []⟩) [] (Nat.le_of_ble_eq_true rfl) ⟨rF, rE, rfl, rfl, trivial, trivial⟩ ?_
     refine awp_sops2 7 rfl ?_
     refine awpo_cut (l' := List.range' 0 4 ++ (4 :: (List.range' 5 2 ++ []))) rfl ?_
     refine awpo_seg 0 4 521 (4 :: (List.range' 5 2 ++ [])) (fun _ => none) rfl rfl rfl (fun _ _ => rT) ?_
     refine awpo_in rfl rfl rfl rfl rfl Try.func38 rfl (by decide) rfl (Nat.le_of_ble_eq_true rfl) ?_
     dsimp only [Try.f38]
     refine awp_re (s2 := ⟨[(0, .agg [.psl 1 (List.map (encSl 4 TApiEntry.enc) vr5), .sl 176 g42 1 0 v38.length, .psl 2 (List.map TApiLsKey.enc v39), .psl 1 (List.map (encInt .i64) v40), .int .i64 v41])], [(0, { g := 0, own := true, pure := true, sz := 5, es := [[.psl 1 (List.map (encSl 4 TApiEntry.enc) vs1.Runs), .psl 1 (List.map (encInt .i64) vs1.At), .psl 2 (List.map TApiLsKey.enc vs1.Tree.Keys), .psl 1 (List.map (encInt .i64) vs1.Tree.Lose), .int .i64 vs1.Tree.Win]] }), (8, { g := 0, own := true, pure := true, sz := 1, es := [[.str key2]] }), (16, { g := 0, own := true, pure := true, sz := 5, es := [[.nils, .nils, .nils, .nils, .int .i64 0]] }), (176, { g := g42, own := true, pure := true, sz := 1, es := List.map (encInt .i64) v38 }), (216, { g := 0, own := true, pure := false, sz := 5, es := [[.psl 1 (List.map (encSl 4 TApiEntry.enc) vr5), .sl 176 g42 1 0 v38.length, .psl 2 (List.map TApiLsKey.enc v39), .psl 1 (List.map (encInt .i64) v40), .int .i64 v41]] }), (304, { g := 0, own := true, pure := false, sz := 1, es := [[.ref 216 0 0 0]] }), (385, { g := 0, own := true, pure := true, sz := 4, es := [[.str vr43.1.Key, .str vr43.1.Val, .bool vr43.1.Dead, .int .i64 vr43.1.Seq]] })], 521, []⟩) [] (Nat.le_of_ble_eq_true rfl) ⟨rF, rE, rfl, rfl, trivial, trivial⟩ ?_
     refine awp_sr2 537 [1, 2] (fun _ => none) rfl (fun _ _ => rT) ?_
     obtain ⟨vr45, hvr45, h0⟩ := bindS h0
     obtain ⟨vr46, hvr46, h0⟩ := bindS h0
     refine awp_sd2 649 [1, 2] (fun | 3 => some (.psl 2 (vr45.map TApiLsKey.enc), []) | 7 => some (.psl 1 (vr46.map (encInt .i64)), []) | _ => none) rfl rfl rfl (fun Kt hK => by
       try have q0 := c_slices_Clone_apiLsKey hvr45
       try have q1 := c_slices_Clone_int hvr46
       exact rTd) ?_
     refine awp_sr2 665 [2] (fun _ => none) rfl (fun _ _ => rT) ?_
     refine awp_ret ?_
     refine leave_retK (fun _ _ => rT) ?_
     refine awpo_re (s2 := ⟨[(3, .ref 8 0 0 0), (4, .ref 16 0 0 0), (5, .int .i64 0), (6, .ref 216 0 0 0), (20, .fn 51 [] [.ref 304 0 0 0]), (27, .ref 216 0 0 0), (28, .ref 216 0 0 0), (29, .ref 216 0 0 0), (30, .agg [.psl 1 (List.map (encSl 4 TApiEntry.enc) vr5), .sl 176 g42 1 0 v38.length, .psl 2 (List.map TApiLsKey.enc v39), .psl 1 (List.map (encInt .i64) v40), .int .i64 v41]), (31, .agg [.psl 1 (List.map (encSl 4 TApiEntry.enc) vr5), .sl 176 g42 1 0 v38.length, .psl 2 (List.map TApiLsKey.enc vr45), .psl 1 (List.map (encInt .i64) vr46), .int .i64 v41])], [(0, { g := 0, own := true, pure := true, sz := 5, es := [[.psl 1 (List.map (encSl 4 TApiEntry.enc) vs1.Runs), .psl 1 (List.map (encInt .i64) vs1.At), .psl 2 (List.map TApiLsKey.enc vs1.Tree.Keys), .psl 1 (List.map (encInt .i64) vs1.Tree.Lose), .int .i64 vs1.Tree.Win]] }), (8, { g := 0, own := true, pure := true, sz := 1, es := [[.str key2]] }), (16, { g := 0, own := true, pure := true, sz := 5, es := [[.nils, .nils, .nils, .nils, .int .i64 0]] }), (176, { g := g42, own := true, pure := true, sz := 1, es := List.map (encInt .i64) v38 }), (216, { g := 0, own := true, pure := false, sz := 5, es := [[.psl 1 (List.map (encSl 4 TApiEntry.enc) vr5), .sl 176 g42 1 0 v38.length, .psl 2 (List.map TApiLsKey.enc v39), .psl 1 (List.map (encInt .i64) v40), .int .i64 v41]] }), (304, { g := 0, own := true, pure := false, sz := 1, es := [[.ref 216 0 0 0]] }), (385, { g := 0, own := true, pure := true, sz := 4, es := [[.str vr43.1.Key, .str vr43.1.Val, .bool vr43.1.Dead, .int .i64 vr43.1.Seq]] })], 665, []⟩) [] (Nat.le_of_ble_eq_true rfl) ⟨rF, rE, rfl, rfl, trivial, trivial⟩ ?_
     refine awpo_cut (l' := List.range' 5 2 ++ []) rfl ?_
     refine awpo_seg 5 2 681 [] (fun _ => none) rfl rfl rfl (fun _ _ => rT) ?_
     refine awpo_nil ?_
     refine kn_then ?_
     refine awp_re (s2 := ⟨[(4, .ref 16 0 0 0), (5, .int .i64 0)], [(0, { g := 0, own := true, pure := true, sz := 5, es := [[.psl 1 (List.map (encSl 4 TApiEntry.enc) vs1.Runs), .psl 1 (List.map (encInt .i64) vs1.At), .psl 2 (List.map TApiLsKey.enc vs1.Tree.Keys), .psl 1 (List.map (encInt .i64) vs1.Tree.Lose), .int .i64 vs1.Tree.Win]] }), (8, { g := 0, own := true, pure := true, sz := 1, es := [[.str key2]] }), (16, { g := 0, own := true, pure := false, sz := 5, es := [[.psl 1 (List.map (encSl 4 TApiEntry.enc) vr5), .sl 176 g42 1 0 v38.length, .psl 2 (List.map TApiLsKey.enc vr45), .psl 1 (List.map (encInt .i64) vr46), .int .i64 v41]] }), (176, { g := g42, own := true, pure := true, sz := 1, es := List.map (encInt .i64) v38 }), (216, { g := 0, own := true, pure := false, sz := 5, es := [[.psl 1 (List.map (encSl 4 TApiEntry.enc) vr5), .sl 176 g42 1 0 v38.length, .psl 2 (List.map TApiLsKey.enc v39), .psl 1 (List.map (encInt .i64) v40), .int .i64 v41]] }), (304, { g := 0, own := true, pure := false, sz := 1, es := [[.ref 216 0 0 0]] }), (385, { g := 0, own := true, pure := true, sz := 4, es := [[.str vr43.1.Key, .str vr43.1.Val, .bool vr43.1.Dead, .int .i64 vr43.1.Seq]] })], 681, []⟩) [] (Nat.le_of_ble_eq_true rfl) ⟨rF, rE, rfl, rfl, trivial, trivial⟩ ?_
     refine awp_ret ?_
     obtain rfl := Option.some.inj h0
     refine leave_retG [176] ?_
     exact rG
    | false =>
     replace h1 := iteF h1 hg44
     refine awpo_cut (l' := List.range' 3 3 ++ (6 :: (List.range' 7 2 ++ []))) rfl ?_
     refine awpo_seg 3 3 465 (6 :: (List.range' 7 2 ++ [])) (fun _ => none) rfl rfl rfl (fun _ _ => rT) ?_
     refine awpo_yieldV hRC7 rfl rfl rfl rfl rfl rfl rfl rfl rfl ?_
     refine awp_re (s2 := ⟨[(3, .ref 8 0 0 0), (4, .ref 16 0 0 0), (5, .int .i64 0), (6, .ref 216 0 0 0), (20, .fn 51 [] [.ref 304 0 0 0]), (21, .int .i64 vr43.2.1), (22, .agg [.str vr43.1.Key, .str vr43.1.Val, .bool vr43.1.Dead, .int .i64 vr43.1.Seq])], [(0, { g := 0, own := true, pure := true, sz := 5, es := [[.psl 1 (List.map (encSl 4 TApiEntry.enc) vs1.Runs), .psl 1 (List.map (encInt .i64) vs1.At), .psl 2 (List.map TApiLsKey.enc vs1.Tree.Keys), .psl 1 (List.map (encInt .i64) vs1.Tree.Lose), .int .i64 vs1.Tree.Win]] }), (8, { g := 0, own := true, pure := true, sz := 1, es := [[.str key2]] }), (16, { g := 0, own := true, pure := true, sz := 5, es := [[.nils, .nils, .nils, .nils, .int .i64 0]] }), (176, { g := g42, own := true, pure := true, sz := 1, es := List.map (encInt .i64) v38 }), (216, { g := 0, own := true, pure := false, sz := 5, es := [[.psl 1 (List.map (encSl 4 TApiEntry.enc) vr5), .sl 176 g42 1 0 v38.length, .psl 2 (List.map TApiLsKey.enc v39), .psl 1 (List.map (encInt .i64) v40), .int .i64 v41]] }), (304, { g := 0, own := true, pure := false, sz := 1, es := [[.ref 216 0 0 0]] }), (385, { g := 0, own := true, pure := true, sz := 4, es := [[.str vr43.1.Key, .str vr43.1.Val, .bool vr43.1.Dead, .int .i64 vr43.1.Seq]] })], 465, [(336, RC7)]⟩) [] (Nat.le_of_ble_eq_true rfl) ⟨rF, rE, rfl, rfl, (LpLe.consR (Nat.le_of_ble_eq_true rfl) rfl okRC7 (Nat.le_of_ble_eq_true rfl) trivial), trivial⟩ ?_
     refine awp_r2 481 [3, 4, 5, 6, 9] (fun _ => none) rfl (fun _ _ => rT) ?_
     refine kn_then ?_
     refine ⟨RC7, rfl, stRC7.1, ?_⟩
     refine awp_re (s2 := ⟨[(3, .ref 8 0 0 0), (4, .ref 16 0 0 0), (5, .int .i64 0), (6, .ref 216 0 0 0), (9, .ref 465 0 0 0)], [(0, { g := 0, own := true, pure := true, sz := 5, es := [[.psl 1 (List.map (encSl 4 TApiEntry.enc) vs1.Runs), .psl 1 (List.map (encInt .i64) vs1.At), .psl 2 (List.map TApiLsKey.enc vs1.Tree.Keys), .psl 1 (List.map (encInt .i64) vs1.Tree.Lose), .int .i64 vs1.Tree.Win]] }), (8, { g := 0, own := true, pure := true, sz := 1, es := [[.str key2]] }), (16, { g := 0, own := true, pure := true, sz := 5, es := [[.nils, .nils, .nils, .nils, .int .i64 0]] }), (176, { g := g42, own := true, pure := true, sz := 1, es := List.map (encInt .i64) v38 }), (216, { g := 0, own := true, pure := false, sz := 5, es := [[.psl 1 (List.map (encSl 4 TApiEntry.enc) vr5), .sl 176 g42 1 0 v38.length, .psl 2 (List.map TApiLsKey.enc v39), .psl 1 (List.map (encInt .i64) v40), .int .i64 v41]] }), (304, { g := 0, own := true, pure := false, sz := 1, es := [[.ref 216 0 0 0]] }), (385, { g := 0, own := true, pure := true, sz := 4, es := [[.str vr43.1.Key, .str vr43.1.Val, .bool vr43.1.Dead, .int .i64 vr43.1.Seq]] }), (465, { g := 0, own := true, pure := true, sz := 4, es := [[.str vr43.1.Key, .str vr43.1.Val, .bool vr43.1.Dead, .int .i64 vr43.1.Seq]] })], 481, [(336, { RC7 with st := .busy, pend := RC7.pend })]⟩) [] (Nat.le_of_ble_eq_true rfl) ⟨rF, rE, rfl, rfl, (LpLe.consR (Nat.le_of_ble_eq_true rfl) rfl okRC7 (Nat.le_of_ble_eq_true rfl) trivial), trivial⟩ ?_
     refine awp_block ?_
     refine awp_sr2 513 [4, 5, 6, 26] (fun _ => none) rfl (fun _ _ => rT) ?_
     refine awp_if rfl (fun hb47 => ?_) (fun hb47 => ?_)
     ·
      replace h1 := iteT h1 hb47
      refine awp_exit ?_
      refine kx_other (by decide) ?_
      refine round_exit rfl ?_
      refine awpo_re (s2 := ⟨[(0, .yld 336), (1, .ref 304 0 0 0), (3, .ref 385 0 0 0), (4, .int .i64 vr43.2.1), (5, .int .i64 vr43.2.2), (12, .int .i64 vr43.2.2), (13, .bool false), (14, .bool false), (15, .yld 336), (16, .int .i64 vr43.2.1), (17, .agg [.str vr43.1.Key, .str vr43.1.Val, .bool vr43.1.Dead, .int .i64 vr43.1.Seq]), (18, .bool false)], [(0, { g := 0, own := true, pure := true, sz := 5, es := [[.psl 1 (List.map (encSl 4 TApiEntry.enc) vs1.Runs), .psl 1 (List.map (encInt .i64) vs1.At), .psl 2 (List.map TApiLsKey.enc vs1.Tree.Keys), .psl 1 (List.map (encInt .i64) vs1.Tree.Lose), .int .i64 vs1.Tree.Win]] }), (8, { g := 0, own := true, pure := true, sz := 1, es := [[.str key2]] }), (16, { g := 0, own := true, pure := true, sz := 5, es := [[.nils, .nils, .nils, .nils, .int .i64 0]] }), (176, { g := g42, own := true, pure := true, sz := 1, es := List.map (encInt .i64) v38 }), (216, { g := 0, own := true, pure := false, sz := 5, es := [[.psl 1 (List.map (encSl 4 TApiEntry.enc) vr5), .sl 176 g42 1 0 v38.length, .psl 2 (List.map TApiLsKey.enc v39), .psl 1 (List.map (encInt .i64) v40), .int .i64 v41]] }), (304, { g := 0, own := true, pure := false, sz := 1, es := [[.ref 216 0 0 0]] }), (385, { g := 0, own := true, pure := true, sz := 4, es := [[.str vr43.1.Key, .str vr43.1.Val, .bool vr43.1.Dead, .int .i64 vr43.1.Seq]] }), (465, { g := 0, own := true, pure := true, sz := 4, es := [[.str vr43.1.Key, .str vr43.1.Val, .bool vr43.1.Dead, .int .i64 vr43.1.Seq]] })], 513, [(336, { RC7 with st := .done, pend := some (.exit 0) })]⟩) [] (Nat.le_of_ble_eq_true rfl) ⟨rF, rE, rfl, rfl, (LpLe.consR (Nat.le_of_ble_eq_true rfl) rfl okRC7 (Nat.le_of_ble_eq_true rfl) trivial), trivial⟩ ?_
      refine awpo_cut (l' := List.range' 7 2 ++ []) rfl ?_
      refine awpo_seg 7 2 529 [] (fun _ => none) rfl rfl rfl (fun _ _ => rT) ?_
      refine awpo_nil ?_
      refine kn_then ?_
      refine awp_re (s2 := ⟨[(0, .yld 336), (1, .ref 304 0 0 0), (4, .int .i64 vr43.2.1), (15, .yld 336), (16, .int .i64 vr43.2.1), (17, .agg [.str vr43.1.Key, .str vr43.1.Val, .bool vr43.1.Dead, .int .i64 vr43.1.Seq]), (18, .bool false), (19, .bool true), (20, .bool true)], [(0, { g := 0, own := true, pure := true, sz := 5, es := [[.psl 1 (List.map (encSl 4 TApiEntry.enc) vs1.Runs), .psl 1 (List.map (encInt .i64) vs1.At), .psl 2 (List.map TApiLsKey.enc vs1.Tree.Keys), .psl 1 (List.map (encInt .i64) vs1.Tree.Lose), .int .i64 vs1.Tree.Win]] }), (8, { g := 0, own := true, pure := true, sz := 1, es := [[.str key2]] }), (16, { g := 0, own := true, pure := true, sz := 5, es := [[.nils, .nils, .nils, .nils, .int .i64 0]] }), (176, { g := g42, own := true, pure := true, sz := 1, es := List.map (encInt .i64) v38 }), (216, { g := 0, own := true, pure := false, sz := 5, es := [[.psl 1 (List.map (encSl 4 TApiEntry.enc) vr5), .sl 176 g42 1 0 v38.length, .psl 2 (List.map TApiLsKey.enc v39), .psl 1 (List.map (encInt .i64) v40), .int .i64 v41]] }), (304, { g := 0, own := true, pure := false, sz := 1, es := [[.ref 216 0 0 0]] }), (385, { g := 0, own := true, pure := true, sz := 4, es := [[.str vr43.1.Key, .str vr43.1.Val, .bool vr43.1.Dead, .int .i64 vr43.1.Seq]] }), (465, { g := 0, own := true, pure := true, sz := 4, es := [[.str vr43.1.Key, .str vr43.1.Val, .bool vr43.1.Dead, .int .i64 vr43.1.Seq]] })], 529, [(336, { RC7 with st := .done, pend := some (.exit 0) })]⟩) [] (Nat.le_of_ble_eq_true rfl) ⟨rF, rE, rfl, rfl, (LpLe.consR (Nat.le_of_ble_eq_true rfl) rfl okRC7 (Nat.le_of_ble_eq_true rfl) trivial), trivial⟩ ?_
      refine awp_condT rfl ?_
      refine awp_ret ?_
      obtain rfl := Option.some.inj h1
      refine kr_then ?_
      refine kr_block ?_
      refine kr_then ?_
      refine kr_loop ?_
      refine leave_retK (fun _ _ => rT) ?_
      refine behind_done rfl ?_
      refine awp_re (s2 := ⟨[(3, .ref 8 0 0 0), (4, .ref 16 0 0 0), (5, .int .i64 0), (6, .ref 216 0 0 0), (20, .fn 51 [] [.ref 304 0 0 0])], [(0, { g := 0, own := true, pure := true, sz := 5, es := [[.psl 1 (List.map (encSl 4 TApiEntry.enc) vs1.Runs), .psl 1 (List.map (encInt .i64) vs1.At), .psl 2 (List.map TApiLsKey.enc vs1.Tree.Keys), .psl 1 (List.map (encInt .i64) vs1.Tree.Lose), .int .i64 vs1.Tree.Win]] }), (8, { g := 0, own := true, pure := true, sz := 1, es := [[.str key2]] }), (16, { g := 0, own := true, pure := true, sz := 5, es := [[.nils, .nils, .nils, .nils, .int .i64 0]] }), (176, { g := g42, own := true, pure := true, sz := 1, es := List.map (encInt .i64) v38 }), (216, { g := 0, own := true, pure := false, sz := 5, es := [[.psl 1 (List.map (encSl 4 TApiEntry.enc) vr5), .sl 176 g42 1 0 v38.length, .psl 2 (List.map TApiLsKey.enc v39), .psl 1 (List.map (encInt .i64) v40), .int .i64 v41]] }), (304, { g := 0, own := true, pure := false, sz := 1, es := [[.ref 216 0 0 0]] }), (385, { g := 0, own := true, pure := true, sz := 4, es := [[.str vr43.1.Key, .str vr43.1.Val, .bool vr43.1.Dead, .int .i64 vr43.1.Seq]] }), (465, { g := 0, own := true, pure := true, sz := 4, es := [[.str vr43.1.Key, .str vr43.1.Val, .bool vr43.1.Dead, .int .i64 vr43.1.Seq]] })], 529, []⟩) [] (Nat.le_of_ble_eq_true rfl) ⟨rF, rE, rfl, rfl, trivial, trivial⟩ ?_
      refine awp_exit ?_
      refine kx_same ?_
      refine kn_then ?_
      refine awp_sops2 7 rfl ?_
      refine awpo_cut (l' := List.range' 0 4 ++ (4 :: (List.range' 5 2 ++ []))) rfl ?_
      refine awpo_seg 0 4 561 (4 :: (List.range' 5 2 ++ [])) (fun _ => none) rfl rfl rfl (fun _ _ => rT) ?_
      refine awpo_in rfl rfl rfl rfl rfl Try.func38 rfl (by decide) rfl (Nat.le_of_ble_eq_true rfl) ?_
      dsimp only [Try.f38]
      refine awp_re (s2 := ⟨[(0, .agg [.psl 1 (List.map (encSl 4 TApiEntry.enc) vr5), .sl 176 g42 1 0 v38.length, .psl 2 (List.map TApiLsKey.enc v39), .psl 1 (List.map (encInt .i64) v40), .int .i64 v41])], [(0, { g := 0, own := true, pure := true, sz := 5, es := [[.psl 1 (List.map (encSl 4 TApiEntry.enc) vs1.Runs), .psl 1 (List.map (encInt .i64) vs1.At), .psl 2 (List.map TApiLsKey.enc vs1.Tree.Keys), .psl 1 (List.map (encInt .i64) vs1.Tree.Lose), .int .i64 vs1.Tree.Win]] }), (8, { g := 0, own := true, pure := true, sz := 1, es := [[.str key2]] }), (16, { g := 0, own := true, pure := true, sz := 5, es := [[.nils, .nils, .nils, .nils, .int .i64 0]] }), (176, { g := g42, own := true, pure := true, sz := 1, es := List.map (encInt .i64) v38 }), (216, { g := 0, own := true, pure := false, sz := 5, es := [[.psl 1 (List.map (encSl 4 TApiEntry.enc) vr5), .sl 176 g42 1 0 v38.length, .psl 2 (List.map TApiLsKey.enc v39), .psl 1 (List.map (encInt .i64) v40), .int .i64 v41]] }), (304, { g := 0, own := true, pure := false, sz := 1, es := [[.ref 216 0 0 0]] }), (385, { g := 0, own := true, pure := true, sz := 4, es := [[.str vr43.1.Key, .str vr43.1.Val, .bool vr43.1.Dead, .int .i64 vr43.1.Seq]] }), (465, { g := 0, own := true, pure := true, sz := 4, es := [[.str vr43.1.Key, .str vr43.1.Val, .bool vr43.1.Dead, .int .i64 vr43.1.Seq]] })], 561, []⟩) [] (Nat.le_of_ble_eq_true rfl) ⟨rF, rE, rfl, rfl, trivial, trivial⟩ ?_
      refine awp_sr2 577 [1, 2] (fun _ => none) rfl (fun _ _ => rT) ?_
      obtain ⟨vr48, hvr48, h0⟩ := bindS h0
      obtain ⟨vr49, hvr49, h0⟩ := bindS h0
      refine awp_sd2 689 [1, 2] (fun | 3 => some (.psl 2 (vr48.map TApiLsKey.enc), []) | 7 => some (.psl 1 (vr49.map (encInt .i64)), []) | _ => none) rfl rfl rfl (fun Kt hK => by
        try have q0 := c_slices_Clone_apiLsKey hvr48
        try have q1 := c_slices_Clone_int hvr49
        exact rTd) ?_
      refine awp_sr2 705 [2] (fun _ => none) rfl (fun _ _ => rT) ?_
      refine awp_ret ?_
      refine leave_retK (fun _ _ => rT) ?_
      refine awpo_re (s2 := ⟨[(3, .ref 8 0 0 0), (4, .ref 16 0 0 0), (5, .int .i64 0), (6, .ref 216 0 0 0), (20, .fn 51 [] [.ref 304 0 0 0]), (27, .ref 216 0 0 0), (28, .ref 216 0 0 0), (29, .ref 216 0 0 0), (30, .agg [.psl 1 (List.map (encSl 4 TApiEntry.enc) vr5), .sl 176 g42 1 0 v38.length, .psl 2 (List.map TApiLsKey.enc v39), .psl 1 (List.map (encInt .i64) v40), .int .i64 v41]), (31, .agg [.psl 1 (List.map (encSl 4 TApiEntry.enc) vr5), .sl 176 g42 1 0 v38.length, .psl 2 (List.map TApiLsKey.enc vr48), .psl 1 (List.map (encInt .i64) vr49), .int .i64 v41])], [(0, { g := 0, own := true, pure := true, sz := 5, es := [[.psl 1 (List.map (encSl 4 TApiEntry.enc) vs1.Runs), .psl 1 (List.map (encInt .i64) vs1.At), .psl 2 (List.map TApiLsKey.enc vs1.Tree.Keys), .psl 1 (List.map (encInt .i64) vs1.Tree.Lose), .int .i64 vs1.Tree.Win]] }), (8, { g := 0, own := true, pure := true, sz := 1, es := [[.str key2]] }), (16, { g := 0, own := true, pure := true, sz := 5, es := [[.nils, .nils, .nils, .nils, .int .i64 0]] }), (176, { g := g42, own := true, pure := true, sz := 1, es := List.map (encInt .i64) v38 }), (216, { g := 0, own := true, pure := false, sz := 5, es := [[.psl 1 (List.map (encSl 4 TApiEntry.enc) vr5), .sl 176 g42 1 0 v38.length, .psl 2 (List.map TApiLsKey.enc v39), .psl 1 (List.map (encInt .i64) v40), .int .i64 v41]] }), (304, { g := 0, own := true, pure := false, sz := 1, es := [[.ref 216 0 0 0]] }), (385, { g := 0, own := true, pure := true, sz := 4, es := [[.str vr43.1.Key, .str vr43.1.Val, .bool vr43.1.Dead, .int .i64 vr43.1.Seq]] }), (465, { g := 0, own := true, pure := true, sz := 4, es := [[.str vr43.1.Key, .str vr43.1.Val, .bool vr43.1.Dead, .int .i64 vr43.1.Seq]] })], 705, []⟩) [] (Nat.le_of_ble_eq_true rfl) ⟨rF, rE, rfl, rfl, trivial, trivial⟩ ?_
      refine awpo_cut (l' := List.range' 5 2 ++ []) rfl ?_
      refine awpo_seg 5 2 721 [] (fun _ => none) rfl rfl rfl (fun _ _ => rT) ?_
      refine awpo_nil ?_
      refine kn_then ?_
      refine awp_re (s2 := ⟨[(4, .ref 16 0 0 0), (5, .int .i64 0)], [(0, { g := 0, own := true, pure := true, sz := 5, es := [[.psl 1 (List.map (encSl 4 TApiEntry.enc) vs1.Runs), .psl 1 (List.map (encInt .i64) vs1.At), .psl 2 (List.map TApiLsKey.enc vs1.Tree.Keys), .psl 1 (List.map (encInt .i64) vs1.Tree.Lose), .int .i64 vs1.Tree.Win]] }), (8, { g := 0, own := true, pure := true, sz := 1, es := [[.str key2]] }), (16, { g := 0, own := true, pure := false, sz := 5, es := [[.psl 1 (List.map (encSl 4 TApiEntry.enc) vr5), .sl 176 g42 1 0 v38.length, .psl 2 (List.map TApiLsKey.enc vr48), .psl 1 (List.map (encInt .i64) vr49), .int .i64 v41]] }), (176, { g := g42, own := true, pure := true, sz := 1, es := List.map (encInt .i64) v38 }), (216, { g := 0, own := true, pure := false, sz := 5, es := [[.psl 1 (List.map (encSl 4 TApiEntry.enc) vr5), .sl 176 g42 1 0 v38.length, .psl 2 (List.map TApiLsKey.enc v39), .psl 1 (List.map (encInt .i64) v40), .int .i64 v41]] }), (304, { g := 0, own := true, pure := false, sz := 1, es := [[.ref 216 0 0 0]] }), (385, { g := 0, own := true, pure := true, sz := 4, es := [[.str vr43.1.Key, .str vr43.1.Val, .bool vr43.1.Dead, .int .i64 vr43.1.Seq]] }), (465, { g := 0, own := true, pure := true, sz := 4, es := [[.str vr43.1.Key, .str vr43.1.Val, .bool vr43.1.Dead, .int .i64 vr43.1.Seq]] })], 721, []⟩) [] (Nat.le_of_ble_eq_true rfl) ⟨rF, rE, rfl, rfl, trivial, trivial⟩ ?_
      refine awp_ret ?_
      obtain rfl := Option.some.inj h0
      refine leave_retG [176] ?_
      exact rG
     ·
      replace h1 := iteF h1 hb47
      refine awp_skip ?_
      refine kn_block ?_
      refine round_ok stRC7 rfl ?_
      refine awpo_re (s2 := ⟨[(0, .yld 336), (1, .ref 304 0 0 0), (3, .ref 385 0 0 0), (4, .int .i64 vr43.2.1), (5, .int .i64 vr43.2.2), (12, .int .i64 vr43.2.2), (13, .bool false), (14, .bool false), (15, .yld 336), (16, .int .i64 vr43.2.1), (17, .agg [.str vr43.1.Key, .str vr43.1.Val, .bool vr43.1.Dead, .int .i64 vr43.1.Seq]), (18, .bool true)], [(0, { g := 0, own := true, pure := true, sz := 5, es := [[.psl 1 (List.map (encSl 4 TApiEntry.enc) vs1.Runs), .psl 1 (List.map (encInt .i64) vs1.At), .psl 2 (List.map TApiLsKey.enc vs1.Tree.Keys), .psl 1 (List.map (encInt .i64) vs1.Tree.Lose), .int .i64 vs1.Tree.Win]] }), (8, { g := 0, own := true, pure := true, sz := 1, es := [[.str key2]] }), (16, { g := 0, own := true, pure := true, sz := 5, es := [[.nils, .nils, .nils, .nils, .int .i64 0]] }), (176, { g := g42, own := true, pure := true, sz := 1, es := List.map (encInt .i64) v38 }), (216, { g := 0, own := true, pure := false, sz := 5, es := [[.psl 1 (List.map (encSl 4 TApiEntry.enc) vr5), .sl 176 g42 1 0 v38.length, .psl 2 (List.map TApiLsKey.enc v39), .psl 1 (List.map (encInt .i64) v40), .int .i64 v41]] }), (304, { g := 0, own := true, pure := false, sz := 1, es := [[.ref 216 0 0 0]] }), (385, { g := 0, own := true, pure := true, sz := 4, es := [[.str vr43.1.Key, .str vr43.1.Val, .bool vr43.1.Dead, .int .i64 vr43.1.Seq]] }), (465, { g := 0, own := true, pure := true, sz := 4, es := [[.str vr43.1.Key, .str vr43.1.Val, .bool vr43.1.Dead, .int .i64 vr43.1.Seq]] })], 513, [(336, RC7)]⟩) [] (Nat.le_of_ble_eq_true rfl) ⟨rF, rE, rfl, rfl, (LpLe.consR (Nat.le_of_ble_eq_true rfl) rfl okRC7 (Nat.le_of_ble_eq_true rfl) trivial), trivial⟩ ?_
      refine awpo_cut (l' := List.range' 7 2 ++ []) rfl ?_
      refine awpo_seg 7 2 529 [] (fun _ => none) rfl rfl rfl (fun _ _ => rT) ?_
      refine awpo_nil ?_
      refine kn_then ?_
      refine awp_re (s2 := ⟨[(0, .yld 336), (1, .ref 304 0 0 0), (4, .int .i64 vr43.2.1), (15, .yld 336), (16, .int .i64 vr43.2.1), (17, .agg [.str vr43.1.Key, .str vr43.1.Val, .bool vr43.1.Dead, .int .i64 vr43.1.Seq]), (18, .bool true), (19, .bool false), (20, .bool false)], [(0, { g := 0, own := true, pure := true, sz := 5, es := [[.psl 1 (List.map (encSl 4 TApiEntry.enc) vs1.Runs), .psl 1 (List.map (encInt .i64) vs1.At), .psl 2 (List.map TApiLsKey.enc vs1.Tree.Keys), .psl 1 (List.map (encInt .i64) vs1.Tree.Lose), .int .i64 vs1.Tree.Win]] }), (8, { g := 0, own := true, pure := true, sz := 1, es := [[.str key2]] }), (16, { g := 0, own := true, pure := true, sz := 5, es := [[.nils, .nils, .nils, .nils, .int .i64 0]] }), (176, { g := g42, own := true, pure := true, sz := 1, es := List.map (encInt .i64) v38 }), (216, { g := 0, own := true, pure := false, sz := 5, es := [[.psl 1 (List.map (encSl 4 TApiEntry.enc) vr5), .sl 176 g42 1 0 v38.length, .psl 2 (List.map TApiLsKey.enc v39), .psl 1 (List.map (encInt .i64) v40), .int .i64 v41]] }), (304, { g := 0, own := true, pure := false, sz := 1, es := [[.ref 216 0 0 0]] }), (385, { g := 0, own := true, pure := true, sz := 4, es := [[.str vr43.1.Key, .str vr43.1.Val, .bool vr43.1.Dead, .int .i64 vr43.1.Seq]] }), (465, { g := 0, own := true, pure := true, sz := 4, es := [[.str vr43.1.Key, .str vr43.1.Val, .bool vr43.1.Dead, .int .i64 vr43.1.Seq]] })], 529, [(336, RC7)]⟩) [] (Nat.le_of_ble_eq_true rfl) ⟨rF, rE, rfl, rfl, (LpLe.consR (Nat.le_of_ble_eq_true rfl) rfl okRC7 (Nat.le_of_ble_eq_true rfl) trivial), trivial⟩ ?_
      refine awp_condF rfl ?_
      refine awp_skip ?_
      refine kn_then ?_
      refine awp_ops2 3 rfl ?_
      refine awpo_cut (l' := List.range' 0 2 ++ (2 :: (List.range' 3 0 ++ []))) rfl ?_
      refine awpo_seg 0 2 545 (2 :: (List.range' 3 0 ++ [])) (fun _ => none) rfl rfl rfl (fun _ _ => rT) ?_
      refine awpo_in rfl rfl rfl rfl rfl Try.func40 rfl (by decide) rfl (Nat.le_of_ble_eq_true rfl) ?_
      dsimp only [Try.f40]
      refine awp_re (s2 := ⟨[(0, .ref 216 0 0 0), (1, .int .i64 vr43.2.1)], [(0, { g := 0, own := true, pure := true, sz := 5, es := [[.psl 1 (List.map (encSl 4 TApiEntry.enc) vs1.Runs), .psl 1 (List.map (encInt .i64) vs1.At), .psl 2 (List.map TApiLsKey.enc vs1.Tree.Keys), .psl 1 (List.map (encInt .i64) vs1.Tree.Lose), .int .i64 vs1.Tree.Win]] }), (8, { g := 0, own := true, pure := true, sz := 1, es := [[.str key2]] }), (16, { g := 0, own := true, pure := true, sz := 5, es := [[.nils, .nils, .nils, .nils, .int .i64 0]] }), (176, { g := g42, own := true, pure := true, sz := 1, es := List.map (encInt .i64) v38 }), (216, { g := 0, own := true, pure := false, sz := 5, es := [[.psl 1 (List.map (encSl 4 TApiEntry.enc) vr5), .sl 176 g42 1 0 v38.length, .psl 2 (List.map TApiLsKey.enc v39), .psl 1 (List.map (encInt .i64) v40), .int .i64 v41]] }), (304, { g := 0, own := true, pure := false, sz := 1, es := [[.ref 216 0 0 0]] }), (385, { g := 0, own := true, pure := true, sz := 4, es := [[.str vr43.1.Key, .str vr43.1.Val, .bool vr43.1.Dead, .int .i64 vr43.1.Seq]] }), (465, { g := 0, own := true, pure := true, sz := 4, es := [[.str vr43.1.Key, .str vr43.1.Val, .bool vr43.1.Dead, .int .i64 vr43.1.Seq]] })], 545, [(336, RC7)]⟩) [] (Nat.le_of_ble_eq_true rfl) ⟨rF, rE, rfl, rfl, (LpLe.consR (Nat.le_of_ble_eq_true rfl) rfl okRC7 (Nat.le_of_ble_eq_true rfl) trivial), trivial⟩ ?_
      obtain ⟨e50, he50, h1⟩ := bindS h1
      obtain ⟨he50a, he50b, he50c⟩ := idxS he50
      refine awp_sr2 633 [0, 1] (fun _ => none) rfl (fun _ _ => rS (rA he50a (rA he50b he50c))) ?_
      refine awp_re (s2 := ⟨[(0, .ref 216 0 0 0), (1, .int .i64 vr43.2.1)], [(0, { g := 0, own := true, pure := true, sz := 5, es := [[.psl 1 (List.map (encSl 4 TApiEntry.enc) vs1.Runs), .psl 1 (List.map (encInt .i64) vs1.At), .psl 2 (List.map TApiLsKey.enc vs1.Tree.Keys), .psl 1 (List.map (encInt .i64) vs1.Tree.Lose), .int .i64 vs1.Tree.Win]] }), (8, { g := 0, own := true, pure := true, sz := 1, es := [[.str key2]] }), (16, { g := 0, own := true, pure := true, sz := 5, es := [[.nils, .nils, .nils, .nils, .int .i64 0]] }), (176, { g := g42, own := true, pure := true, sz := 1, es := List.map (encInt .i64) (v38.set vr43.2.1.toNat (IntKind.i64.wrap (e50 + 1))) }), (216, { g := 0, own := true, pure := false, sz := 5, es := [[.psl 1 (List.map (encSl 4 TApiEntry.enc) vr5), .sl 176 g42 1 0 ((v38.set vr43.2.1.toNat (IntKind.i64.wrap (e50 + 1))).length), .psl 2 (List.map TApiLsKey.enc v39), .psl 1 (List.map (encInt .i64) v40), .int .i64 v41]] }), (304, { g := 0, own := true, pure := false, sz := 1, es := [[.ref 216 0 0 0]] }), (385, { g := 0, own := true, pure := true, sz := 4, es := [[.str vr43.1.Key, .str vr43.1.Val, .bool vr43.1.Dead, .int .i64 vr43.1.Seq]] }), (465, { g := 0, own := true, pure := true, sz := 4, es := [[.str vr43.1.Key, .str vr43.1.Val, .bool vr43.1.Dead, .int .i64 vr43.1.Seq]] })], 633, [(336, RC7)]⟩) [] (Nat.le_of_ble_eq_true rfl) ⟨rF, rE, rfl, rfl, (LpLe.consR (Nat.le_of_ble_eq_true rfl) rfl okRC7 (Nat.le_of_ble_eq_true rfl) trivial), trivial⟩ ?_
      obtain ⟨e51, he51, h1⟩ := bindS h1
      obtain ⟨he51a, he51b, he51c⟩ := idxS he51
      obtain ⟨e52, he52, h1⟩ := bindS h1
      obtain ⟨he52a, he52b, he52c⟩ := idxS he52
      obtain ⟨vr53, hvr53, h1⟩ := bindS h1
      obtain ⟨vr54, hvr54, h1⟩ := bindS h1
      refine awp_d2 889 [] (fun | 22 => some (.agg (TApiLsKey.enc vr53), []) | 23 => some (.tup [.agg (TApiLsTree.enc vr54.1), .int .i64 vr54.2.1, .int .i64 vr54.2.2], []) | _ => none) rfl rfl rfl (fun Kt hK => by
        try have q0 := c_merge_next hvr53
        try have q1 := c_loser_Replace hvr54
        exact rSd (rA he50a (rA he50b (rA he50c (rA he51a (rA he51b (rA he51c (rA he52a (rA he52b he52c))))))))) ?_
      refine leave_endK (fun Kt hK => by simp (maxSteps := 1000000) only [↓reduceIte, reduceCtorEq, Nat.reduceEqDiff, Nat.reduceLT, Nat.reduceLeDiff, Nat.reduceAdd, Nat.reduceMul, Int.reduceToNat, push_cast, he50a, he50b, he50c, he51a, he51b, he51c, he52a, he52b, he52c]; exact hK) ?_
      refine awpo_re (s2 := ⟨[(0, .yld 336), (1, .ref 304 0 0 0), (4, .int .i64 vr43.2.1), (15, .yld 336), (16, .int .i64 vr43.2.1), (17, .agg [.str vr43.1.Key, .str vr43.1.Val, .bool vr43.1.Dead, .int .i64 vr43.1.Seq]), (18, .bool true), (19, .bool false), (20, .bool false), (21, .ref 216 0 0 0), (22, .int .i64 vr43.2.1), (23, .tup [])], [(0, { g := 0, own := true, pure := true, sz := 5, es := [[.psl 1 (List.map (encSl 4 TApiEntry.enc) vs1.Runs), .psl 1 (List.map (encInt .i64) vs1.At), .psl 2 (List.map TApiLsKey.enc vs1.Tree.Keys), .psl 1 (List.map (encInt .i64) vs1.Tree.Lose), .int .i64 vs1.Tree.Win]] }), (8, { g := 0, own := true, pure := true, sz := 1, es := [[.str key2]] }), (16, { g := 0, own := true, pure := true, sz := 5, es := [[.nils, .nils, .nils, .nils, .int .i64 0]] }), (176, { g := g42, own := true, pure := true, sz := 1, es := List.map (encInt .i64) (v38.set vr43.2.1.toNat (IntKind.i64.wrap (e50 + 1))) }), (216, { g := 0, own := true, pure := false, sz := 5, es := [[.psl 1 (List.map (encSl 4 TApiEntry.enc) vr5), .sl 176 g42 1 0 ((v38.set vr43.2.1.toNat (IntKind.i64.wrap (e50 + 1))).length), .psl 2 (List.map TApiLsKey.enc vr54.1.Keys), .psl 1 (List.map (encInt .i64) vr54.1.Lose), .int .i64 vr54.1.Win]] }), (304, { g := 0, own := true, pure := false, sz := 1, es := [[.ref 216 0 0 0]] }), (385, { g := 0, own := true, pure := true, sz := 4, es := [[.str vr43.1.Key, .str vr43.1.Val, .bool vr43.1.Dead, .int .i64 vr43.1.Seq]] }), (465, { g := 0, own := true, pure := true, sz := 4, es := [[.str vr43.1.Key, .str vr43.1.Val, .bool vr43.1.Dead, .int .i64 vr43.1.Seq]] })], 889, [(336, RC7)]⟩) [] (Nat.le_of_ble_eq_true rfl) ⟨rF, rE, rfl, rfl, (LpLe.consR (Nat.le_of_ble_eq_true rfl) rfl okRC7 (Nat.le_of_ble_eq_true rfl) trivial), trivial⟩ ?_
      refine awpo_cut (l' := []) rfl ?_
      refine awpo_nil ?_
      refine kn_block ?_
      refine kn_then ?_
      exact ⟨⟨(fu, (v38.set vr43.2.1.toNat (IntKind.i64.wrap (e50 + 1))), vr54.1.Keys, vr54.1.Lose, vr54.1.Win, g42), h1⟩, ⟨rF, rE, rfl, rfl, (LpLe.consR (Nat.le_of_ble_eq_true rfl) rfl okRC7 (Nat.le_of_ble_eq_true rfl) trivial), trivial⟩, Nat.lt_succ_self _⟩
end Go.T
end
section
/- The program computes them. -/
namespace Go.T
open Go Go.AM Go.Proofs
set_option maxRecDepth 100000
set_option maxHeartbeats 4000000
set_option linter.unusedVariables false
theorem c_loser_Replace_2 {fu : Nat} {t1 : TApiLsTree} {k2 : TApiLsKey} {r : TApiLsTree × Int × Int} (h0 : loser_Replace_2 fu t1 k2 = some r) : PCall Try.prog 54 [.agg (TApiLsTree.enc t1), .agg (TApiLsKey.enc k2)] (.tup [.agg [.psl 2 (List.map TApiLsKey.enc r.1.Keys), .sl 0 0 1 0 r.1.Lose.length, .int .i64 r.1.Win], .int .i64 r.2.1, .int .i64 r.2.2]) [{ g := 0, own := true, pure := true, sz := 1, es := r.1.Lose.map (encInt .i64) }] := by
 refine awp_pcall Try.func54 rfl (by decide) (Nat.le_of_ble_eq_true rfl) ?_
 dsimp only [Try.f54]
 rw [loser_Replace_2] at h0
 refine (show AWP _ _ _ _ ⟨enumFr 0 _, [], 0, []⟩ from ?_)
 refine awp_sr2 40 [2, 3, 4, 5] (fun _ => none) rfl (fun _ _ => rT) ?_
 refine awp_scope ?_
 refine awp_seq ?_
 obtain ⟨vr3, hvr3, h0⟩ := bindS h0
 refine awp_sr2 64 [2, 3, 4, 5, 7] (fun | 1 => some (.int .i64 vr3, []) | _ => none) rfl (fun _ _ => rC (c_loser_open hvr3)) ?_
 refine awp_sr2 80 [2, 3, 4, 5, 7, 14] (fun _ => none) rfl (fun _ _ => rT) ?_
 refine awp_if rfl (fun hb4 => ?_) (fun hb4 => ?_)
 ·
  replace h0 := iteT h0 hb4
  refine awp_sr2 120 [4, 5, 6] (fun _ => none) rfl (fun _ _ => rT) ?_
  refine awp_re (s2 := ⟨[(4, .ref 16 0 0 0), (5, .int .i64 0), (6, .int .i64 vr3)], [(0, { g := 0, own := true, pure := true, sz := 3, es := [[.psl 2 (List.map TApiLsKey.enc t1.Keys), .psl 1 (List.map (encInt .i64) t1.Lose), .int .i64 t1.Win]] }), (8, { g := 0, own := true, pure := true, sz := 2, es := [[.str k2.Key, .bool k2.Done]] }), (16, { g := 0, own := true, pure := false, sz := 3, es := [[.nils, .sl 120 0 1 0 0, .int .i64 0]] }), (120, { g := 0, own := true, pure := true, sz := 1, es := List.map (encInt .i64) [] })], 121, []⟩) [(120, 1)] (Nat.le_of_ble_eq_true rfl) ⟨rF, rE, rfl, rfl, trivial, rN⟩ ?_
  refine awp_ret ?_
  refine kr_then ?_
  refine kr_scope ?_
  obtain rfl := Option.some.inj h0
  refine leave_retG [120] ?_
  exact rG
 ·
  replace h0 := iteF h0 hb4
  refine awp_skip ?_
  refine kn_then ?_
  refine awp_seq ?_
  obtain ⟨vr5, hvr5, h0⟩ := bindS h0
  refine awp_sr2 112 [2, 3, 4, 5, 8] (fun | 2 => some (.int .i64 vr5, []) | _ => none) rfl (fun _ _ => rC (c_loser_check hvr5)) ?_
  refine awp_re (s2 := ⟨[(2, .ref 0 0 0 0), (3, .ref 8 0 0 0), (4, .ref 16 0 0 0), (5, .int .i64 0), (8, .int .i64 vr5)], [(0, { g := 0, own := true, pure := true, sz := 3, es := [[.psl 2 (List.map TApiLsKey.enc t1.Keys), .psl 1 (List.map (encInt .i64) t1.Lose), .int .i64 t1.Win]] }), (8, { g := 0, own := true, pure := true, sz := 2, es := [[.str k2.Key, .bool k2.Done]] }), (16, { g := 0, own := true, pure := true, sz := 3, es := [[.nils, .nils, .int .i64 0]] }), (88, { g := 0, own := true, pure := true, sz := 2, es := List.map TApiLsKey.enc [k2] })], 112, []⟩) [] (Nat.le_of_ble_eq_true rfl) ⟨rF, rE, rfl, rfl, trivial, trivial⟩ ?_
  refine awp_sr2 128 [2, 3, 4, 5, 8, 21] (fun _ => none) rfl (fun _ _ => rT) ?_
  refine awp_if rfl (fun hb6 => ?_) (fun hb6 => ?_)
  ·
   replace h0 := iteT h0 hb6
   refine awp_sr2 168 [4, 5, 6] (fun _ => none) rfl (fun _ _ => rT) ?_
   refine awp_re (s2 := ⟨[(4, .ref 16 0 0 0), (5, .int .i64 0), (6, .int .i64 vr5)], [(0, { g := 0, own := true, pure := true, sz := 3, es := [[.psl 2 (List.map TApiLsKey.enc t1.Keys), .psl 1 (List.map (encInt .i64) t1.Lose), .int .i64 t1.Win]] }), (8, { g := 0, own := true, pure := true, sz := 2, es := [[.str k2.Key, .bool k2.Done]] }), (16, { g := 0, own := true, pure := false, sz := 3, es := [[.nils, .sl 168 0 1 0 0, .int .i64 0]] }), (88, { g := 0, own := true, pure := true, sz := 2, es := List.map TApiLsKey.enc [k2] }), (168, { g := 0, own := true, pure := true, sz := 1, es := List.map (encInt .i64) [] })], 169, []⟩) [(168, 1)] (Nat.le_of_ble_eq_true rfl) ⟨rF, rE, rfl, rfl, trivial, rN⟩ ?_
   refine awp_ret ?_
   refine kr_then ?_
   refine kr_scope ?_
   obtain rfl := Option.some.inj h0
   refine leave_retG [168] ?_
   exact rG
  ·
   replace h0 := iteF h0 hb6
   refine awp_skip ?_
   refine kn_then ?_
   refine awp_seq ?_
   obtain ⟨b8, hb8, h0⟩ := bindS h0
   refine awp_sd3 (fr' := [(2, .ref 0 0 0 0), (3, .ref 8 0 0 0), (4, .ref 16 0 0 0), (5, .int .i64 0), (38, .bool b8)]) (hp' := [(0, { g := 0, own := true, pure := true, sz := 3, es := [[.psl 2 (List.map TApiLsKey.enc t1.Keys), .psl 1 (List.map (encInt .i64) t1.Lose), .int .i64 t1.Win]] }), (8, { g := 0, own := true, pure := true, sz := 2, es := [[.str k2.Key, .bool k2.Done]] }), (16, { g := 0, own := true, pure := true, sz := 3, es := [[.nils, .nils, .int .i64 0]] }), (88, { g := 0, own := true, pure := true, sz := 2, es := List.map TApiLsKey.enc [k2] })]) [0, 8, 16, 88] 248 [2, 3, 4, 5, 38] (fun _ => none) rfl rfl rfl (fun Kt hK => by
     cases hg9 : (!k2.Done) with
     | false =>
      replace hb8 := iteF hb8 hg9
      have hqb8 := Option.some.inj hb8
      subst hqb8
      simp (maxSteps := 1000000) only [↓reduceIte, reduceCtorEq, Nat.reduceEqDiff, Nat.reduceLT, Nat.reduceLeDiff, Nat.reduceAdd, Nat.reduceMul, Int.reduceToNat, push_cast, ↓hg9]
      try simp only [↓hg9] at hK
      all_goals exact rUd
     | true =>
      replace hb8 := iteT hb8 hg9
      obtain ⟨e7, he7, hb8⟩ := bindS hb8
      obtain ⟨he7a, he7b, he7c⟩ := idxS he7
      have hqb8 := Option.some.inj hb8
      subst hqb8
      simp (maxSteps := 1000000) only [↓reduceIte, reduceCtorEq, Nat.reduceEqDiff, Nat.reduceLT, Nat.reduceLeDiff, Nat.reduceAdd, Nat.reduceMul, Int.reduceToNat, push_cast, ↓hg9, he7a, he7b, he7c, he7]
      try simp only [↓hg9] at hK
      all_goals exact rUd) ?_
   refine awp_if rfl (fun hb10 => ?_) (fun hb10 => ?_)
   ·
    replace h0 := iteT h0 hb10
    refine awp_sr2 280 [4, 5, 6] (fun _ => none) rfl (fun _ _ => rT) ?_
    refine awp_re (s2 := ⟨[(4, .ref 16 0 0 0), (5, .int .i64 0), (6, .int .i64 6)], [(0, { g := 0, own := true, pure := true, sz := 3, es := [[.psl 2 (List.map TApiLsKey.enc t1.Keys), .psl 1 (List.map (encInt .i64) t1.Lose), .int .i64 t1.Win]] }), (8, { g := 0, own := true, pure := true, sz := 2, es := [[.str k2.Key, .bool k2.Done]] }), (16, { g := 0, own := true, pure := false, sz := 3, es := [[.nils, .sl 280 0 1 0 0, .int .i64 0]] }), (88, { g := 0, own := true, pure := true, sz := 2, es := List.map TApiLsKey.enc [k2] }), (280, { g := 0, own := true, pure := true, sz := 1, es := List.map (encInt .i64) [] })], 281, []⟩) [(280, 1)] (Nat.le_of_ble_eq_true rfl) ⟨rF, rE, rfl, rfl, trivial, rN⟩ ?_
    refine awp_ret ?_
    refine kr_then ?_
    refine kr_scope ?_
    obtain rfl := Option.some.inj h0
    refine leave_retG [280] ?_
    exact rG
   ·
    replace h0 := iteF h0 hb10
    refine awp_skip ?_
    refine kn_then ?_
    obtain ⟨vr11, hvr11, h0⟩ := bindS h0
    obtain ⟨vr12, hvr12, h0⟩ := bindS h0
    refine awp_sd2 328 [3, 4, 5] (fun | 2 => some (.sl 0 0 2 0 vr11.length, [{ g := 0, own := true, pure := true, sz := 2, es := vr11.map TApiLsKey.enc }]) | 5 => some (.sl 0 0 1 0 vr12.length, [{ g := 0, own := true, pure := true, sz := 1, es := vr12.map (encInt .i64) }]) | _ => none) rfl rfl rfl (fun Kt hK => by
      try have q0 := c_slices_Clone_apiLsKey_2 hvr11
      try have q1 := c_slices_Clone_int_2 hvr12
      exact rTd) ?_
    obtain ⟨e13, he13, h0⟩ := bindS h0
    obtain ⟨he13a, he13b, he13c⟩ := idxS he13
    refine awp_sr2 384 [4, 5] (fun _ => none) rfl (fun _ _ => rS (rA he13a (rA he13b he13c))) ?_
    refine awp_re (s2 := ⟨[(4, .ref 16 0 0 0), (5, .int .i64 0)], [(0, { g := 0, own := true, pure := true, sz := 3, es := [[.psl 2 (List.map TApiLsKey.enc t1.Keys), .psl 1 (List.map (encInt .i64) t1.Lose), .int .i64 t1.Win]] }), (8, { g := 0, own := true, pure := true, sz := 2, es := [[.str k2.Key, .bool k2.Done]] }), (16, { g := 0, own := true, pure := false, sz := 3, es := [[.sl 264 0 2 0 ((vr11.set t1.Win.toNat k2).length), .sl 288 0 1 0 vr12.length, .int .i64 t1.Win]] }), (88, { g := 0, own := true, pure := true, sz := 2, es := List.map TApiLsKey.enc [k2] }), (264, { g := 0, own := true, pure := true, sz := 2, es := List.map TApiLsKey.enc (vr11.set t1.Win.toNat k2) }), (288, { g := 0, own := true, pure := true, sz := 1, es := List.map (encInt .i64) vr12 })], 384, []⟩) [] (Nat.le_of_ble_eq_true rfl) ⟨rF, rE, rfl, rfl, trivial, trivial⟩ ?_
    obtain ⟨vr14, hvr14, h0⟩ := bindS h0
    refine awp_sr2 416 [4, 5, 9] (fun | 2 => some (.fn 74 [] [.pp [.psl 2 (vr14.map TApiLsKey.enc)]], []) | _ => none) rfl (fun _ _ => rB (rA he13a (rA he13b he13c)) (c_loser_judge hvr14)) ?_
    refine awp_sr2 472 [4, 5, 9, 10] (fun _ => none) rfl (fun _ _ => rS (rA he13a (rA he13b he13c))) ?_
    refine awp_seq ?_
    refine awp_label ?_
    refine kn_then ?_
    obtain ⟨x28, hxx28, h0⟩ := bindS h0
    refine awp_sloop (fun s' => ∃ g38 : Nat, s'.nx ≤ 512 ∧ LeN [] s' ⟨[(4, .ref 16 0 0 0), (5, .int .i64 x28.1)], [(0, { g := 0, own := true, pure := true, sz := 3, es := [[.psl 2 (List.map TApiLsKey.enc t1.Keys), .psl 1 (List.map (encInt .i64) t1.Lose), .int .i64 t1.Win]] }), (8, { g := 0, own := true, pure := true, sz := 2, es := [[.str k2.Key, .bool k2.Done]] }), (16, { g := 0, own := true, pure := false, sz := 3, es := [[.sl 264 0 2 0 ((vr11.set t1.Win.toNat k2).length), .sl 288 g38 1 0 x28.2.2.length, .int .i64 x28.2.1]] }), (88, { g := 0, own := true, pure := true, sz := 2, es := List.map TApiLsKey.enc [k2] }), (264, { g := 0, own := false, pure := true, sz := 2, es := List.map TApiLsKey.enc (vr11.set t1.Win.toNat k2) }), (288, { g := g38, own := true, pure := true, sz := 1, es := List.map (encInt .i64) x28.2.2 })], 512, []⟩) ?_ ?_
    ·
     intro s' hs
     obtain ⟨g38, hn, hs⟩ := hs
     refine awp_re [] hn hs ?_
     refine awp_sr2 552 [4, 5, 6] (fun _ => none) rfl (fun _ _ => rS (rA he13a (rA he13b he13c))) ?_
     refine awp_ret ?_
     refine kr_scope ?_
     obtain rfl := Option.some.inj h0
     refine leave_retG [288] ?_
     simp (maxSteps := 1000000) only [↓reduceIte, reduceCtorEq, Nat.reduceEqDiff, Nat.reduceLT, Nat.reduceLeDiff, Nat.reduceAdd, Nat.reduceMul, Int.reduceToNat, push_cast, Gives, he13a, he13b, he13c]
     all_goals exact rH
    ·
     refine awp_loopF (ι := { p : Nat × Int × Int × Int × List Int × Nat // loser_Replace_2_l1 vr14 p.1 p.2.1 p.2.2.1 p.2.2.2.1 p.2.2.2.2.1 = some x28 }) (fun p => ⟨[(4, .ref 16 0 0 0), (5, .int .i64 p.1.2.1), (9, .fn 74 [] [.pp [.psl 2 (List.map TApiLsKey.enc vr14)]]), (10, .int .i64 p.1.2.2.1)], [(0, { g := 0, own := true, pure := true, sz := 3, es := [[.psl 2 (List.map TApiLsKey.enc t1.Keys), .psl 1 (List.map (encInt .i64) t1.Lose), .int .i64 t1.Win]] }), (8, { g := 0, own := true, pure := true, sz := 2, es := [[.str k2.Key, .bool k2.Done]] }), (16, { g := 0, own := true, pure := false, sz := 3, es := [[.sl 264 0 2 0 ((vr11.set t1.Win.toNat k2).length), .sl 288 p.1.2.2.2.2.2 1 0 p.1.2.2.2.2.1.length, .int .i64 p.1.2.2.2.1]] }), (88, { g := 0, own := true, pure := true, sz := 2, es := List.map TApiLsKey.enc [k2] }), (264, { g := 0, own := false, pure := true, sz := 2, es := List.map TApiLsKey.enc (vr11.set t1.Win.toNat k2) }), (288, { g := p.1.2.2.2.2.2, own := true, pure := true, sz := 1, es := List.map (encInt .i64) p.1.2.2.2.2.1 })], 472, []⟩) (fun p => p.1.1) ⟨(fu, 0, (IntKind.i64.wrap (((vr11.set t1.Win.toNat k2).length : Int) + t1.Win)), t1.Win, vr12, 0), hxx28⟩ ⟨rF, rE, rfl, rfl, trivial, trivial⟩ (fun _ => Nat.le_refl _) ?_
     rintro ⟨⟨fu, games29, node30, u31, v32, g33⟩, h1⟩
     cases fu with
     | zero =>
   replace h1 : loser_Replace_2_l1 vr14 0 games29 node30 u31 v32 = some x28 := h1
   rw [loser_Replace_2_l1] at h1; cases h1
     | succ fu =>
      replace h1 : loser_Replace_2_l1 vr14 (fu + 1) games29 node30 u31 v32 = some x28 := h1
      rw [loser_Replace_2_l1] at h1
      refine (show AWP _ _ _ _ ⟨[(4, .ref 16 0 0 0), (5, .int .i64 games29), (9, .fn 74 [] [.pp [.psl 2 (List.map TApiLsKey.enc vr14)]]), (10, .int .i64 node30)], [(0, { g := 0, own := true, pure := true, sz := 3, es := [[.psl 2 (List.map TApiLsKey.enc t1.Keys), .psl 1 (List.map (encInt .i64) t1.Lose), .int .i64 t1.Win]] }), (8, { g := 0, own := true, pure := true, sz := 2, es := [[.str k2.Key, .bool k2.Done]] }), (16, { g := 0, own := true, pure := false, sz := 3, es := [[.sl 264 0 2 0 ((vr11.set t1.Win.toNat k2).length), .sl 288 g33 1 0 v32.length, .int .i64 u31]] }), (88, { g := 0, own := true, pure := true, sz := 2, es := List.map TApiLsKey.enc [k2] }), (264, { g := 0, own := false, pure := true, sz := 2, es := List.map TApiLsKey.enc (vr11.set t1.Win.toNat k2) }), (288, { g := g33, own := true, pure := true, sz := 1, es := List.map (encInt .i64) v32 })], 472, []⟩ from ?_)
      refine awp_block ?_
      refine awp_sr2 496 [4, 5, 9, 10] (fun _ => none) rfl (fun _ _ => rS (rA he13a (rA he13b he13c))) ?_
      refine awp_seq ?_
      refine awp_sr2 512 [4, 5, 9, 10, 67] (fun _ => none) rfl (fun _ _ => rS (rA he13a (rA he13b he13c))) ?_
      refine awp_if rfl (fun hb34 => ?_) (fun hb34 => ?_)
      ·
       replace h1 := iteT h1 hb34
       refine awp_exit ?_
       refine kx_then ?_
       refine kx_other (by decide) ?_
       refine kx_then ?_
       refine kx_done ?_
       obtain rfl := Option.some.inj h1
       exact ⟨g33, Nat.le_of_ble_eq_true rfl, ⟨rF, rE, rfl, rfl, trivial, trivial⟩⟩
      ·
       replace h1 := iteF h1 hb34
       refine awp_skip ?_
       refine kn_then ?_
       refine awp_sr2 536 [4, 5, 9, 10] (fun _ => none) rfl (fun _ _ => rS (rA he13a (rA he13b he13c))) ?_
       obtain ⟨e35, he35, h1⟩ := bindS h1
       obtain ⟨he35a, he35b, he35c⟩ := idxS he35
       obtain ⟨vr36, hvr36, h1⟩ := bindS h1
       refine awp_sd2 608 [4, 5, 9, 10, 78] (fun | 8 => some (.bool vr36, []) | _ => none) rfl rfl rfl (fun _ _ => rBd (rA he13a (rA he13b (rA he13c (rA he35a (rA he35b he35c))))) (c_loser_judge_1 hvr36)) ?_
       refine awp_if rfl (fun hb37 => ?_) (fun hb37 => ?_)
       ·
        replace h1 := iteT h1 hb37
        refine awp_d2 720 [4, 5, 9, 10] (fun _ => none) rfl rfl rfl (fun _ _ => rSd (rA he13a (rA he13b (rA he13c (rA he35a (rA he35b he35c)))))) ?_
        refine kn_block ?_
        refine kn_then ?_
        exact ⟨⟨(fu, (IntKind.i64.wrap (games29 + 1)), (IntKind.i64.wrap (node30.tdiv 2)), e35, (v32.set ((IntKind.i64.wrap (node30.tdiv 2)).toNat) u31), g33), h1⟩, ⟨rF, rE, rfl, rfl, trivial, trivial⟩, Nat.lt_succ_self _⟩
       ·
        replace h1 := iteF h1 hb37
        refine awp_skip ?_
        refine kn_block ?_
        refine kn_then ?_
        exact ⟨⟨(fu, (IntKind.i64.wrap (games29 + 1)), (IntKind.i64.wrap (node30.tdiv 2)), u31, v32, g33), h1⟩, ⟨rF, rE, rfl, rfl, trivial, trivial⟩, Nat.lt_succ_self _⟩
end Go.T
end
section
/- The program computes them. -/
namespace Go.T
open Go Go.AM Go.Proofs
set_option maxRecDepth 100000
set_option maxHeartbeats 4000000
set_option linter.unusedVariables false
theorem c_merge_Next_3 {fu : Nat} {vs1 : TApiMgState} {r : TApiEntry × Int × TApiMgState × Int} (h0 : merge_Next_3 fu vs1 = some r) : PCall Try.prog 20 [.agg (TApiMgState.enc vs1)] (.tup [.agg [.str r.1.Key, .str r.1.Val, .bool r.1.Dead, .int .i64 r.1.Seq], .int .i64 r.2.1, .agg [.psl 1 (List.map (encSl 4 TApiEntry.enc) r.2.2.1.Runs), .sl 0 0 1 0 r.2.2.1.At.length, .psl 2 (List.map TApiLsKey.enc r.2.2.1.Tree.Keys), .sl 1 0 1 0 r.2.2.1.Tree.Lose.length, .int .i64 r.2.2.1.Tree.Win], .int .i64 r.2.2.2]) [{ g := 0, own := true, pure := true, sz := 1, es := r.2.2.1.At.map (encInt .i64) }, { g := 0, own := true, pure := true, sz := 1, es := r.2.2.1.Tree.Lose.map (encInt .i64) }] := by
 refine awp_pcall Try.func20 rfl (by decide) (Nat.le_of_ble_eq_true rfl) ?_
 dsimp only [Try.f20]
 rw [merge_Next_3] at h0
 refine (show AWP _ _ _ _ ⟨enumFr 0 _, [], 0, []⟩ from ?_)
 refine awp_sr2 40 [1, 2, 4] (fun _ => none) rfl (fun _ _ => rT) ?_
 refine awp_sops2 7 rfl ?_
 refine awpo_cut (l' := List.range' 0 1 ++ (1 :: (List.range' 2 5 ++ []))) rfl ?_
 refine awpo_seg 0 1 48 (1 :: (List.range' 2 5 ++ [])) (fun _ => none) rfl rfl rfl (fun _ _ => rT) ?_
 refine awpo_in rfl rfl rfl rfl rfl Try.func37 rfl (by decide) rfl (Nat.le_of_ble_eq_true rfl) ?_
 dsimp only [Try.f37]
 refine awp_re (s2 := ⟨[(0, .agg [.psl 1 (List.map (encSl 4 TApiEntry.enc) vs1.Runs), .psl 1 (List.map (encInt .i64) vs1.At), .psl 2 (List.map TApiLsKey.enc vs1.Tree.Keys), .psl 1 (List.map (encInt .i64) vs1.Tree.Lose), .int .i64 vs1.Tree.Win])], [(0, { g := 0, own := true, pure := true, sz := 5, es := [[.psl 1 (List.map (encSl 4 TApiEntry.enc) vs1.Runs), .psl 1 (List.map (encInt .i64) vs1.At), .psl 2 (List.map TApiLsKey.enc vs1.Tree.Keys), .psl 1 (List.map (encInt .i64) vs1.Tree.Lose), .int .i64 vs1.Tree.Win]] }), (8, { g := 0, own := true, pure := true, sz := 4, es := [[.str [], .str [], .bool false, .int .i64 0]] }), (24, { g := 0, own := true, pure := true, sz := 5, es := [[.nils, .nils, .nils, .nils, .int .i64 0]] })], 48, []⟩) [] (Nat.le_of_ble_eq_true rfl) ⟨rF, rE, rfl, rfl, trivial, trivial⟩ ?_
 refine awp_sr2 72 [1] (fun _ => none) rfl (fun _ _ => rT) ?_
 refine awp_seq ?_
 obtain ⟨vr2, hvr2, h0⟩ := bindS h0
 refine awp_sr2 128 [1, 5] (fun | 1 => some (.tup [.int .i64 vr2.1, .int .i64 vr2.2], []) | _ => none) rfl (fun _ _ => rC (c_merge_Check hvr2)) ?_
 refine awp_sr2 144 [1, 5, 12] (fun _ => none) rfl (fun _ _ => rT) ?_
 refine awp_if rfl (fun hb3 => ?_) (fun hb3 => ?_)
 ·
  replace h0 := iteT h0 hb3
  refine awp_sr2 168 [2, 3] (fun _ => none) rfl (fun _ _ => rT) ?_
  refine awp_ret ?_
  refine kr_then ?_
  refine leave_retK (fun _ _ => rT) ?_
  refine awpo_re (s2 := ⟨[(1, .ref 0 0 0 0), (2, .ref 8 0 0 0), (4, .ref 24 0 0 0), (8, .agg [.psl 1 (List.map (encSl 4 TApiEntry.enc) vs1.Runs), .psl 1 (List.map (encInt .i64) vs1.At), .psl 2 (List.map TApiLsKey.enc vs1.Tree.Keys), .psl 1 (List.map (encInt .i64) vs1.Tree.Lose), .int .i64 vs1.Tree.Win]), (9, .tup [.nilp, .int .i64 vr2.2])], [(0, { g := 0, own := true, pure := true, sz := 5, es := [[.psl 1 (List.map (encSl 4 TApiEntry.enc) vs1.Runs), .psl 1 (List.map (encInt .i64) vs1.At), .psl 2 (List.map TApiLsKey.enc vs1.Tree.Keys), .psl 1 (List.map (encInt .i64) vs1.Tree.Lose), .int .i64 vs1.Tree.Win]] }), (8, { g := 0, own := true, pure := true, sz := 4, es := [[.str [], .str [], .bool false, .int .i64 0]] }), (24, { g := 0, own := true, pure := true, sz := 5, es := [[.nils, .nils, .nils, .nils, .int .i64 0]] })], 168, []⟩) [] (Nat.le_of_ble_eq_true rfl) ⟨rF, rE, rfl, rfl, trivial, trivial⟩ ?_
  refine awpo_cut (l' := List.range' 2 5 ++ []) rfl ?_
  refine awpo_seg 2 5 208 [] (fun _ => none) rfl rfl rfl (fun _ _ => rT) ?_
  refine awpo_nil ?_
  refine kn_then ?_
  refine awp_re (s2 := ⟨[(2, .ref 8 0 0 0), (4, .ref 24 0 0 0), (5, .int .i64 vr2.2), (6, .nilp)], [(0, { g := 0, own := true, pure := true, sz := 5, es := [[.psl 1 (List.map (encSl 4 TApiEntry.enc) vs1.Runs), .psl 1 (List.map (encInt .i64) vs1.At), .psl 2 (List.map TApiLsKey.enc vs1.Tree.Keys), .psl 1 (List.map (encInt .i64) vs1.Tree.Lose), .int .i64 vs1.Tree.Win]] }), (8, { g := 0, own := true, pure := true, sz := 4, es := [[.str [], .str [], .bool false, .int .i64 0]] }), (24, { g := 0, own := true, pure := true, sz := 5, es := [[.nils, .nils, .nils, .nils, .int .i64 0]] })], 208, []⟩) [] (Nat.le_of_ble_eq_true rfl) ⟨rF, rE, rfl, rfl, trivial, trivial⟩ ?_
  refine awp_seq ?_
  refine awp_sr2 224 [2, 4, 5, 6, 13] (fun _ => none) rfl (fun _ _ => rT) ?_
  refine awp_condKT rfl hb3 ?_
  refine awp_sr2 280 [2, 3, 4, 5] (fun _ => none) rfl (fun _ _ => rT) ?_
  refine awp_re (s2 := ⟨[(2, .ref 8 0 0 0), (3, .int .i64 0), (4, .ref 24 0 0 0), (5, .int .i64 vr2.2)], [(0, { g := 0, own := true, pure := true, sz := 5, es := [[.psl 1 (List.map (encSl 4 TApiEntry.enc) vs1.Runs), .psl 1 (List.map (encInt .i64) vs1.At), .psl 2 (List.map TApiLsKey.enc vs1.Tree.Keys), .psl 1 (List.map (encInt .i64) vs1.Tree.Lose), .int .i64 vs1.Tree.Win]] }), (8, { g := 0, own := true, pure := true, sz := 4, es := [[.str [], .str [], .bool false, .int .i64 0]] }), (24, { g := 0, own := true, pure := false, sz := 5, es := [[.nils, .sl 280 0 1 0 0, .nils, .sl 281 0 1 0 0, .int .i64 0]] }), (280, { g := 0, own := true, pure := true, sz := 1, es := List.map (encInt .i64) [] }), (281, { g := 0, own := true, pure := true, sz := 1, es := List.map (encInt .i64) [] })], 282, []⟩) [(280, 1), (281, 1)] (Nat.le_of_ble_eq_true rfl) ⟨rF, rE, rfl, rfl, trivial, rN⟩ ?_
  refine awp_ret ?_
  refine kr_then ?_
  obtain rfl := Option.some.inj h0
  refine leave_retG [280, 281] ?_
  exact rG
 ·
  replace h0 := iteF h0 hb3
  refine awp_skip ?_
  refine kn_then ?_
  obtain ⟨vr4, hvr4, h0⟩ := bindS h0
  obtain ⟨vr5, hvr5, h0⟩ := bindS h0
  refine awp_sd2 248 [2, 3] (fun | 2 => some (.psl 1 (vr4.map (encSl 4 TApiEntry.enc)), []) | 5 => some (.sl 0 0 1 0 vr5.length, [{ g := 0, own := true, pure := true, sz := 1, es := vr5.map (encInt .i64) }]) | _ => none) rfl rfl rfl (fun Kt hK => by
    try have q0 := c_slices_Clone_apiEntry hvr4
    try have q1 := c_slices_Clone_int_2 hvr5
    exact rTd) ?_
  refine awp_ret ?_
  refine leave_retK (fun _ _ => rT) ?_
  refine awpo_re (s2 := ⟨[(1, .ref 0 0 0 0), (2, .ref 8 0 0 0), (4, .ref 24 0 0 0), (8, .agg [.psl 1 (List.map (encSl 4 TApiEntry.enc) vs1.Runs), .psl 1 (List.map (encInt .i64) vs1.At), .psl 2 (List.map TApiLsKey.enc vs1.Tree.Keys), .psl 1 (List.map (encInt .i64) vs1.Tree.Lose), .int .i64 vs1.Tree.Win]), (9, .tup [.ref 224 0 0 0, .int .i64 0])], [(0, { g := 0, own := true, pure := true, sz := 5, es := [[.psl 1 (List.map (encSl 4 TApiEntry.enc) vs1.Runs), .psl 1 (List.map (encInt .i64) vs1.At), .psl 2 (List.map TApiLsKey.enc vs1.Tree.Keys), .psl 1 (List.map (encInt .i64) vs1.Tree.Lose), .int .i64 vs1.Tree.Win]] }), (8, { g := 0, own := true, pure := true, sz := 4, es := [[.str [], .str [], .bool false, .int .i64 0]] }), (24, { g := 0, own := true, pure := true, sz := 5, es := [[.nils, .nils, .nils, .nils, .int .i64 0]] }), (184, { g := 0, own := true, pure := true, sz := 1, es := List.map (encInt .i64) vr5 }), (224, { g := 0, own := true, pure := false, sz := 5, es := [[.psl 1 (List.map (encSl 4 TApiEntry.enc) vr4), .sl 184 0 1 0 vr5.length, .psl 2 (List.map TApiLsKey.enc vs1.Tree.Keys), .psl 1 (List.map (encInt .i64) vs1.Tree.Lose), .int .i64 vs1.Tree.Win]] })], 248, []⟩) [] (Nat.le_of_ble_eq_true rfl) ⟨rF, rE, rfl, rfl, trivial, trivial⟩ ?_
  refine awpo_cut (l' := List.range' 2 5 ++ []) rfl ?_
  refine awpo_seg 2 5 288 [] (fun _ => none) rfl rfl rfl (fun _ _ => rT) ?_
  refine awpo_nil ?_
  refine kn_then ?_
  refine awp_re (s2 := ⟨[(2, .ref 8 0 0 0), (4, .ref 24 0 0 0), (5, .int .i64 0), (6, .ref 224 0 0 0)], [(0, { g := 0, own := true, pure := true, sz := 5, es := [[.psl 1 (List.map (encSl 4 TApiEntry.enc) vs1.Runs), .psl 1 (List.map (encInt .i64) vs1.At), .psl 2 (List.map TApiLsKey.enc vs1.Tree.Keys), .psl 1 (List.map (encInt .i64) vs1.Tree.Lose), .int .i64 vs1.Tree.Win]] }), (8, { g := 0, own := true, pure := true, sz := 4, es := [[.str [], .str [], .bool false, .int .i64 0]] }), (24, { g := 0, own := true, pure := true, sz := 5, es := [[.nils, .nils, .nils, .nils, .int .i64 0]] }), (184, { g := 0, own := true, pure := true, sz := 1, es := List.map (encInt .i64) vr5 }), (224, { g := 0, own := true, pure := false, sz := 5, es := [[.psl 1 (List.map (encSl 4 TApiEntry.enc) vr4), .sl 184 0 1 0 vr5.length, .psl 2 (List.map TApiLsKey.enc vs1.Tree.Keys), .psl 1 (List.map (encInt .i64) vs1.Tree.Lose), .int .i64 vs1.Tree.Win]] })], 288, []⟩) [] (Nat.le_of_ble_eq_true rfl) ⟨rF, rE, rfl, rfl, trivial, trivial⟩ ?_
  refine awp_seq ?_
  refine awp_sr2 304 [2, 4, 5, 6, 13] (fun _ => none) rfl (fun _ _ => rT) ?_
  refine awp_condF rfl ?_
  refine awp_skip ?_
  refine kn_then ?_
  obtain ⟨vr6, hvr6, h0⟩ := bindS h0
  refine awp_sr2 376 [2, 3, 4, 5, 6] (fun | 1 => some (.tup [.agg (TApiEntry.enc vr6.1), .int .i64 vr6.2.1, .int .i64 vr6.2.2], []) | _ => none) rfl (fun _ _ => rC (c_merge_reader_peek hvr6)) ?_
  refine awp_seq ?_
  refine awp_sr2 392 [2, 3, 4, 5, 6, 24] (fun _ => none) rfl (fun _ _ => rT) ?_
  refine awp_if rfl (fun hb7 => ?_) (fun hb7 => ?_)
  ·
   replace h0 := iteT h0 hb7
   refine awp_sr2 448 [2, 3, 4, 5] (fun _ => none) rfl (fun _ _ => rT) ?_
   refine awp_re (s2 := ⟨[(2, .ref 8 0 0 0), (3, .int .i64 0), (4, .ref 24 0 0 0), (5, .int .i64 vr6.2.2)], [(0, { g := 0, own := true, pure := true, sz := 5, es := [[.psl 1 (List.map (encSl 4 TApiEntry.enc) vs1.Runs), .psl 1 (List.map (encInt .i64) vs1.At), .psl 2 (List.map TApiLsKey.enc vs1.Tree.Keys), .psl 1 (List.map (encInt .i64) vs1.Tree.Lose), .int .i64 vs1.Tree.Win]] }), (8, { g := 0, own := true, pure := true, sz := 4, es := [[.str [], .str [], .bool false, .int .i64 0]] }), (24, { g := 0, own := true, pure := false, sz := 5, es := [[.nils, .sl 448 0 1 0 0, .nils, .sl 449 0 1 0 0, .int .i64 0]] }), (184, { g := 0, own := true, pure := true, sz := 1, es := List.map (encInt .i64) vr5 }), (224, { g := 0, own := true, pure := false, sz := 5, es := [[.psl 1 (List.map (encSl 4 TApiEntry.enc) vr4), .sl 184 0 1 0 vr5.length, .psl 2 (List.map TApiLsKey.enc vs1.Tree.Keys), .psl 1 (List.map (encInt .i64) vs1.Tree.Lose), .int .i64 vs1.Tree.Win]] }), (448, { g := 0, own := true, pure := true, sz := 1, es := List.map (encInt .i64) [] }), (449, { g := 0, own := true, pure := true, sz := 1, es := List.map (encInt .i64) [] })], 450, []⟩) [(448, 1), (449, 1)] (Nat.le_of_ble_eq_true rfl) ⟨rF, rE, rfl, rfl, trivial, rN⟩ ?_
   refine awp_ret ?_
   refine kr_then ?_
   obtain rfl := Option.some.inj h0
   refine leave_retG [448, 449] ?_
   exact rG
  ·
   replace h0 := iteF h0 hb7
   refine awp_skip ?_
   refine kn_then ?_
   refine awp_sops2 3 rfl ?_
   refine awpo_cut (l' := List.range' 0 2 ++ (2 :: (List.range' 3 0 ++ []))) rfl ?_
   refine awpo_seg 0 2 408 (2 :: (List.range' 3 0 ++ [])) (fun _ => none) rfl rfl rfl (fun _ _ => rT) ?_
   refine awpo_in rfl rfl rfl rfl rfl Try.func40 rfl (by decide) rfl (Nat.le_of_ble_eq_true rfl) ?_
   dsimp only [Try.f40]
   refine awp_re (s2 := ⟨[(0, .ref 224 0 0 0), (1, .int .i64 vr6.2.1)], [(0, { g := 0, own := true, pure := true, sz := 5, es := [[.psl 1 (List.map (encSl 4 TApiEntry.enc) vs1.Runs), .psl 1 (List.map (encInt .i64) vs1.At), .psl 2 (List.map TApiLsKey.enc vs1.Tree.Keys), .psl 1 (List.map (encInt .i64) vs1.Tree.Lose), .int .i64 vs1.Tree.Win]] }), (8, { g := 0, own := true, pure := true, sz := 4, es := [[.str vr6.1.Key, .str vr6.1.Val, .bool vr6.1.Dead, .int .i64 vr6.1.Seq]] }), (24, { g := 0, own := true, pure := true, sz := 5, es := [[.nils, .nils, .nils, .nils, .int .i64 0]] }), (184, { g := 0, own := true, pure := true, sz := 1, es := List.map (encInt .i64) vr5 }), (224, { g := 0, own := true, pure := false, sz := 5, es := [[.psl 1 (List.map (encSl 4 TApiEntry.enc) vr4), .sl 184 0 1 0 vr5.length, .psl 2 (List.map TApiLsKey.enc vs1.Tree.Keys), .psl 1 (List.map (encInt .i64) vs1.Tree.Lose), .int .i64 vs1.Tree.Win]] })], 408, []⟩) [] (Nat.le_of_ble_eq_true rfl) ⟨rF, rE, rfl, rfl, trivial, trivial⟩ ?_
   obtain ⟨e8, he8, h0⟩ := bindS h0
   obtain ⟨he8a, he8b, he8c⟩ := idxS he8
   refine awp_sr2 496 [0, 1] (fun _ => none) rfl (fun _ _ => rS (rA he8a (rA he8b he8c))) ?_
   refine awp_re (s2 := ⟨[(0, .ref 224 0 0 0), (1, .int .i64 vr6.2.1)], [(0, { g := 0, own := true, pure := true, sz := 5, es := [[.psl 1 (List.map (encSl 4 TApiEntry.enc) vs1.Runs), .psl 1 (List.map (encInt .i64) vs1.At), .psl 2 (List.map TApiLsKey.enc vs1.Tree.Keys), .psl 1 (List.map (encInt .i64) vs1.Tree.Lose), .int .i64 vs1.Tree.Win]] }), (8, { g := 0, own := true, pure := true, sz := 4, es := [[.str vr6.1.Key, .str vr6.1.Val, .bool vr6.1.Dead, .int .i64 vr6.1.Seq]] }), (24, { g := 0, own := true, pure := true, sz := 5, es := [[.nils, .nils, .nils, .nils, .int .i64 0]] }), (184, { g := 0, own := true, pure := true, sz := 1, es := List.map (encInt .i64) (vr5.set vr6.2.1.toNat (IntKind.i64.wrap (e8 + 1))) }), (224, { g := 0, own := true, pure := false, sz := 5, es := [[.psl 1 (List.map (encSl 4 TApiEntry.enc) vr4), .sl 184 0 1 0 ((vr5.set vr6.2.1.toNat (IntKind.i64.wrap (e8 + 1))).length), .psl 2 (List.map TApiLsKey.enc vs1.Tree.Keys), .psl 1 (List.map (encInt .i64) vs1.Tree.Lose), .int .i64 vs1.Tree.Win]] })], 496, []⟩) [] (Nat.le_of_ble_eq_true rfl) ⟨rF, rE, rfl, rfl, trivial, trivial⟩ ?_
   obtain ⟨e9, he9, h0⟩ := bindS h0
   obtain ⟨he9a, he9b, he9c⟩ := idxS he9
   obtain ⟨e10, he10, h0⟩ := bindS h0
   obtain ⟨he10a, he10b, he10c⟩ := idxS he10
   obtain ⟨vr11, hvr11, h0⟩ := bindS h0
   obtain ⟨vr12, hvr12, h0⟩ := bindS h0
   refine awp_d2 752 [] (fun | 22 => some (.agg (TApiLsKey.enc vr11), []) | 23 => some (.tup [.agg [.psl 2 (List.map TApiLsKey.enc vr12.1.Keys), .sl 0 0 1 0 vr12.1.Lose.length, .int .i64 vr12.1.Win], .int .i64 vr12.2.1, .int .i64 vr12.2.2], [{ g := 0, own := true, pure := true, sz := 1, es := vr12.1.Lose.map (encInt .i64) }]) | _ => none) rfl rfl rfl (fun Kt hK => by
     try have q0 := c_merge_next hvr11
     try have q1 := c_loser_Replace_2 hvr12
     exact rSd (rA he8a (rA he8b (rA he8c (rA he9a (rA he9b (rA he9c (rA he10a (rA he10b he10c))))))))) ?_
   refine leave_endK (fun Kt hK => by simp (maxSteps := 1000000) only [↓reduceIte, reduceCtorEq, Nat.reduceEqDiff, Nat.reduceLT, Nat.reduceLeDiff, Nat.reduceAdd, Nat.reduceMul, Int.reduceToNat, push_cast, he8a, he8b, he8c, he9a, he9b, he9c, he10a, he10b, he10c]; exact hK) ?_
   refine awpo_re (s2 := ⟨[(2, .ref 8 0 0 0), (3, .int .i64 vr6.2.1), (4, .ref 24 0 0 0), (5, .int .i64 vr6.2.2), (6, .ref 224 0 0 0), (24, .bool (!(decide (vr6.2.2 = 0)))), (28, .ref 224 0 0 0), (29, .int .i64 vr6.2.1), (30, .tup [])], [(0, { g := 0, own := true, pure := true, sz := 5, es := [[.psl 1 (List.map (encSl 4 TApiEntry.enc) vs1.Runs), .psl 1 (List.map (encInt .i64) vs1.At), .psl 2 (List.map TApiLsKey.enc vs1.Tree.Keys), .psl 1 (List.map (encInt .i64) vs1.Tree.Lose), .int .i64 vs1.Tree.Win]] }), (8, { g := 0, own := true, pure := true, sz := 4, es := [[.str vr6.1.Key, .str vr6.1.Val, .bool vr6.1.Dead, .int .i64 vr6.1.Seq]] }), (24, { g := 0, own := true, pure := true, sz := 5, es := [[.nils, .nils, .nils, .nils, .int .i64 0]] }), (184, { g := 0, own := true, pure := true, sz := 1, es := List.map (encInt .i64) (vr5.set vr6.2.1.toNat (IntKind.i64.wrap (e8 + 1))) }), (224, { g := 0, own := true, pure := false, sz := 5, es := [[.psl 1 (List.map (encSl 4 TApiEntry.enc) vr4), .sl 184 0 1 0 ((vr5.set vr6.2.1.toNat (IntKind.i64.wrap (e8 + 1))).length), .psl 2 (List.map TApiLsKey.enc vr12.1.Keys), .sl 680 0 1 0 vr12.1.Lose.length, .int .i64 vr12.1.Win]] }), (680, { g := 0, own := true, pure := true, sz := 1, es := List.map (encInt .i64) vr12.1.Lose })], 752, []⟩) [] (Nat.le_of_ble_eq_true rfl) ⟨rF, rE, rfl, rfl, trivial, trivial⟩ ?_
   refine awpo_cut (l' := []) rfl ?_
   refine awpo_nil ?_
   refine kn_then ?_
   refine awp_re (s2 := ⟨[(2, .ref 8 0 0 0), (3, .int .i64 vr6.2.1), (4, .ref 24 0 0 0), (6, .ref 224 0 0 0)], [(0, { g := 0, own := true, pure := true, sz := 5, es := [[.psl 1 (List.map (encSl 4 TApiEntry.enc) vs1.Runs), .psl 1 (List.map (encInt .i64) vs1.At), .psl 2 (List.map TApiLsKey.enc vs1.Tree.Keys), .psl 1 (List.map (encInt .i64) vs1.Tree.Lose), .int .i64 vs1.Tree.Win]] }), (8, { g := 0, own := true, pure := true, sz := 4, es := [[.str vr6.1.Key, .str vr6.1.Val, .bool vr6.1.Dead, .int .i64 vr6.1.Seq]] }), (24, { g := 0, own := true, pure := true, sz := 5, es := [[.nils, .nils, .nils, .nils, .int .i64 0]] }), (184, { g := 0, own := true, pure := true, sz := 1, es := List.map (encInt .i64) (vr5.set vr6.2.1.toNat (IntKind.i64.wrap (e8 + 1))) }), (224, { g := 0, own := true, pure := false, sz := 5, es := [[.psl 1 (List.map (encSl 4 TApiEntry.enc) vr4), .sl 184 0 1 0 ((vr5.set vr6.2.1.toNat (IntKind.i64.wrap (e8 + 1))).length), .psl 2 (List.map TApiLsKey.enc vr12.1.Keys), .sl 680 0 1 0 vr12.1.Lose.length, .int .i64 vr12.1.Win]] }), (680, { g := 0, own := true, pure := true, sz := 1, es := List.map (encInt .i64) vr12.1.Lose })], 752, []⟩) [] (Nat.le_of_ble_eq_true rfl) ⟨rF, rE, rfl, rfl, trivial, trivial⟩ ?_
   refine awp_sd2 832 [2, 3, 4, 5] (fun _ => none) rfl rfl rfl (fun _ _ => rSd (rA he8a (rA he8b (rA he8c (rA he9a (rA he9b (rA he9c (rA he10a (rA he10b he10c))))))))) ?_
   refine awp_ret ?_
   obtain rfl := Option.some.inj h0
   refine leave_retG [184, 680] ?_
   simp (maxSteps := 1000000) only [↓reduceIte, reduceCtorEq, Nat.reduceEqDiff, Nat.reduceLT, Nat.reduceLeDiff, Nat.reduceAdd, Nat.reduceMul, Int.reduceToNat, push_cast, Gives, he8a, he8b, he8c, he9a, he9b, he9c, he10a, he10b, he10c]
   all_goals exact rH
end Go.T
end
section
/- The program computes them. -/
namespace Go.T
open Go Go.AM Go.Proofs
set_option maxRecDepth 100000
set_option maxHeartbeats 4000000
set_option linter.unusedVariables false
theorem c_bookendlaw11_MergeOwn {fu : Nat} {runs1 : List (List TApiEntry)} {key2 : List UInt8} {r : Bool} (h0 : bookendlaw11_MergeOwn fu runs1 key2 = some r) : PCall Try.prog 6 [.psl 1 (runs1.map (encSl 4 TApiEntry.enc)), .str key2] (.bool r) [] := by
 refine awp_pcall Try.func6 rfl (by decide) (Nat.le_of_ble_eq_true rfl) ?_
 dsimp only [Try.f6]
 rw [bookendlaw11_MergeOwn] at h0
 refine (show AWP _ _ _ _ ⟨enumFr 0 _, [], 0, []⟩ from ?_)
 refine awp_sr2 8 [0, 1] (fun _ => none) rfl (fun _ _ => rT) ?_
 refine awp_seq ?_
 obtain ⟨vr3, hvr3, h0⟩ := bindS h0
 obtain ⟨b4, hb4, h0⟩ := bindS h0
 refine awp_sr3 (fr' := [(0, .psl 1 (List.map (encSl 4 TApiEntry.enc) runs1)), (1, .str key2), (26, .bool b4)]) (hp' := []) [] 64 [0, 1, 26] (fun | 1 => some (.bool vr3, []) | _ => none) rfl (fun Kt hK => by
   cases vr3 with
   | false =>
    replace hb4 := iteF hb4 rfl
    have hqb4 := Option.some.inj hb4
    subst hqb4
    try have q0 := c_bookendlaw11_Far hvr3
    exact rT
   | true =>
    replace hb4 := iteT hb4 rfl
    have hqb4 := Option.some.inj hb4
    subst hqb4
    try have q0 := c_bookendlaw11_Far hvr3
    exact rT) ?_
 refine awp_if rfl (fun hb6 => ?_) (fun hb6 => ?_)
 ·
  replace h0 := iteT h0 hb6
  obtain ⟨vr7, hvr7, h0⟩ := bindS h0
  refine awp_sr2 80 [4] (fun | 0 => some (.bool vr7, []) | _ => none) rfl (fun _ _ => rC (c_bookendlaw11_awake hvr7)) ?_
  refine awp_ret ?_
  refine kr_then ?_
  obtain rfl := Option.some.inj h0
  refine leave_retG [] ?_
  exact rG
 ·
  replace h0 := iteF h0 hb6
  refine awp_skip ?_
  refine kn_then ?_
  obtain ⟨vr8, hvr8, h0⟩ := bindS h0
  refine awp_sr2 144 [0, 1, 5, 7] (fun | 1 => some (.tup [.agg (TApiMgState.enc vr8.1), .int .i64 vr8.2.1, .int .i64 vr8.2.2], []) | _ => none) rfl (fun _ _ => rC (c_merge_Begin hvr8)) ?_
  refine awp_seq ?_
  refine awp_sr2 160 [0, 1, 5, 35] (fun _ => none) rfl (fun _ _ => rT) ?_
  refine awp_if rfl (fun hb9 => ?_) (fun hb9 => ?_)
  ·
   replace h0 := iteT h0 hb9
   obtain ⟨vr10, hvr10, h0⟩ := bindS h0
   refine awp_sr2 176 [4] (fun | 0 => some (.bool vr10, []) | _ => none) rfl (fun _ _ => rC (c_bookendlaw11_awake hvr10)) ?_
   refine awp_ret ?_
   refine kr_then ?_
   obtain rfl := Option.some.inj h0
   refine leave_retG [] ?_
   exact rG
  ·
   replace h0 := iteF h0 hb9
   refine awp_skip ?_
   refine kn_then ?_
   obtain ⟨vr11, hvr11, h0⟩ := bindS h0
   refine awp_sr2 240 [1, 5, 8] (fun | 1 => some (.tup [.agg (TApiMgState.enc vr11.1), .int .i64 vr11.2.1, .int .i64 vr11.2.2], []) | _ => none) rfl (fun _ _ => rC (c_bookendref11_Begin hvr11)) ?_
   obtain ⟨vr12, hvr12, h0⟩ := bindS h0
   refine awp_sr2 344 [1, 5, 8, 13, 14] (fun | 1 => some (.tup [.agg [.str vr12.1.Key, .str vr12.1.Val, .bool vr12.1.Dead, .int .i64 vr12.1.Seq], .int .i64 vr12.2.1, .agg [.psl 1 (List.map (encSl 4 TApiEntry.enc) vr12.2.2.1.Runs), .sl 0 0 1 0 vr12.2.2.1.At.length, .psl 2 (List.map TApiLsKey.enc vr12.2.2.1.Tree.Keys), .sl 1 0 1 0 vr12.2.2.1.Tree.Lose.length, .int .i64 vr12.2.2.1.Tree.Win], .int .i64 vr12.2.2.2], [{ g := 0, own := true, pure := true, sz := 1, es := vr12.2.2.1.At.map (encInt .i64) }, { g := 0, own := true, pure := true, sz := 1, es := vr12.2.2.1.Tree.Lose.map (encInt .i64) }]) | _ => none) rfl (fun _ _ => rC (c_merge_Next_3 hvr12)) ?_
   obtain ⟨vr13, hvr13, h0⟩ := bindS h0
   refine awp_sr2 416 [5, 8, 13, 14, 15, 16] (fun | 2 => some (.tup [.agg [.psl 1 (List.map (encSl 4 TApiEntry.enc) vr13.1.Runs), .sl 0 0 1 0 vr13.1.At.length, .psl 2 (List.map TApiLsKey.enc vr13.1.Tree.Keys), .psl 1 (List.map (encInt .i64) vr13.1.Tree.Lose), .int .i64 vr13.1.Tree.Win], .int .i64 vr13.2], [{ g := 0, own := true, pure := true, sz := 1, es := vr13.1.At.map (encInt .i64) }]) | _ => none) rfl (fun _ _ => rC (c_merge_Skip_2 hvr13)) ?_
   refine awp_seq ?_
   obtain ⟨vr14, hvr14, h0⟩ := bindS h0
   obtain ⟨b15, hb15, h0⟩ := bindS h0
   refine awp_sr3 (fr' := [(5, .ref 112 0 0 0), (8, .ref 208 0 0 0), (13, .ref 304 0 0 0), (14, .int .i64 vr12.2.2.2), (15, .ref 392 0 0 0), (63, .bool b15)]) (hp' := [(112, { g := 0, own := true, pure := true, sz := 5, es := [[.psl 1 (List.map (encSl 4 TApiEntry.enc) vr8.1.Runs), .psl 1 (List.map (encInt .i64) vr8.1.At), .psl 2 (List.map TApiLsKey.enc vr8.1.Tree.Keys), .psl 1 (List.map (encInt .i64) vr8.1.Tree.Lose), .int .i64 vr8.1.Tree.Win]] }), (208, { g := 0, own := true, pure := true, sz := 5, es := [[.psl 1 (List.map (encSl 4 TApiEntry.enc) vr11.1.Runs), .psl 1 (List.map (encInt .i64) vr11.1.At), .psl 2 (List.map TApiLsKey.enc vr11.1.Tree.Keys), .psl 1 (List.map (encInt .i64) vr11.1.Tree.Lose), .int .i64 vr11.1.Tree.Win]] }), (248, { g := 0, own := true, pure := true, sz := 1, es := List.map (encInt .i64) vr12.2.2.1.At }), (249, { g := 0, own := true, pure := true, sz := 1, es := List.map (encInt .i64) vr12.2.2.1.Tree.Lose }), (296, { g := 0, own := true, pure := true, sz := 4, es := [[.str vr12.1.Key, .str vr12.1.Val, .bool vr12.1.Dead, .int .i64 vr12.1.Seq]] }), (304, { g := 0, own := true, pure := false, sz := 5, es := [[.psl 1 (List.map (encSl 4 TApiEntry.enc) vr12.2.2.1.Runs), .sl 248 0 1 0 vr12.2.2.1.At.length, .psl 2 (List.map TApiLsKey.enc vr12.2.2.1.Tree.Keys), .sl 249 0 1 0 vr12.2.2.1.Tree.Lose.length, .int .i64 vr12.2.2.1.Tree.Win]] }), (360, { g := 0, own := true, pure := true, sz := 1, es := List.map (encInt .i64) vr13.1.At }), (392, { g := 0, own := true, pure := false, sz := 5, es := [[.psl 1 (List.map (encSl 4 TApiEntry.enc) vr13.1.Runs), .sl 360 0 1 0 vr13.1.At.length, .psl 2 (List.map TApiLsKey.enc vr13.1.Tree.Keys), .psl 1 (List.map (encInt .i64) vr13.1.Tree.Lose), .int .i64 vr13.1.Tree.Win]] })]) [112, 208, 248, 249, 296, 304, 360, 392] 480 [5, 8, 13, 14, 15, 63] (fun | 2 => some (.bool vr14, []) | _ => none) rfl (fun Kt hK => by
     cases hg16 : (!vr14) with
     | false =>
      replace hb15 := iteF hb15 hg16
      have hqb15 := Option.some.inj hb15
      subst hqb15
      simp (maxSteps := 1000000) only [↓reduceIte, reduceCtorEq, Nat.reduceEqDiff, Nat.reduceLT, Nat.reduceLeDiff, Nat.reduceAdd, Nat.reduceMul, Int.reduceToNat, push_cast, ↓hg16]
      try simp only [↓hg16] at hK
      try have q0 := c_bookendref11_Same hvr14
      all_goals exact rU
     | true =>
      replace hb15 := iteT hb15 hg16
      have hqb15 := Option.some.inj hb15
      subst hqb15
      simp (maxSteps := 1000000) only [↓reduceIte, reduceCtorEq, Nat.reduceEqDiff, Nat.reduceLT, Nat.reduceLeDiff, Nat.reduceAdd, Nat.reduceMul, Int.reduceToNat, push_cast, ↓hg16]
      try simp only [↓hg16] at hK
      try have q0 := c_bookendref11_Same hvr14
      all_goals exact rU) ?_
   refine awp_if rfl (fun hb17 => ?_) (fun hb17 => ?_)
   ·
    replace h0 := iteT h0 hb17
    refine awp_sr2 488 [4] (fun _ => none) rfl (fun _ _ => rT) ?_
    refine awp_ret ?_
    refine kr_then ?_
    obtain rfl := Option.some.inj h0
    refine leave_retG [] ?_
    exact rG
   ·
    replace h0 := iteF h0 hb17
    refine awp_skip ?_
    refine kn_then ?_
    refine awp_seq ?_
    refine awp_sr2 488 [5, 8, 13, 14, 15, 17] (fun _ => none) rfl (fun _ _ => rT) ?_
    obtain ⟨x25, hxx25, h0⟩ := bindS h0
    refine awp_bloop (fun s' => ∃ g31 : Nat, s'.nx ≤ 528 ∧ LeN [] s' ⟨[(5, .ref 112 0 0 0), (8, .ref 208 0 0 0), (13, .ref 304 0 0 0), (14, .int .i64 vr12.2.2.2)], [(112, { g := 0, own := true, pure := true, sz := 5, es := [[.psl 1 (List.map (encSl 4 TApiEntry.enc) vr8.1.Runs), .psl 1 (List.map (encInt .i64) vr8.1.At), .psl 2 (List.map TApiLsKey.enc vr8.1.Tree.Keys), .psl 1 (List.map (encInt .i64) vr8.1.Tree.Lose), .int .i64 vr8.1.Tree.Win]] }), (208, { g := 0, own := true, pure := true, sz := 5, es := [[.psl 1 (List.map (encSl 4 TApiEntry.enc) vr11.1.Runs), .psl 1 (List.map (encInt .i64) vr11.1.At), .psl 2 (List.map TApiLsKey.enc vr11.1.Tree.Keys), .psl 1 (List.map (encInt .i64) vr11.1.Tree.Lose), .int .i64 vr11.1.Tree.Win]] }), (248, { g := 0, own := true, pure := true, sz := 1, es := List.map (encInt .i64) vr12.2.2.1.At }), (249, { g := 0, own := true, pure := true, sz := 1, es := List.map (encInt .i64) vr12.2.2.1.Tree.Lose }), (296, { g := 0, own := true, pure := true, sz := 4, es := [[.str vr12.1.Key, .str vr12.1.Val, .bool vr12.1.Dead, .int .i64 vr12.1.Seq]] }), (304, { g := 0, own := true, pure := false, sz := 5, es := [[.psl 1 (List.map (encSl 4 TApiEntry.enc) vr12.2.2.1.Runs), .sl 248 0 1 0 vr12.2.2.1.At.length, .psl 2 (List.map TApiLsKey.enc vr12.2.2.1.Tree.Keys), .sl 249 0 1 0 vr12.2.2.1.Tree.Lose.length, .int .i64 vr12.2.2.1.Tree.Win]] }), (360, { g := g31, own := true, pure := true, sz := 1, es := List.map (encInt .i64) x25 }), (392, { g := 0, own := true, pure := false, sz := 5, es := [[.psl 1 (List.map (encSl 4 TApiEntry.enc) vr13.1.Runs), .sl 360 g31 1 0 x25.length, .psl 2 (List.map TApiLsKey.enc vr13.1.Tree.Keys), .psl 1 (List.map (encInt .i64) vr13.1.Tree.Lose), .int .i64 vr13.1.Tree.Win]] })], 528, []⟩) ?_ ?_
    ·
     intro s' hs
     obtain ⟨g31, hn, hs⟩ := hs
     refine kn_then ?_
     refine awp_re [] hn hs ?_
     refine awp_seq ?_
     refine awp_sr2 536 [5, 8, 13, 14, 18] (fun _ => none) rfl (fun _ _ => rT) ?_
     obtain ⟨x43, hxx43, h0⟩ := bindS h0
     refine awp_bloop (fun s' => ∃ g51 : Nat, s'.nx ≤ 608 ∧ LeN [] s' ⟨[(5, .ref 112 0 0 0), (8, .ref 208 0 0 0), (13, .ref 304 0 0 0), (14, .int .i64 vr12.2.2.2)], [(112, { g := 0, own := true, pure := true, sz := 5, es := [[.psl 1 (List.map (encSl 4 TApiEntry.enc) vr8.1.Runs), .psl 1 (List.map (encInt .i64) vr8.1.At), .psl 2 (List.map TApiLsKey.enc vr8.1.Tree.Keys), .psl 1 (List.map (encInt .i64) vr8.1.Tree.Lose), .int .i64 vr8.1.Tree.Win]] }), (208, { g := 0, own := true, pure := true, sz := 5, es := [[.psl 1 (List.map (encSl 4 TApiEntry.enc) vr11.1.Runs), .psl 1 (List.map (encInt .i64) vr11.1.At), .psl 2 (List.map TApiLsKey.enc vr11.1.Tree.Keys), .psl 1 (List.map (encInt .i64) vr11.1.Tree.Lose), .int .i64 vr11.1.Tree.Win]] }), (248, { g := g51, own := true, pure := true, sz := 1, es := List.map (encInt .i64) x43 }), (249, { g := 0, own := true, pure := true, sz := 1, es := List.map (encInt .i64) vr12.2.2.1.Tree.Lose }), (296, { g := 0, own := true, pure := true, sz := 4, es := [[.str vr12.1.Key, .str vr12.1.Val, .bool vr12.1.Dead, .int .i64 vr12.1.Seq]] }), (304, { g := 0, own := true, pure := false, sz := 5, es := [[.psl 1 (List.map (encSl 4 TApiEntry.enc) vr12.2.2.1.Runs), .sl 248 g51 1 0 x43.length, .psl 2 (List.map TApiLsKey.enc vr12.2.2.1.Tree.Keys), .sl 249 0 1 0 vr12.2.2.1.Tree.Lose.length, .int .i64 vr12.2.2.1.Tree.Win]] }), (360, { g := g31, own := true, pure := true, sz := 1, es := List.map (encInt .i64) x25 }), (392, { g := 0, own := true, pure := false, sz := 5, es := [[.psl 1 (List.map (encSl 4 TApiEntry.enc) vr13.1.Runs), .sl 360 g31 1 0 x25.length, .psl 2 (List.map TApiLsKey.enc vr13.1.Tree.Keys), .psl 1 (List.map (encInt .i64) vr13.1.Tree.Lose), .int .i64 vr13.1.Tree.Win]] })], 608, []⟩) ?_ ?_
     ·
      intro s' hs
      obtain ⟨g51, hn, hs⟩ := hs
      refine kn_then ?_
      refine awp_re [] hn hs ?_
      refine awp_seq ?_
      refine awp_sr2 616 [5, 8, 13, 14, 19] (fun _ => none) rfl (fun _ _ => rT) ?_
      obtain ⟨x63, hxx63, h0⟩ := bindS h0
      refine awp_bloop (fun s' => ∃ g71 : Nat, s'.nx ≤ 696 ∧ LeN [] s' ⟨[(5, .ref 112 0 0 0), (8, .ref 208 0 0 0)], [(112, { g := 0, own := true, pure := true, sz := 5, es := [[.psl 1 (List.map (encSl 4 TApiEntry.enc) vr8.1.Runs), .psl 1 (List.map (encInt .i64) vr8.1.At), .psl 2 (List.map TApiLsKey.enc vr8.1.Tree.Keys), .psl 1 (List.map (encInt .i64) vr8.1.Tree.Lose), .int .i64 vr8.1.Tree.Win]] }), (208, { g := 0, own := true, pure := true, sz := 5, es := [[.psl 1 (List.map (encSl 4 TApiEntry.enc) vr11.1.Runs), .psl 1 (List.map (encInt .i64) vr11.1.At), .psl 2 (List.map TApiLsKey.enc vr11.1.Tree.Keys), .psl 1 (List.map (encInt .i64) vr11.1.Tree.Lose), .int .i64 vr11.1.Tree.Win]] }), (248, { g := g51, own := true, pure := true, sz := 1, es := List.map (encInt .i64) x43 }), (249, { g := g71, own := true, pure := true, sz := 1, es := List.map (encInt .i64) x63 }), (296, { g := 0, own := true, pure := true, sz := 4, es := [[.str vr12.1.Key, .str vr12.1.Val, .bool vr12.1.Dead, .int .i64 vr12.1.Seq]] }), (304, { g := 0, own := true, pure := false, sz := 5, es := [[.psl 1 (List.map (encSl 4 TApiEntry.enc) vr12.2.2.1.Runs), .sl 248 g51 1 0 x43.length, .psl 2 (List.map TApiLsKey.enc vr12.2.2.1.Tree.Keys), .sl 249 g71 1 0 x63.length, .int .i64 vr12.2.2.1.Tree.Win]] }), (360, { g := g31, own := true, pure := true, sz := 1, es := List.map (encInt .i64) x25 }), (392, { g := 0, own := true, pure := false, sz := 5, es := [[.psl 1 (List.map (encSl 4 TApiEntry.enc) vr13.1.Runs), .sl 360 g31 1 0 x25.length, .psl 2 (List.map TApiLsKey.enc vr13.1.Tree.Keys), .psl 1 (List.map (encInt .i64) vr13.1.Tree.Lose), .int .i64 vr13.1.Tree.Win]] })], 696, []⟩) ?_ ?_
      ·
       intro s' hs
       obtain ⟨g71, hn, hs⟩ := hs
       refine kn_then ?_
       refine awp_re [] hn hs ?_
       obtain ⟨vr72, hvr72, h0⟩ := bindS h0
       obtain ⟨b74, hb74, h0⟩ := bindS h0
       refine awp_sr3 (fr' := [(4, .bool b74)]) (hp' := [(112, { g := 0, own := true, pure := true, sz := 5, es := [[.psl 1 (List.map (encSl 4 TApiEntry.enc) vr8.1.Runs), .psl 1 (List.map (encInt .i64) vr8.1.At), .psl 2 (List.map TApiLsKey.enc vr8.1.Tree.Keys), .psl 1 (List.map (encInt .i64) vr8.1.Tree.Lose), .int .i64 vr8.1.Tree.Win]] }), (208, { g := 0, own := true, pure := true, sz := 5, es := [[.psl 1 (List.map (encSl 4 TApiEntry.enc) vr11.1.Runs), .psl 1 (List.map (encInt .i64) vr11.1.At), .psl 2 (List.map TApiLsKey.enc vr11.1.Tree.Keys), .psl 1 (List.map (encInt .i64) vr11.1.Tree.Lose), .int .i64 vr11.1.Tree.Win]] }), (248, { g := g51, own := true, pure := true, sz := 1, es := List.map (encInt .i64) x43 }), (249, { g := g71, own := true, pure := true, sz := 1, es := List.map (encInt .i64) x63 }), (296, { g := 0, own := true, pure := true, sz := 4, es := [[.str vr12.1.Key, .str vr12.1.Val, .bool vr12.1.Dead, .int .i64 vr12.1.Seq]] }), (304, { g := 0, own := true, pure := false, sz := 5, es := [[.psl 1 (List.map (encSl 4 TApiEntry.enc) vr12.2.2.1.Runs), .sl 248 g51 1 0 x43.length, .psl 2 (List.map TApiLsKey.enc vr12.2.2.1.Tree.Keys), .sl 249 g71 1 0 x63.length, .int .i64 vr12.2.2.1.Tree.Win]] }), (360, { g := g31, own := true, pure := true, sz := 1, es := List.map (encInt .i64) x25 }), (392, { g := 0, own := true, pure := false, sz := 5, es := [[.psl 1 (List.map (encSl 4 TApiEntry.enc) vr13.1.Runs), .sl 360 g31 1 0 x25.length, .psl 2 (List.map TApiLsKey.enc vr13.1.Tree.Keys), .psl 1 (List.map (encInt .i64) vr13.1.Tree.Lose), .int .i64 vr13.1.Tree.Win]] })]) [112, 208, 248, 249, 296, 304, 360, 392] 752 [4] (fun | 2 => some (.bool vr72, []) | 4 => (bookendlaw11_awake fu).bind fun vr73 => some (.bool vr73, []) | _ => none) rfl (fun Kt hK => by
         cases vr72 with
         | false =>
          replace hb74 := iteF hb74 rfl
          have hqb74 := Option.some.inj hb74
          subst hqb74
          try have q0 := c_bookendref11_Same hvr72
          try have q1 := c_bookendlaw11_awake hvr73
          exact rT
         | true =>
          replace hb74 := iteT hb74 rfl
          obtain ⟨vr73, hvr73, hb74⟩ := bindS hb74
          have hqb74 := Option.some.inj hb74
          subst hqb74
          try have q0 := c_bookendref11_Same hvr72
          try have q1 := c_bookendlaw11_awake hvr73
          exact rS hvr73) ?_
       refine awp_ret ?_
       obtain rfl := Option.some.inj h0
       refine leave_retG [] ?_
       exact rG
      ·
       refine awp_loopF (ι := { p : Nat × Int × List Int × Nat // bookendlaw11_MergeOwn_l3 vr12 p.1 p.2.1 p.2.2.1 = some x63 }) (fun p => ⟨[(5, .ref 112 0 0 0), (8, .ref 208 0 0 0), (13, .ref 304 0 0 0), (14, .int .i64 vr12.2.2.2), (19, .int .i64 p.1.2.1)], [(112, { g := 0, own := true, pure := true, sz := 5, es := [[.psl 1 (List.map (encSl 4 TApiEntry.enc) vr8.1.Runs), .psl 1 (List.map (encInt .i64) vr8.1.At), .psl 2 (List.map TApiLsKey.enc vr8.1.Tree.Keys), .psl 1 (List.map (encInt .i64) vr8.1.Tree.Lose), .int .i64 vr8.1.Tree.Win]] }), (208, { g := 0, own := true, pure := true, sz := 5, es := [[.psl 1 (List.map (encSl 4 TApiEntry.enc) vr11.1.Runs), .psl 1 (List.map (encInt .i64) vr11.1.At), .psl 2 (List.map TApiLsKey.enc vr11.1.Tree.Keys), .psl 1 (List.map (encInt .i64) vr11.1.Tree.Lose), .int .i64 vr11.1.Tree.Win]] }), (248, { g := g51, own := true, pure := true, sz := 1, es := List.map (encInt .i64) x43 }), (249, { g := p.1.2.2.2, own := true, pure := true, sz := 1, es := List.map (encInt .i64) p.1.2.2.1 }), (296, { g := 0, own := true, pure := true, sz := 4, es := [[.str vr12.1.Key, .str vr12.1.Val, .bool vr12.1.Dead, .int .i64 vr12.1.Seq]] }), (304, { g := 0, own := true, pure := false, sz := 5, es := [[.psl 1 (List.map (encSl 4 TApiEntry.enc) vr12.2.2.1.Runs), .sl 248 g51 1 0 x43.length, .psl 2 (List.map TApiLsKey.enc vr12.2.2.1.Tree.Keys), .sl 249 p.1.2.2.2 1 0 p.1.2.2.1.length, .int .i64 vr12.2.2.1.Tree.Win]] }), (360, { g := g31, own := true, pure := true, sz := 1, es := List.map (encInt .i64) x25 }), (392, { g := 0, own := true, pure := false, sz := 5, es := [[.psl 1 (List.map (encSl 4 TApiEntry.enc) vr13.1.Runs), .sl 360 g31 1 0 x25.length, .psl 2 (List.map TApiLsKey.enc vr13.1.Tree.Keys), .psl 1 (List.map (encInt .i64) vr13.1.Tree.Lose), .int .i64 vr13.1.Tree.Win]] })], 616, []⟩) (fun p => p.1.1) ⟨(fu, 0, vr12.2.2.1.Tree.Lose, 0), hxx63⟩ ⟨rF, rE, rfl, rfl, trivial, trivial⟩ (fun _ => Nat.le_refl _) ?_
       rintro ⟨⟨fu, i64, v65, g66⟩, h1⟩
       cases fu with
       | zero =>
   replace h1 : bookendlaw11_MergeOwn_l3 vr12 0 i64 v65 = some x63 := h1
   rw [bookendlaw11_MergeOwn_l3] at h1; cases h1
       | succ fu =>
        replace h1 : bookendlaw11_MergeOwn_l3 vr12 (fu + 1) i64 v65 = some x63 := h1
        rw [bookendlaw11_MergeOwn_l3] at h1
        refine (show AWP _ _ _ _ ⟨[(5, .ref 112 0 0 0), (8, .ref 208 0 0 0), (13, .ref 304 0 0 0), (14, .int .i64 vr12.2.2.2), (19, .int .i64 i64)], [(112, { g := 0, own := true, pure := true, sz := 5, es := [[.psl 1 (List.map (encSl 4 TApiEntry.enc) vr8.1.Runs), .psl 1 (List.map (encInt .i64) vr8.1.At), .psl 2 (List.map TApiLsKey.enc vr8.1.Tree.Keys), .psl 1 (List.map (encInt .i64) vr8.1.Tree.Lose), .int .i64 vr8.1.Tree.Win]] }), (208, { g := 0, own := true, pure := true, sz := 5, es := [[.psl 1 (List.map (encSl 4 TApiEntry.enc) vr11.1.Runs), .psl 1 (List.map (encInt .i64) vr11.1.At), .psl 2 (List.map TApiLsKey.enc vr11.1.Tree.Keys), .psl 1 (List.map (encInt .i64) vr11.1.Tree.Lose), .int .i64 vr11.1.Tree.Win]] }), (248, { g := g51, own := true, pure := true, sz := 1, es := List.map (encInt .i64) x43 }), (249, { g := g66, own := true, pure := true, sz := 1, es := List.map (encInt .i64) v65 }), (296, { g := 0, own := true, pure := true, sz := 4, es := [[.str vr12.1.Key, .str vr12.1.Val, .bool vr12.1.Dead, .int .i64 vr12.1.Seq]] }), (304, { g := 0, own := true, pure := false, sz := 5, es := [[.psl 1 (List.map (encSl 4 TApiEntry.enc) vr12.2.2.1.Runs), .sl 248 g51 1 0 x43.length, .psl 2 (List.map TApiLsKey.enc vr12.2.2.1.Tree.Keys), .sl 249 g66 1 0 v65.length, .int .i64 vr12.2.2.1.Tree.Win]] }), (360, { g := g31, own := true, pure := true, sz := 1, es := List.map (encInt .i64) x25 }), (392, { g := 0, own := true, pure := false, sz := 5, es := [[.psl 1 (List.map (encSl 4 TApiEntry.enc) vr13.1.Runs), .sl 360 g31 1 0 x25.length, .psl 2 (List.map TApiLsKey.enc vr13.1.Tree.Keys), .psl 1 (List.map (encInt .i64) vr13.1.Tree.Lose), .int .i64 vr13.1.Tree.Win]] })], 616, []⟩ from ?_)
        refine awp_seq ?_
        obtain ⟨b67, hb67, h1⟩ := bindS h1
        refine awp_sr3 (fr' := [(5, .ref 112 0 0 0), (8, .ref 208 0 0 0), (13, .ref 304 0 0 0), (14, .int .i64 vr12.2.2.2), (19, .int .i64 i64), (99, .bool b67)]) (hp' := [(112, { g := 0, own := true, pure := true, sz := 5, es := [[.psl 1 (List.map (encSl 4 TApiEntry.enc) vr8.1.Runs), .psl 1 (List.map (encInt .i64) vr8.1.At), .psl 2 (List.map TApiLsKey.enc vr8.1.Tree.Keys), .psl 1 (List.map (encInt .i64) vr8.1.Tree.Lose), .int .i64 vr8.1.Tree.Win]] }), (208, { g := 0, own := true, pure := true, sz := 5, es := [[.psl 1 (List.map (encSl 4 TApiEntry.enc) vr11.1.Runs), .psl 1 (List.map (encInt .i64) vr11.1.At), .psl 2 (List.map TApiLsKey.enc vr11.1.Tree.Keys), .psl 1 (List.map (encInt .i64) vr11.1.Tree.Lose), .int .i64 vr11.1.Tree.Win]] }), (248, { g := g51, own := true, pure := true, sz := 1, es := List.map (encInt .i64) x43 }), (249, { g := g66, own := true, pure := true, sz := 1, es := List.map (encInt .i64) v65 }), (296, { g := 0, own := true, pure := true, sz := 4, es := [[.str vr12.1.Key, .str vr12.1.Val, .bool vr12.1.Dead, .int .i64 vr12.1.Seq]] }), (304, { g := 0, own := true, pure := false, sz := 5, es := [[.psl 1 (List.map (encSl 4 TApiEntry.enc) vr12.2.2.1.Runs), .sl 248 g51 1 0 x43.length, .psl 2 (List.map TApiLsKey.enc vr12.2.2.1.Tree.Keys), .sl 249 g66 1 0 v65.length, .int .i64 vr12.2.2.1.Tree.Win]] }), (360, { g := g31, own := true, pure := true, sz := 1, es := List.map (encInt .i64) x25 }), (392, { g := 0, own := true, pure := false, sz := 5, es := [[.psl 1 (List.map (encSl 4 TApiEntry.enc) vr13.1.Runs), .sl 360 g31 1 0 x25.length, .psl 2 (List.map TApiLsKey.enc vr13.1.Tree.Keys), .psl 1 (List.map (encInt .i64) vr13.1.Tree.Lose), .int .i64 vr13.1.Tree.Win]] })]) [112, 208, 248, 249, 296, 304, 360, 392] 696 [5, 8, 13, 14, 19, 99] (fun _ => none) rfl (fun Kt hK => by
          cases hg68 : (decide (i64 < (v65.length : Int))) with
          | false =>
           replace hb67 := iteF hb67 hg68
           have hqb67 := Option.some.inj hb67
           subst hqb67
           simp (maxSteps := 1000000) only [↓reduceIte, reduceCtorEq, Nat.reduceEqDiff, Nat.reduceLT, Nat.reduceLeDiff, Nat.reduceAdd, Nat.reduceMul, Int.reduceToNat, push_cast, ↓hg68]
           try simp only [↓hg68] at hK
           all_goals exact rU
          | true =>
           replace hb67 := iteT hb67 hg68
           have hqb67 := Option.some.inj hb67
           subst hqb67
           simp (maxSteps := 1000000) only [↓reduceIte, reduceCtorEq, Nat.reduceEqDiff, Nat.reduceLT, Nat.reduceLeDiff, Nat.reduceAdd, Nat.reduceMul, Int.reduceToNat, push_cast, ↓hg68]
           try simp only [↓hg68] at hK
           all_goals exact rU) ?_
        refine awp_if rfl (fun hb69 => ?_) (fun hb69 => ?_)
        ·
         replace h1 := iteT h1 hb69
         refine awp_skip ?_
         refine kn_then ?_
         refine awp_seq ?_
         refine awp_block ?_
         obtain ⟨e70, he70, h1⟩ := bindS h1
         obtain ⟨he70a, he70b, he70c⟩ := idxS he70
         refine awp_r2 744 [5, 8, 13, 14, 19] (fun _ => none) rfl (fun _ _ => rS (rA he70a (rA he70b he70c))) ?_
         refine kn_block ?_
         refine kn_then ?_
         refine awp_re (s2 := ⟨[(5, .ref 112 0 0 0), (8, .ref 208 0 0 0), (13, .ref 304 0 0 0), (14, .int .i64 vr12.2.2.2), (19, .int .i64 i64)], [(112, { g := 0, own := true, pure := true, sz := 5, es := [[.psl 1 (List.map (encSl 4 TApiEntry.enc) vr8.1.Runs), .psl 1 (List.map (encInt .i64) vr8.1.At), .psl 2 (List.map TApiLsKey.enc vr8.1.Tree.Keys), .psl 1 (List.map (encInt .i64) vr8.1.Tree.Lose), .int .i64 vr8.1.Tree.Win]] }), (208, { g := 0, own := true, pure := true, sz := 5, es := [[.psl 1 (List.map (encSl 4 TApiEntry.enc) vr11.1.Runs), .psl 1 (List.map (encInt .i64) vr11.1.At), .psl 2 (List.map TApiLsKey.enc vr11.1.Tree.Keys), .psl 1 (List.map (encInt .i64) vr11.1.Tree.Lose), .int .i64 vr11.1.Tree.Win]] }), (248, { g := g51, own := true, pure := true, sz := 1, es := List.map (encInt .i64) x43 }), (249, { g := g66, own := true, pure := true, sz := 1, es := List.map (encInt .i64) (v65.set i64.toNat (-1)) }), (296, { g := 0, own := true, pure := true, sz := 4, es := [[.str vr12.1.Key, .str vr12.1.Val, .bool vr12.1.Dead, .int .i64 vr12.1.Seq]] }), (304, { g := 0, own := true, pure := false, sz := 5, es := [[.psl 1 (List.map (encSl 4 TApiEntry.enc) vr12.2.2.1.Runs), .sl 248 g51 1 0 x43.length, .psl 2 (List.map TApiLsKey.enc vr12.2.2.1.Tree.Keys), .sl 249 g66 1 0 ((v65.set i64.toNat (-1)).length), .int .i64 vr12.2.2.1.Tree.Win]] }), (360, { g := g31, own := true, pure := true, sz := 1, es := List.map (encInt .i64) x25 }), (392, { g := 0, own := true, pure := false, sz := 5, es := [[.psl 1 (List.map (encSl 4 TApiEntry.enc) vr13.1.Runs), .sl 360 g31 1 0 x25.length, .psl 2 (List.map TApiLsKey.enc vr13.1.Tree.Keys), .psl 1 (List.map (encInt .i64) vr13.1.Tree.Lose), .int .i64 vr13.1.Tree.Win]] })], 744, []⟩) [] (Nat.le_of_ble_eq_true rfl) ⟨rF, rE, rfl, rfl, trivial, trivial⟩ ?_
         refine awp_r2 768 [5, 8, 13, 14, 19] (fun _ => none) rfl (fun _ _ => rS (rA he70a (rA he70b he70c))) ?_
         refine kn_then ?_
         exact ⟨⟨(fu, (IntKind.i64.wrap (i64 + 1)), (v65.set i64.toNat (-1)), g66), h1⟩, ⟨rF, rE, rfl, rfl, trivial, trivial⟩, Nat.lt_succ_self _⟩
        ·
         replace h1 := iteF h1 hb69
         refine awp_exit ?_
         refine kx_then ?_
         refine kx_then ?_
         refine kx_done ?_
         obtain rfl := Option.some.inj h1
         exact ⟨g66, Nat.le_of_ble_eq_true rfl, ⟨rF, rE, rfl, rfl, trivial, trivial⟩⟩
     ·
      refine awp_loopF (ι := { p : Nat × Int × List Int × Nat // bookendlaw11_MergeOwn_l2 vr12 p.1 p.2.1 p.2.2.1 = some x43 }) (fun p => ⟨[(5, .ref 112 0 0 0), (8, .ref 208 0 0 0), (13, .ref 304 0 0 0), (14, .int .i64 vr12.2.2.2), (18, .int .i64 p.1.2.1)], [(112, { g := 0, own := true, pure := true, sz := 5, es := [[.psl 1 (List.map (encSl 4 TApiEntry.enc) vr8.1.Runs), .psl 1 (List.map (encInt .i64) vr8.1.At), .psl 2 (List.map TApiLsKey.enc vr8.1.Tree.Keys), .psl 1 (List.map (encInt .i64) vr8.1.Tree.Lose), .int .i64 vr8.1.Tree.Win]] }), (208, { g := 0, own := true, pure := true, sz := 5, es := [[.psl 1 (List.map (encSl 4 TApiEntry.enc) vr11.1.Runs), .psl 1 (List.map (encInt .i64) vr11.1.At), .psl 2 (List.map TApiLsKey.enc vr11.1.Tree.Keys), .psl 1 (List.map (encInt .i64) vr11.1.Tree.Lose), .int .i64 vr11.1.Tree.Win]] }), (248, { g := p.1.2.2.2, own := true, pure := true, sz := 1, es := List.map (encInt .i64) p.1.2.2.1 }), (249, { g := 0, own := true, pure := true, sz := 1, es := List.map (encInt .i64) vr12.2.2.1.Tree.Lose }), (296, { g := 0, own := true, pure := true, sz := 4, es := [[.str vr12.1.Key, .str vr12.1.Val, .bool vr12.1.Dead, .int .i64 vr12.1.Seq]] }), (304, { g := 0, own := true, pure := false, sz := 5, es := [[.psl 1 (List.map (encSl 4 TApiEntry.enc) vr12.2.2.1.Runs), .sl 248 p.1.2.2.2 1 0 p.1.2.2.1.length, .psl 2 (List.map TApiLsKey.enc vr12.2.2.1.Tree.Keys), .sl 249 0 1 0 vr12.2.2.1.Tree.Lose.length, .int .i64 vr12.2.2.1.Tree.Win]] }), (360, { g := g31, own := true, pure := true, sz := 1, es := List.map (encInt .i64) x25 }), (392, { g := 0, own := true, pure := false, sz := 5, es := [[.psl 1 (List.map (encSl 4 TApiEntry.enc) vr13.1.Runs), .sl 360 g31 1 0 x25.length, .psl 2 (List.map TApiLsKey.enc vr13.1.Tree.Keys), .psl 1 (List.map (encInt .i64) vr13.1.Tree.Lose), .int .i64 vr13.1.Tree.Win]] })], 536, []⟩) (fun p => p.1.1) ⟨(fu, 0, vr12.2.2.1.At, 0), hxx43⟩ ⟨rF, rE, rfl, rfl, trivial, trivial⟩ (fun _ => Nat.le_refl _) ?_
      rintro ⟨⟨fu, i44, v45, g46⟩, h1⟩
      cases fu with
      | zero =>
   replace h1 : bookendlaw11_MergeOwn_l2 vr12 0 i44 v45 = some x43 := h1
   rw [bookendlaw11_MergeOwn_l2] at h1; cases h1
      | succ fu =>
       replace h1 : bookendlaw11_MergeOwn_l2 vr12 (fu + 1) i44 v45 = some x43 := h1
       rw [bookendlaw11_MergeOwn_l2] at h1
       refine (show AWP _ _ _ _ ⟨[(5, .ref 112 0 0 0), (8, .ref 208 0 0 0), (13, .ref 304 0 0 0), (14, .int .i64 vr12.2.2.2), (18, .int .i64 i44)], [(112, { g := 0, own := true, pure := true, sz := 5, es := [[.psl 1 (List.map (encSl 4 TApiEntry.enc) vr8.1.Runs), .psl 1 (List.map (encInt .i64) vr8.1.At), .psl 2 (List.map TApiLsKey.enc vr8.1.Tree.Keys), .psl 1 (List.map (encInt .i64) vr8.1.Tree.Lose), .int .i64 vr8.1.Tree.Win]] }), (208, { g := 0, own := true, pure := true, sz := 5, es := [[.psl 1 (List.map (encSl 4 TApiEntry.enc) vr11.1.Runs), .psl 1 (List.map (encInt .i64) vr11.1.At), .psl 2 (List.map TApiLsKey.enc vr11.1.Tree.Keys), .psl 1 (List.map (encInt .i64) vr11.1.Tree.Lose), .int .i64 vr11.1.Tree.Win]] }), (248, { g := g46, own := true, pure := true, sz := 1, es := List.map (encInt .i64) v45 }), (249, { g := 0, own := true, pure := true, sz := 1, es := List.map (encInt .i64) vr12.2.2.1.Tree.Lose }), (296, { g := 0, own := true, pure := true, sz := 4, es := [[.str vr12.1.Key, .str vr12.1.Val, .bool vr12.1.Dead, .int .i64 vr12.1.Seq]] }), (304, { g := 0, own := true, pure := false, sz := 5, es := [[.psl 1 (List.map (encSl 4 TApiEntry.enc) vr12.2.2.1.Runs), .sl 248 g46 1 0 v45.length, .psl 2 (List.map TApiLsKey.enc vr12.2.2.1.Tree.Keys), .sl 249 0 1 0 vr12.2.2.1.Tree.Lose.length, .int .i64 vr12.2.2.1.Tree.Win]] }), (360, { g := g31, own := true, pure := true, sz := 1, es := List.map (encInt .i64) x25 }), (392, { g := 0, own := true, pure := false, sz := 5, es := [[.psl 1 (List.map (encSl 4 TApiEntry.enc) vr13.1.Runs), .sl 360 g31 1 0 x25.length, .psl 2 (List.map TApiLsKey.enc vr13.1.Tree.Keys), .psl 1 (List.map (encInt .i64) vr13.1.Tree.Lose), .int .i64 vr13.1.Tree.Win]] })], 536, []⟩ from ?_)
       refine awp_seq ?_
       obtain ⟨b47, hb47, h1⟩ := bindS h1
       refine awp_sr3 (fr' := [(5, .ref 112 0 0 0), (8, .ref 208 0 0 0), (13, .ref 304 0 0 0), (14, .int .i64 vr12.2.2.2), (18, .int .i64 i44), (83, .bool b47)]) (hp' := [(112, { g := 0, own := true, pure := true, sz := 5, es := [[.psl 1 (List.map (encSl 4 TApiEntry.enc) vr8.1.Runs), .psl 1 (List.map (encInt .i64) vr8.1.At), .psl 2 (List.map TApiLsKey.enc vr8.1.Tree.Keys), .psl 1 (List.map (encInt .i64) vr8.1.Tree.Lose), .int .i64 vr8.1.Tree.Win]] }), (208, { g := 0, own := true, pure := true, sz := 5, es := [[.psl 1 (List.map (encSl 4 TApiEntry.enc) vr11.1.Runs), .psl 1 (List.map (encInt .i64) vr11.1.At), .psl 2 (List.map TApiLsKey.enc vr11.1.Tree.Keys), .psl 1 (List.map (encInt .i64) vr11.1.Tree.Lose), .int .i64 vr11.1.Tree.Win]] }), (248, { g := g46, own := true, pure := true, sz := 1, es := List.map (encInt .i64) v45 }), (249, { g := 0, own := true, pure := true, sz := 1, es := List.map (encInt .i64) vr12.2.2.1.Tree.Lose }), (296, { g := 0, own := true, pure := true, sz := 4, es := [[.str vr12.1.Key, .str vr12.1.Val, .bool vr12.1.Dead, .int .i64 vr12.1.Seq]] }), (304, { g := 0, own := true, pure := false, sz := 5, es := [[.psl 1 (List.map (encSl 4 TApiEntry.enc) vr12.2.2.1.Runs), .sl 248 g46 1 0 v45.length, .psl 2 (List.map TApiLsKey.enc vr12.2.2.1.Tree.Keys), .sl 249 0 1 0 vr12.2.2.1.Tree.Lose.length, .int .i64 vr12.2.2.1.Tree.Win]] }), (360, { g := g31, own := true, pure := true, sz := 1, es := List.map (encInt .i64) x25 }), (392, { g := 0, own := true, pure := false, sz := 5, es := [[.psl 1 (List.map (encSl 4 TApiEntry.enc) vr13.1.Runs), .sl 360 g31 1 0 x25.length, .psl 2 (List.map TApiLsKey.enc vr13.1.Tree.Keys), .psl 1 (List.map (encInt .i64) vr13.1.Tree.Lose), .int .i64 vr13.1.Tree.Win]] })]) [112, 208, 248, 249, 296, 304, 360, 392] 608 [5, 8, 13, 14, 18, 83] (fun _ => none) rfl (fun Kt hK => by
         cases hg48 : (decide (i44 < (v45.length : Int))) with
         | false =>
          replace hb47 := iteF hb47 hg48
          have hqb47 := Option.some.inj hb47
          subst hqb47
          simp (maxSteps := 1000000) only [↓reduceIte, reduceCtorEq, Nat.reduceEqDiff, Nat.reduceLT, Nat.reduceLeDiff, Nat.reduceAdd, Nat.reduceMul, Int.reduceToNat, push_cast, ↓hg48]
          try simp only [↓hg48] at hK
          all_goals exact rU
         | true =>
          replace hb47 := iteT hb47 hg48
          have hqb47 := Option.some.inj hb47
          subst hqb47
          simp (maxSteps := 1000000) only [↓reduceIte, reduceCtorEq, Nat.reduceEqDiff, Nat.reduceLT, Nat.reduceLeDiff, Nat.reduceAdd, Nat.reduceMul, Int.reduceToNat, push_cast, ↓hg48]
          try simp only [↓hg48] at hK
          all_goals exact rU) ?_
       refine awp_if rfl (fun hb49 => ?_) (fun hb49 => ?_)
       ·
        replace h1 := iteT h1 hb49
        refine awp_skip ?_
        refine kn_then ?_
        refine awp_seq ?_
        refine awp_block ?_
        obtain ⟨e50, he50, h1⟩ := bindS h1
        obtain ⟨he50a, he50b, he50c⟩ := idxS he50
        refine awp_r2 648 [5, 8, 13, 14, 18] (fun _ => none) rfl (fun _ _ => rS (rA he50a (rA he50b he50c))) ?_
        refine kn_block ?_
        refine kn_then ?_
        refine awp_re (s2 := ⟨[(5, .ref 112 0 0 0), (8, .ref 208 0 0 0), (13, .ref 304 0 0 0), (14, .int .i64 vr12.2.2.2), (18, .int .i64 i44)], [(112, { g := 0, own := true, pure := true, sz := 5, es := [[.psl 1 (List.map (encSl 4 TApiEntry.enc) vr8.1.Runs), .psl 1 (List.map (encInt .i64) vr8.1.At), .psl 2 (List.map TApiLsKey.enc vr8.1.Tree.Keys), .psl 1 (List.map (encInt .i64) vr8.1.Tree.Lose), .int .i64 vr8.1.Tree.Win]] }), (208, { g := 0, own := true, pure := true, sz := 5, es := [[.psl 1 (List.map (encSl 4 TApiEntry.enc) vr11.1.Runs), .psl 1 (List.map (encInt .i64) vr11.1.At), .psl 2 (List.map TApiLsKey.enc vr11.1.Tree.Keys), .psl 1 (List.map (encInt .i64) vr11.1.Tree.Lose), .int .i64 vr11.1.Tree.Win]] }), (248, { g := g46, own := true, pure := true, sz := 1, es := List.map (encInt .i64) (v45.set i44.toNat (-1)) }), (249, { g := 0, own := true, pure := true, sz := 1, es := List.map (encInt .i64) vr12.2.2.1.Tree.Lose }), (296, { g := 0, own := true, pure := true, sz := 4, es := [[.str vr12.1.Key, .str vr12.1.Val, .bool vr12.1.Dead, .int .i64 vr12.1.Seq]] }), (304, { g := 0, own := true, pure := false, sz := 5, es := [[.psl 1 (List.map (encSl 4 TApiEntry.enc) vr12.2.2.1.Runs), .sl 248 g46 1 0 ((v45.set i44.toNat (-1)).length), .psl 2 (List.map TApiLsKey.enc vr12.2.2.1.Tree.Keys), .sl 249 0 1 0 vr12.2.2.1.Tree.Lose.length, .int .i64 vr12.2.2.1.Tree.Win]] }), (360, { g := g31, own := true, pure := true, sz := 1, es := List.map (encInt .i64) x25 }), (392, { g := 0, own := true, pure := false, sz := 5, es := [[.psl 1 (List.map (encSl 4 TApiEntry.enc) vr13.1.Runs), .sl 360 g31 1 0 x25.length, .psl 2 (List.map TApiLsKey.enc vr13.1.Tree.Keys), .psl 1 (List.map (encInt .i64) vr13.1.Tree.Lose), .int .i64 vr13.1.Tree.Win]] })], 648, []⟩) [] (Nat.le_of_ble_eq_true rfl) ⟨rF, rE, rfl, rfl, trivial, trivial⟩ ?_
        refine awp_r2 672 [5, 8, 13, 14, 18] (fun _ => none) rfl (fun _ _ => rS (rA he50a (rA he50b he50c))) ?_
        refine kn_then ?_
        exact ⟨⟨(fu, (IntKind.i64.wrap (i44 + 1)), (v45.set i44.toNat (-1)), g46), h1⟩, ⟨rF, rE, rfl, rfl, trivial, trivial⟩, Nat.lt_succ_self _⟩
       ·
        replace h1 := iteF h1 hb49
        refine awp_exit ?_
        refine kx_then ?_
        refine kx_then ?_
        refine kx_done ?_
        obtain rfl := Option.some.inj h1
        exact ⟨g46, Nat.le_of_ble_eq_true rfl, ⟨rF, rE, rfl, rfl, trivial, trivial⟩⟩
    ·
     refine awp_loopF (ι := { p : Nat × Int × List Int × Nat // bookendlaw11_MergeOwn_l1 p.1 p.2.1 p.2.2.1 = some x25 }) (fun p => ⟨[(5, .ref 112 0 0 0), (8, .ref 208 0 0 0), (13, .ref 304 0 0 0), (14, .int .i64 vr12.2.2.2), (15, .ref 392 0 0 0), (17, .int .i64 p.1.2.1)], [(112, { g := 0, own := true, pure := true, sz := 5, es := [[.psl 1 (List.map (encSl 4 TApiEntry.enc) vr8.1.Runs), .psl 1 (List.map (encInt .i64) vr8.1.At), .psl 2 (List.map TApiLsKey.enc vr8.1.Tree.Keys), .psl 1 (List.map (encInt .i64) vr8.1.Tree.Lose), .int .i64 vr8.1.Tree.Win]] }), (208, { g := 0, own := true, pure := true, sz := 5, es := [[.psl 1 (List.map (encSl 4 TApiEntry.enc) vr11.1.Runs), .psl 1 (List.map (encInt .i64) vr11.1.At), .psl 2 (List.map TApiLsKey.enc vr11.1.Tree.Keys), .psl 1 (List.map (encInt .i64) vr11.1.Tree.Lose), .int .i64 vr11.1.Tree.Win]] }), (248, { g := 0, own := true, pure := true, sz := 1, es := List.map (encInt .i64) vr12.2.2.1.At }), (249, { g := 0, own := true, pure := true, sz := 1, es := List.map (encInt .i64) vr12.2.2.1.Tree.Lose }), (296, { g := 0, own := true, pure := true, sz := 4, es := [[.str vr12.1.Key, .str vr12.1.Val, .bool vr12.1.Dead, .int .i64 vr12.1.Seq]] }), (304, { g := 0, own := true, pure := false, sz := 5, es := [[.psl 1 (List.map (encSl 4 TApiEntry.enc) vr12.2.2.1.Runs), .sl 248 0 1 0 vr12.2.2.1.At.length, .psl 2 (List.map TApiLsKey.enc vr12.2.2.1.Tree.Keys), .sl 249 0 1 0 vr12.2.2.1.Tree.Lose.length, .int .i64 vr12.2.2.1.Tree.Win]] }), (360, { g := p.1.2.2.2, own := true, pure := true, sz := 1, es := List.map (encInt .i64) p.1.2.2.1 }), (392, { g := 0, own := true, pure := false, sz := 5, es := [[.psl 1 (List.map (encSl 4 TApiEntry.enc) vr13.1.Runs), .sl 360 p.1.2.2.2 1 0 p.1.2.2.1.length, .psl 2 (List.map TApiLsKey.enc vr13.1.Tree.Keys), .psl 1 (List.map (encInt .i64) vr13.1.Tree.Lose), .int .i64 vr13.1.Tree.Win]] })], 488, []⟩) (fun p => p.1.1) ⟨(fu, 0, vr13.1.At, 0), hxx25⟩ ⟨rF, rE, rfl, rfl, trivial, trivial⟩ (fun _ => Nat.le_refl _) ?_
     rintro ⟨⟨fu, i26, v27, g28⟩, h1⟩
     cases fu with
     | zero =>
   replace h1 : bookendlaw11_MergeOwn_l1 0 i26 v27 = some x25 := h1
   rw [bookendlaw11_MergeOwn_l1] at h1; cases h1
     | succ fu =>
      replace h1 : bookendlaw11_MergeOwn_l1 (fu + 1) i26 v27 = some x25 := h1
      rw [bookendlaw11_MergeOwn_l1] at h1
      refine (show AWP _ _ _ _ ⟨[(5, .ref 112 0 0 0), (8, .ref 208 0 0 0), (13, .ref 304 0 0 0), (14, .int .i64 vr12.2.2.2), (15, .ref 392 0 0 0), (17, .int .i64 i26)], [(112, { g := 0, own := true, pure := true, sz := 5, es := [[.psl 1 (List.map (encSl 4 TApiEntry.enc) vr8.1.Runs), .psl 1 (List.map (encInt .i64) vr8.1.At), .psl 2 (List.map TApiLsKey.enc vr8.1.Tree.Keys), .psl 1 (List.map (encInt .i64) vr8.1.Tree.Lose), .int .i64 vr8.1.Tree.Win]] }), (208, { g := 0, own := true, pure := true, sz := 5, es := [[.psl 1 (List.map (encSl 4 TApiEntry.enc) vr11.1.Runs), .psl 1 (List.map (encInt .i64) vr11.1.At), .psl 2 (List.map TApiLsKey.enc vr11.1.Tree.Keys), .psl 1 (List.map (encInt .i64) vr11.1.Tree.Lose), .int .i64 vr11.1.Tree.Win]] }), (248, { g := 0, own := true, pure := true, sz := 1, es := List.map (encInt .i64) vr12.2.2.1.At }), (249, { g := 0, own := true, pure := true, sz := 1, es := List.map (encInt .i64) vr12.2.2.1.Tree.Lose }), (296, { g := 0, own := true, pure := true, sz := 4, es := [[.str vr12.1.Key, .str vr12.1.Val, .bool vr12.1.Dead, .int .i64 vr12.1.Seq]] }), (304, { g := 0, own := true, pure := false, sz := 5, es := [[.psl 1 (List.map (encSl 4 TApiEntry.enc) vr12.2.2.1.Runs), .sl 248 0 1 0 vr12.2.2.1.At.length, .psl 2 (List.map TApiLsKey.enc vr12.2.2.1.Tree.Keys), .sl 249 0 1 0 vr12.2.2.1.Tree.Lose.length, .int .i64 vr12.2.2.1.Tree.Win]] }), (360, { g := g28, own := true, pure := true, sz := 1, es := List.map (encInt .i64) v27 }), (392, { g := 0, own := true, pure := false, sz := 5, es := [[.psl 1 (List.map (encSl 4 TApiEntry.enc) vr13.1.Runs), .sl 360 g28 1 0 v27.length, .psl 2 (List.map TApiLsKey.enc vr13.1.Tree.Keys), .psl 1 (List.map (encInt .i64) vr13.1.Tree.Lose), .int .i64 vr13.1.Tree.Win]] })], 488, []⟩ from ?_)
      refine awp_seq ?_
      refine awp_sr2 528 [5, 8, 13, 14, 15, 17, 68] (fun _ => none) rfl (fun _ _ => rT) ?_
      refine awp_if rfl (fun hb29 => ?_) (fun hb29 => ?_)
      ·
       replace h1 := iteT h1 hb29
       refine awp_skip ?_
       refine kn_then ?_
       refine awp_seq ?_
       refine awp_block ?_
       obtain ⟨e30, he30, h1⟩ := bindS h1
       obtain ⟨he30a, he30b, he30c⟩ := idxS he30
       refine awp_r2 568 [5, 8, 13, 14, 15, 17] (fun _ => none) rfl (fun _ _ => rS (rA he30a (rA he30b he30c))) ?_
       refine kn_block ?_
       refine kn_then ?_
       refine awp_re (s2 := ⟨[(5, .ref 112 0 0 0), (8, .ref 208 0 0 0), (13, .ref 304 0 0 0), (14, .int .i64 vr12.2.2.2), (15, .ref 392 0 0 0), (17, .int .i64 i26)], [(112, { g := 0, own := true, pure := true, sz := 5, es := [[.psl 1 (List.map (encSl 4 TApiEntry.enc) vr8.1.Runs), .psl 1 (List.map (encInt .i64) vr8.1.At), .psl 2 (List.map TApiLsKey.enc vr8.1.Tree.Keys), .psl 1 (List.map (encInt .i64) vr8.1.Tree.Lose), .int .i64 vr8.1.Tree.Win]] }), (208, { g := 0, own := true, pure := true, sz := 5, es := [[.psl 1 (List.map (encSl 4 TApiEntry.enc) vr11.1.Runs), .psl 1 (List.map (encInt .i64) vr11.1.At), .psl 2 (List.map TApiLsKey.enc vr11.1.Tree.Keys), .psl 1 (List.map (encInt .i64) vr11.1.Tree.Lose), .int .i64 vr11.1.Tree.Win]] }), (248, { g := 0, own := true, pure := true, sz := 1, es := List.map (encInt .i64) vr12.2.2.1.At }), (249, { g := 0, own := true, pure := true, sz := 1, es := List.map (encInt .i64) vr12.2.2.1.Tree.Lose }), (296, { g := 0, own := true, pure := true, sz := 4, es := [[.str vr12.1.Key, .str vr12.1.Val, .bool vr12.1.Dead, .int .i64 vr12.1.Seq]] }), (304, { g := 0, own := true, pure := false, sz := 5, es := [[.psl 1 (List.map (encSl 4 TApiEntry.enc) vr12.2.2.1.Runs), .sl 248 0 1 0 vr12.2.2.1.At.length, .psl 2 (List.map TApiLsKey.enc vr12.2.2.1.Tree.Keys), .sl 249 0 1 0 vr12.2.2.1.Tree.Lose.length, .int .i64 vr12.2.2.1.Tree.Win]] }), (360, { g := g28, own := true, pure := true, sz := 1, es := List.map (encInt .i64) (v27.set i26.toNat (-1)) }), (392, { g := 0, own := true, pure := false, sz := 5, es := [[.psl 1 (List.map (encSl 4 TApiEntry.enc) vr13.1.Runs), .sl 360 g28 1 0 ((v27.set i26.toNat (-1)).length), .psl 2 (List.map TApiLsKey.enc vr13.1.Tree.Keys), .psl 1 (List.map (encInt .i64) vr13.1.Tree.Lose), .int .i64 vr13.1.Tree.Win]] })], 568, []⟩) [] (Nat.le_of_ble_eq_true rfl) ⟨rF, rE, rfl, rfl, trivial, trivial⟩ ?_
       refine awp_r2 592 [5, 8, 13, 14, 15, 17] (fun _ => none) rfl (fun _ _ => rS (rA he30a (rA he30b he30c))) ?_
       refine kn_then ?_
       exact ⟨⟨(fu, (IntKind.i64.wrap (i26 + 1)), (v27.set i26.toNat (-1)), g28), h1⟩, ⟨rF, rE, rfl, rfl, trivial, trivial⟩, Nat.lt_succ_self _⟩
      ·
       replace h1 := iteF h1 hb29
       refine awp_exit ?_
       refine kx_then ?_
       refine kx_then ?_
       refine kx_done ?_
       obtain rfl := Option.some.inj h1
       exact ⟨g28, Nat.le_of_ble_eq_true rfl, ⟨rF, rE, rfl, rfl, trivial, trivial⟩⟩
end Go.T
end
section
/- MergeOwn: for all runs and keys, a state is not changed by what is done with it; no conditions. -/
namespace Go.Proofs.Ytfbaoblejikccaa
open Go.T
theorem mergeOwn : Rows.MergeOwnSaid :=
  mergeOwn_over (fun x0 x1 w0 w1 => by
    obtain ⟨fu, h⟩ := (mergeOwn_ev x0 x1).one
    exact ⟨_, c_bookendlaw11_MergeOwn h⟩)
end Go.Proofs.Ytfbaoblejikccaa
end
