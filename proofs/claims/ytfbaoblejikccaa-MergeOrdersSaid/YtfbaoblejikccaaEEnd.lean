/- MergeOrders: for all runs, All has all entries of all runs in order; no conditions. -/
import Derived.Test.YtfbaoblejikccaaE2
set_option linter.unusedSimpArgs false
set_option linter.unusedVariables false
section
/- The program computes them. -/
namespace Go.T
open Go Go.AM Go.Proofs
set_option maxRecDepth 100000
set_option maxHeartbeats 4000000
set_option linter.unusedVariables false
theorem c_bookendlaw11_awake {fu : Nat} {r : Bool} (h0 : bookendlaw11_awake fu = some r) : PCall Try.prog 10 [] (.bool r) [] := by
 refine awp_pcall Try.func10 rfl (by decide) (Nat.le_of_ble_eq_true rfl) ?_
 dsimp only [Try.f10, List.append]
 rw [bookendlaw11_awake] at h0
 refine (show AWP _ _ _ _ ⟨enumFr 0 _, [], 0, []⟩ from ?_)
 refine awp_sr2 8 [] (fun _ => none) rfl (fun _ _ => rT) ?_
 obtain ⟨vr1, hvr1, h0⟩ := bindS h0
 refine awp_sr2 24 [1] (fun | 0 => some (.psl 1 (vr1.map (encSl 4 TApiEntry.enc)), []) | _ => none) rfl (fun _ _ => rC (c_bookendlaw11_Example hvr1)) ?_
 obtain ⟨vr2, hvr2, h0⟩ := bindS h0
 refine awp_sr2 96 [1, 2, 3, 4] (fun | 1 => some (.tup [.psl 4 (vr2.1.map TApiEntry.enc), .psl 1 (vr2.2.1.map (encInt .i64)), .int .i64 vr2.2.2], []) | _ => none) rfl (fun _ _ => rC (c_merge_All hvr2)) ?_
 obtain ⟨vr3, hvr3, h0⟩ := bindS h0
 refine awp_sr2 176 [1, 2, 3, 4, 5, 7] (fun | 1 => some (.tup [.agg (TApiMgState.enc vr3.1), .int .i64 vr3.2.1, .int .i64 vr3.2.2], []) | _ => none) rfl (fun _ _ => rC (c_merge_Begin hvr3)) ?_
 obtain ⟨vr4, hvr4, h0⟩ := bindS h0
 refine awp_sr2 256 [1, 2, 3, 4, 5, 7, 8, 9, 10] (fun | 1 => some (.tup [.agg (TApiEntry.enc vr4.1), .int .i64 vr4.2.1, .int .i64 vr4.2.2], []) | _ => none) rfl (fun _ _ => rC (c_merge_Peek hvr4)) ?_
 obtain ⟨vr5, hvr5, h0⟩ := bindS h0
 refine awp_sr2 320 [1, 2, 3, 4, 7, 8, 9, 10, 11, 12] (fun | 1 => some (.tup [.agg (TApiMgState.enc vr5.1), .int .i64 vr5.2], []) | _ => none) rfl (fun _ _ => rC (c_merge_Skip hvr5)) ?_
 obtain ⟨vr6, hvr6, h0⟩ := bindS h0
 refine awp_sr2 424 [1, 2, 3, 4, 7, 8, 9, 10, 11, 12, 13, 14, 15, 16] (fun | 1 => some (.tup [.agg (TApiEntry.enc vr6.1), .int .i64 vr6.2.1, .agg (TApiMgState.enc vr6.2.2.1), .int .i64 vr6.2.2.2], []) | _ => none) rfl (fun _ _ => rC (c_merge_Next hvr6)) ?_
 obtain ⟨vr7, hvr7, h0⟩ := bindS h0
 refine awp_sr2 504 [1, 2, 3, 4, 7, 8, 9, 10, 11, 12, 13, 14, 16, 19] (fun | 1 => some (.tup [.agg (TApiEntry.enc vr7.1), .int .i64 vr7.2.1, .int .i64 vr7.2.2], []) | _ => none) rfl (fun _ _ => rC (c_merge_Peek hvr7)) ?_
 obtain ⟨vr8, hvr8, h0⟩ := bindS h0
 refine awp_sr2 616 [1, 2, 3, 4, 7, 8, 9, 10, 11, 12, 13, 14, 16, 19, 20, 21] (fun | 8 => some (.tup [.int .i64 vr8.1, .int .i64 vr8.2], []) | _ => none) rfl (fun _ _ => rC (c_merge_Check hvr8)) ?_
 refine awp_re (s2 := ⟨[(1, .psl 1 (List.map (encSl 4 TApiEntry.enc) vr1)), (2, .psl 4 (List.map TApiEntry.enc vr2.1)), (3, .psl 1 (List.map (encInt .i64) vr2.2.1)), (4, .int .i64 vr2.2.2), (7, .int .i64 vr3.2.2), (8, .ref 224 0 0 0), (9, .int .i64 vr4.2.1), (10, .int .i64 vr4.2.2), (11, .ref 296 0 0 0), (12, .int .i64 vr5.2), (13, .ref 376 0 0 0), (14, .int .i64 vr6.2.1), (16, .int .i64 vr6.2.2.2), (19, .int .i64 vr7.2.2), (20, .int .i64 vr8.1), (21, .int .i64 vr8.2)], [(144, { g := 0, own := true, pure := true, sz := 5, es := [[.psl 1 (List.map (encSl 4 TApiEntry.enc) vr3.1.Runs), .psl 1 (List.map (encInt .i64) vr3.1.At), .psl 2 (List.map TApiLsKey.enc vr3.1.Tree.Keys), .psl 1 (List.map (encInt .i64) vr3.1.Tree.Lose), .int .i64 vr3.1.Tree.Win]] }), (224, { g := 0, own := true, pure := true, sz := 4, es := [[.str vr4.1.Key, .str vr4.1.Val, .bool vr4.1.Dead, .int .i64 vr4.1.Seq]] }), (296, { g := 0, own := true, pure := true, sz := 5, es := [[.psl 1 (List.map (encSl 4 TApiEntry.enc) vr5.1.Runs), .psl 1 (List.map (encInt .i64) vr5.1.At), .psl 2 (List.map TApiLsKey.enc vr5.1.Tree.Keys), .psl 1 (List.map (encInt .i64) vr5.1.Tree.Lose), .int .i64 vr5.1.Tree.Win]] }), (376, { g := 0, own := true, pure := true, sz := 4, es := [[.str vr6.1.Key, .str vr6.1.Val, .bool vr6.1.Dead, .int .i64 vr6.1.Seq]] }), (384, { g := 0, own := true, pure := true, sz := 5, es := [[.psl 1 (List.map (encSl 4 TApiEntry.enc) vr6.2.2.1.Runs), .psl 1 (List.map (encInt .i64) vr6.2.2.1.At), .psl 2 (List.map TApiLsKey.enc vr6.2.2.1.Tree.Keys), .psl 1 (List.map (encInt .i64) vr6.2.2.1.Tree.Lose), .int .i64 vr6.2.2.1.Tree.Win]] }), (472, { g := 0, own := true, pure := true, sz := 4, es := [[.str vr7.1.Key, .str vr7.1.Val, .bool vr7.1.Dead, .int .i64 vr7.1.Seq]] }), (512, { g := 0, own := true, pure := true, sz := 1, es := List.map (encInt .i64) [0, 3] }), (536, { g := 0, own := true, pure := true, sz := 2, es := List.map TApiLsKey.enc [(TApiLsKey.mk [98] false), (TApiLsKey.mk [] true)] }), (544, { g := 0, own := true, pure := true, sz := 1, es := List.map (encInt .i64) [0, 1] })], 616, []⟩) [] (Nat.le_of_ble_eq_true rfl) ⟨rF, rE, rfl, rfl, trivial, trivial⟩ ?_
 obtain ⟨e9, he9, h0⟩ := bindS h0
 have he9b := (idxS he9).2.1
 have he9c := (idxL 1 he9 rfl).1
 have he9a := (idxL 1 he9 rfl).2
 obtain ⟨e10, he10, h0⟩ := bindS h0
 have he10b := (idxS he10).2.1
 have he10c := (idxL 0 he10 rfl).1
 have he10a := (idxL 0 he10 rfl).2
 obtain ⟨e11, he11, h0⟩ := bindS h0
 have he11b := (idxS he11).2.1
 have he11c := (idxL 0 he11 rfl).1
 have he11a := (idxL 0 he11 rfl).2
 obtain ⟨e12, he12, h0⟩ := bindS h0
 have he12b := (idxS he12).2.1
 have he12c := (idxL 0 he12 rfl).1
 have he12a := (idxL 0 he12 rfl).2
 obtain ⟨e13, he13, h0⟩ := bindS h0
 have he13b := (idxS he13).2.1
 have he13c := (idxL 1 he13 rfl).1
 have he13a := (idxL 1 he13 rfl).2
 obtain ⟨e14, he14, h0⟩ := bindS h0
 have he14b := (idxS he14).2.1
 have he14c := (idxL 2 he14 rfl).1
 have he14a := (idxL 2 he14 rfl).2
 obtain ⟨vr15, hvr15, h0⟩ := bindS h0
 obtain ⟨b17, hb17, h0⟩ := bindS h0
 obtain ⟨b18, hb18, h0⟩ := bindS h0
 obtain ⟨b19, hb19, h0⟩ := bindS h0
 obtain ⟨b20, hb20, h0⟩ := bindS h0
 obtain ⟨b21, hb21, h0⟩ := bindS h0
 obtain ⟨b22, hb22, h0⟩ := bindS h0
 obtain ⟨b24, hb24, h0⟩ := bindS h0
 obtain ⟨b25, hb25, h0⟩ := bindS h0
 obtain ⟨b26, hb26, h0⟩ := bindS h0
 obtain ⟨b27, hb27, h0⟩ := bindS h0
 obtain ⟨b28, hb28, h0⟩ := bindS h0
 obtain ⟨b29, hb29, h0⟩ := bindS h0
 obtain ⟨b30, hb30, h0⟩ := bindS h0
 obtain ⟨b31, hb31, h0⟩ := bindS h0
 refine awp_sd3 (fr' := [(0, .bool b31)]) (hp' := [(144, { g := 0, own := true, pure := true, sz := 5, es := [[.psl 1 (List.map (encSl 4 TApiEntry.enc) vr3.1.Runs), .psl 1 (List.map (encInt .i64) vr3.1.At), .psl 2 (List.map TApiLsKey.enc vr3.1.Tree.Keys), .psl 1 (List.map (encInt .i64) vr3.1.Tree.Lose), .int .i64 vr3.1.Tree.Win]] }), (224, { g := 0, own := true, pure := true, sz := 4, es := [[.str vr4.1.Key, .str vr4.1.Val, .bool vr4.1.Dead, .int .i64 vr4.1.Seq]] }), (296, { g := 0, own := true, pure := true, sz := 5, es := [[.psl 1 (List.map (encSl 4 TApiEntry.enc) vr5.1.Runs), .psl 1 (List.map (encInt .i64) vr5.1.At), .psl 2 (List.map TApiLsKey.enc vr5.1.Tree.Keys), .psl 1 (List.map (encInt .i64) vr5.1.Tree.Lose), .int .i64 vr5.1.Tree.Win]] }), (376, { g := 0, own := true, pure := true, sz := 4, es := [[.str vr6.1.Key, .str vr6.1.Val, .bool vr6.1.Dead, .int .i64 vr6.1.Seq]] }), (384, { g := 0, own := true, pure := true, sz := 5, es := [[.psl 1 (List.map (encSl 4 TApiEntry.enc) vr6.2.2.1.Runs), .psl 1 (List.map (encInt .i64) vr6.2.2.1.At), .psl 2 (List.map TApiLsKey.enc vr6.2.2.1.Tree.Keys), .psl 1 (List.map (encInt .i64) vr6.2.2.1.Tree.Lose), .int .i64 vr6.2.2.1.Tree.Win]] }), (472, { g := 0, own := true, pure := true, sz := 4, es := [[.str vr7.1.Key, .str vr7.1.Val, .bool vr7.1.Dead, .int .i64 vr7.1.Seq]] }), (512, { g := 0, own := true, pure := true, sz := 1, es := List.map (encInt .i64) [0, 3] }), (536, { g := 0, own := true, pure := true, sz := 2, es := List.map TApiLsKey.enc [(TApiLsKey.mk [98] false), (TApiLsKey.mk [] true)] }), (544, { g := 0, own := true, pure := true, sz := 1, es := List.map (encInt .i64) [0, 1] }), (784, { g := 0, own := true, pure := true, sz := 4, es := List.map TApiEntry.enc [e10, e12, e13, e14] })]) [144, 224, 296, 376, 384, 472, 512, 536, 544, 784] 1360 [0] (fun | 22 => some (.bool vr15, []) | 26 => (bookendref10_Ints fu vr2.2.1 [1, 0, 1, 1]).bind fun vr16 => some (.bool vr16, []) | 57 => (bookendref10_Ints fu vr5.1.At [1, 2]).bind fun vr23 => some (.bool vr23, []) | _ => none) rfl rfl rfl (fun Kt hK => by
   cases vr15 with
   | false =>
    replace hb17 := iteF hb17 rfl
    have hqb17 := Option.some.inj hb17
    cases b17 with
    | false =>
     replace hb18 := iteF hb18 rfl
     have hqb18 := Option.some.inj hb18
     cases b18 with
     | false =>
      replace hb19 := iteF hb19 rfl
      have hqb19 := Option.some.inj hb19
      cases b19 with
      | false =>
       replace hb20 := iteF hb20 rfl
       have hqb20 := Option.some.inj hb20
       cases b20 with
       | false =>
        replace hb21 := iteF hb21 rfl
        have hqb21 := Option.some.inj hb21
        cases b21 with
        | false =>
         replace hb22 := iteF hb22 rfl
         have hqb22 := Option.some.inj hb22
         cases b22 with
         | false =>
          replace hb24 := iteF hb24 rfl
          have hqb24 := Option.some.inj hb24
          cases b24 with
          | false =>
           replace hb25 := iteF hb25 rfl
           have hqb25 := Option.some.inj hb25
           cases b25 with
           | false =>
            replace hb26 := iteF hb26 rfl
            have hqb26 := Option.some.inj hb26
            cases b26 with
            | false =>
             replace hb27 := iteF hb27 rfl
             have hqb27 := Option.some.inj hb27
             cases b27 with
             | false =>
              replace hb28 := iteF hb28 rfl
              have hqb28 := Option.some.inj hb28
              cases b28 with
              | false =>
               replace hb29 := iteF hb29 rfl
               have hqb29 := Option.some.inj hb29
               cases b29 with
               | false =>
                replace hb30 := iteF hb30 rfl
                have hqb30 := Option.some.inj hb30
                cases b30 with
                | false =>
                 replace hb31 := iteF hb31 rfl
                 have hqb31 := Option.some.inj hb31
                 subst hqb31
                 try have q0 := c_bookendref11_SameEntries hvr15
                 try have q1 := c_bookendref10_Ints hvr16
                 try have q2 := c_bookendref10_Ints hvr23
                 exact rSd (rA he9a (rA he9b (rA he9c (rA he10a (rA he10b (rA he10c (rA he11a (rA he11b (rA he11c (rA he12a (rA he12b (rA he12c (rA he13a (rA he13b (rA he13c (rA he14a (rA he14b he14c)))))))))))))))))
                | true =>
                 cases hqb30
               | true =>
                cases hqb29
              | true =>
               cases hqb28
             | true =>
              cases hqb27
            | true =>
             cases hqb26
           | true =>
            cases hqb25
          | true =>
           cases hqb24
         | true =>
          cases hqb22
        | true =>
         cases hqb21
       | true =>
        cases hqb20
      | true =>
       cases hqb19
     | true =>
      cases hqb18
    | true =>
     cases hqb17
   | true =>
    replace hb17 := iteT hb17 rfl
    obtain ⟨vr16, hvr16, hb17⟩ := bindS hb17
    have hqb17 := Option.some.inj hb17
    cases b17 with
    | false =>
     subst hqb17
     replace hb18 := iteF hb18 rfl
     have hqb18 := Option.some.inj hb18
     cases b18 with
     | false =>
      replace hb19 := iteF hb19 rfl
      have hqb19 := Option.some.inj hb19
      cases b19 with
      | false =>
       replace hb20 := iteF hb20 rfl
       have hqb20 := Option.some.inj hb20
       cases b20 with
       | false =>
        replace hb21 := iteF hb21 rfl
        have hqb21 := Option.some.inj hb21
        cases b21 with
        | false =>
         replace hb22 := iteF hb22 rfl
         have hqb22 := Option.some.inj hb22
         cases b22 with
         | false =>
          replace hb24 := iteF hb24 rfl
          have hqb24 := Option.some.inj hb24
          cases b24 with
          | false =>
           replace hb25 := iteF hb25 rfl
           have hqb25 := Option.some.inj hb25
           cases b25 with
           | false =>
            replace hb26 := iteF hb26 rfl
            have hqb26 := Option.some.inj hb26
            cases b26 with
            | false =>
             replace hb27 := iteF hb27 rfl
             have hqb27 := Option.some.inj hb27
             cases b27 with
             | false =>
              replace hb28 := iteF hb28 rfl
              have hqb28 := Option.some.inj hb28
              cases b28 with
              | false =>
               replace hb29 := iteF hb29 rfl
               have hqb29 := Option.some.inj hb29
               cases b29 with
               | false =>
                replace hb30 := iteF hb30 rfl
                have hqb30 := Option.some.inj hb30
                cases b30 with
                | false =>
                 replace hb31 := iteF hb31 rfl
                 have hqb31 := Option.some.inj hb31
                 subst hqb31
                 try have q0 := c_bookendref11_SameEntries hvr15
                 try have q1 := c_bookendref10_Ints hvr16
                 try have q2 := c_bookendref10_Ints hvr23
                 exact rSd (rA he9a (rA he9b (rA he9c (rA he10a (rA he10b (rA he10c (rA he11a (rA he11b (rA he11c (rA he12a (rA he12b (rA he12c (rA he13a (rA he13b (rA he13c (rA he14a (rA he14b (rA he14c hvr16))))))))))))))))))
                | true =>
                 cases hqb30
               | true =>
                cases hqb29
              | true =>
               cases hqb28
             | true =>
              cases hqb27
            | true =>
             cases hqb26
           | true =>
            cases hqb25
          | true =>
           cases hqb24
         | true =>
          cases hqb22
        | true =>
         cases hqb21
       | true =>
        cases hqb20
      | true =>
       cases hqb19
     | true =>
      cases hqb18
    | true =>
     subst hqb17
     replace hb18 := iteT hb18 rfl
     have hqb18 := Option.some.inj hb18
     cases b18 with
     | false =>
      replace hb19 := iteF hb19 rfl
      have hqb19 := Option.some.inj hb19
      cases b19 with
      | false =>
       replace hb20 := iteF hb20 rfl
       have hqb20 := Option.some.inj hb20
       cases b20 with
       | false =>
        replace hb21 := iteF hb21 rfl
        have hqb21 := Option.some.inj hb21
        cases b21 with
        | false =>
         replace hb22 := iteF hb22 rfl
         have hqb22 := Option.some.inj hb22
         cases b22 with
         | false =>
          replace hb24 := iteF hb24 rfl
          have hqb24 := Option.some.inj hb24
          cases b24 with
          | false =>
           replace hb25 := iteF hb25 rfl
           have hqb25 := Option.some.inj hb25
           cases b25 with
           | false =>
            replace hb26 := iteF hb26 rfl
            have hqb26 := Option.some.inj hb26
            cases b26 with
            | false =>
             replace hb27 := iteF hb27 rfl
             have hqb27 := Option.some.inj hb27
             cases b27 with
             | false =>
              replace hb28 := iteF hb28 rfl
              have hqb28 := Option.some.inj hb28
              cases b28 with
              | false =>
               replace hb29 := iteF hb29 rfl
               have hqb29 := Option.some.inj hb29
               cases b29 with
               | false =>
                replace hb30 := iteF hb30 rfl
                have hqb30 := Option.some.inj hb30
                cases b30 with
                | false =>
                 replace hb31 := iteF hb31 rfl
                 have hqb31 := Option.some.inj hb31
                 subst hqb31
                 simp (maxSteps := 1000000) only [↓reduceIte, reduceCtorEq, Nat.reduceEqDiff, Nat.reduceLT, Nat.reduceLeDiff, Nat.reduceAdd, Nat.reduceMul, Int.reduceToNat, push_cast, he9a, he9b, he9c, he10a, he10b, he10c, he11a, he11b, he11c, he12a, he12b, he12c, he13a, he13b, he13c, he14a, he14b, he14c, hvr16, ↓hqb18]
                 try simp only [↓hqb18] at hK
                 try have q0 := c_bookendref11_SameEntries hvr15
                 try have q1 := c_bookendref10_Ints hvr16
                 try have q2 := c_bookendref10_Ints hvr23
                 all_goals exact rUd
                | true =>
                 cases hqb30
               | true =>
                cases hqb29
              | true =>
               cases hqb28
             | true =>
              cases hqb27
            | true =>
             cases hqb26
           | true =>
            cases hqb25
          | true =>
           cases hqb24
         | true =>
          cases hqb22
        | true =>
         cases hqb21
       | true =>
        cases hqb20
      | true =>
       cases hqb19
     | true =>
      replace hb19 := iteT hb19 rfl
      have hqb19 := Option.some.inj hb19
      cases b19 with
      | false =>
       replace hb20 := iteF hb20 rfl
       have hqb20 := Option.some.inj hb20
       cases b20 with
       | false =>
        replace hb21 := iteF hb21 rfl
        have hqb21 := Option.some.inj hb21
        cases b21 with
        | false =>
         replace hb22 := iteF hb22 rfl
         have hqb22 := Option.some.inj hb22
         cases b22 with
         | false =>
          replace hb24 := iteF hb24 rfl
          have hqb24 := Option.some.inj hb24
          cases b24 with
          | false =>
           replace hb25 := iteF hb25 rfl
           have hqb25 := Option.some.inj hb25
           cases b25 with
           | false =>
            replace hb26 := iteF hb26 rfl
            have hqb26 := Option.some.inj hb26
            cases b26 with
            | false =>
             replace hb27 := iteF hb27 rfl
             have hqb27 := Option.some.inj hb27
             cases b27 with
             | false =>
              replace hb28 := iteF hb28 rfl
              have hqb28 := Option.some.inj hb28
              cases b28 with
              | false =>
               replace hb29 := iteF hb29 rfl
               have hqb29 := Option.some.inj hb29
               cases b29 with
               | false =>
                replace hb30 := iteF hb30 rfl
                have hqb30 := Option.some.inj hb30
                cases b30 with
                | false =>
                 replace hb31 := iteF hb31 rfl
                 have hqb31 := Option.some.inj hb31
                 subst hqb31
                 simp (maxSteps := 1000000) only [↓reduceIte, reduceCtorEq, Nat.reduceEqDiff, Nat.reduceLT, Nat.reduceLeDiff, Nat.reduceAdd, Nat.reduceMul, Int.reduceToNat, push_cast, he9a, he9b, he9c, he10a, he10b, he10c, he11a, he11b, he11c, he12a, he12b, he12c, he13a, he13b, he13c, he14a, he14b, he14c, hvr16, ↓hqb18, ↓hqb19]
                 try simp only [↓hqb18, ↓hqb19] at hK
                 try have q0 := c_bookendref11_SameEntries hvr15
                 try have q1 := c_bookendref10_Ints hvr16
                 try have q2 := c_bookendref10_Ints hvr23
                 all_goals exact rUd
                | true =>
                 cases hqb30
               | true =>
                cases hqb29
              | true =>
               cases hqb28
             | true =>
              cases hqb27
            | true =>
             cases hqb26
           | true =>
            cases hqb25
          | true =>
           cases hqb24
         | true =>
          cases hqb22
        | true =>
         cases hqb21
       | true =>
        cases hqb20
      | true =>
       replace hb20 := iteT hb20 rfl
       have hqb20 := Option.some.inj hb20
       cases b20 with
       | false =>
        replace hb21 := iteF hb21 rfl
        have hqb21 := Option.some.inj hb21
        cases b21 with
        | false =>
         replace hb22 := iteF hb22 rfl
         have hqb22 := Option.some.inj hb22
         cases b22 with
         | false =>
          replace hb24 := iteF hb24 rfl
          have hqb24 := Option.some.inj hb24
          cases b24 with
          | false =>
           replace hb25 := iteF hb25 rfl
           have hqb25 := Option.some.inj hb25
           cases b25 with
           | false =>
            replace hb26 := iteF hb26 rfl
            have hqb26 := Option.some.inj hb26
            cases b26 with
            | false =>
             replace hb27 := iteF hb27 rfl
             have hqb27 := Option.some.inj hb27
             cases b27 with
             | false =>
              replace hb28 := iteF hb28 rfl
              have hqb28 := Option.some.inj hb28
              cases b28 with
              | false =>
               replace hb29 := iteF hb29 rfl
               have hqb29 := Option.some.inj hb29
               cases b29 with
               | false =>
                replace hb30 := iteF hb30 rfl
                have hqb30 := Option.some.inj hb30
                cases b30 with
                | false =>
                 replace hb31 := iteF hb31 rfl
                 have hqb31 := Option.some.inj hb31
                 subst hqb31
                 simp (maxSteps := 1000000) only [↓reduceIte, reduceCtorEq, Nat.reduceEqDiff, Nat.reduceLT, Nat.reduceLeDiff, Nat.reduceAdd, Nat.reduceMul, Int.reduceToNat, push_cast, he9a, he9b, he9c, he10a, he10b, he10c, he11a, he11b, he11c, he12a, he12b, he12c, he13a, he13b, he13c, he14a, he14b, he14c, hvr16, ↓hqb18, ↓hqb19, ↓hqb20]
                 try simp only [↓hqb18, ↓hqb19, ↓hqb20] at hK
                 try have q0 := c_bookendref11_SameEntries hvr15
                 try have q1 := c_bookendref10_Ints hvr16
                 try have q2 := c_bookendref10_Ints hvr23
                 all_goals exact rUd
                | true =>
                 cases hqb30
               | true =>
                cases hqb29
              | true =>
               cases hqb28
             | true =>
              cases hqb27
            | true =>
             cases hqb26
           | true =>
            cases hqb25
          | true =>
           cases hqb24
         | true =>
          cases hqb22
        | true =>
         cases hqb21
       | true =>
        replace hb21 := iteT hb21 rfl
        have hqb21 := Option.some.inj hb21
        cases b21 with
        | false =>
         replace hb22 := iteF hb22 rfl
         have hqb22 := Option.some.inj hb22
         cases b22 with
         | false =>
          replace hb24 := iteF hb24 rfl
          have hqb24 := Option.some.inj hb24
          cases b24 with
          | false =>
           replace hb25 := iteF hb25 rfl
           have hqb25 := Option.some.inj hb25
           cases b25 with
           | false =>
            replace hb26 := iteF hb26 rfl
            have hqb26 := Option.some.inj hb26
            cases b26 with
            | false =>
             replace hb27 := iteF hb27 rfl
             have hqb27 := Option.some.inj hb27
             cases b27 with
             | false =>
              replace hb28 := iteF hb28 rfl
              have hqb28 := Option.some.inj hb28
              cases b28 with
              | false =>
               replace hb29 := iteF hb29 rfl
               have hqb29 := Option.some.inj hb29
               cases b29 with
               | false =>
                replace hb30 := iteF hb30 rfl
                have hqb30 := Option.some.inj hb30
                cases b30 with
                | false =>
                 replace hb31 := iteF hb31 rfl
                 have hqb31 := Option.some.inj hb31
                 subst hqb31
                 simp (maxSteps := 1000000) only [↓reduceIte, reduceCtorEq, Nat.reduceEqDiff, Nat.reduceLT, Nat.reduceLeDiff, Nat.reduceAdd, Nat.reduceMul, Int.reduceToNat, push_cast, he9a, he9b, he9c, he10a, he10b, he10c, he11a, he11b, he11c, he12a, he12b, he12c, he13a, he13b, he13c, he14a, he14b, he14c, hvr16, ↓hqb18, ↓hqb19, ↓hqb20, ↓hqb21]
                 try simp only [↓hqb18, ↓hqb19, ↓hqb20, ↓hqb21] at hK
                 try have q0 := c_bookendref11_SameEntries hvr15
                 try have q1 := c_bookendref10_Ints hvr16
                 try have q2 := c_bookendref10_Ints hvr23
                 all_goals exact rUd
                | true =>
                 cases hqb30
               | true =>
                cases hqb29
              | true =>
               cases hqb28
             | true =>
              cases hqb27
            | true =>
             cases hqb26
           | true =>
            cases hqb25
          | true =>
           cases hqb24
         | true =>
          cases hqb22
        | true =>
         replace hb22 := iteT hb22 rfl
         have hqb22 := Option.some.inj hb22
         cases b22 with
         | false =>
          replace hb24 := iteF hb24 rfl
          have hqb24 := Option.some.inj hb24
          cases b24 with
          | false =>
           replace hb25 := iteF hb25 rfl
           have hqb25 := Option.some.inj hb25
           cases b25 with
           | false =>
            replace hb26 := iteF hb26 rfl
            have hqb26 := Option.some.inj hb26
            cases b26 with
            | false =>
             replace hb27 := iteF hb27 rfl
             have hqb27 := Option.some.inj hb27
             cases b27 with
             | false =>
              replace hb28 := iteF hb28 rfl
              have hqb28 := Option.some.inj hb28
              cases b28 with
              | false =>
               replace hb29 := iteF hb29 rfl
               have hqb29 := Option.some.inj hb29
               cases b29 with
               | false =>
                replace hb30 := iteF hb30 rfl
                have hqb30 := Option.some.inj hb30
                cases b30 with
                | false =>
                 replace hb31 := iteF hb31 rfl
                 have hqb31 := Option.some.inj hb31
                 subst hqb31
                 simp (maxSteps := 1000000) only [↓reduceIte, reduceCtorEq, Nat.reduceEqDiff, Nat.reduceLT, Nat.reduceLeDiff, Nat.reduceAdd, Nat.reduceMul, Int.reduceToNat, push_cast, he9a, he9b, he9c, he10a, he10b, he10c, he11a, he11b, he11c, he12a, he12b, he12c, he13a, he13b, he13c, he14a, he14b, he14c, hvr16, ↓hqb18, ↓hqb19, ↓hqb20, ↓hqb21, ↓hqb22]
                 try simp only [↓hqb18, ↓hqb19, ↓hqb20, ↓hqb21, ↓hqb22] at hK
                 try have q0 := c_bookendref11_SameEntries hvr15
                 try have q1 := c_bookendref10_Ints hvr16
                 try have q2 := c_bookendref10_Ints hvr23
                 all_goals exact rUd
                | true =>
                 cases hqb30
               | true =>
                cases hqb29
              | true =>
               cases hqb28
             | true =>
              cases hqb27
            | true =>
             cases hqb26
           | true =>
            cases hqb25
          | true =>
           cases hqb24
         | true =>
          replace hb24 := iteT hb24 rfl
          obtain ⟨vr23, hvr23, hb24⟩ := bindS hb24
          have hqb24 := Option.some.inj hb24
          cases b24 with
          | false =>
           subst hqb24
           replace hb25 := iteF hb25 rfl
           have hqb25 := Option.some.inj hb25
           cases b25 with
           | false =>
            replace hb26 := iteF hb26 rfl
            have hqb26 := Option.some.inj hb26
            cases b26 with
            | false =>
             replace hb27 := iteF hb27 rfl
             have hqb27 := Option.some.inj hb27
             cases b27 with
             | false =>
              replace hb28 := iteF hb28 rfl
              have hqb28 := Option.some.inj hb28
              cases b28 with
              | false =>
               replace hb29 := iteF hb29 rfl
               have hqb29 := Option.some.inj hb29
               cases b29 with
               | false =>
                replace hb30 := iteF hb30 rfl
                have hqb30 := Option.some.inj hb30
                cases b30 with
                | false =>
                 replace hb31 := iteF hb31 rfl
                 have hqb31 := Option.some.inj hb31
                 subst hqb31
                 simp (maxSteps := 1000000) only [↓reduceIte, reduceCtorEq, Nat.reduceEqDiff, Nat.reduceLT, Nat.reduceLeDiff, Nat.reduceAdd, Nat.reduceMul, Int.reduceToNat, push_cast, he9a, he9b, he9c, he10a, he10b, he10c, he11a, he11b, he11c, he12a, he12b, he12c, he13a, he13b, he13c, he14a, he14b, he14c, hvr16, ↓hqb18, ↓hqb19, ↓hqb20, ↓hqb21, ↓hqb22, hvr23]
                 try simp only [↓hqb18, ↓hqb19, ↓hqb20, ↓hqb21, ↓hqb22] at hK
                 try have q0 := c_bookendref11_SameEntries hvr15
                 try have q1 := c_bookendref10_Ints hvr16
                 try have q2 := c_bookendref10_Ints hvr23
                 all_goals exact rUd
                | true =>
                 cases hqb30
               | true =>
                cases hqb29
              | true =>
               cases hqb28
             | true =>
              cases hqb27
            | true =>
             cases hqb26
           | true =>
            cases hqb25
          | true =>
           subst hqb24
           replace hb25 := iteT hb25 rfl
           have hqb25 := Option.some.inj hb25
           cases b25 with
           | false =>
            replace hb26 := iteF hb26 rfl
            have hqb26 := Option.some.inj hb26
            cases b26 with
            | false =>
             replace hb27 := iteF hb27 rfl
             have hqb27 := Option.some.inj hb27
             cases b27 with
             | false =>
              replace hb28 := iteF hb28 rfl
              have hqb28 := Option.some.inj hb28
              cases b28 with
              | false =>
               replace hb29 := iteF hb29 rfl
               have hqb29 := Option.some.inj hb29
               cases b29 with
               | false =>
                replace hb30 := iteF hb30 rfl
                have hqb30 := Option.some.inj hb30
                cases b30 with
                | false =>
                 replace hb31 := iteF hb31 rfl
                 have hqb31 := Option.some.inj hb31
                 subst hqb31
                 simp (maxSteps := 1000000) only [↓reduceIte, reduceCtorEq, Nat.reduceEqDiff, Nat.reduceLT, Nat.reduceLeDiff, Nat.reduceAdd, Nat.reduceMul, Int.reduceToNat, push_cast, he9a, he9b, he9c, he10a, he10b, he10c, he11a, he11b, he11c, he12a, he12b, he12c, he13a, he13b, he13c, he14a, he14b, he14c, hvr16, ↓hqb18, ↓hqb19, ↓hqb20, ↓hqb21, ↓hqb22, hvr23, ↓hqb25]
                 try simp only [↓hqb18, ↓hqb19, ↓hqb20, ↓hqb21, ↓hqb22, ↓hqb25] at hK
                 try have q0 := c_bookendref11_SameEntries hvr15
                 try have q1 := c_bookendref10_Ints hvr16
                 try have q2 := c_bookendref10_Ints hvr23
                 all_goals exact rUd
                | true =>
                 cases hqb30
               | true =>
                cases hqb29
              | true =>
               cases hqb28
             | true =>
              cases hqb27
            | true =>
             cases hqb26
           | true =>
            replace hb26 := iteT hb26 rfl
            have hqb26 := Option.some.inj hb26
            cases b26 with
            | false =>
             replace hb27 := iteF hb27 rfl
             have hqb27 := Option.some.inj hb27
             cases b27 with
             | false =>
              replace hb28 := iteF hb28 rfl
              have hqb28 := Option.some.inj hb28
              cases b28 with
              | false =>
               replace hb29 := iteF hb29 rfl
               have hqb29 := Option.some.inj hb29
               cases b29 with
               | false =>
                replace hb30 := iteF hb30 rfl
                have hqb30 := Option.some.inj hb30
                cases b30 with
                | false =>
                 replace hb31 := iteF hb31 rfl
                 have hqb31 := Option.some.inj hb31
                 subst hqb31
                 simp (maxSteps := 1000000) only [↓reduceIte, reduceCtorEq, Nat.reduceEqDiff, Nat.reduceLT, Nat.reduceLeDiff, Nat.reduceAdd, Nat.reduceMul, Int.reduceToNat, push_cast, he9a, he9b, he9c, he10a, he10b, he10c, he11a, he11b, he11c, he12a, he12b, he12c, he13a, he13b, he13c, he14a, he14b, he14c, hvr16, ↓hqb18, ↓hqb19, ↓hqb20, ↓hqb21, ↓hqb22, hvr23, ↓hqb25, ↓hqb26]
                 try simp only [↓hqb18, ↓hqb19, ↓hqb20, ↓hqb21, ↓hqb22, ↓hqb25, ↓hqb26] at hK
                 try have q0 := c_bookendref11_SameEntries hvr15
                 try have q1 := c_bookendref10_Ints hvr16
                 try have q2 := c_bookendref10_Ints hvr23
                 all_goals exact rUd
                | true =>
                 cases hqb30
               | true =>
                cases hqb29
              | true =>
               cases hqb28
             | true =>
              cases hqb27
            | true =>
             replace hb27 := iteT hb27 rfl
             have hqb27 := Option.some.inj hb27
             cases b27 with
             | false =>
              replace hb28 := iteF hb28 rfl
              have hqb28 := Option.some.inj hb28
              cases b28 with
              | false =>
               replace hb29 := iteF hb29 rfl
               have hqb29 := Option.some.inj hb29
               cases b29 with
               | false =>
                replace hb30 := iteF hb30 rfl
                have hqb30 := Option.some.inj hb30
                cases b30 with
                | false =>
                 replace hb31 := iteF hb31 rfl
                 have hqb31 := Option.some.inj hb31
                 subst hqb31
                 simp (maxSteps := 1000000) only [↓reduceIte, reduceCtorEq, Nat.reduceEqDiff, Nat.reduceLT, Nat.reduceLeDiff, Nat.reduceAdd, Nat.reduceMul, Int.reduceToNat, push_cast, he9a, he9b, he9c, he10a, he10b, he10c, he11a, he11b, he11c, he12a, he12b, he12c, he13a, he13b, he13c, he14a, he14b, he14c, hvr16, ↓hqb18, ↓hqb19, ↓hqb20, ↓hqb21, ↓hqb22, hvr23, ↓hqb25, ↓hqb26, ↓hqb27]
                 try simp only [↓hqb18, ↓hqb19, ↓hqb20, ↓hqb21, ↓hqb22, ↓hqb25, ↓hqb26, ↓hqb27] at hK
                 try have q0 := c_bookendref11_SameEntries hvr15
                 try have q1 := c_bookendref10_Ints hvr16
                 try have q2 := c_bookendref10_Ints hvr23
                 all_goals exact rUd
                | true =>
                 cases hqb30
               | true =>
                cases hqb29
              | true =>
               cases hqb28
             | true =>
              replace hb28 := iteT hb28 rfl
              have hqb28 := Option.some.inj hb28
              cases b28 with
              | false =>
               replace hb29 := iteF hb29 rfl
               have hqb29 := Option.some.inj hb29
               cases b29 with
               | false =>
                replace hb30 := iteF hb30 rfl
                have hqb30 := Option.some.inj hb30
                cases b30 with
                | false =>
                 replace hb31 := iteF hb31 rfl
                 have hqb31 := Option.some.inj hb31
                 subst hqb31
                 simp (maxSteps := 1000000) only [↓reduceIte, reduceCtorEq, Nat.reduceEqDiff, Nat.reduceLT, Nat.reduceLeDiff, Nat.reduceAdd, Nat.reduceMul, Int.reduceToNat, push_cast, he9a, he9b, he9c, he10a, he10b, he10c, he11a, he11b, he11c, he12a, he12b, he12c, he13a, he13b, he13c, he14a, he14b, he14c, hvr16, ↓hqb18, ↓hqb19, ↓hqb20, ↓hqb21, ↓hqb22, hvr23, ↓hqb25, ↓hqb26, ↓hqb27, ↓hqb28]
                 try simp only [↓hqb18, ↓hqb19, ↓hqb20, ↓hqb21, ↓hqb22, ↓hqb25, ↓hqb26, ↓hqb27, ↓hqb28] at hK
                 try have q0 := c_bookendref11_SameEntries hvr15
                 try have q1 := c_bookendref10_Ints hvr16
                 try have q2 := c_bookendref10_Ints hvr23
                 all_goals exact rUd
                | true =>
                 cases hqb30
               | true =>
                cases hqb29
              | true =>
               replace hb29 := iteT hb29 rfl
               have hqb29 := Option.some.inj hb29
               cases b29 with
               | false =>
                replace hb30 := iteF hb30 rfl
                have hqb30 := Option.some.inj hb30
                cases b30 with
                | false =>
                 replace hb31 := iteF hb31 rfl
                 have hqb31 := Option.some.inj hb31
                 subst hqb31
                 simp (maxSteps := 1000000) only [↓reduceIte, reduceCtorEq, Nat.reduceEqDiff, Nat.reduceLT, Nat.reduceLeDiff, Nat.reduceAdd, Nat.reduceMul, Int.reduceToNat, push_cast, he9a, he9b, he9c, he10a, he10b, he10c, he11a, he11b, he11c, he12a, he12b, he12c, he13a, he13b, he13c, he14a, he14b, he14c, hvr16, ↓hqb18, ↓hqb19, ↓hqb20, ↓hqb21, ↓hqb22, hvr23, ↓hqb25, ↓hqb26, ↓hqb27, ↓hqb28, ↓hqb29]
                 try simp only [↓hqb18, ↓hqb19, ↓hqb20, ↓hqb21, ↓hqb22, ↓hqb25, ↓hqb26, ↓hqb27, ↓hqb28, ↓hqb29] at hK
                 try have q0 := c_bookendref11_SameEntries hvr15
                 try have q1 := c_bookendref10_Ints hvr16
                 try have q2 := c_bookendref10_Ints hvr23
                 all_goals exact rUd
                | true =>
                 cases hqb30
               | true =>
                replace hb30 := iteT hb30 rfl
                have hqb30 := Option.some.inj hb30
                cases b30 with
                | false =>
                 replace hb31 := iteF hb31 rfl
                 have hqb31 := Option.some.inj hb31
                 subst hqb31
                 simp (maxSteps := 1000000) only [↓reduceIte, reduceCtorEq, Nat.reduceEqDiff, Nat.reduceLT, Nat.reduceLeDiff, Nat.reduceAdd, Nat.reduceMul, Int.reduceToNat, push_cast, he9a, he9b, he9c, he10a, he10b, he10c, he11a, he11b, he11c, he12a, he12b, he12c, he13a, he13b, he13c, he14a, he14b, he14c, hvr16, ↓hqb18, ↓hqb19, ↓hqb20, ↓hqb21, ↓hqb22, hvr23, ↓hqb25, ↓hqb26, ↓hqb27, ↓hqb28, ↓hqb29, ↓hqb30]
                 try simp only [↓hqb18, ↓hqb19, ↓hqb20, ↓hqb21, ↓hqb22, ↓hqb25, ↓hqb26, ↓hqb27, ↓hqb28, ↓hqb29, ↓hqb30] at hK
                 try have q0 := c_bookendref11_SameEntries hvr15
                 try have q1 := c_bookendref10_Ints hvr16
                 try have q2 := c_bookendref10_Ints hvr23
                 all_goals exact rUd
                | true =>
                 replace hb31 := iteT hb31 rfl
                 have hqb31 := Option.some.inj hb31
                 subst hqb31
                 simp (maxSteps := 1000000) only [↓reduceIte, reduceCtorEq, Nat.reduceEqDiff, Nat.reduceLT, Nat.reduceLeDiff, Nat.reduceAdd, Nat.reduceMul, Int.reduceToNat, push_cast, he9a, he9b, he9c, he10a, he10b, he10c, he11a, he11b, he11c, he12a, he12b, he12c, he13a, he13b, he13c, he14a, he14b, he14c, hvr16, ↓hqb18, ↓hqb19, ↓hqb20, ↓hqb21, ↓hqb22, hvr23, ↓hqb25, ↓hqb26, ↓hqb27, ↓hqb28, ↓hqb29, ↓hqb30]
                 try simp only [↓hqb18, ↓hqb19, ↓hqb20, ↓hqb21, ↓hqb22, ↓hqb25, ↓hqb26, ↓hqb27, ↓hqb28, ↓hqb29, ↓hqb30] at hK
                 try have q0 := c_bookendref11_SameEntries hvr15
                 try have q1 := c_bookendref10_Ints hvr16
                 try have q2 := c_bookendref10_Ints hvr23
                 all_goals exact rUd) ?_
 refine awp_re (s2 := ⟨[(0, .bool b31)], [(144, { g := 0, own := true, pure := true, sz := 5, es := [[.psl 1 (List.map (encSl 4 TApiEntry.enc) vr3.1.Runs), .psl 1 (List.map (encInt .i64) vr3.1.At), .psl 2 (List.map TApiLsKey.enc vr3.1.Tree.Keys), .psl 1 (List.map (encInt .i64) vr3.1.Tree.Lose), .int .i64 vr3.1.Tree.Win]] }), (224, { g := 0, own := true, pure := true, sz := 4, es := [[.str vr4.1.Key, .str vr4.1.Val, .bool vr4.1.Dead, .int .i64 vr4.1.Seq]] }), (296, { g := 0, own := true, pure := true, sz := 5, es := [[.psl 1 (List.map (encSl 4 TApiEntry.enc) vr5.1.Runs), .psl 1 (List.map (encInt .i64) vr5.1.At), .psl 2 (List.map TApiLsKey.enc vr5.1.Tree.Keys), .psl 1 (List.map (encInt .i64) vr5.1.Tree.Lose), .int .i64 vr5.1.Tree.Win]] }), (376, { g := 0, own := true, pure := true, sz := 4, es := [[.str vr6.1.Key, .str vr6.1.Val, .bool vr6.1.Dead, .int .i64 vr6.1.Seq]] }), (384, { g := 0, own := true, pure := true, sz := 5, es := [[.psl 1 (List.map (encSl 4 TApiEntry.enc) vr6.2.2.1.Runs), .psl 1 (List.map (encInt .i64) vr6.2.2.1.At), .psl 2 (List.map TApiLsKey.enc vr6.2.2.1.Tree.Keys), .psl 1 (List.map (encInt .i64) vr6.2.2.1.Tree.Lose), .int .i64 vr6.2.2.1.Tree.Win]] }), (472, { g := 0, own := true, pure := true, sz := 4, es := [[.str vr7.1.Key, .str vr7.1.Val, .bool vr7.1.Dead, .int .i64 vr7.1.Seq]] }), (512, { g := 0, own := true, pure := true, sz := 1, es := List.map (encInt .i64) [0, 3] }), (536, { g := 0, own := true, pure := true, sz := 2, es := List.map TApiLsKey.enc [(TApiLsKey.mk [98] false), (TApiLsKey.mk [] true)] }), (544, { g := 0, own := true, pure := true, sz := 1, es := List.map (encInt .i64) [0, 1] }), (784, { g := 0, own := true, pure := true, sz := 4, es := List.map TApiEntry.enc [e10, e12, e13, e14] })], 1360, []⟩) [] (Nat.le_of_ble_eq_true rfl) ⟨rF, rE, rfl, rfl, trivial, trivial⟩ ?_
 refine awp_ret ?_
 obtain rfl := Option.some.inj h0
 refine leave_retG [] ?_
 simp (maxSteps := 1000000) only [↓reduceIte, reduceCtorEq, Nat.reduceEqDiff, Nat.reduceLT, Nat.reduceLeDiff, Nat.reduceAdd, Nat.reduceMul, Int.reduceToNat, push_cast, Gives, he9a, he9b, he9c, he10a, he10b, he10c, he11a, he11b, he11c, he12a, he12b, he12c, he13a, he13b, he13c, he14a, he14b, he14c]
 all_goals exact rH
end Go.T
end
section
/- The program computes them. -/
namespace Go.T
open Go Go.AM Go.Proofs
set_option maxRecDepth 100000
set_option maxHeartbeats 4000000
set_option linter.unusedVariables false
theorem c_bookendlaw11_MergeOrders {fu : Nat} {runs1 : List (List TApiEntry)} {r : Bool} (h0 : bookendlaw11_MergeOrders fu runs1 = some r) : PCall Try.prog 4 [.psl 1 (runs1.map (encSl 4 TApiEntry.enc))] (.bool r) [] := by
 refine awp_pcall Try.func4 rfl (by decide) (Nat.le_of_ble_eq_true rfl) ?_
 dsimp only [Try.f4]
 rw [bookendlaw11_MergeOrders] at h0
 refine (show AWP _ _ _ _ ⟨enumFr 0 _, [], 0, []⟩ from ?_)
 refine awp_sr2 8 [0] (fun _ => none) rfl (fun _ _ => rT) ?_
 refine awp_seq ?_
 obtain ⟨vr2, hvr2, h0⟩ := bindS h0
 refine awp_sr2 24 [0, 11] (fun | 1 => some (.bool vr2, []) | _ => none) rfl (fun _ _ => rC (c_bookendlaw11_Far hvr2)) ?_
 refine awp_if rfl (fun hb3 => ?_) (fun hb3 => ?_)
 ·
  replace h0 := iteT h0 hb3
  obtain ⟨vr4, hvr4, h0⟩ := bindS h0
  refine awp_sr2 40 [2] (fun | 0 => some (.bool vr4, []) | _ => none) rfl (fun _ _ => rC (c_bookendlaw11_awake hvr4)) ?_
  refine awp_ret ?_
  refine kr_then ?_
  obtain rfl := Option.some.inj h0
  refine leave_retG [] ?_
  exact rG
 ·
  replace h0 := iteF h0 hb3
  refine awp_skip ?_
  refine kn_then ?_
  obtain ⟨vr5, hvr5, h0⟩ := bindS h0
  refine awp_sr2 96 [0, 3, 4, 5] (fun | 1 => some (.tup [.psl 4 (vr5.1.map TApiEntry.enc), .psl 1 (vr5.2.1.map (encInt .i64)), .int .i64 vr5.2.2], []) | _ => none) rfl (fun _ _ => rC (c_merge_All hvr5)) ?_
  refine awp_seq ?_
  refine awp_sr2 112 [0, 3, 4, 20] (fun _ => none) rfl (fun _ _ => rT) ?_
  refine awp_if rfl (fun hb6 => ?_) (fun hb6 => ?_)
  ·
   replace h0 := iteT h0 hb6
   obtain ⟨b7, hb7, h0⟩ := bindS h0
   obtain ⟨b9, hb9, h0⟩ := bindS h0
   refine awp_sr3 (fr' := [(2, .bool b9)]) (hp' := []) [] 208 [2] (fun | 9 => (bookendlaw11_awake fu).bind fun vr8 => some (.bool vr8, []) | _ => none) rfl (fun Kt hK => by
     cases hg10 : (decide ((vr5.1.length : Int) = 0)) with
     | false =>
      replace hb7 := iteF hb7 hg10
      have hqb7 := Option.some.inj hb7
      cases b7 with
      | false =>
       replace hb9 := iteF hb9 rfl
       have hqb9 := Option.some.inj hb9
       subst hqb9
       simp (maxSteps := 1000000) only [↓reduceIte, reduceCtorEq, Nat.reduceEqDiff, Nat.reduceLT, Nat.reduceLeDiff, Nat.reduceAdd, Nat.reduceMul, Int.reduceToNat, push_cast, ↓hg10]
       try simp only [↓hg10] at hK
       try have q0 := c_bookendlaw11_awake hvr8
       all_goals exact rU
      | true =>
       cases hqb7
     | true =>
      replace hb7 := iteT hb7 hg10
      have hqb7 := Option.some.inj hb7
      cases b7 with
      | false =>
       replace hb9 := iteF hb9 rfl
       have hqb9 := Option.some.inj hb9
       subst hqb9
       simp (maxSteps := 1000000) only [↓reduceIte, reduceCtorEq, Nat.reduceEqDiff, Nat.reduceLT, Nat.reduceLeDiff, Nat.reduceAdd, Nat.reduceMul, Int.reduceToNat, push_cast, ↓hg10, ↓hqb7]
       try simp only [↓hg10, ↓hqb7] at hK
       try have q0 := c_bookendlaw11_awake hvr8
       all_goals exact rU
      | true =>
       replace hb9 := iteT hb9 rfl
       obtain ⟨vr8, hvr8, hb9⟩ := bindS hb9
       have hqb9 := Option.some.inj hb9
       subst hqb9
       simp (maxSteps := 1000000) only [↓reduceIte, reduceCtorEq, Nat.reduceEqDiff, Nat.reduceLT, Nat.reduceLeDiff, Nat.reduceAdd, Nat.reduceMul, Int.reduceToNat, push_cast, ↓hg10, ↓hqb7, hvr8]
       try simp only [↓hg10, ↓hqb7] at hK
       try have q0 := c_bookendlaw11_awake hvr8
       all_goals exact rU) ?_
   refine awp_ret ?_
   refine kr_then ?_
   obtain rfl := Option.some.inj h0
   refine leave_retG [] ?_
   exact rG
  ·
   replace h0 := iteF h0 hb6
   refine awp_skip ?_
   refine kn_then ?_
   refine awp_seq ?_
   refine awp_sr2 152 [0, 3, 4, 36] (fun _ => none) rfl (fun _ _ => rT) ?_
   refine awp_if rfl (fun hb13 => ?_) (fun hb13 => ?_)
   ·
    replace h0 := iteT h0 hb13
    refine awp_sr2 160 [2] (fun _ => none) rfl (fun _ _ => rT) ?_
    refine awp_ret ?_
    refine kr_then ?_
    obtain rfl := Option.some.inj h0
    refine leave_retG [] ?_
    exact rG
   ·
    replace h0 := iteF h0 hb13
    refine awp_skip ?_
    refine kn_then ?_
    obtain ⟨hc14, h0⟩ := guS h0
    refine awp_sr2 184 [0, 3, 4, 6] (fun _ => none) rfl (fun _ _ => rT) ?_
    refine awp_re (s2 := ⟨[(0, .psl 1 (List.map (encSl 4 TApiEntry.enc) runs1)), (3, .psl 4 (List.map TApiEntry.enc vr5.1)), (4, .psl 1 (List.map (encInt .i64) vr5.2.1)), (6, .sl 168 0 1 0 ((List.replicate runs1.length 0 : List Int).length))], [(168, { g := 0, own := true, pure := true, sz := 1, es := List.map (encInt .i64) (List.replicate runs1.length 0 : List Int) })], 184, []⟩) [] (Nat.le_of_ble_eq_true rfl) ⟨rF, rE, rfl, rfl, trivial, trivial⟩ ?_
    refine awp_seq ?_
    refine awp_sr2 192 [0, 3, 4, 6, 7] (fun _ => none) rfl (fun _ _ => rT) ?_
    obtain ⟨x66, hxx66, h0⟩ := bindS h0
    refine awp_bloop (fun s' => ∃ o99 : List Int, ∃ g100 : Nat, x66 = .inl o99 ∧ s'.nx ≤ 224 ∧ LeN [] s' ⟨[(0, .psl 1 (List.map (encSl 4 TApiEntry.enc) runs1)), (6, .sl 168 g100 1 0 o99.length)], [(168, { g := g100, own := true, pure := true, sz := 1, es := List.map (encInt .i64) o99 })], 224, []⟩) ?_ ?_
    ·
     intro s' hs
     obtain ⟨o99, g100, rfl, hn, hs⟩ := hs
     refine kn_then ?_
     refine awp_re [] hn hs ?_
     refine awp_seq ?_
     refine awp_sr2 232 [0, 6, 9] (fun _ => none) rfl (fun _ _ => rT) ?_
     obtain ⟨x110, hxx110, h0⟩ := bindS h0
     refine awp_bloop (fun s' => ∃ o116 : Unit, x110 = .inl o116 ∧ s'.nx ≤ 264 ∧ LeN [] s' ⟨[], [(168, { g := g100, own := true, pure := true, sz := 1, es := List.map (encInt .i64) o99 })], 264, []⟩) ?_ ?_
     ·
      intro s' hs
      obtain ⟨o116, rfl, hn, hs⟩ := hs
      refine kn_then ?_
      refine awp_re [] hn hs ?_
      obtain ⟨vr117, hvr117, h0⟩ := bindS h0
      refine awp_sr2 280 [2] (fun | 0 => some (.bool vr117, []) | _ => none) rfl (fun _ _ => rC (c_bookendlaw11_awake hvr117)) ?_
      refine awp_ret ?_
      obtain rfl := Option.some.inj h0
      refine leave_retG [] ?_
      exact rG
     ·
      refine awp_loopF (ι := { p : Nat × Int // bookendlaw11_MergeOrders_l2 runs1 o99 p.1 p.2 = some x110 }) (fun p => ⟨[(0, .psl 1 (List.map (encSl 4 TApiEntry.enc) runs1)), (6, .sl 168 g100 1 0 o99.length), (9, .int .i64 p.1.2)], [(168, { g := g100, own := true, pure := true, sz := 1, es := List.map (encInt .i64) o99 })], 232, []⟩) (fun p => p.1.1) ⟨(fu, 0), hxx110⟩ ⟨rF, rE, rfl, rfl, trivial, trivial⟩ (fun _ => Nat.le_refl _) ?_
      rintro ⟨⟨fu, i111⟩, h1⟩
      cases fu with
      | zero =>
   replace h1 : bookendlaw11_MergeOrders_l2 runs1 o99 0 i111 = some x110 := h1
   rw [bookendlaw11_MergeOrders_l2] at h1; cases h1
      | succ fu =>
       replace h1 : bookendlaw11_MergeOrders_l2 runs1 o99 (fu + 1) i111 = some x110 := h1
       rw [bookendlaw11_MergeOrders_l2] at h1
       refine (show AWP _ _ _ _ ⟨[(0, .psl 1 (List.map (encSl 4 TApiEntry.enc) runs1)), (6, .sl 168 g100 1 0 o99.length), (9, .int .i64 i111)], [(168, { g := g100, own := true, pure := true, sz := 1, es := List.map (encInt .i64) o99 })], 232, []⟩ from ?_)
       refine awp_seq ?_
       refine awp_sr2 264 [0, 6, 9, 135] (fun _ => none) rfl (fun _ _ => rT) ?_
       refine awp_if rfl (fun hb112 => ?_) (fun hb112 => ?_)
       ·
        replace h1 := iteT h1 hb112
        refine awp_skip ?_
        refine kn_then ?_
        refine awp_seq ?_
        refine awp_block ?_
        obtain ⟨e113, he113, h1⟩ := bindS h1
        obtain ⟨he113a, he113b, he113c⟩ := idxS he113
        obtain ⟨e114, he114, h1⟩ := bindS h1
        obtain ⟨he114a, he114b, he114c⟩ := idxS he114
        refine awp_sd2 344 [0, 6, 9, 147] (fun _ => none) rfl rfl rfl (fun _ _ => rSd (rA he113a (rA he113b (rA he113c (rA he114a (rA he114b he114c)))))) ?_
        refine awp_if rfl (fun hb115 => ?_) (fun hb115 => ?_)
        ·
         replace h1 := iteT h1 hb115
         refine awp_sr2 352 [2] (fun _ => none) rfl (fun _ _ => rS (rA he113a (rA he113b (rA he113c (rA he114a (rA he114b he114c)))))) ?_
         refine awp_ret ?_
         obtain rfl := Option.some.inj h1
         refine kr_block ?_
         refine kr_then ?_
         refine kr_then ?_
         refine kr_loop ?_
         refine kr_then ?_
         obtain rfl := Option.some.inj h0
         refine leave_retG [] ?_
         simp (maxSteps := 1000000) only [↓reduceIte, reduceCtorEq, Nat.reduceEqDiff, Nat.reduceLT, Nat.reduceLeDiff, Nat.reduceAdd, Nat.reduceMul, Int.reduceToNat, push_cast, Gives, he113a, he113b, he113c, he114a, he114b, he114c]
         all_goals exact rH
        ·
         replace h1 := iteF h1 hb115
         refine awp_skip ?_
         refine kn_block ?_
         refine kn_then ?_
         refine awp_r2 368 [0, 6, 9] (fun _ => none) rfl (fun _ _ => rS (rA he113a (rA he113b (rA he113c (rA he114a (rA he114b he114c)))))) ?_
         refine kn_then ?_
         exact ⟨⟨(fu, (IntKind.i64.wrap (i111 + 1))), h1⟩, ⟨rF, rE, rfl, rfl, trivial, trivial⟩, Nat.lt_succ_self _⟩
       ·
        replace h1 := iteF h1 hb112
        refine awp_exit ?_
        refine kx_then ?_
        refine kx_then ?_
        refine kx_done ?_
        obtain rfl := Option.some.inj h1
        exact ⟨_, rfl, Nat.le_of_ble_eq_true rfl, ⟨rF, rE, rfl, rfl, trivial, trivial⟩⟩
    ·
     refine awp_loopF (ι := { p : Nat × Int × List Int × Nat // bookendlaw11_MergeOrders_l1 vr5 runs1 p.1 p.2.1 p.2.2.1 = some x66 }) (fun p => ⟨[(0, .psl 1 (List.map (encSl 4 TApiEntry.enc) runs1)), (3, .psl 4 (List.map TApiEntry.enc vr5.1)), (4, .psl 1 (List.map (encInt .i64) vr5.2.1)), (6, .sl 168 p.1.2.2.2 1 0 p.1.2.2.1.length), (7, .int .i64 p.1.2.1)], [(168, { g := p.1.2.2.2, own := true, pure := true, sz := 1, es := List.map (encInt .i64) p.1.2.2.1 })], 192, []⟩) (fun p => p.1.1) ⟨(fu, 0, (List.replicate runs1.length 0 : List Int), 0), hxx66⟩ ⟨rF, rE, rfl, rfl, trivial, trivial⟩ (fun _ => Nat.le_refl _) ?_
     rintro ⟨⟨fu, i67, vat68, g69⟩, h1⟩
     cases fu with
     | zero =>
   replace h1 : bookendlaw11_MergeOrders_l1 vr5 runs1 0 i67 vat68 = some x66 := h1
   rw [bookendlaw11_MergeOrders_l1] at h1; cases h1
     | succ fu =>
      replace h1 : bookendlaw11_MergeOrders_l1 vr5 runs1 (fu + 1) i67 vat68 = some x66 := h1
      rw [bookendlaw11_MergeOrders_l1] at h1
      refine (show AWP _ _ _ _ ⟨[(0, .psl 1 (List.map (encSl 4 TApiEntry.enc) runs1)), (3, .psl 4 (List.map TApiEntry.enc vr5.1)), (4, .psl 1 (List.map (encInt .i64) vr5.2.1)), (6, .sl 168 g69 1 0 vat68.length), (7, .int .i64 i67)], [(168, { g := g69, own := true, pure := true, sz := 1, es := List.map (encInt .i64) vat68 })], 192, []⟩ from ?_)
      refine awp_seq ?_
      refine awp_sr2 224 [0, 3, 4, 6, 7, 43] (fun _ => none) rfl (fun _ _ => rT) ?_
      refine awp_if rfl (fun hb70 => ?_) (fun hb70 => ?_)
      ·
       replace h1 := iteT h1 hb70
       refine awp_skip ?_
       refine kn_then ?_
       refine awp_seq ?_
       refine awp_block ?_
       obtain ⟨e71, he71, h1⟩ := bindS h1
       obtain ⟨he71a, he71b, he71c⟩ := idxS he71
       refine awp_sr2 264 [0, 3, 4, 6, 7, 8] (fun _ => none) rfl (fun _ _ => rS (rA he71a (rA he71b he71c))) ?_
       refine awp_seq ?_
       obtain ⟨b72, hb72, h1⟩ := bindS h1
       obtain ⟨b75, hb75, h1⟩ := bindS h1
       obtain ⟨b80, hb80, h1⟩ := bindS h1
       refine awp_sd3 (fr' := [(0, .psl 1 (List.map (encSl 4 TApiEntry.enc) runs1)), (3, .psl 4 (List.map TApiEntry.enc vr5.1)), (4, .psl 1 (List.map (encInt .i64) vr5.2.1)), (6, .sl 168 g69 1 0 vat68.length), (7, .int .i64 i67), (8, .int .i64 e71), (86, .bool b80)]) (hp' := [(168, { g := g69, own := true, pure := true, sz := 1, es := List.map (encInt .i64) vat68 })]) [168] 560 [0, 3, 4, 6, 7, 8, 86] (fun _ => none) rfl rfl rfl (fun Kt hK => by
         cases hg81 : (decide (e71 < 0)) with
         | false =>
          replace hb72 := iteF hb72 hg81
          have hqb72 := Option.some.inj hb72
          cases b72 with
          | false =>
           replace hb75 := iteF hb75 rfl
           obtain ⟨e73, he73, hb75⟩ := bindS hb75
           obtain ⟨he73a, he73b, he73c⟩ := idxS he73
           obtain ⟨e74, he74, hb75⟩ := bindS hb75
           obtain ⟨he74a, he74b, he74c⟩ := idxS he74
           have hqb75 := Option.some.inj hb75
           cases b75 with
           | false =>
            replace hb80 := iteF hb80 rfl
            obtain ⟨e76, he76, hb80⟩ := bindS hb80
            obtain ⟨he76a, he76b, he76c⟩ := idxS he76
            obtain rfl := Option.some.inj (he74.symm.trans he76)
            obtain ⟨e77, he77, hb80⟩ := bindS hb80
            obtain ⟨he77a, he77b, he77c⟩ := idxS he77
            obtain rfl := Option.some.inj (he73.symm.trans he77)
            obtain ⟨e78, he78, hb80⟩ := bindS hb80
            obtain ⟨he78a, he78b, he78c⟩ := idxS he78
            obtain ⟨e79, he79, hb80⟩ := bindS hb80
            obtain ⟨he79a, he79b, he79c⟩ := idxS he79
            have hqb80 := Option.some.inj hb80
            subst hqb80
            simp (maxSteps := 1000000) only [↓reduceIte, reduceCtorEq, Nat.reduceEqDiff, Nat.reduceLT, Nat.reduceLeDiff, Nat.reduceAdd, Nat.reduceMul, Int.reduceToNat, push_cast, he71a, he71b, he71c, ↓hg81, ↓hqb72, he73a, he73b, he73c, he73, he74a, he74b, he74c, he74, ↓hqb75, he76a, he76b, he76c, he76, he77a, he77b, he77c, he77, he78a, he78b, he78c, he78, he79a, he79b, he79c, he79]
            try simp only [↓hg81, ↓hqb72, ↓hqb75] at hK
            all_goals exact rUd
           | true =>
            replace hb80 := iteT hb80 rfl
            have hqb80 := Option.some.inj hb80
            subst hqb80
            simp (maxSteps := 1000000) only [↓reduceIte, reduceCtorEq, Nat.reduceEqDiff, Nat.reduceLT, Nat.reduceLeDiff, Nat.reduceAdd, Nat.reduceMul, Int.reduceToNat, push_cast, he71a, he71b, he71c, ↓hg81, ↓hqb72, he73a, he73b, he73c, he73, he74a, he74b, he74c, he74, ↓hqb75]
            try simp only [↓hg81, ↓hqb72, ↓hqb75] at hK
            all_goals exact rUd
          | true =>
           replace hb75 := iteT hb75 rfl
           have hqb75 := Option.some.inj hb75
           cases b75 with
           | false =>
            cases hqb75
           | true =>
            replace hb80 := iteT hb80 rfl
            have hqb80 := Option.some.inj hb80
            subst hqb80
            simp (maxSteps := 1000000) only [↓reduceIte, reduceCtorEq, Nat.reduceEqDiff, Nat.reduceLT, Nat.reduceLeDiff, Nat.reduceAdd, Nat.reduceMul, Int.reduceToNat, push_cast, he71a, he71b, he71c, ↓hg81, ↓hqb72]
            try simp only [↓hg81, ↓hqb72] at hK
            all_goals exact rUd
         | true =>
          replace hb72 := iteT hb72 hg81
          have hqb72 := Option.some.inj hb72
          cases b72 with
          | false =>
           cases hqb72
          | true =>
           replace hb75 := iteT hb75 rfl
           have hqb75 := Option.some.inj hb75
           cases b75 with
           | false =>
            cases hqb75
           | true =>
            replace hb80 := iteT hb80 rfl
            have hqb80 := Option.some.inj hb80
            subst hqb80
            simp (maxSteps := 1000000) only [↓reduceIte, reduceCtorEq, Nat.reduceEqDiff, Nat.reduceLT, Nat.reduceLeDiff, Nat.reduceAdd, Nat.reduceMul, Int.reduceToNat, push_cast, he71a, he71b, he71c, ↓hg81]
            try simp only [↓hg81] at hK
            all_goals exact rUd) ?_
       refine awp_if rfl (fun hb87 => ?_) (fun hb87 => ?_)
       ·
        replace h1 := iteT h1 hb87
        refine awp_sr2 568 [2] (fun _ => none) rfl (fun _ _ => rS (rA he71a (rA he71b he71c))) ?_
        refine awp_ret ?_
        obtain rfl := Option.some.inj h1
        refine kr_then ?_
        refine kr_block ?_
        refine kr_then ?_
        refine kr_then ?_
        refine kr_loop ?_
        refine kr_then ?_
        obtain rfl := Option.some.inj h0
        refine leave_retG [] ?_
        simp (maxSteps := 1000000) only [↓reduceIte, reduceCtorEq, Nat.reduceEqDiff, Nat.reduceLT, Nat.reduceLeDiff, Nat.reduceAdd, Nat.reduceMul, Int.reduceToNat, push_cast, Gives, he71a, he71b, he71c]
        all_goals exact rH
       ·
        replace h1 := iteF h1 hb87
        refine awp_skip ?_
        refine kn_then ?_
        obtain ⟨e88, he88, h1⟩ := bindS h1
        obtain ⟨he88a, he88b, he88c⟩ := idxS he88
        refine awp_sr2 616 [0, 3, 4, 6, 7, 8] (fun _ => none) rfl (fun _ _ => rS (rA he71a (rA he71b (rA he71c (rA he88a (rA he88b he88c)))))) ?_
        refine awp_re (s2 := ⟨[(0, .psl 1 (List.map (encSl 4 TApiEntry.enc) runs1)), (3, .psl 4 (List.map TApiEntry.enc vr5.1)), (4, .psl 1 (List.map (encInt .i64) vr5.2.1)), (6, .sl 168 g69 1 0 ((vat68.set e71.toNat (IntKind.i64.wrap (e88 + 1))).length)), (7, .int .i64 i67), (8, .int .i64 e71)], [(168, { g := g69, own := true, pure := true, sz := 1, es := List.map (encInt .i64) (vat68.set e71.toNat (IntKind.i64.wrap (e88 + 1))) })], 616, []⟩) [] (Nat.le_of_ble_eq_true rfl) ⟨rF, rE, rfl, rfl, trivial, trivial⟩ ?_
        obtain ⟨b94, hb94, h1⟩ := bindS h1
        refine awp_sd3 (fr' := [(0, .psl 1 (List.map (encSl 4 TApiEntry.enc) runs1)), (3, .psl 4 (List.map TApiEntry.enc vr5.1)), (4, .psl 1 (List.map (encInt .i64) vr5.2.1)), (6, .sl 168 g69 1 0 ((vat68.set e71.toNat (IntKind.i64.wrap (e88 + 1))).length)), (7, .int .i64 i67), (131, .bool b94)]) (hp' := [(168, { g := g69, own := true, pure := true, sz := 1, es := List.map (encInt .i64) (vat68.set e71.toNat (IntKind.i64.wrap (e88 + 1))) })]) [168] 928 [0, 3, 4, 6, 7, 131] (fun _ => none) rfl rfl rfl (fun Kt hK => by
          cases hg95 : (decide (0 < i67)) with
          | false =>
           replace hb94 := iteF hb94 hg95
           have hqb94 := Option.some.inj hb94
           subst hqb94
           simp (maxSteps := 1000000) only [↓reduceIte, reduceCtorEq, Nat.reduceEqDiff, Nat.reduceLT, Nat.reduceLeDiff, Nat.reduceAdd, Nat.reduceMul, Int.reduceToNat, push_cast, he71a, he71b, he71c, he88a, he88b, he88c, ↓hg95]
           try simp only [↓hg95] at hK
           all_goals exact rUd
          | true =>
           replace hb94 := iteT hb94 hg95
           obtain ⟨e89, he89, hb94⟩ := bindS hb94
           obtain ⟨he89a, he89b, he89c⟩ := idxS he89
           obtain ⟨e90, he90, hb94⟩ := bindS hb94
           obtain ⟨he90a, he90b, he90c⟩ := idxS he90
           obtain ⟨b93, hb93, hb94⟩ := bindS hb94
           have hqb94 := Option.some.inj hb94
           cases hg96 : (Op.bytesLess e89.Key e90.Key) with
           | false =>
            replace hb93 := iteF hb93 hg96
            obtain ⟨b92, hb92, hb93⟩ := bindS hb93
            have hqb93 := Option.some.inj hb93
            cases hg97 : (e89.Key == e90.Key) with
            | false =>
             replace hb92 := iteF hb92 hg97
             have hqb92 := Option.some.inj hb92
             subst hqb94
             subst hqb93
             subst hqb92
             simp (maxSteps := 1000000) only [↓reduceIte, reduceCtorEq, Nat.reduceEqDiff, Nat.reduceLT, Nat.reduceLeDiff, Nat.reduceAdd, Nat.reduceMul, Int.reduceToNat, push_cast, he71a, he71b, he71c, he88a, he88b, he88c, ↓hg95, he89a, he89b, he89c, he89, he90a, he90b, he90c, he90, ↓hg96, ↓hg97]
             try simp only [↓hg95, ↓hg96, ↓hg97] at hK
             all_goals exact rUd
            | true =>
             replace hb92 := iteT hb92 hg97
             obtain ⟨e91, he91, hb92⟩ := bindS hb92
             obtain ⟨he91a, he91b, he91c⟩ := idxS he91
             have hqb92 := Option.some.inj hb92
             subst hqb94
             subst hqb93
             subst hqb92
             simp (maxSteps := 1000000) only [↓reduceIte, reduceCtorEq, Nat.reduceEqDiff, Nat.reduceLT, Nat.reduceLeDiff, Nat.reduceAdd, Nat.reduceMul, Int.reduceToNat, push_cast, he71a, he71b, he71c, he88a, he88b, he88c, ↓hg95, he89a, he89b, he89c, he89, he90a, he90b, he90c, he90, ↓hg96, ↓hg97, he91a, he91b, he91c, he91]
             try simp only [↓hg95, ↓hg96, ↓hg97] at hK
             all_goals exact rUd
           | true =>
            replace hb93 := iteT hb93 hg96
            have hqb93 := Option.some.inj hb93
            subst hqb94
            subst hqb93
            simp (maxSteps := 1000000) only [↓reduceIte, reduceCtorEq, Nat.reduceEqDiff, Nat.reduceLT, Nat.reduceLeDiff, Nat.reduceAdd, Nat.reduceMul, Int.reduceToNat, push_cast, he71a, he71b, he71c, he88a, he88b, he88c, ↓hg95, he89a, he89b, he89c, he89, he90a, he90b, he90c, he90, ↓hg96]
            try simp only [↓hg95, ↓hg96] at hK
            all_goals exact rUd) ?_
        refine awp_if rfl (fun hb98 => ?_) (fun hb98 => ?_)
        ·
         replace h1 := iteT h1 hb98
         refine awp_sr2 936 [2] (fun _ => none) rfl (fun _ _ => rS (rA he71a (rA he71b (rA he71c (rA he88a (rA he88b he88c)))))) ?_
         refine awp_ret ?_
         obtain rfl := Option.some.inj h1
         refine kr_block ?_
         refine kr_then ?_
         refine kr_then ?_
         refine kr_loop ?_
         refine kr_then ?_
         obtain rfl := Option.some.inj h0
         refine leave_retG [] ?_
         simp (maxSteps := 1000000) only [↓reduceIte, reduceCtorEq, Nat.reduceEqDiff, Nat.reduceLT, Nat.reduceLeDiff, Nat.reduceAdd, Nat.reduceMul, Int.reduceToNat, push_cast, Gives, he71a, he71b, he71c, he88a, he88b, he88c]
         all_goals exact rH
        ·
         replace h1 := iteF h1 hb98
         refine awp_skip ?_
         refine kn_block ?_
         refine kn_then ?_
         refine awp_r2 952 [0, 3, 4, 6, 7] (fun _ => none) rfl (fun _ _ => rS (rA he71a (rA he71b (rA he71c (rA he88a (rA he88b he88c)))))) ?_
         refine kn_then ?_
         exact ⟨⟨(fu, (IntKind.i64.wrap (i67 + 1)), (vat68.set e71.toNat (IntKind.i64.wrap (e88 + 1))), g69), h1⟩, ⟨rF, rE, rfl, rfl, trivial, trivial⟩, Nat.lt_succ_self _⟩
      ·
       replace h1 := iteF h1 hb70
       refine awp_exit ?_
       refine kx_then ?_
       refine kx_then ?_
       refine kx_done ?_
       obtain rfl := Option.some.inj h1
       exact ⟨_, g69, rfl, Nat.le_of_ble_eq_true rfl, ⟨rF, rE, rfl, rfl, trivial, trivial⟩⟩
end Go.T
end
section
/- MergeOrders: for all runs, All has all entries of all runs in order; no conditions. -/
namespace Go.Proofs.Ytfbaoblejikccaa
open Go.T
theorem mergeOrders : Rows.MergeOrdersSaid :=
  mergeOrders_over (fun x0 w0 => by
    obtain ⟨fu, h⟩ := (mergeOrders_ev x0).one
    exact ⟨_, c_bookendlaw11_MergeOrders h⟩)
end Go.Proofs.Ytfbaoblejikccaa
end
