/- MergeGoes: for all runs, Next goes through what All returns, from any state on the way; no conditions. -/
import Derived.Test.YtfbaoblejikccaaF2
set_option linter.unusedSimpArgs false
set_option linter.unusedVariables false
section
/- The program computes them. -/
namespace Go.T
open Go Go.AM Go.Proofs
set_option maxRecDepth 100000
set_option maxHeartbeats 4000000
set_option linter.unusedVariables false
theorem c_bookendlaw11_awake {fu : Nat} {r : Bool} (h0 : bookendlaw11_awake fu = some r) : PCall Try.prog 10 [] (.bool r) [] := by
 refine awp_pcall Try.func10 rfl (by decide) (Nat.le_of_ble_eq_true rfl) ?_
 dsimp only [Try.f10, List.append]
 rw [bookendlaw11_awake] at h0
 refine (show AWP _ _ _ _ ⟨enumFr 0 _, [], 0, []⟩ from ?_)
 refine awp_sr2 8 [] (fun _ => none) rfl (fun _ _ => rT) ?_
 obtain ⟨vr1, hvr1, h0⟩ := bindS h0
 refine awp_sr2 24 [1] (fun | 0 => some (.psl 1 (vr1.map (encSl 4 TApiEntry.enc)), []) | _ => none) rfl (fun _ _ => rC (c_bookendlaw11_Example hvr1)) ?_
 obtain ⟨vr2, hvr2, h0⟩ := bindS h0
 refine awp_sr2 96 [1, 2, 3, 4] (fun | 1 => some (.tup [.psl 4 (vr2.1.map TApiEntry.enc), .psl 1 (vr2.2.1.map (encInt .i64)), .int .i64 vr2.2.2], []) | _ => none) rfl (fun _ _ => rC (c_merge_All hvr2)) ?_
 obtain ⟨vr3, hvr3, h0⟩ := bindS h0
 refine awp_sr2 176 [1, 2, 3, 4, 5, 7] (fun | 1 => some (.tup [.agg (TApiMgState.enc vr3.1), .int .i64 vr3.2.1, .int .i64 vr3.2.2], []) | _ => none) rfl (fun _ _ => rC (c_merge_Begin hvr3)) ?_
 obtain ⟨vr4, hvr4, h0⟩ := bindS h0
 refine awp_sr2 256 [1, 2, 3, 4, 5, 7, 8, 9, 10] (fun | 1 => some (.tup [.agg (TApiEntry.enc vr4.1), .int .i64 vr4.2.1, .int .i64 vr4.2.2], []) | _ => none) rfl (fun _ _ => rC (c_merge_Peek hvr4)) ?_
 obtain ⟨vr5, hvr5, h0⟩ := bindS h0
 refine awp_sr2 320 [1, 2, 3, 4, 7, 8, 9, 10, 11, 12] (fun | 1 => some (.tup [.agg (TApiMgState.enc vr5.1), .int .i64 vr5.2], []) | _ => none) rfl (fun _ _ => rC (c_merge_Skip hvr5)) ?_
 obtain ⟨vr6, hvr6, h0⟩ := bindS h0
 refine awp_sr2 424 [1, 2, 3, 4, 7, 8, 9, 10, 11, 12, 13, 14, 15, 16] (fun | 1 => some (.tup [.agg (TApiEntry.enc vr6.1), .int .i64 vr6.2.1, .agg (TApiMgState.enc vr6.2.2.1), .int .i64 vr6.2.2.2], []) | _ => none) rfl (fun _ _ => rC (c_merge_Next hvr6)) ?_
 obtain ⟨vr7, hvr7, h0⟩ := bindS h0
 refine awp_sr2 504 [1, 2, 3, 4, 7, 8, 9, 10, 11, 12, 13, 14, 16, 19] (fun | 1 => some (.tup [.agg (TApiEntry.enc vr7.1), .int .i64 vr7.2.1, .int .i64 vr7.2.2], []) | _ => none) rfl (fun _ _ => rC (c_merge_Peek hvr7)) ?_
 obtain ⟨vr8, hvr8, h0⟩ := bindS h0
 refine awp_sr2 616 [1, 2, 3, 4, 7, 8, 9, 10, 11, 12, 13, 14, 16, 19, 20, 21] (fun | 8 => some (.tup [.int .i64 vr8.1, .int .i64 vr8.2], []) | _ => none) rfl (fun _ _ => rC (c_merge_Check hvr8)) ?_
 refine awp_re (s2 := ⟨[(1, .psl 1 (List.map (encSl 4 TApiEntry.enc) vr1)), (2, .psl 4 (List.map TApiEntry.enc vr2.1)), (3, .psl 1 (List.map (encInt .i64) vr2.2.1)), (4, .int .i64 vr2.2.2), (7, .int .i64 vr3.2.2), (8, .ref 224 0 0 0), (9, .int .i64 vr4.2.1), (10, .int .i64 vr4.2.2), (11, .ref 296 0 0 0), (12, .int .i64 vr5.2), (13, .ref 376 0 0 0), (14, .int .i64 vr6.2.1), (16, .int .i64 vr6.2.2.2), (19, .int .i64 vr7.2.2), (20, .int .i64 vr8.1), (21, .int .i64 vr8.2)], [(144, { g := 0, own := true, pure := true, sz := 5, es := [[.psl 1 (List.map (encSl 4 TApiEntry.enc) vr3.1.Runs), .psl 1 (List.map (encInt .i64) vr3.1.At), .psl 2 (List.map TApiLsKey.enc vr3.1.Tree.Keys), .psl 1 (List.map (encInt .i64) vr3.1.Tree.Lose), .int .i64 vr3.1.Tree.Win]] }), (224, { g := 0, own := true, pure := true, sz := 4, es := [[.str vr4.1.Key, .str vr4.1.Val, .bool vr4.1.Dead, .int .i64 vr4.1.Seq]] }), (296, { g := 0, own := true, pure := true, sz := 5, es := [[.psl 1 (List.map (encSl 4 TApiEntry.enc) vr5.1.Runs), .psl 1 (List.map (encInt .i64) vr5.1.At), .psl 2 (List.map TApiLsKey.enc vr5.1.Tree.Keys), .psl 1 (List.map (encInt .i64) vr5.1.Tree.Lose), .int .i64 vr5.1.Tree.Win]] }), (376, { g := 0, own := true, pure := true, sz := 4, es := [[.str vr6.1.Key, .str vr6.1.Val, .bool vr6.1.Dead, .int .i64 vr6.1.Seq]] }), (384, { g := 0, own := true, pure := true, sz := 5, es := [[.psl 1 (List.map (encSl 4 TApiEntry.enc) vr6.2.2.1.Runs), .psl 1 (List.map (encInt .i64) vr6.2.2.1.At), .psl 2 (List.map TApiLsKey.enc vr6.2.2.1.Tree.Keys), .psl 1 (List.map (encInt .i64) vr6.2.2.1.Tree.Lose), .int .i64 vr6.2.2.1.Tree.Win]] }), (472, { g := 0, own := true, pure := true, sz := 4, es := [[.str vr7.1.Key, .str vr7.1.Val, .bool vr7.1.Dead, .int .i64 vr7.1.Seq]] }), (512, { g := 0, own := true, pure := true, sz := 1, es := List.map (encInt .i64) [0, 3] }), (536, { g := 0, own := true, pure := true, sz := 2, es := List.map TApiLsKey.enc [(TApiLsKey.mk [98] false), (TApiLsKey.mk [] true)] }), (544, { g := 0, own := true, pure := true, sz := 1, es := List.map (encInt .i64) [0, 1] })], 616, []⟩) [] (Nat.le_of_ble_eq_true rfl) ⟨rF, rE, rfl, rfl, trivial, trivial⟩ ?_
 obtain ⟨e9, he9, h0⟩ := bindS h0
 have he9b := (idxS he9).2.1
 have he9c := (idxL 1 he9 rfl).1
 have he9a := (idxL 1 he9 rfl).2
 obtain ⟨e10, he10, h0⟩ := bindS h0
 have he10b := (idxS he10).2.1
 have he10c := (idxL 0 he10 rfl).1
 have he10a := (idxL 0 he10 rfl).2
 obtain ⟨e11, he11, h0⟩ := bindS h0
 have he11b := (idxS he11).2.1
 have he11c := (idxL 0 he11 rfl).1
 have he11a := (idxL 0 he11 rfl).2
 obtain ⟨e12, he12, h0⟩ := bindS h0
 have he12b := (idxS he12).2.1
 have he12c := (idxL 0 he12 rfl).1
 have he12a := (idxL 0 he12 rfl).2
 obtain ⟨e13, he13, h0⟩ := bindS h0
 have he13b := (idxS he13).2.1
 have he13c := (idxL 1 he13 rfl).1
 have he13a := (idxL 1 he13 rfl).2
 obtain ⟨e14, he14, h0⟩ := bindS h0
 have he14b := (idxS he14).2.1
 have he14c := (idxL 2 he14 rfl).1
 have he14a := (idxL 2 he14 rfl).2
 obtain ⟨vr15, hvr15, h0⟩ := bindS h0
 obtain ⟨b17, hb17, h0⟩ := bindS h0
 obtain ⟨b18, hb18, h0⟩ := bindS h0
 obtain ⟨b19, hb19, h0⟩ := bindS h0
 obtain ⟨b20, hb20, h0⟩ := bindS h0
 obtain ⟨b21, hb21, h0⟩ := bindS h0
 obtain ⟨b22, hb22, h0⟩ := bindS h0
 obtain ⟨b24, hb24, h0⟩ := bindS h0
 obtain ⟨b25, hb25, h0⟩ := bindS h0
 obtain ⟨b26, hb26, h0⟩ := bindS h0
 obtain ⟨b27, hb27, h0⟩ := bindS h0
 obtain ⟨b28, hb28, h0⟩ := bindS h0
 obtain ⟨b29, hb29, h0⟩ := bindS h0
 obtain ⟨b30, hb30, h0⟩ := bindS h0
 obtain ⟨b31, hb31, h0⟩ := bindS h0
 refine awp_sd3 (fr' := [(0, .bool b31)]) (hp' := [(144, { g := 0, own := true, pure := true, sz := 5, es := [[.psl 1 (List.map (encSl 4 TApiEntry.enc) vr3.1.Runs), .psl 1 (List.map (encInt .i64) vr3.1.At), .psl 2 (List.map TApiLsKey.enc vr3.1.Tree.Keys), .psl 1 (List.map (encInt .i64) vr3.1.Tree.Lose), .int .i64 vr3.1.Tree.Win]] }), (224, { g := 0, own := true, pure := true, sz := 4, es := [[.str vr4.1.Key, .str vr4.1.Val, .bool vr4.1.Dead, .int .i64 vr4.1.Seq]] }), (296, { g := 0, own := true, pure := true, sz := 5, es := [[.psl 1 (List.map (encSl 4 TApiEntry.enc) vr5.1.Runs), .psl 1 (List.map (encInt .i64) vr5.1.At), .psl 2 (List.map TApiLsKey.enc vr5.1.Tree.Keys), .psl 1 (List.map (encInt .i64) vr5.1.Tree.Lose), .int .i64 vr5.1.Tree.Win]] }), (376, { g := 0, own := true, pure := true, sz := 4, es := [[.str vr6.1.Key, .str vr6.1.Val, .bool vr6.1.Dead, .int .i64 vr6.1.Seq]] }), (384, { g := 0, own := true, pure := true, sz := 5, es := [[.psl 1 (List.map (encSl 4 TApiEntry.enc) vr6.2.2.1.Runs), .psl 1 (List.map (encInt .i64) vr6.2.2.1.At), .psl 2 (List.map TApiLsKey.enc vr6.2.2.1.Tree.Keys), .psl 1 (List.map (encInt .i64) vr6.2.2.1.Tree.Lose), .int .i64 vr6.2.2.1.Tree.Win]] }), (472, { g := 0, own := true, pure := true, sz := 4, es := [[.str vr7.1.Key, .str vr7.1.Val, .bool vr7.1.Dead, .int .i64 vr7.1.Seq]] }), (512, { g := 0, own := true, pure := true, sz := 1, es := List.map (encInt .i64) [0, 3] }), (536, { g := 0, own := true, pure := true, sz := 2, es := List.map TApiLsKey.enc [(TApiLsKey.mk [98] false), (TApiLsKey.mk [] true)] }), (544, { g := 0, own := true, pure := true, sz := 1, es := List.map (encInt .i64) [0, 1] }), (784, { g := 0, own := true, pure := true, sz := 4, es := List.map TApiEntry.enc [e10, e12, e13, e14] })]) [144, 224, 296, 376, 384, 472, 512, 536, 544, 784] 1360 [0] (fun | 22 => some (.bool vr15, []) | 26 => (bookendref10_Ints fu vr2.2.1 [1, 0, 1, 1]).bind fun vr16 => some (.bool vr16, []) | 57 => (bookendref10_Ints fu vr5.1.At [1, 2]).bind fun vr23 => some (.bool vr23, []) | _ => none) rfl rfl rfl (fun Kt hK => by
   cases vr15 with
   | false =>
    replace hb17 := iteF hb17 rfl
    have hqb17 := Option.some.inj hb17
    cases b17 with
    | false =>
     replace hb18 := iteF hb18 rfl
     have hqb18 := Option.some.inj hb18
     cases b18 with
     | false =>
      replace hb19 := iteF hb19 rfl
      have hqb19 := Option.some.inj hb19
      cases b19 with
      | false =>
       replace hb20 := iteF hb20 rfl
       have hqb20 := Option.some.inj hb20
       cases b20 with
       | false =>
        replace hb21 := iteF hb21 rfl
        have hqb21 := Option.some.inj hb21
        cases b21 with
        | false =>
         replace hb22 := iteF hb22 rfl
         have hqb22 := Option.some.inj hb22
         cases b22 with
         | false =>
          replace hb24 := iteF hb24 rfl
          have hqb24 := Option.some.inj hb24
          cases b24 with
          | false =>
           replace hb25 := iteF hb25 rfl
           have hqb25 := Option.some.inj hb25
           cases b25 with
           | false =>
            replace hb26 := iteF hb26 rfl
            have hqb26 := Option.some.inj hb26
            cases b26 with
            | false =>
             replace hb27 := iteF hb27 rfl
             have hqb27 := Option.some.inj hb27
             cases b27 with
             | false =>
              replace hb28 := iteF hb28 rfl
              have hqb28 := Option.some.inj hb28
              cases b28 with
              | false =>
               replace hb29 := iteF hb29 rfl
               have hqb29 := Option.some.inj hb29
               cases b29 with
               | false =>
                replace hb30 := iteF hb30 rfl
                have hqb30 := Option.some.inj hb30
                cases b30 with
                | false =>
                 replace hb31 := iteF hb31 rfl
                 have hqb31 := Option.some.inj hb31
                 subst hqb31
                 try have q0 := c_bookendref11_SameEntries hvr15
                 try have q1 := c_bookendref10_Ints hvr16
                 try have q2 := c_bookendref10_Ints hvr23
                 exact rSd (rA he9a (rA he9b (rA he9c (rA he10a (rA he10b (rA he10c (rA he11a (rA he11b (rA he11c (rA he12a (rA he12b (rA he12c (rA he13a (rA he13b (rA he13c (rA he14a (rA he14b he14c)))))))))))))))))
                | true =>
                 cases hqb30
               | true =>
                cases hqb29
              | true =>
               cases hqb28
             | true =>
              cases hqb27
            | true =>
             cases hqb26
           | true =>
            cases hqb25
          | true =>
           cases hqb24
         | true =>
          cases hqb22
        | true =>
         cases hqb21
       | true =>
        cases hqb20
      | true =>
       cases hqb19
     | true =>
      cases hqb18
    | true =>
     cases hqb17
   | true =>
    replace hb17 := iteT hb17 rfl
    obtain ⟨vr16, hvr16, hb17⟩ := bindS hb17
    have hqb17 := Option.some.inj hb17
    cases b17 with
    | false =>
     subst hqb17
     replace hb18 := iteF hb18 rfl
     have hqb18 := Option.some.inj hb18
     cases b18 with
     | false =>
      replace hb19 := iteF hb19 rfl
      have hqb19 := Option.some.inj hb19
      cases b19 with
      | false =>
       replace hb20 := iteF hb20 rfl
       have hqb20 := Option.some.inj hb20
       cases b20 with
       | false =>
        replace hb21 := iteF hb21 rfl
        have hqb21 := Option.some.inj hb21
        cases b21 with
        | false =>
         replace hb22 := iteF hb22 rfl
         have hqb22 := Option.some.inj hb22
         cases b22 with
         | false =>
          replace hb24 := iteF hb24 rfl
          have hqb24 := Option.some.inj hb24
          cases b24 with
          | false =>
           replace hb25 := iteF hb25 rfl
           have hqb25 := Option.some.inj hb25
           cases b25 with
           | false =>
            replace hb26 := iteF hb26 rfl
            have hqb26 := Option.some.inj hb26
            cases b26 with
            | false =>
             replace hb27 := iteF hb27 rfl
             have hqb27 := Option.some.inj hb27
             cases b27 with
             | false =>
              replace hb28 := iteF hb28 rfl
              have hqb28 := Option.some.inj hb28
              cases b28 with
              | false =>
               replace hb29 := iteF hb29 rfl
               have hqb29 := Option.some.inj hb29
               cases b29 with
               | false =>
                replace hb30 := iteF hb30 rfl
                have hqb30 := Option.some.inj hb30
                cases b30 with
                | false =>
                 replace hb31 := iteF hb31 rfl
                 have hqb31 := Option.some.inj hb31
                 subst hqb31
                 try have q0 := c_bookendref11_SameEntries hvr15
                 try have q1 := c_bookendref10_Ints hvr16
                 try have q2 := c_bookendref10_Ints hvr23
                 exact rSd (rA he9a (rA he9b (rA he9c (rA he10a (rA he10b (rA he10c (rA he11a (rA he11b (rA he11c (rA he12a (rA he12b (rA he12c (rA he13a (rA he13b (rA he13c (rA he14a (rA he14b (rA he14c hvr16))))))))))))))))))
                | true =>
                 cases hqb30
               | true =>
                cases hqb29
              | true =>
               cases hqb28
             | true =>
              cases hqb27
            | true =>
             cases hqb26
           | true =>
            cases hqb25
          | true =>
           cases hqb24
         | true =>
          cases hqb22
        | true =>
         cases hqb21
       | true =>
        cases hqb20
      | true =>
       cases hqb19
     | true =>
      cases hqb18
    | true =>
     subst hqb17
     replace hb18 := iteT hb18 rfl
     have hqb18 := Option.some.inj hb18
     cases b18 with
     | false =>
      replace hb19 := iteF hb19 rfl
      have hqb19 := Option.some.inj hb19
      cases b19 with
      | false =>
       replace hb20 := iteF hb20 rfl
       have hqb20 := Option.some.inj hb20
       cases b20 with
       | false =>
        replace hb21 := iteF hb21 rfl
        have hqb21 := Option.some.inj hb21
        cases b21 with
        | false =>
         replace hb22 := iteF hb22 rfl
         have hqb22 := Option.some.inj hb22
         cases b22 with
         | false =>
          replace hb24 := iteF hb24 rfl
          have hqb24 := Option.some.inj hb24
          cases b24 with
          | false =>
           replace hb25 := iteF hb25 rfl
           have hqb25 := Option.some.inj hb25
           cases b25 with
           | false =>
            replace hb26 := iteF hb26 rfl
            have hqb26 := Option.some.inj hb26
            cases b26 with
            | false =>
             replace hb27 := iteF hb27 rfl
             have hqb27 := Option.some.inj hb27
             cases b27 with
             | false =>
              replace hb28 := iteF hb28 rfl
              have hqb28 := Option.some.inj hb28
              cases b28 with
              | false =>
               replace hb29 := iteF hb29 rfl
               have hqb29 := Option.some.inj hb29
               cases b29 with
               | false =>
                replace hb30 := iteF hb30 rfl
                have hqb30 := Option.some.inj hb30
                cases b30 with
                | false =>
                 replace hb31 := iteF hb31 rfl
                 have hqb31 := Option.some.inj hb31
                 subst hqb31
                 simp (maxSteps := 1000000) only [↓reduceIte, reduceCtorEq, Nat.reduceEqDiff, Nat.reduceLT, Nat.reduceLeDiff, Nat.reduceAdd, Nat.reduceMul, Int.reduceToNat, push_cast, he9a, he9b, he9c, he10a, he10b, he10c, he11a, he11b, he11c, he12a, he12b, he12c, he13a, he13b, he13c, he14a, he14b, he14c, hvr16, ↓hqb18]
                 try simp only [↓hqb18] at hK
                 try have q0 := c_bookendref11_SameEntries hvr15
                 try have q1 := c_bookendref10_Ints hvr16
                 try have q2 := c_bookendref10_Ints hvr23
                 all_goals exact rUd
                | true =>
                 cases hqb30
               | true =>
                cases hqb29
              | true =>
               cases hqb28
             | true =>
              cases hqb27
            | true =>
             cases hqb26
           | true =>
            cases hqb25
          | true =>
           cases hqb24
         | true =>
          cases hqb22
        | true =>
         cases hqb21
       | true =>
        cases hqb20
      | true =>
       cases hqb19
     | true =>
      replace hb19 := iteT hb19 rfl
      have hqb19 := Option.some.inj hb19
      cases b19 with
      | false =>
       replace hb20 := iteF hb20 rfl
       have hqb20 := Option.some.inj hb20
       cases b20 with
       | false =>
        replace hb21 := iteF hb21 rfl
        have hqb21 := Option.some.inj hb21
        cases b21 with
        | false =>
         replace hb22 := iteF hb22 rfl
         have hqb22 := Option.some.inj hb22
         cases b22 with
         | false =>
          replace hb24 := iteF hb24 rfl
          have hqb24 := Option.some.inj hb24
          cases b24 with
          | false =>
           replace hb25 := iteF hb25 rfl
           have hqb25 := Option.some.inj hb25
           cases b25 with
           | false =>
            replace hb26 := iteF hb26 rfl
            have hqb26 := Option.some.inj hb26
            cases b26 with
            | false =>
             replace hb27 := iteF hb27 rfl
             have hqb27 := Option.some.inj hb27
             cases b27 with
             | false =>
              replace hb28 := iteF hb28 rfl
              have hqb28 := Option.some.inj hb28
              cases b28 with
              | false =>
               replace hb29 := iteF hb29 rfl
               have hqb29 := Option.some.inj hb29
               cases b29 with
               | false =>
                replace hb30 := iteF hb30 rfl
                have hqb30 := Option.some.inj hb30
                cases b30 with
                | false =>
                 replace hb31 := iteF hb31 rfl
                 have hqb31 := Option.some.inj hb31
                 subst hqb31
                 simp (maxSteps := 1000000) only [↓reduceIte, reduceCtorEq, Nat.reduceEqDiff, Nat.reduceLT, Nat.reduceLeDiff, Nat.reduceAdd, Nat.reduceMul, Int.reduceToNat, push_cast, he9a, he9b, he9c, he10a, he10b, he10c, he11a, he11b, he11c, he12a, he12b, he12c, he13a, he13b, he13c, he14a, he14b, he14c, hvr16, ↓hqb18, ↓hqb19]
                 try simp only [↓hqb18, ↓hqb19] at hK
                 try have q0 := c_bookendref11_SameEntries hvr15
                 try have q1 := c_bookendref10_Ints hvr16
                 try have q2 := c_bookendref10_Ints hvr23
                 all_goals exact rUd
                | true =>
                 cases hqb30
               | true =>
                cases hqb29
              | true =>
               cases hqb28
             | true =>
              cases hqb27
            | true =>
             cases hqb26
           | true =>
            cases hqb25
          | true =>
           cases hqb24
         | true =>
          cases hqb22
        | true =>
         cases hqb21
       | true =>
        cases hqb20
      | true =>
       replace hb20 := iteT hb20 rfl
       have hqb20 := Option.some.inj hb20
       cases b20 with
       | false =>
        replace hb21 := iteF hb21 rfl
        have hqb21 := Option.some.inj hb21
        cases b21 with
        | false =>
         replace hb22 := iteF hb22 rfl
         have hqb22 := Option.some.inj hb22
         cases b22 with
         | false =>
          replace hb24 := iteF hb24 rfl
          have hqb24 := Option.some.inj hb24
          cases b24 with
          | false =>
           replace hb25 := iteF hb25 rfl
           have hqb25 := Option.some.inj hb25
           cases b25 with
           | false =>
            replace hb26 := iteF hb26 rfl
            have hqb26 := Option.some.inj hb26
            cases b26 with
            | false =>
             replace hb27 := iteF hb27 rfl
             have hqb27 := Option.some.inj hb27
             cases b27 with
             | false =>
              replace hb28 := iteF hb28 rfl
              have hqb28 := Option.some.inj hb28
              cases b28 with
              | false =>
               replace hb29 := iteF hb29 rfl
               have hqb29 := Option.some.inj hb29
               cases b29 with
               | false =>
                replace hb30 := iteF hb30 rfl
                have hqb30 := Option.some.inj hb30
                cases b30 with
                | false =>
                 replace hb31 := iteF hb31 rfl
                 have hqb31 := Option.some.inj hb31
                 subst hqb31
                 simp (maxSteps := 1000000) only [↓reduceIte, reduceCtorEq, Nat.reduceEqDiff, Nat.reduceLT, Nat.reduceLeDiff, Nat.reduceAdd, Nat.reduceMul, Int.reduceToNat, push_cast, he9a, he9b, he9c, he10a, he10b, he10c, he11a, he11b, he11c, he12a, he12b, he12c, he13a, he13b, he13c, he14a, he14b, he14c, hvr16, ↓hqb18, ↓hqb19, ↓hqb20]
                 try simp only [↓hqb18, ↓hqb19, ↓hqb20] at hK
                 try have q0 := c_bookendref11_SameEntries hvr15
                 try have q1 := c_bookendref10_Ints hvr16
                 try have q2 := c_bookendref10_Ints hvr23
                 all_goals exact rUd
                | true =>
                 cases hqb30
               | true =>
                cases hqb29
              | true =>
               cases hqb28
             | true =>
              cases hqb27
            | true =>
             cases hqb26
           | true =>
            cases hqb25
          | true =>
           cases hqb24
         | true =>
          cases hqb22
        | true =>
         cases hqb21
       | true =>
        replace hb21 := iteT hb21 rfl
        have hqb21 := Option.some.inj hb21
        cases b21 with
        | false =>
         replace hb22 := iteF hb22 rfl
         have hqb22 := Option.some.inj hb22
         cases b22 with
         | false =>
          replace hb24 := iteF hb24 rfl
          have hqb24 := Option.some.inj hb24
          cases b24 with
          | false =>
           replace hb25 := iteF hb25 rfl
           have hqb25 := Option.some.inj hb25
           cases b25 with
           | false =>
            replace hb26 := iteF hb26 rfl
            have hqb26 := Option.some.inj hb26
            cases b26 with
            | false =>
             replace hb27 := iteF hb27 rfl
             have hqb27 := Option.some.inj hb27
             cases b27 with
             | false =>
              replace hb28 := iteF hb28 rfl
              have hqb28 := Option.some.inj hb28
              cases b28 with
              | false =>
               replace hb29 := iteF hb29 rfl
               have hqb29 := Option.some.inj hb29
               cases b29 with
               | false =>
                replace hb30 := iteF hb30 rfl
                have hqb30 := Option.some.inj hb30
                cases b30 with
                | false =>
                 replace hb31 := iteF hb31 rfl
                 have hqb31 := Option.some.inj hb31
                 subst hqb31
                 simp (maxSteps := 1000000) only [↓reduceIte, reduceCtorEq, Nat.reduceEqDiff, Nat.reduceLT, Nat.reduceLeDiff, Nat.reduceAdd, Nat.reduceMul, Int.reduceToNat, push_cast, he9a, he9b, he9c, he10a, he10b, he10c, he11a, he11b, he11c, he12a, he12b, he12c, he13a, he13b, he13c, he14a, he14b, he14c, hvr16, ↓hqb18, ↓hqb19, ↓hqb20, ↓hqb21]
                 try simp only [↓hqb18, ↓hqb19, ↓hqb20, ↓hqb21] at hK
                 try have q0 := c_bookendref11_SameEntries hvr15
                 try have q1 := c_bookendref10_Ints hvr16
                 try have q2 := c_bookendref10_Ints hvr23
                 all_goals exact rUd
                | true =>
                 cases hqb30
               | true =>
                cases hqb29
              | true =>
               cases hqb28
             | true =>
              cases hqb27
            | true =>
             cases hqb26
           | true =>
            cases hqb25
          | true =>
           cases hqb24
         | true =>
          cases hqb22
        | true =>
         replace hb22 := iteT hb22 rfl
         have hqb22 := Option.some.inj hb22
         cases b22 with
         | false =>
          replace hb24 := iteF hb24 rfl
          have hqb24 := Option.some.inj hb24
          cases b24 with
          | false =>
           replace hb25 := iteF hb25 rfl
           have hqb25 := Option.some.inj hb25
           cases b25 with
           | false =>
            replace hb26 := iteF hb26 rfl
            have hqb26 := Option.some.inj hb26
            cases b26 with
            | false =>
             replace hb27 := iteF hb27 rfl
             have hqb27 := Option.some.inj hb27
             cases b27 with
             | false =>
              replace hb28 := iteF hb28 rfl
              have hqb28 := Option.some.inj hb28
              cases b28 with
              | false =>
               replace hb29 := iteF hb29 rfl
               have hqb29 := Option.some.inj hb29
               cases b29 with
               | false =>
                replace hb30 := iteF hb30 rfl
                have hqb30 := Option.some.inj hb30
                cases b30 with
                | false =>
                 replace hb31 := iteF hb31 rfl
                 have hqb31 := Option.some.inj hb31
                 subst hqb31
                 simp (maxSteps := 1000000) only [↓reduceIte, reduceCtorEq, Nat.reduceEqDiff, Nat.reduceLT, Nat.reduceLeDiff, Nat.reduceAdd, Nat.reduceMul, Int.reduceToNat, push_cast, he9a, he9b, he9c, he10a, he10b, he10c, he11a, he11b, he11c, he12a, he12b, he12c, he13a, he13b, he13c, he14a, he14b, he14c, hvr16, ↓hqb18, ↓hqb19, ↓hqb20, ↓hqb21, ↓hqb22]
                 try simp only [↓hqb18, ↓hqb19, ↓hqb20, ↓hqb21, ↓hqb22] at hK
                 try have q0 := c_bookendref11_SameEntries hvr15
                 try have q1 := c_bookendref10_Ints hvr16
                 try have q2 := c_bookendref10_Ints hvr23
                 all_goals exact rUd
                | true =>
                 cases hqb30
               | true =>
                cases hqb29
              | true =>
               cases hqb28
             | true =>
              cases hqb27
            | true =>
             cases hqb26
           | true =>
            cases hqb25
          | true =>
           cases hqb24
         | true =>
          replace hb24 := iteT hb24 rfl
          obtain ⟨vr23, hvr23, hb24⟩ := bindS hb24
          have hqb24 := Option.some.inj hb24
          cases b24 with
          | false =>
           subst hqb24
           replace hb25 := iteF hb25 rfl
           have hqb25 := Option.some.inj hb25
           cases b25 with
           | false =>
            replace hb26 := iteF hb26 rfl
            have hqb26 := Option.some.inj hb26
            cases b26 with
            | false =>
             replace hb27 := iteF hb27 rfl
             have hqb27 := Option.some.inj hb27
             cases b27 with
             | false =>
              replace hb28 := iteF hb28 rfl
              have hqb28 := Option.some.inj hb28
              cases b28 with
              | false =>
               replace hb29 := iteF hb29 rfl
               have hqb29 := Option.some.inj hb29
               cases b29 with
               | false =>
                replace hb30 := iteF hb30 rfl
                have hqb30 := Option.some.inj hb30
                cases b30 with
                | false =>
                 replace hb31 := iteF hb31 rfl
                 have hqb31 := Option.some.inj hb31
                 subst hqb31
                 simp (maxSteps := 1000000) only [↓reduceIte, reduceCtorEq, Nat.reduceEqDiff, Nat.reduceLT, Nat.reduceLeDiff, Nat.reduceAdd, Nat.reduceMul, Int.reduceToNat, push_cast, he9a, he9b, he9c, he10a, he10b, he10c, he11a, he11b, he11c, he12a, he12b, he12c, he13a, he13b, he13c, he14a, he14b, he14c, hvr16, ↓hqb18, ↓hqb19, ↓hqb20, ↓hqb21, ↓hqb22, hvr23]
                 try simp only [↓hqb18, ↓hqb19, ↓hqb20, ↓hqb21, ↓hqb22] at hK
                 try have q0 := c_bookendref11_SameEntries hvr15
                 try have q1 := c_bookendref10_Ints hvr16
                 try have q2 := c_bookendref10_Ints hvr23
                 all_goals exact rUd
                | true =>
                 cases hqb30
               | true =>
                cases hqb29
              | true =>
               cases hqb28
             | true =>
              cases hqb27
            | true =>
             cases hqb26
           | true =>
            cases hqb25
          | true =>
           subst hqb24
           replace hb25 := iteT hb25 rfl
           have hqb25 := Option.some.inj hb25
           cases b25 with
           | false =>
            replace hb26 := iteF hb26 rfl
            have hqb26 := Option.some.inj hb26
            cases b26 with
            | false =>
             replace hb27 := iteF hb27 rfl
             have hqb27 := Option.some.inj hb27
             cases b27 with
             | false =>
              replace hb28 := iteF hb28 rfl
              have hqb28 := Option.some.inj hb28
              cases b28 with
              | false =>
               replace hb29 := iteF hb29 rfl
               have hqb29 := Option.some.inj hb29
               cases b29 with
               | false =>
                replace hb30 := iteF hb30 rfl
                have hqb30 := Option.some.inj hb30
                cases b30 with
                | false =>
                 replace hb31 := iteF hb31 rfl
                 have hqb31 := Option.some.inj hb31
                 subst hqb31
                 simp (maxSteps := 1000000) only [↓reduceIte, reduceCtorEq, Nat.reduceEqDiff, Nat.reduceLT, Nat.reduceLeDiff, Nat.reduceAdd, Nat.reduceMul, Int.reduceToNat, push_cast, he9a, he9b, he9c, he10a, he10b, he10c, he11a, he11b, he11c, he12a, he12b, he12c, he13a, he13b, he13c, he14a, he14b, he14c, hvr16, ↓hqb18, ↓hqb19, ↓hqb20, ↓hqb21, ↓hqb22, hvr23, ↓hqb25]
                 try simp only [↓hqb18, ↓hqb19, ↓hqb20, ↓hqb21, ↓hqb22, ↓hqb25] at hK
                 try have q0 := c_bookendref11_SameEntries hvr15
                 try have q1 := c_bookendref10_Ints hvr16
                 try have q2 := c_bookendref10_Ints hvr23
                 all_goals exact rUd
                | true =>
                 cases hqb30
               | true =>
                cases hqb29
              | true =>
               cases hqb28
             | true =>
              cases hqb27
            | true =>
             cases hqb26
           | true =>
            replace hb26 := iteT hb26 rfl
            have hqb26 := Option.some.inj hb26
            cases b26 with
            | false =>
             replace hb27 := iteF hb27 rfl
             have hqb27 := Option.some.inj hb27
             cases b27 with
             | false =>
              replace hb28 := iteF hb28 rfl
              have hqb28 := Option.some.inj hb28
              cases b28 with
              | false =>
               replace hb29 := iteF hb29 rfl
               have hqb29 := Option.some.inj hb29
               cases b29 with
               | false =>
                replace hb30 := iteF hb30 rfl
                have hqb30 := Option.some.inj hb30
                cases b30 with
                | false =>
                 replace hb31 := iteF hb31 rfl
                 have hqb31 := Option.some.inj hb31
                 subst hqb31
                 simp (maxSteps := 1000000) only [↓reduceIte, reduceCtorEq, Nat.reduceEqDiff, Nat.reduceLT, Nat.reduceLeDiff, Nat.reduceAdd, Nat.reduceMul, Int.reduceToNat, push_cast, he9a, he9b, he9c, he10a, he10b, he10c, he11a, he11b, he11c, he12a, he12b, he12c, he13a, he13b, he13c, he14a, he14b, he14c, hvr16, ↓hqb18, ↓hqb19, ↓hqb20, ↓hqb21, ↓hqb22, hvr23, ↓hqb25, ↓hqb26]
                 try simp only [↓hqb18, ↓hqb19, ↓hqb20, ↓hqb21, ↓hqb22, ↓hqb25, ↓hqb26] at hK
                 try have q0 := c_bookendref11_SameEntries hvr15
                 try have q1 := c_bookendref10_Ints hvr16
                 try have q2 := c_bookendref10_Ints hvr23
                 all_goals exact rUd
                | true =>
                 cases hqb30
               | true =>
                cases hqb29
              | true =>
               cases hqb28
             | true =>
              cases hqb27
            | true =>
             replace hb27 := iteT hb27 rfl
             have hqb27 := Option.some.inj hb27
             cases b27 with
             | false =>
              replace hb28 := iteF hb28 rfl
              have hqb28 := Option.some.inj hb28
              cases b28 with
              | false =>
               replace hb29 := iteF hb29 rfl
               have hqb29 := Option.some.inj hb29
               cases b29 with
               | false =>
                replace hb30 := iteF hb30 rfl
                have hqb30 := Option.some.inj hb30
                cases b30 with
                | false =>
                 replace hb31 := iteF hb31 rfl
                 have hqb31 := Option.some.inj hb31
                 subst hqb31
                 simp (maxSteps := 1000000) only [↓reduceIte, reduceCtorEq, Nat.reduceEqDiff, Nat.reduceLT, Nat.reduceLeDiff, Nat.reduceAdd, Nat.reduceMul, Int.reduceToNat, push_cast, he9a, he9b, he9c, he10a, he10b, he10c, he11a, he11b, he11c, he12a, he12b, he12c, he13a, he13b, he13c, he14a, he14b, he14c, hvr16, ↓hqb18, ↓hqb19, ↓hqb20, ↓hqb21, ↓hqb22, hvr23, ↓hqb25, ↓hqb26, ↓hqb27]
                 try simp only [↓hqb18, ↓hqb19, ↓hqb20, ↓hqb21, ↓hqb22, ↓hqb25, ↓hqb26, ↓hqb27] at hK
                 try have q0 := c_bookendref11_SameEntries hvr15
                 try have q1 := c_bookendref10_Ints hvr16
                 try have q2 := c_bookendref10_Ints hvr23
                 all_goals exact rUd
                | true =>
                 cases hqb30
               | true =>
                cases hqb29
              | true =>
               cases hqb28
             | true =>
              replace hb28 := iteT hb28 rfl
              have hqb28 := Option.some.inj hb28
              cases b28 with
              | false =>
               replace hb29 := iteF hb29 rfl
               have hqb29 := Option.some.inj hb29
               cases b29 with
               | false =>
                replace hb30 := iteF hb30 rfl
                have hqb30 := Option.some.inj hb30
                cases b30 with
                | false =>
                 replace hb31 := iteF hb31 rfl
                 have hqb31 := Option.some.inj hb31
                 subst hqb31
                 simp (maxSteps := 1000000) only [↓reduceIte, reduceCtorEq, Nat.reduceEqDiff, Nat.reduceLT, Nat.reduceLeDiff, Nat.reduceAdd, Nat.reduceMul, Int.reduceToNat, push_cast, he9a, he9b, he9c, he10a, he10b, he10c, he11a, he11b, he11c, he12a, he12b, he12c, he13a, he13b, he13c, he14a, he14b, he14c, hvr16, ↓hqb18, ↓hqb19, ↓hqb20, ↓hqb21, ↓hqb22, hvr23, ↓hqb25, ↓hqb26, ↓hqb27, ↓hqb28]
                 try simp only [↓hqb18, ↓hqb19, ↓hqb20, ↓hqb21, ↓hqb22, ↓hqb25, ↓hqb26, ↓hqb27, ↓hqb28] at hK
                 try have q0 := c_bookendref11_SameEntries hvr15
                 try have q1 := c_bookendref10_Ints hvr16
                 try have q2 := c_bookendref10_Ints hvr23
                 all_goals exact rUd
                | true =>
                 cases hqb30
               | true =>
                cases hqb29
              | true =>
               replace hb29 := iteT hb29 rfl
               have hqb29 := Option.some.inj hb29
               cases b29 with
               | false =>
                replace hb30 := iteF hb30 rfl
                have hqb30 := Option.some.inj hb30
                cases b30 with
                | false =>
                 replace hb31 := iteF hb31 rfl
                 have hqb31 := Option.some.inj hb31
                 subst hqb31
                 simp (maxSteps := 1000000) only [↓reduceIte, reduceCtorEq, Nat.reduceEqDiff, Nat.reduceLT, Nat.reduceLeDiff, Nat.reduceAdd, Nat.reduceMul, Int.reduceToNat, push_cast, he9a, he9b, he9c, he10a, he10b, he10c, he11a, he11b, he11c, he12a, he12b, he12c, he13a, he13b, he13c, he14a, he14b, he14c, hvr16, ↓hqb18, ↓hqb19, ↓hqb20, ↓hqb21, ↓hqb22, hvr23, ↓hqb25, ↓hqb26, ↓hqb27, ↓hqb28, ↓hqb29]
                 try simp only [↓hqb18, ↓hqb19, ↓hqb20, ↓hqb21, ↓hqb22, ↓hqb25, ↓hqb26, ↓hqb27, ↓hqb28, ↓hqb29] at hK
                 try have q0 := c_bookendref11_SameEntries hvr15
                 try have q1 := c_bookendref10_Ints hvr16
                 try have q2 := c_bookendref10_Ints hvr23
                 all_goals exact rUd
                | true =>
                 cases hqb30
               | true =>
                replace hb30 := iteT hb30 rfl
                have hqb30 := Option.some.inj hb30
                cases b30 with
                | false =>
                 replace hb31 := iteF hb31 rfl
                 have hqb31 := Option.some.inj hb31
                 subst hqb31
                 simp (maxSteps := 1000000) only [↓reduceIte, reduceCtorEq, Nat.reduceEqDiff, Nat.reduceLT, Nat.reduceLeDiff, Nat.reduceAdd, Nat.reduceMul, Int.reduceToNat, push_cast, he9a, he9b, he9c, he10a, he10b, he10c, he11a, he11b, he11c, he12a, he12b, he12c, he13a, he13b, he13c, he14a, he14b, he14c, hvr16, ↓hqb18, ↓hqb19, ↓hqb20, ↓hqb21, ↓hqb22, hvr23, ↓hqb25, ↓hqb26, ↓hqb27, ↓hqb28, ↓hqb29, ↓hqb30]
                 try simp only [↓hqb18, ↓hqb19, ↓hqb20, ↓hqb21, ↓hqb22, ↓hqb25, ↓hqb26, ↓hqb27, ↓hqb28, ↓hqb29, ↓hqb30] at hK
                 try have q0 := c_bookendref11_SameEntries hvr15
                 try have q1 := c_bookendref10_Ints hvr16
                 try have q2 := c_bookendref10_Ints hvr23
                 all_goals exact rUd
                | true =>
                 replace hb31 := iteT hb31 rfl
                 have hqb31 := Option.some.inj hb31
                 subst hqb31
                 simp (maxSteps := 1000000) only [↓reduceIte, reduceCtorEq, Nat.reduceEqDiff, Nat.reduceLT, Nat.reduceLeDiff, Nat.reduceAdd, Nat.reduceMul, Int.reduceToNat, push_cast, he9a, he9b, he9c, he10a, he10b, he10c, he11a, he11b, he11c, he12a, he12b, he12c, he13a, he13b, he13c, he14a, he14b, he14c, hvr16, ↓hqb18, ↓hqb19, ↓hqb20, ↓hqb21, ↓hqb22, hvr23, ↓hqb25, ↓hqb26, ↓hqb27, ↓hqb28, ↓hqb29, ↓hqb30]
                 try simp only [↓hqb18, ↓hqb19, ↓hqb20, ↓hqb21, ↓hqb22, ↓hqb25, ↓hqb26, ↓hqb27, ↓hqb28, ↓hqb29, ↓hqb30] at hK
                 try have q0 := c_bookendref11_SameEntries hvr15
                 try have q1 := c_bookendref10_Ints hvr16
                 try have q2 := c_bookendref10_Ints hvr23
                 all_goals exact rUd) ?_
 refine awp_re (s2 := ⟨[(0, .bool b31)], [(144, { g := 0, own := true, pure := true, sz := 5, es := [[.psl 1 (List.map (encSl 4 TApiEntry.enc) vr3.1.Runs), .psl 1 (List.map (encInt .i64) vr3.1.At), .psl 2 (List.map TApiLsKey.enc vr3.1.Tree.Keys), .psl 1 (List.map (encInt .i64) vr3.1.Tree.Lose), .int .i64 vr3.1.Tree.Win]] }), (224, { g := 0, own := true, pure := true, sz := 4, es := [[.str vr4.1.Key, .str vr4.1.Val, .bool vr4.1.Dead, .int .i64 vr4.1.Seq]] }), (296, { g := 0, own := true, pure := true, sz := 5, es := [[.psl 1 (List.map (encSl 4 TApiEntry.enc) vr5.1.Runs), .psl 1 (List.map (encInt .i64) vr5.1.At), .psl 2 (List.map TApiLsKey.enc vr5.1.Tree.Keys), .psl 1 (List.map (encInt .i64) vr5.1.Tree.Lose), .int .i64 vr5.1.Tree.Win]] }), (376, { g := 0, own := true, pure := true, sz := 4, es := [[.str vr6.1.Key, .str vr6.1.Val, .bool vr6.1.Dead, .int .i64 vr6.1.Seq]] }), (384, { g := 0, own := true, pure := true, sz := 5, es := [[.psl 1 (List.map (encSl 4 TApiEntry.enc) vr6.2.2.1.Runs), .psl 1 (List.map (encInt .i64) vr6.2.2.1.At), .psl 2 (List.map TApiLsKey.enc vr6.2.2.1.Tree.Keys), .psl 1 (List.map (encInt .i64) vr6.2.2.1.Tree.Lose), .int .i64 vr6.2.2.1.Tree.Win]] }), (472, { g := 0, own := true, pure := true, sz := 4, es := [[.str vr7.1.Key, .str vr7.1.Val, .bool vr7.1.Dead, .int .i64 vr7.1.Seq]] }), (512, { g := 0, own := true, pure := true, sz := 1, es := List.map (encInt .i64) [0, 3] }), (536, { g := 0, own := true, pure := true, sz := 2, es := List.map TApiLsKey.enc [(TApiLsKey.mk [98] false), (TApiLsKey.mk [] true)] }), (544, { g := 0, own := true, pure := true, sz := 1, es := List.map (encInt .i64) [0, 1] }), (784, { g := 0, own := true, pure := true, sz := 4, es := List.map TApiEntry.enc [e10, e12, e13, e14] })], 1360, []⟩) [] (Nat.le_of_ble_eq_true rfl) ⟨rF, rE, rfl, rfl, trivial, trivial⟩ ?_
 refine awp_ret ?_
 obtain rfl := Option.some.inj h0
 refine leave_retG [] ?_
 simp (maxSteps := 1000000) only [↓reduceIte, reduceCtorEq, Nat.reduceEqDiff, Nat.reduceLT, Nat.reduceLeDiff, Nat.reduceAdd, Nat.reduceMul, Int.reduceToNat, push_cast, Gives, he9a, he9b, he9c, he10a, he10b, he10c, he11a, he11b, he11c, he12a, he12b, he12c, he13a, he13b, he13c, he14a, he14b, he14c]
 all_goals exact rH
end Go.T
end
section
/- The program computes them. -/
namespace Go.T
open Go Go.AM Go.Proofs
set_option maxRecDepth 100000
set_option maxHeartbeats 4000000
set_option linter.unusedVariables false
theorem c_merge_Left {fu : Nat} {vs1 : TApiMgState} {r : Int × Int} (h0 : merge_Left fu vs1 = some r) : PCall Try.prog 25 [.agg (TApiMgState.enc vs1)] (.tup [.int .i64 r.1, .int .i64 r.2]) [] := by
 refine awp_pcall Try.func25 rfl (by decide) (Nat.le_of_ble_eq_true rfl) ?_
 dsimp only [Try.f25]
 rw [merge_Left] at h0
 refine (show AWP _ _ _ _ ⟨enumFr 0 _, [], 0, []⟩ from ?_)
 refine awp_sr2 24 [1] (fun _ => none) rfl (fun _ _ => rT) ?_
 refine awp_seq ?_
 obtain ⟨vr2, hvr2, h0⟩ := bindS h0
 refine awp_sr2 80 [1, 5] (fun | 1 => some (.tup [.int .i64 vr2.1, .int .i64 vr2.2], []) | _ => none) rfl (fun _ _ => rC (c_merge_Check hvr2)) ?_
 refine awp_sr2 96 [1, 5, 15] (fun _ => none) rfl (fun _ _ => rT) ?_
 refine awp_if rfl (fun hb3 => ?_) (fun hb3 => ?_)
 ·
  replace h0 := iteT h0 hb3
  refine awp_sr2 120 [2, 3] (fun _ => none) rfl (fun _ _ => rT) ?_
  refine awp_ret ?_
  refine kr_then ?_
  obtain rfl := Option.some.inj h0
  refine leave_retG [] ?_
  exact rG
 ·
  replace h0 := iteF h0 hb3
  refine awp_skip ?_
  refine kn_then ?_
  refine awp_sr2 104 [1, 6] (fun _ => none) rfl (fun _ _ => rT) ?_
  refine awp_seq ?_
  refine awp_sr2 136 [1, 6, 18, 19, 20] (fun _ => none) rfl (fun _ _ => rT) ?_
  obtain ⟨x12, hxx12, h0⟩ := bindS h0
  refine awp_bloop (fun s' => s'.nx ≤ 144 ∧ LeN [] s' ⟨[(6, .int .i64 x12)], [(0, { g := 0, own := true, pure := true, sz := 5, es := [[.psl 1 (List.map (encSl 4 TApiEntry.enc) vs1.Runs), .psl 1 (List.map (encInt .i64) vs1.At), .psl 2 (List.map TApiLsKey.enc vs1.Tree.Keys), .psl 1 (List.map (encInt .i64) vs1.Tree.Lose), .int .i64 vs1.Tree.Win]] })], 144, []⟩) ?_ ?_
  ·
   intro s' hs
   obtain ⟨hn, hs⟩ := hs
   refine kn_then ?_
   refine awp_re [] hn hs ?_
   refine awp_sr2 168 [2, 3] (fun _ => none) rfl (fun _ _ => rT) ?_
   refine awp_ret ?_
   obtain rfl := Option.some.inj h0
   refine leave_retG [] ?_
   exact rG
  ·
   refine awp_loopF (ι := { p : Nat × Int × Int // merge_Left_l1 vs1 p.1 p.2.1 p.2.2 = some x12 }) (fun p => ⟨[(1, .ref 0 0 0 0), (6, .int .i64 p.1.2.1), (18, .psl 1 (List.map (encSl 4 TApiEntry.enc) vs1.Runs)), (19, .int .i64 (vs1.Runs.length : Int)), (20, .int .i64 p.1.2.2)], [(0, { g := 0, own := true, pure := true, sz := 5, es := [[.psl 1 (List.map (encSl 4 TApiEntry.enc) vs1.Runs), .psl 1 (List.map (encInt .i64) vs1.At), .psl 2 (List.map TApiLsKey.enc vs1.Tree.Keys), .psl 1 (List.map (encInt .i64) vs1.Tree.Lose), .int .i64 vs1.Tree.Win]] })], 136, []⟩) (fun p => p.1.1) ⟨(fu, 0, 0), hxx12⟩ ⟨rF, rE, rfl, rfl, trivial, trivial⟩ (fun _ => Nat.le_refl _) ?_
   rintro ⟨⟨fu, n13, v14⟩, h1⟩
   cases fu with
   | zero =>
   replace h1 : merge_Left_l1 vs1 0 n13 v14 = some x12 := h1
   rw [merge_Left_l1] at h1; cases h1
   | succ fu =>
    replace h1 : merge_Left_l1 vs1 (fu + 1) n13 v14 = some x12 := h1
    rw [merge_Left_l1] at h1
    refine (show AWP _ _ _ _ ⟨[(1, .ref 0 0 0 0), (6, .int .i64 n13), (18, .psl 1 (List.map (encSl 4 TApiEntry.enc) vs1.Runs)), (19, .int .i64 (vs1.Runs.length : Int)), (20, .int .i64 v14)], [(0, { g := 0, own := true, pure := true, sz := 5, es := [[.psl 1 (List.map (encSl 4 TApiEntry.enc) vs1.Runs), .psl 1 (List.map (encInt .i64) vs1.At), .psl 2 (List.map TApiLsKey.enc vs1.Tree.Keys), .psl 1 (List.map (encInt .i64) vs1.Tree.Lose), .int .i64 vs1.Tree.Win]] })], 136, []⟩ from ?_)
    refine awp_sr2 144 [1, 6, 18, 19, 20, 21] (fun _ => none) rfl (fun _ _ => rT) ?_
    refine awp_seq ?_
    refine awp_if rfl (fun hb15 => ?_) (fun hb15 => ?_)
    ·
     replace h1 := iteT h1 hb15
     refine awp_skip ?_
     refine kn_then ?_
     refine awp_seq ?_
     refine awp_block ?_
     obtain ⟨e16, he16, h1⟩ := bindS h1
     obtain ⟨he16a, he16b, he16c⟩ := idxS he16
     refine awp_sr2 184 [1, 6, 7, 8, 18, 19, 20] (fun _ => none) rfl (fun _ _ => rS (rA he16a (rA he16b he16c))) ?_
     obtain ⟨e17, he17, h1⟩ := bindS h1
     obtain ⟨he17a, he17b, he17c⟩ := idxS he17
     refine awp_r2 272 [1, 6, 18, 19, 20] (fun _ => none) rfl (fun _ _ => rS (rA he16a (rA he16b (rA he16c (rA he17a (rA he17b he17c)))))) ?_
     refine kn_block ?_
     refine kn_then ?_
     refine awp_r2 288 [1, 6, 18, 19, 20] (fun _ => none) rfl (fun _ _ => rS (rA he16a (rA he16b (rA he16c (rA he17a (rA he17b he17c)))))) ?_
     refine kn_then ?_
     exact ⟨⟨(fu, (IntKind.i64.wrap (n13 + (IntKind.i64.wrap ((e16.length : Int) - e17)))), (IntKind.i64.wrap (v14 + 1))), h1⟩, ⟨rF, rE, rfl, rfl, trivial, trivial⟩, Nat.lt_succ_self _⟩
    ·
     replace h1 := iteF h1 hb15
     refine awp_exit ?_
     refine kx_then ?_
     refine kx_then ?_
     refine kx_done ?_
     obtain rfl := Option.some.inj h1
     exact ⟨Nat.le_of_ble_eq_true rfl, ⟨rF, rE, rfl, rfl, trivial, trivial⟩⟩
end Go.T
end
section
/- The program computes them. -/
namespace Go.T
open Go Go.AM Go.Proofs
set_option maxRecDepth 100000
set_option maxHeartbeats 4000000
set_option linter.unusedVariables false
theorem c_bookendlaw11_MergeGoes {fu : Nat} {runs1 : List (List TApiEntry)} {vat2 : Int} {r : Bool} (h0 : bookendlaw11_MergeGoes fu runs1 vat2 = some r) : PCall Try.prog 8 [.psl 1 (runs1.map (encSl 4 TApiEntry.enc)), .int .u8 vat2] (.bool r) [] := by
 refine awp_pcall Try.func8 rfl (by decide) (Nat.le_of_ble_eq_true rfl) ?_
 dsimp only [Try.f8]
 rw [bookendlaw11_MergeGoes] at h0
 refine (show AWP _ _ _ _ ⟨enumFr 0 _, [], 0, []⟩ from ?_)
 refine awp_sr2 8 [0, 1] (fun _ => none) rfl (fun _ _ => rT) ?_
 refine awp_seq ?_
 obtain ⟨vr3, hvr3, h0⟩ := bindS h0
 refine awp_sr2 24 [0, 1, 26] (fun | 1 => some (.bool vr3, []) | _ => none) rfl (fun _ _ => rC (c_bookendlaw11_Far hvr3)) ?_
 refine awp_if rfl (fun hb4 => ?_) (fun hb4 => ?_)
 ·
  replace h0 := iteT h0 hb4
  obtain ⟨vr5, hvr5, h0⟩ := bindS h0
  refine awp_sr2 40 [4] (fun | 0 => some (.bool vr5, []) | _ => none) rfl (fun _ _ => rC (c_bookendlaw11_awake hvr5)) ?_
  refine awp_ret ?_
  refine kr_then ?_
  obtain rfl := Option.some.inj h0
  refine leave_retG [] ?_
  exact rG
 ·
  replace h0 := iteF h0 hb4
  refine awp_skip ?_
  refine kn_then ?_
  obtain ⟨vr6, hvr6, h0⟩ := bindS h0
  refine awp_sr2 96 [0, 1, 5, 6, 7] (fun | 1 => some (.tup [.psl 4 (vr6.1.map TApiEntry.enc), .psl 1 (vr6.2.1.map (encInt .i64)), .int .i64 vr6.2.2], []) | _ => none) rfl (fun _ _ => rC (c_merge_All hvr6)) ?_
  obtain ⟨vr7, hvr7, h0⟩ := bindS h0
  refine awp_sr2 176 [1, 5, 6, 7, 8, 10] (fun | 1 => some (.tup [.agg (TApiMgState.enc vr7.1), .int .i64 vr7.2.1, .int .i64 vr7.2.2], []) | _ => none) rfl (fun _ _ => rC (c_merge_Begin hvr7)) ?_
  refine awp_seq ?_
  obtain ⟨b8, hb8, h0⟩ := bindS h0
  refine awp_sr3 (fr' := [(1, .int .u8 vat2), (5, .psl 4 (List.map TApiEntry.enc vr6.1)), (6, .psl 1 (List.map (encInt .i64) vr6.2.1)), (7, .int .i64 vr6.2.2), (8, .ref 144 0 0 0), (10, .int .i64 vr7.2.2), (45, .bool b8)]) (hp' := [(144, { g := 0, own := true, pure := true, sz := 5, es := [[.psl 1 (List.map (encSl 4 TApiEntry.enc) vr7.1.Runs), .psl 1 (List.map (encInt .i64) vr7.1.At), .psl 2 (List.map TApiLsKey.enc vr7.1.Tree.Keys), .psl 1 (List.map (encInt .i64) vr7.1.Tree.Lose), .int .i64 vr7.1.Tree.Win]] })]) [144] 224 [1, 5, 6, 7, 8, 10, 45] (fun _ => none) rfl (fun Kt hK => by
    cases hg9 : (!(decide (vr6.2.2 = 0))) with
    | false =>
     replace hb8 := iteF hb8 hg9
     have hqb8 := Option.some.inj hb8
     subst hqb8
     simp (maxSteps := 1000000) only [↓reduceIte, reduceCtorEq, Nat.reduceEqDiff, Nat.reduceLT, Nat.reduceLeDiff, Nat.reduceAdd, Nat.reduceMul, Int.reduceToNat, push_cast, ↓hg9]
     try simp only [↓hg9] at hK
     all_goals exact rU
    | true =>
     replace hb8 := iteT hb8 hg9
     have hqb8 := Option.some.inj hb8
     subst hqb8
     simp (maxSteps := 1000000) only [↓reduceIte, reduceCtorEq, Nat.reduceEqDiff, Nat.reduceLT, Nat.reduceLeDiff, Nat.reduceAdd, Nat.reduceMul, Int.reduceToNat, push_cast, ↓hg9]
     try simp only [↓hg9] at hK
     all_goals exact rU) ?_
  refine awp_if rfl (fun hb10 => ?_) (fun hb10 => ?_)
  ·
   replace h0 := iteT h0 hb10
   obtain ⟨b11, hb11, h0⟩ := bindS h0
   obtain ⟨b13, hb13, h0⟩ := bindS h0
   refine awp_sr3 (fr' := [(4, .bool b13)]) (hp' := [(144, { g := 0, own := true, pure := true, sz := 5, es := [[.psl 1 (List.map (encSl 4 TApiEntry.enc) vr7.1.Runs), .psl 1 (List.map (encInt .i64) vr7.1.At), .psl 2 (List.map TApiLsKey.enc vr7.1.Tree.Keys), .psl 1 (List.map (encInt .i64) vr7.1.Tree.Lose), .int .i64 vr7.1.Tree.Win]] })]) [144] 336 [4] (fun | 11 => (bookendlaw11_awake fu).bind fun vr12 => some (.bool vr12, []) | _ => none) rfl (fun Kt hK => by
     cases hg14 : ((!(decide (vr6.2.2 = 0))) == (!(decide (vr7.2.2 = 0)))) with
     | false =>
      replace hb11 := iteF hb11 hg14
      have hqb11 := Option.some.inj hb11
      cases b11 with
      | false =>
       replace hb13 := iteF hb13 rfl
       have hqb13 := Option.some.inj hb13
       subst hqb13
       simp (maxSteps := 1000000) only [↓reduceIte, reduceCtorEq, Nat.reduceEqDiff, Nat.reduceLT, Nat.reduceLeDiff, Nat.reduceAdd, Nat.reduceMul, Int.reduceToNat, push_cast, ↓hg14]
       try simp only [↓hg14] at hK
       try have q0 := c_bookendlaw11_awake hvr12
       all_goals exact rU
      | true =>
       cases hqb11
     | true =>
      replace hb11 := iteT hb11 hg14
      have hqb11 := Option.some.inj hb11
      cases b11 with
      | false =>
       replace hb13 := iteF hb13 rfl
       have hqb13 := Option.some.inj hb13
       subst hqb13
       simp (maxSteps := 1000000) only [↓reduceIte, reduceCtorEq, Nat.reduceEqDiff, Nat.reduceLT, Nat.reduceLeDiff, Nat.reduceAdd, Nat.reduceMul, Int.reduceToNat, push_cast, ↓hg14, ↓hqb11]
       try simp only [↓hg14, ↓hqb11] at hK
       try have q0 := c_bookendlaw11_awake hvr12
       all_goals exact rU
      | true =>
       replace hb13 := iteT hb13 rfl
       obtain ⟨vr12, hvr12, hb13⟩ := bindS hb13
       have hqb13 := Option.some.inj hb13
       subst hqb13
       simp (maxSteps := 1000000) only [↓reduceIte, reduceCtorEq, Nat.reduceEqDiff, Nat.reduceLT, Nat.reduceLeDiff, Nat.reduceAdd, Nat.reduceMul, Int.reduceToNat, push_cast, ↓hg14, ↓hqb11, hvr12]
       try simp only [↓hg14, ↓hqb11] at hK
       try have q0 := c_bookendlaw11_awake hvr12
       all_goals exact rU) ?_
   refine awp_ret ?_
   refine kr_then ?_
   obtain rfl := Option.some.inj h0
   refine leave_retG [] ?_
   exact rG
  ·
   replace h0 := iteF h0 hb10
   refine awp_skip ?_
   refine kn_then ?_
   refine awp_seq ?_
   refine awp_sr2 264 [1, 5, 6, 8, 63] (fun _ => none) rfl (fun _ _ => rT) ?_
   refine awp_if rfl (fun hb17 => ?_) (fun hb17 => ?_)
   ·
    replace h0 := iteT h0 hb17
    refine awp_sr2 272 [4] (fun _ => none) rfl (fun _ _ => rT) ?_
    refine awp_ret ?_
    refine kr_then ?_
    obtain rfl := Option.some.inj h0
    refine leave_retG [] ?_
    exact rG
   ·
    replace h0 := iteF h0 hb17
    refine awp_skip ?_
    refine kn_then ?_
    obtain ⟨hc18, h0⟩ := guS h0
    refine awp_sr2 320 [5, 6, 8, 11] (fun _ => none) rfl (fun _ _ => rT) ?_
    refine awp_sr2 344 [5, 6, 8, 11, 12] (fun _ => none) rfl (fun _ _ => rT) ?_
    refine awp_seq ?_
    refine awp_sr2 352 [5, 6, 8, 11, 12, 13] (fun _ => none) rfl (fun _ _ => rT) ?_
    obtain ⟨x132, hxx132, h0⟩ := bindS h0
    refine awp_bloop (fun s' => ∃ o176 : List (List TApiEntry) × List Int × List TApiLsKey × List Int × Int × List (List TApiEntry) × List Int × List TApiLsKey × List Int × Int, x132 = .inl o176 ∧ s'.nx ≤ 712 ∧ LeN [] s' ⟨[(5, .psl 4 (List.map TApiEntry.enc vr6.1)), (6, .psl 1 (List.map (encInt .i64) vr6.2.1)), (11, .int .i64 ((IntKind.i64.wrap vat2).tmod (IntKind.i64.wrap ((vr6.1.length : Int) + 1)))), (12, .ref 328 0 0 0)], [(144, { g := 0, own := true, pure := true, sz := 5, es := [[.psl 1 (List.map (encSl 4 TApiEntry.enc) o176.1), .psl 1 (List.map (encInt .i64) o176.2.1), .psl 2 (List.map TApiLsKey.enc o176.2.2.1), .psl 1 (List.map (encInt .i64) o176.2.2.2.1), .int .i64 o176.2.2.2.2.1]] }), (328, { g := 0, own := true, pure := true, sz := 5, es := [[.psl 1 (List.map (encSl 4 TApiEntry.enc) o176.2.2.2.2.2.1), .psl 1 (List.map (encInt .i64) o176.2.2.2.2.2.2.1), .psl 2 (List.map TApiLsKey.enc o176.2.2.2.2.2.2.2.1), .psl 1 (List.map (encInt .i64) o176.2.2.2.2.2.2.2.2.1), .int .i64 o176.2.2.2.2.2.2.2.2.2]] })], 712, []⟩) ?_ ?_
    ·
     intro s' hs
     obtain ⟨o176, rfl, hn, hs⟩ := hs
     refine kn_then ?_
     refine awp_re [] hn hs ?_
     refine awp_seq ?_
     refine awp_sr2 728 [5, 6, 12, 20] (fun _ => none) rfl (fun _ _ => rT) ?_
     obtain ⟨x203, hxx203, h0⟩ := bindS h0
     refine awp_bloop (fun s' => ∃ o220 : List (List TApiEntry) × List Int × List TApiLsKey × List Int × Int, x203 = .inl o220 ∧ s'.nx ≤ 760 ∧ LeN [] s' ⟨[], [(144, { g := 0, own := true, pure := true, sz := 5, es := [[.psl 1 (List.map (encSl 4 TApiEntry.enc) o176.1), .psl 1 (List.map (encInt .i64) o176.2.1), .psl 2 (List.map TApiLsKey.enc o176.2.2.1), .psl 1 (List.map (encInt .i64) o176.2.2.2.1), .int .i64 o176.2.2.2.2.1]] }), (328, { g := 0, own := true, pure := true, sz := 5, es := [[.psl 1 (List.map (encSl 4 TApiEntry.enc) o220.1), .psl 1 (List.map (encInt .i64) o220.2.1), .psl 2 (List.map TApiLsKey.enc o220.2.2.1), .psl 1 (List.map (encInt .i64) o220.2.2.2.1), .int .i64 o220.2.2.2.2]] })], 760, []⟩) ?_ ?_
     ·
      intro s' hs
      obtain ⟨o220, rfl, hn, hs⟩ := hs
      refine kn_then ?_
      refine awp_re [] hn hs ?_
      obtain ⟨vr221, hvr221, h0⟩ := bindS h0
      refine awp_sr2 776 [4] (fun | 0 => some (.bool vr221, []) | _ => none) rfl (fun _ _ => rC (c_bookendlaw11_awake hvr221)) ?_
      refine awp_ret ?_
      obtain rfl := Option.some.inj h0
      refine leave_retG [] ?_
      exact rG
     ·
      refine awp_loopF (ι := { p : Nat × Int × List (List TApiEntry) × List Int × List TApiLsKey × List Int × Int // bookendlaw11_MergeGoes_l2 vr6 p.1 p.2.1 p.2.2.1 p.2.2.2.1 p.2.2.2.2.1 p.2.2.2.2.2.1 p.2.2.2.2.2.2 = some x203 }) (fun p => ⟨[(5, .psl 4 (List.map TApiEntry.enc vr6.1)), (6, .psl 1 (List.map (encInt .i64) vr6.2.1)), (12, .ref 328 0 0 0), (20, .int .i64 p.1.2.1)], [(144, { g := 0, own := true, pure := true, sz := 5, es := [[.psl 1 (List.map (encSl 4 TApiEntry.enc) o176.1), .psl 1 (List.map (encInt .i64) o176.2.1), .psl 2 (List.map TApiLsKey.enc o176.2.2.1), .psl 1 (List.map (encInt .i64) o176.2.2.2.1), .int .i64 o176.2.2.2.2.1]] }), (328, { g := 0, own := true, pure := true, sz := 5, es := [[.psl 1 (List.map (encSl 4 TApiEntry.enc) p.1.2.2.1), .psl 1 (List.map (encInt .i64) p.1.2.2.2.1), .psl 2 (List.map TApiLsKey.enc p.1.2.2.2.2.1), .psl 1 (List.map (encInt .i64) p.1.2.2.2.2.2.1), .int .i64 p.1.2.2.2.2.2.2]] })], 728, []⟩) (fun p => p.1.1) ⟨(fu, ((IntKind.i64.wrap vat2).tmod (IntKind.i64.wrap ((vr6.1.length : Int) + 1))), o176.2.2.2.2.2.1, o176.2.2.2.2.2.2.1, o176.2.2.2.2.2.2.2.1, o176.2.2.2.2.2.2.2.2.1, o176.2.2.2.2.2.2.2.2.2), hxx203⟩ ⟨rF, rE, rfl, rfl, trivial, trivial⟩ (fun _ => Nat.le_refl _) ?_
      rintro ⟨⟨fu, i204, kept205, kept206, kept207, kept208, kept209⟩, h1⟩
      cases fu with
      | zero =>
   replace h1 : bookendlaw11_MergeGoes_l2 vr6 0 i204 kept205 kept206 kept207 kept208 kept209 = some x203 := h1
   rw [bookendlaw11_MergeGoes_l2] at h1; cases h1
      | succ fu =>
       replace h1 : bookendlaw11_MergeGoes_l2 vr6 (fu + 1) i204 kept205 kept206 kept207 kept208 kept209 = some x203 := h1
       rw [bookendlaw11_MergeGoes_l2] at h1
       refine (show AWP _ _ _ _ ⟨[(5, .psl 4 (List.map TApiEntry.enc vr6.1)), (6, .psl 1 (List.map (encInt .i64) vr6.2.1)), (12, .ref 328 0 0 0), (20, .int .i64 i204)], [(144, { g := 0, own := true, pure := true, sz := 5, es := [[.psl 1 (List.map (encSl 4 TApiEntry.enc) o176.1), .psl 1 (List.map (encInt .i64) o176.2.1), .psl 2 (List.map TApiLsKey.enc o176.2.2.1), .psl 1 (List.map (encInt .i64) o176.2.2.2.1), .int .i64 o176.2.2.2.2.1]] }), (328, { g := 0, own := true, pure := true, sz := 5, es := [[.psl 1 (List.map (encSl 4 TApiEntry.enc) kept205), .psl 1 (List.map (encInt .i64) kept206), .psl 2 (List.map TApiLsKey.enc kept207), .psl 1 (List.map (encInt .i64) kept208), .int .i64 kept209]] })], 728, []⟩ from ?_)
       refine awp_seq ?_
       refine awp_sr2 760 [5, 6, 12, 20, 132] (fun _ => none) rfl (fun _ _ => rT) ?_
       refine awp_if rfl (fun hb210 => ?_) (fun hb210 => ?_)
       ·
        replace h1 := iteT h1 hb210
        refine awp_skip ?_
        refine kn_then ?_
        refine awp_seq ?_
        refine awp_block ?_
        obtain ⟨vr211, hvr211, h1⟩ := bindS h1
        refine awp_sr2 864 [5, 6, 12, 20, 21, 22, 23, 24] (fun | 1 => some (.tup [.agg (TApiEntry.enc vr211.1), .int .i64 vr211.2.1, .agg (TApiMgState.enc vr211.2.2.1), .int .i64 vr211.2.2.2], []) | _ => none) rfl (fun _ _ => rC (c_merge_Next hvr211)) ?_
        refine awp_seq ?_
        obtain ⟨b213, hb213, h1⟩ := bindS h1
        obtain ⟨b215, hb215, h1⟩ := bindS h1
        refine awp_sd3 (fr' := [(5, .psl 4 (List.map TApiEntry.enc vr6.1)), (6, .psl 1 (List.map (encInt .i64) vr6.2.1)), (12, .ref 328 0 0 0), (20, .int .i64 i204), (23, .ref 824 0 0 0), (159, .bool b215)]) (hp' := [(144, { g := 0, own := true, pure := true, sz := 5, es := [[.psl 1 (List.map (encSl 4 TApiEntry.enc) o176.1), .psl 1 (List.map (encInt .i64) o176.2.1), .psl 2 (List.map TApiLsKey.enc o176.2.2.1), .psl 1 (List.map (encInt .i64) o176.2.2.2.1), .int .i64 o176.2.2.2.2.1]] }), (328, { g := 0, own := true, pure := true, sz := 5, es := [[.psl 1 (List.map (encSl 4 TApiEntry.enc) kept205), .psl 1 (List.map (encInt .i64) kept206), .psl 2 (List.map TApiLsKey.enc kept207), .psl 1 (List.map (encInt .i64) kept208), .int .i64 kept209]] }), (816, { g := 0, own := true, pure := true, sz := 4, es := [[.str vr211.1.Key, .str vr211.1.Val, .bool vr211.1.Dead, .int .i64 vr211.1.Seq]] }), (824, { g := 0, own := true, pure := true, sz := 5, es := [[.psl 1 (List.map (encSl 4 TApiEntry.enc) vr211.2.2.1.Runs), .psl 1 (List.map (encInt .i64) vr211.2.2.1.At), .psl 2 (List.map TApiLsKey.enc vr211.2.2.1.Tree.Keys), .psl 1 (List.map (encInt .i64) vr211.2.2.1.Tree.Lose), .int .i64 vr211.2.2.1.Tree.Win]] })]) [144, 328, 816, 824] 1008 [5, 6, 12, 20, 23, 159] (fun _ => none) rfl rfl rfl (fun Kt hK => by
          cases hg216 : (!(decide (vr211.2.2.2 = 0))) with
          | false =>
           replace hb213 := iteF hb213 hg216
           obtain ⟨e212, he212, hb213⟩ := bindS hb213
           obtain ⟨he212a, he212b, he212c⟩ := idxS he212
           have hqb213 := Option.some.inj hb213
           cases b213 with
           | false =>
            replace hb215 := iteF hb215 rfl
            obtain ⟨e214, he214, hb215⟩ := bindS hb215
            obtain ⟨he214a, he214b, he214c⟩ := idxS he214
            have hqb215 := Option.some.inj hb215
            subst hqb215
            simp (maxSteps := 1000000) only [↓reduceIte, reduceCtorEq, Nat.reduceEqDiff, Nat.reduceLT, Nat.reduceLeDiff, Nat.reduceAdd, Nat.reduceMul, Int.reduceToNat, push_cast, ↓hg216, he212a, he212b, he212c, he212, ↓hqb213, he214a, he214b, he214c, he214]
            try simp only [↓hg216, ↓hqb213] at hK
            all_goals exact rUd
           | true =>
            replace hb215 := iteT hb215 rfl
            have hqb215 := Option.some.inj hb215
            subst hqb215
            simp (maxSteps := 1000000) only [↓reduceIte, reduceCtorEq, Nat.reduceEqDiff, Nat.reduceLT, Nat.reduceLeDiff, Nat.reduceAdd, Nat.reduceMul, Int.reduceToNat, push_cast, ↓hg216, he212a, he212b, he212c, he212, ↓hqb213]
            try simp only [↓hg216, ↓hqb213] at hK
            all_goals exact rUd
          | true =>
           replace hb213 := iteT hb213 hg216
           have hqb213 := Option.some.inj hb213
           cases b213 with
           | false =>
            cases hqb213
           | true =>
            replace hb215 := iteT hb215 rfl
            have hqb215 := Option.some.inj hb215
            subst hqb215
            simp (maxSteps := 1000000) only [↓reduceIte, reduceCtorEq, Nat.reduceEqDiff, Nat.reduceLT, Nat.reduceLeDiff, Nat.reduceAdd, Nat.reduceMul, Int.reduceToNat, push_cast, ↓hg216]
            try simp only [↓hg216] at hK
            all_goals exact rUd) ?_
        refine awp_if rfl (fun hb219 => ?_) (fun hb219 => ?_)
        ·
         replace h1 := iteT h1 hb219
         refine awp_sr2 1016 [4] (fun _ => none) rfl (fun _ _ => rT) ?_
         refine awp_ret ?_
         obtain rfl := Option.some.inj h1
         refine kr_then ?_
         refine kr_block ?_
         refine kr_then ?_
         refine kr_then ?_
         refine kr_loop ?_
         refine kr_then ?_
         obtain rfl := Option.some.inj h0
         refine leave_retG [] ?_
         exact rG
        ·
         replace h1 := iteF h1 hb219
         refine awp_skip ?_
         refine kn_then ?_
         refine awp_r2 1024 [5, 6, 12, 20] (fun _ => none) rfl (fun _ _ => rT) ?_
         refine kn_block ?_
         refine kn_then ?_
         refine awp_r2 1048 [5, 6, 12, 20] (fun _ => none) rfl (fun _ _ => rT) ?_
         refine kn_then ?_
         exact ⟨⟨(fu, (IntKind.i64.wrap (i204 + 1)), vr211.2.2.1.Runs, vr211.2.2.1.At, vr211.2.2.1.Tree.Keys, vr211.2.2.1.Tree.Lose, vr211.2.2.1.Tree.Win), h1⟩, ⟨rF, rE, rfl, rfl, trivial, trivial⟩, Nat.lt_succ_self _⟩
       ·
        replace h1 := iteF h1 hb210
        refine awp_exit ?_
        refine kx_then ?_
        refine kx_then ?_
        refine kx_done ?_
        obtain rfl := Option.some.inj h1
        exact ⟨_, rfl, Nat.le_of_ble_eq_true rfl, ⟨rF, rE, rfl, rfl, trivial, trivial⟩⟩
    ·
     refine awp_loopF (ι := { p : Nat × Int × List (List TApiEntry) × List Int × List TApiLsKey × List Int × Int × List (List TApiEntry) × List Int × List TApiLsKey × List Int × Int // bookendlaw11_MergeGoes_l1 vr6 vat2 p.1 p.2.1 p.2.2.1 p.2.2.2.1 p.2.2.2.2.1 p.2.2.2.2.2.1 p.2.2.2.2.2.2.1 p.2.2.2.2.2.2.2.1 p.2.2.2.2.2.2.2.2.1 p.2.2.2.2.2.2.2.2.2.1 p.2.2.2.2.2.2.2.2.2.2.1 p.2.2.2.2.2.2.2.2.2.2.2 = some x132 }) (fun p => ⟨[(5, .psl 4 (List.map TApiEntry.enc vr6.1)), (6, .psl 1 (List.map (encInt .i64) vr6.2.1)), (8, .ref 144 0 0 0), (11, .int .i64 ((IntKind.i64.wrap vat2).tmod (IntKind.i64.wrap ((vr6.1.length : Int) + 1)))), (12, .ref 328 0 0 0), (13, .int .i64 p.1.2.1)], [(144, { g := 0, own := true, pure := true, sz := 5, es := [[.psl 1 (List.map (encSl 4 TApiEntry.enc) p.1.2.2.1), .psl 1 (List.map (encInt .i64) p.1.2.2.2.1), .psl 2 (List.map TApiLsKey.enc p.1.2.2.2.2.1), .psl 1 (List.map (encInt .i64) p.1.2.2.2.2.2.1), .int .i64 p.1.2.2.2.2.2.2.1]] }), (328, { g := 0, own := true, pure := true, sz := 5, es := [[.psl 1 (List.map (encSl 4 TApiEntry.enc) p.1.2.2.2.2.2.2.2.1), .psl 1 (List.map (encInt .i64) p.1.2.2.2.2.2.2.2.2.1), .psl 2 (List.map TApiLsKey.enc p.1.2.2.2.2.2.2.2.2.2.1), .psl 1 (List.map (encInt .i64) p.1.2.2.2.2.2.2.2.2.2.2.1), .int .i64 p.1.2.2.2.2.2.2.2.2.2.2.2]] })], 352, []⟩) (fun p => p.1.1) ⟨(fu, 0, vr7.1.Runs, vr7.1.At, vr7.1.Tree.Keys, vr7.1.Tree.Lose, vr7.1.Tree.Win, vr7.1.Runs, vr7.1.At, vr7.1.Tree.Keys, vr7.1.Tree.Lose, vr7.1.Tree.Win), hxx132⟩ ⟨rF, rE, rfl, rfl, trivial, trivial⟩ (fun _ => Nat.le_refl _) ?_
     rintro ⟨⟨fu, i133, vs134, vs135, vs136, vs137, vs138, kept139, kept140, kept141, kept142, kept143⟩, h1⟩
     cases fu with
     | zero =>
   replace h1 : bookendlaw11_MergeGoes_l1 vr6 vat2 0 i133 vs134 vs135 vs136 vs137 vs138 kept139 kept140 kept141 kept142 kept143 = some x132 := h1
   rw [bookendlaw11_MergeGoes_l1] at h1; cases h1
     | succ fu =>
      replace h1 : bookendlaw11_MergeGoes_l1 vr6 vat2 (fu + 1) i133 vs134 vs135 vs136 vs137 vs138 kept139 kept140 kept141 kept142 kept143 = some x132 := h1
      rw [bookendlaw11_MergeGoes_l1] at h1
      refine (show AWP _ _ _ _ ⟨[(5, .psl 4 (List.map TApiEntry.enc vr6.1)), (6, .psl 1 (List.map (encInt .i64) vr6.2.1)), (8, .ref 144 0 0 0), (11, .int .i64 ((IntKind.i64.wrap vat2).tmod (IntKind.i64.wrap ((vr6.1.length : Int) + 1)))), (12, .ref 328 0 0 0), (13, .int .i64 i133)], [(144, { g := 0, own := true, pure := true, sz := 5, es := [[.psl 1 (List.map (encSl 4 TApiEntry.enc) vs134), .psl 1 (List.map (encInt .i64) vs135), .psl 2 (List.map TApiLsKey.enc vs136), .psl 1 (List.map (encInt .i64) vs137), .int .i64 vs138]] }), (328, { g := 0, own := true, pure := true, sz := 5, es := [[.psl 1 (List.map (encSl 4 TApiEntry.enc) kept139), .psl 1 (List.map (encInt .i64) kept140), .psl 2 (List.map TApiLsKey.enc kept141), .psl 1 (List.map (encInt .i64) kept142), .int .i64 kept143]] })], 352, []⟩ from ?_)
      refine awp_seq ?_
      refine awp_sr2 384 [5, 6, 8, 11, 12, 13, 74] (fun _ => none) rfl (fun _ _ => rT) ?_
      refine awp_if rfl (fun hb144 => ?_) (fun hb144 => ?_)
      ·
       replace h1 := iteT h1 hb144
       refine awp_skip ?_
       refine kn_then ?_
       refine awp_seq ?_
       refine awp_block ?_
       refine awp_seq ?_
       refine awp_sr2 408 [5, 6, 8, 11, 12, 13, 79] (fun _ => none) rfl (fun _ _ => rT) ?_
       refine awp_if rfl (fun hb145 => ?_) (fun hb145 => ?_)
       ·
        replace h1 := iteT h1 hb145
        refine awp_r2 424 [5, 6, 8, 11, 12, 13] (fun _ => none) rfl (fun _ _ => rT) ?_
        refine kn_then ?_
        obtain ⟨vr146, hvr146, h1⟩ := bindS h1
        refine awp_sr2 480 [5, 6, 8, 11, 12, 13, 14, 15] (fun | 1 => some (.tup [.int .i64 vr146.1, .int .i64 vr146.2], []) | _ => none) rfl (fun _ _ => rC (c_merge_Left hvr146)) ?_
        obtain ⟨vr147, hvr147, h1⟩ := bindS h1
        refine awp_sr2 584 [5, 6, 8, 11, 12, 13, 14, 15, 16, 17, 18, 19] (fun | 1 => some (.tup [.agg (TApiEntry.enc vr147.1), .int .i64 vr147.2.1, .agg (TApiMgState.enc vr147.2.2.1), .int .i64 vr147.2.2.2], []) | _ => none) rfl (fun _ _ => rC (c_merge_Next hvr147)) ?_
        refine awp_seq ?_
        obtain ⟨b148, hb148, h1⟩ := bindS h1
        refine awp_sr3 (fr' := [(5, .psl 4 (List.map TApiEntry.enc vr6.1)), (6, .psl 1 (List.map (encInt .i64) vr6.2.1)), (8, .ref 144 0 0 0), (11, .int .i64 ((IntKind.i64.wrap vat2).tmod (IntKind.i64.wrap ((vr6.1.length : Int) + 1)))), (12, .ref 328 0 0 0), (13, .int .i64 i133), (16, .ref 536 0 0 0), (17, .int .i64 vr147.2.1), (18, .ref 544 0 0 0), (19, .int .i64 vr147.2.2.2), (102, .bool b148)]) (hp' := [(144, { g := 0, own := true, pure := true, sz := 5, es := [[.psl 1 (List.map (encSl 4 TApiEntry.enc) vs134), .psl 1 (List.map (encInt .i64) vs135), .psl 2 (List.map TApiLsKey.enc vs136), .psl 1 (List.map (encInt .i64) vs137), .int .i64 vs138]] }), (328, { g := 0, own := true, pure := true, sz := 5, es := [[.psl 1 (List.map (encSl 4 TApiEntry.enc) vs134), .psl 1 (List.map (encInt .i64) vs135), .psl 2 (List.map TApiLsKey.enc vs136), .psl 1 (List.map (encInt .i64) vs137), .int .i64 vs138]] }), (536, { g := 0, own := true, pure := true, sz := 4, es := [[.str vr147.1.Key, .str vr147.1.Val, .bool vr147.1.Dead, .int .i64 vr147.1.Seq]] }), (544, { g := 0, own := true, pure := true, sz := 5, es := [[.psl 1 (List.map (encSl 4 TApiEntry.enc) vr147.2.2.1.Runs), .psl 1 (List.map (encInt .i64) vr147.2.2.1.At), .psl 2 (List.map TApiLsKey.enc vr147.2.2.1.Tree.Keys), .psl 1 (List.map (encInt .i64) vr147.2.2.1.Tree.Lose), .int .i64 vr147.2.2.1.Tree.Win]] })]) [144, 328, 536, 544] 664 [5, 6, 8, 11, 12, 13, 16, 17, 18, 19, 102] (fun _ => none) rfl (fun Kt hK => by
          cases hg149 : (!(decide (vr146.2 = 0))) with
          | false =>
           replace hb148 := iteF hb148 hg149
           have hqb148 := Option.some.inj hb148
           subst hqb148
           simp (maxSteps := 1000000) only [↓reduceIte, reduceCtorEq, Nat.reduceEqDiff, Nat.reduceLT, Nat.reduceLeDiff, Nat.reduceAdd, Nat.reduceMul, Int.reduceToNat, push_cast, ↓hg149]
           try simp only [↓hg149] at hK
           all_goals exact rU
          | true =>
           replace hb148 := iteT hb148 hg149
           have hqb148 := Option.some.inj hb148
           subst hqb148
           simp (maxSteps := 1000000) only [↓reduceIte, reduceCtorEq, Nat.reduceEqDiff, Nat.reduceLT, Nat.reduceLeDiff, Nat.reduceAdd, Nat.reduceMul, Int.reduceToNat, push_cast, ↓hg149]
           try simp only [↓hg149] at hK
           all_goals exact rU) ?_
        refine awp_if rfl (fun hb150 => ?_) (fun hb150 => ?_)
        ·
         replace h1 := iteT h1 hb150
         refine awp_sr2 672 [4] (fun _ => none) rfl (fun _ _ => rT) ?_
         refine awp_ret ?_
         obtain rfl := Option.some.inj h1
         refine kr_then ?_
         refine kr_block ?_
         refine kr_then ?_
         refine kr_then ?_
         refine kr_loop ?_
         refine kr_then ?_
         obtain rfl := Option.some.inj h0
         refine leave_retG [] ?_
         exact rG
        ·
         replace h1 := iteF h1 hb150
         refine awp_skip ?_
         refine kn_then ?_
         refine awp_seq ?_
         refine awp_sr2 696 [5, 6, 8, 11, 12, 13, 16, 17, 18, 19, 106] (fun _ => none) rfl (fun _ _ => rT) ?_
         refine awp_if rfl (fun hb151 => ?_) (fun hb151 => ?_)
         ·
          replace h1 := iteT h1 hb151
          refine awp_seq ?_
          refine awp_sr2 712 [5, 6, 11, 12, 108] (fun _ => none) rfl (fun _ _ => rT) ?_
          refine awp_if rfl (fun hb152 => ?_) (fun hb152 => ?_)
          ·
           replace h1 := iteT h1 hb152
           refine awp_sr2 720 [4] (fun _ => none) rfl (fun _ _ => rT) ?_
           refine awp_ret ?_
           obtain rfl := Option.some.inj h1
           refine kr_then ?_
           refine kr_then ?_
           refine kr_block ?_
           refine kr_then ?_
           refine kr_then ?_
           refine kr_loop ?_
           refine kr_then ?_
           obtain rfl := Option.some.inj h0
           refine leave_retG [] ?_
           exact rG
          ·
           replace h1 := iteF h1 hb152
           refine awp_skip ?_
           refine kn_then ?_
           refine awp_exit ?_
           refine kx_then ?_
           refine kx_other (by decide) ?_
           refine kx_then ?_
           refine kx_then ?_
           refine kx_done ?_
           obtain rfl := Option.some.inj h1
           exact ⟨_, rfl, Nat.le_of_ble_eq_true rfl, ⟨rF, rE, rfl, rfl, trivial, trivial⟩⟩
         ·
          replace h1 := iteF h1 hb151
          refine awp_skip ?_
          refine kn_then ?_
          refine awp_seq ?_
          obtain ⟨b154, hb154, h1⟩ := bindS h1
          obtain ⟨b156, hb156, h1⟩ := bindS h1
          refine awp_sd3 (fr' := [(5, .psl 4 (List.map TApiEntry.enc vr6.1)), (6, .psl 1 (List.map (encInt .i64) vr6.2.1)), (8, .ref 144 0 0 0), (11, .int .i64 ((IntKind.i64.wrap vat2).tmod (IntKind.i64.wrap ((vr6.1.length : Int) + 1)))), (12, .ref 328 0 0 0), (13, .int .i64 i133), (18, .ref 544 0 0 0), (126, .bool b156)]) (hp' := [(144, { g := 0, own := true, pure := true, sz := 5, es := [[.psl 1 (List.map (encSl 4 TApiEntry.enc) vs134), .psl 1 (List.map (encInt .i64) vs135), .psl 2 (List.map TApiLsKey.enc vs136), .psl 1 (List.map (encInt .i64) vs137), .int .i64 vs138]] }), (328, { g := 0, own := true, pure := true, sz := 5, es := [[.psl 1 (List.map (encSl 4 TApiEntry.enc) vs134), .psl 1 (List.map (encInt .i64) vs135), .psl 2 (List.map TApiLsKey.enc vs136), .psl 1 (List.map (encInt .i64) vs137), .int .i64 vs138]] }), (536, { g := 0, own := true, pure := true, sz := 4, es := [[.str vr147.1.Key, .str vr147.1.Val, .bool vr147.1.Dead, .int .i64 vr147.1.Seq]] }), (544, { g := 0, own := true, pure := true, sz := 5, es := [[.psl 1 (List.map (encSl 4 TApiEntry.enc) vr147.2.2.1.Runs), .psl 1 (List.map (encInt .i64) vr147.2.2.1.At), .psl 2 (List.map TApiLsKey.enc vr147.2.2.1.Tree.Keys), .psl 1 (List.map (encInt .i64) vr147.2.2.1.Tree.Lose), .int .i64 vr147.2.2.1.Tree.Win]] })]) [144, 328, 536, 544] 840 [5, 6, 8, 11, 12, 13, 18, 126] (fun _ => none) rfl rfl rfl (fun Kt hK => by
            cases hg157 : (!(decide (vr147.2.2.2 = 0))) with
            | false =>
             replace hb154 := iteF hb154 hg157
             obtain ⟨e153, he153, hb154⟩ := bindS hb154
             obtain ⟨he153a, he153b, he153c⟩ := idxS he153
             have hqb154 := Option.some.inj hb154
             cases b154 with
             | false =>
              replace hb156 := iteF hb156 rfl
              obtain ⟨e155, he155, hb156⟩ := bindS hb156
              obtain ⟨he155a, he155b, he155c⟩ := idxS he155
              have hqb156 := Option.some.inj hb156
              subst hqb156
              simp (maxSteps := 1000000) only [↓reduceIte, reduceCtorEq, Nat.reduceEqDiff, Nat.reduceLT, Nat.reduceLeDiff, Nat.reduceAdd, Nat.reduceMul, Int.reduceToNat, push_cast, ↓hg157, he153a, he153b, he153c, he153, ↓hqb154, he155a, he155b, he155c, he155]
              try simp only [↓hg157, ↓hqb154] at hK
              all_goals exact rUd
             | true =>
              replace hb156 := iteT hb156 rfl
              have hqb156 := Option.some.inj hb156
              subst hqb156
              simp (maxSteps := 1000000) only [↓reduceIte, reduceCtorEq, Nat.reduceEqDiff, Nat.reduceLT, Nat.reduceLeDiff, Nat.reduceAdd, Nat.reduceMul, Int.reduceToNat, push_cast, ↓hg157, he153a, he153b, he153c, he153, ↓hqb154]
              try simp only [↓hg157, ↓hqb154] at hK
              all_goals exact rUd
            | true =>
             replace hb154 := iteT hb154 hg157
             have hqb154 := Option.some.inj hb154
             cases b154 with
             | false =>
              cases hqb154
             | true =>
              replace hb156 := iteT hb156 rfl
              have hqb156 := Option.some.inj hb156
              subst hqb156
              simp (maxSteps := 1000000) only [↓reduceIte, reduceCtorEq, Nat.reduceEqDiff, Nat.reduceLT, Nat.reduceLeDiff, Nat.reduceAdd, Nat.reduceMul, Int.reduceToNat, push_cast, ↓hg157]
              try simp only [↓hg157] at hK
              all_goals exact rUd) ?_
          refine awp_if rfl (fun hb160 => ?_) (fun hb160 => ?_)
          ·
           replace h1 := iteT h1 hb160
           refine awp_sr2 848 [4] (fun _ => none) rfl (fun _ _ => rT) ?_
           refine awp_ret ?_
           obtain rfl := Option.some.inj h1
           refine kr_then ?_
           refine kr_block ?_
           refine kr_then ?_
           refine kr_then ?_
           refine kr_loop ?_
           refine kr_then ?_
           obtain rfl := Option.some.inj h0
           refine leave_retG [] ?_
           exact rG
          ·
           replace h1 := iteF h1 hb160
           refine awp_skip ?_
           refine kn_then ?_
           refine awp_r2 856 [5, 6, 8, 11, 12, 13] (fun _ => none) rfl (fun _ _ => rT) ?_
           refine kn_block ?_
           refine kn_then ?_
           refine awp_r2 880 [5, 6, 8, 11, 12, 13] (fun _ => none) rfl (fun _ _ => rT) ?_
           refine kn_then ?_
           exact ⟨⟨(fu, (IntKind.i64.wrap (i133 + 1)), vr147.2.2.1.Runs, vr147.2.2.1.At, vr147.2.2.1.Tree.Keys, vr147.2.2.1.Tree.Lose, vr147.2.2.1.Tree.Win, vs134, vs135, vs136, vs137, vs138), h1⟩, ⟨rF, rE, rfl, rfl, trivial, trivial⟩, Nat.lt_succ_self _⟩
       ·
        replace h1 := iteF h1 hb145
        refine awp_skip ?_
        refine kn_then ?_
        obtain ⟨vr161, hvr161, h1⟩ := bindS h1
        refine awp_sr2 464 [5, 6, 8, 11, 12, 13, 14, 15] (fun | 1 => some (.tup [.int .i64 vr161.1, .int .i64 vr161.2], []) | _ => none) rfl (fun _ _ => rC (c_merge_Left hvr161)) ?_
        obtain ⟨vr162, hvr162, h1⟩ := bindS h1
        refine awp_sr2 568 [5, 6, 8, 11, 12, 13, 14, 15, 16, 17, 18, 19] (fun | 1 => some (.tup [.agg (TApiEntry.enc vr162.1), .int .i64 vr162.2.1, .agg (TApiMgState.enc vr162.2.2.1), .int .i64 vr162.2.2.2], []) | _ => none) rfl (fun _ _ => rC (c_merge_Next hvr162)) ?_
        refine awp_seq ?_
        obtain ⟨b163, hb163, h1⟩ := bindS h1
        refine awp_sr3 (fr' := [(5, .psl 4 (List.map TApiEntry.enc vr6.1)), (6, .psl 1 (List.map (encInt .i64) vr6.2.1)), (8, .ref 144 0 0 0), (11, .int .i64 ((IntKind.i64.wrap vat2).tmod (IntKind.i64.wrap ((vr6.1.length : Int) + 1)))), (12, .ref 328 0 0 0), (13, .int .i64 i133), (16, .ref 520 0 0 0), (17, .int .i64 vr162.2.1), (18, .ref 528 0 0 0), (19, .int .i64 vr162.2.2.2), (102, .bool b163)]) (hp' := [(144, { g := 0, own := true, pure := true, sz := 5, es := [[.psl 1 (List.map (encSl 4 TApiEntry.enc) vs134), .psl 1 (List.map (encInt .i64) vs135), .psl 2 (List.map TApiLsKey.enc vs136), .psl 1 (List.map (encInt .i64) vs137), .int .i64 vs138]] }), (328, { g := 0, own := true, pure := true, sz := 5, es := [[.psl 1 (List.map (encSl 4 TApiEntry.enc) kept139), .psl 1 (List.map (encInt .i64) kept140), .psl 2 (List.map TApiLsKey.enc kept141), .psl 1 (List.map (encInt .i64) kept142), .int .i64 kept143]] }), (520, { g := 0, own := true, pure := true, sz := 4, es := [[.str vr162.1.Key, .str vr162.1.Val, .bool vr162.1.Dead, .int .i64 vr162.1.Seq]] }), (528, { g := 0, own := true, pure := true, sz := 5, es := [[.psl 1 (List.map (encSl 4 TApiEntry.enc) vr162.2.2.1.Runs), .psl 1 (List.map (encInt .i64) vr162.2.2.1.At), .psl 2 (List.map TApiLsKey.enc vr162.2.2.1.Tree.Keys), .psl 1 (List.map (encInt .i64) vr162.2.2.1.Tree.Lose), .int .i64 vr162.2.2.1.Tree.Win]] })]) [144, 328, 520, 528] 648 [5, 6, 8, 11, 12, 13, 16, 17, 18, 19, 102] (fun _ => none) rfl (fun Kt hK => by
          cases hg164 : (!(decide (vr161.2 = 0))) with
          | false =>
           replace hb163 := iteF hb163 hg164
           have hqb163 := Option.some.inj hb163
           subst hqb163
           simp (maxSteps := 1000000) only [↓reduceIte, reduceCtorEq, Nat.reduceEqDiff, Nat.reduceLT, Nat.reduceLeDiff, Nat.reduceAdd, Nat.reduceMul, Int.reduceToNat, push_cast, ↓hg164]
           try simp only [↓hg164] at hK
           all_goals exact rU
          | true =>
           replace hb163 := iteT hb163 hg164
           have hqb163 := Option.some.inj hb163
           subst hqb163
           simp (maxSteps := 1000000) only [↓reduceIte, reduceCtorEq, Nat.reduceEqDiff, Nat.reduceLT, Nat.reduceLeDiff, Nat.reduceAdd, Nat.reduceMul, Int.reduceToNat, push_cast, ↓hg164]
           try simp only [↓hg164] at hK
           all_goals exact rU) ?_
        refine awp_if rfl (fun hb165 => ?_) (fun hb165 => ?_)
        ·
         replace h1 := iteT h1 hb165
         refine awp_sr2 656 [4] (fun _ => none) rfl (fun _ _ => rT) ?_
         refine awp_ret ?_
         obtain rfl := Option.some.inj h1
         refine kr_then ?_
         refine kr_block ?_
         refine kr_then ?_
         refine kr_then ?_
         refine kr_loop ?_
         refine kr_then ?_
         obtain rfl := Option.some.inj h0
         refine leave_retG [] ?_
         exact rG
        ·
         replace h1 := iteF h1 hb165
         refine awp_skip ?_
         refine kn_then ?_
         refine awp_seq ?_
         refine awp_sr2 680 [5, 6, 8, 11, 12, 13, 16, 17, 18, 19, 106] (fun _ => none) rfl (fun _ _ => rT) ?_
         refine awp_if rfl (fun hb166 => ?_) (fun hb166 => ?_)
         ·
          replace h1 := iteT h1 hb166
          refine awp_seq ?_
          refine awp_sr2 696 [5, 6, 11, 12, 108] (fun _ => none) rfl (fun _ _ => rT) ?_
          refine awp_if rfl (fun hb167 => ?_) (fun hb167 => ?_)
          ·
           replace h1 := iteT h1 hb167
           refine awp_sr2 704 [4] (fun _ => none) rfl (fun _ _ => rT) ?_
           refine awp_ret ?_
           obtain rfl := Option.some.inj h1
           refine kr_then ?_
           refine kr_then ?_
           refine kr_block ?_
           refine kr_then ?_
           refine kr_then ?_
           refine kr_loop ?_
           refine kr_then ?_
           obtain rfl := Option.some.inj h0
           refine leave_retG [] ?_
           exact rG
          ·
           replace h1 := iteF h1 hb167
           refine awp_skip ?_
           refine kn_then ?_
           refine awp_exit ?_
           refine kx_then ?_
           refine kx_other (by decide) ?_
           refine kx_then ?_
           refine kx_then ?_
           refine kx_done ?_
           obtain rfl := Option.some.inj h1
           exact ⟨_, rfl, Nat.le_of_ble_eq_true rfl, ⟨rF, rE, rfl, rfl, trivial, trivial⟩⟩
         ·
          replace h1 := iteF h1 hb166
          refine awp_skip ?_
          refine kn_then ?_
          refine awp_seq ?_
          obtain ⟨b169, hb169, h1⟩ := bindS h1
          obtain ⟨b171, hb171, h1⟩ := bindS h1
          refine awp_sd3 (fr' := [(5, .psl 4 (List.map TApiEntry.enc vr6.1)), (6, .psl 1 (List.map (encInt .i64) vr6.2.1)), (8, .ref 144 0 0 0), (11, .int .i64 ((IntKind.i64.wrap vat2).tmod (IntKind.i64.wrap ((vr6.1.length : Int) + 1)))), (12, .ref 328 0 0 0), (13, .int .i64 i133), (18, .ref 528 0 0 0), (126, .bool b171)]) (hp' := [(144, { g := 0, own := true, pure := true, sz := 5, es := [[.psl 1 (List.map (encSl 4 TApiEntry.enc) vs134), .psl 1 (List.map (encInt .i64) vs135), .psl 2 (List.map TApiLsKey.enc vs136), .psl 1 (List.map (encInt .i64) vs137), .int .i64 vs138]] }), (328, { g := 0, own := true, pure := true, sz := 5, es := [[.psl 1 (List.map (encSl 4 TApiEntry.enc) kept139), .psl 1 (List.map (encInt .i64) kept140), .psl 2 (List.map TApiLsKey.enc kept141), .psl 1 (List.map (encInt .i64) kept142), .int .i64 kept143]] }), (520, { g := 0, own := true, pure := true, sz := 4, es := [[.str vr162.1.Key, .str vr162.1.Val, .bool vr162.1.Dead, .int .i64 vr162.1.Seq]] }), (528, { g := 0, own := true, pure := true, sz := 5, es := [[.psl 1 (List.map (encSl 4 TApiEntry.enc) vr162.2.2.1.Runs), .psl 1 (List.map (encInt .i64) vr162.2.2.1.At), .psl 2 (List.map TApiLsKey.enc vr162.2.2.1.Tree.Keys), .psl 1 (List.map (encInt .i64) vr162.2.2.1.Tree.Lose), .int .i64 vr162.2.2.1.Tree.Win]] })]) [144, 328, 520, 528] 824 [5, 6, 8, 11, 12, 13, 18, 126] (fun _ => none) rfl rfl rfl (fun Kt hK => by
            cases hg172 : (!(decide (vr162.2.2.2 = 0))) with
            | false =>
             replace hb169 := iteF hb169 hg172
             obtain ⟨e168, he168, hb169⟩ := bindS hb169
             obtain ⟨he168a, he168b, he168c⟩ := idxS he168
             have hqb169 := Option.some.inj hb169
             cases b169 with
             | false =>
              replace hb171 := iteF hb171 rfl
              obtain ⟨e170, he170, hb171⟩ := bindS hb171
              obtain ⟨he170a, he170b, he170c⟩ := idxS he170
              have hqb171 := Option.some.inj hb171
              subst hqb171
              simp (maxSteps := 1000000) only [↓reduceIte, reduceCtorEq, Nat.reduceEqDiff, Nat.reduceLT, Nat.reduceLeDiff, Nat.reduceAdd, Nat.reduceMul, Int.reduceToNat, push_cast, ↓hg172, he168a, he168b, he168c, he168, ↓hqb169, he170a, he170b, he170c, he170]
              try simp only [↓hg172, ↓hqb169] at hK
              all_goals exact rUd
             | true =>
              replace hb171 := iteT hb171 rfl
              have hqb171 := Option.some.inj hb171
              subst hqb171
              simp (maxSteps := 1000000) only [↓reduceIte, reduceCtorEq, Nat.reduceEqDiff, Nat.reduceLT, Nat.reduceLeDiff, Nat.reduceAdd, Nat.reduceMul, Int.reduceToNat, push_cast, ↓hg172, he168a, he168b, he168c, he168, ↓hqb169]
              try simp only [↓hg172, ↓hqb169] at hK
              all_goals exact rUd
            | true =>
             replace hb169 := iteT hb169 hg172
             have hqb169 := Option.some.inj hb169
             cases b169 with
             | false =>
              cases hqb169
             | true =>
              replace hb171 := iteT hb171 rfl
              have hqb171 := Option.some.inj hb171
              subst hqb171
              simp (maxSteps := 1000000) only [↓reduceIte, reduceCtorEq, Nat.reduceEqDiff, Nat.reduceLT, Nat.reduceLeDiff, Nat.reduceAdd, Nat.reduceMul, Int.reduceToNat, push_cast, ↓hg172]
              try simp only [↓hg172] at hK
              all_goals exact rUd) ?_
          refine awp_if rfl (fun hb175 => ?_) (fun hb175 => ?_)
          ·
           replace h1 := iteT h1 hb175
           refine awp_sr2 832 [4] (fun _ => none) rfl (fun _ _ => rT) ?_
           refine awp_ret ?_
           obtain rfl := Option.some.inj h1
           refine kr_then ?_
           refine kr_block ?_
           refine kr_then ?_
           refine kr_then ?_
           refine kr_loop ?_
           refine kr_then ?_
           obtain rfl := Option.some.inj h0
           refine leave_retG [] ?_
           exact rG
          ·
           replace h1 := iteF h1 hb175
           refine awp_skip ?_
           refine kn_then ?_
           refine awp_r2 840 [5, 6, 8, 11, 12, 13] (fun _ => none) rfl (fun _ _ => rT) ?_
           refine kn_block ?_
           refine kn_then ?_
           refine awp_r2 864 [5, 6, 8, 11, 12, 13] (fun _ => none) rfl (fun _ _ => rT) ?_
           refine kn_then ?_
           exact ⟨⟨(fu, (IntKind.i64.wrap (i133 + 1)), vr162.2.2.1.Runs, vr162.2.2.1.At, vr162.2.2.1.Tree.Keys, vr162.2.2.1.Tree.Lose, vr162.2.2.1.Tree.Win, kept139, kept140, kept141, kept142, kept143), h1⟩, ⟨rF, rE, rfl, rfl, trivial, trivial⟩, Nat.lt_succ_self _⟩
      ·
       replace h1 := iteF h1 hb144
       refine awp_exit ?_
       refine kx_then ?_
       refine kx_then ?_
       refine kx_done ?_
       obtain rfl := Option.some.inj h1
       exact ⟨_, rfl, Nat.le_of_ble_eq_true rfl, ⟨rF, rE, rfl, rfl, trivial, trivial⟩⟩
end Go.T
end
section
/- MergeGoes: for all runs, Next goes through what All returns, from any state on the way; no conditions. -/
namespace Go.Proofs.Ytfbaoblejikccaa
open Go.T
theorem mergeGoes : Rows.MergeGoesSaid :=
  mergeGoes_over (fun x0 x1 w0 w1 => by
    obtain ⟨h1, h2⟩ : 0 ≤ x1 ∧ x1 ≤ 255 := by
      have h : (Lit.int .u8 x1).wf = true := w1
      simp [Lit.wf, IntKind.min, IntKind.max, IntKind.signed, IntKind.bits] at h
      omega
    obtain ⟨v, rfl⟩ := Int.eq_ofNat_of_zero_le h1
    obtain ⟨fu, h⟩ := (mergeGoes_ev x0 v (by omega)).one
    exact ⟨_, c_bookendlaw11_MergeGoes h⟩)
end Go.Proofs.Ytfbaoblejikccaa
end
