/- Totals of levels, as the package adds them and as a reader adds them, agree for every list of levels (law 31, StatsTotals); the closed example at its end returns true; the package variables hold at the start what the program's text lays into them. -/
import Derived.Test.YtfbigpneliegfaaGreatDoorKGt
import Derived.Test.YtfbigpneliegfaaGreatDoorKGp
import Derived.Laws.BitsLemmas
import Derived.Test.YtfbigpneliegfaaGreatDoorKDo
import Derived.Test.YtfbigpneliegfaaGreatDoorKCo
set_option linter.unusedSimpArgs false
set_option linter.unusedVariables false
section
namespace Go.T
open Go Go.AM Go.Proofs
set_option maxRecDepth 100000
set_option maxHeartbeats 4000000
set_option linter.unusedVariables false
class ShownOk [Adr] : Prop where ok : PCall Tryz.prog 4 [] (.bool true) []
theorem c_bookendlaw31_shown [Adr] [ShownOk] {fu : Nat} {r : Bool} (h0 : bookendlaw31_shown fu = some r) : PCall Tryz.prog 4 [] (.bool r) [] := by
 rw [bookendlaw31_shown] at h0
 obtain rfl := Option.some.inj h0
 exact ShownOk.ok
theorem c_stats_sum [Adr] {fu : Nat} {l1 : List Int} {r : Int} (h0 : stats_sum fu l1 = some r) : PCall Tryz.prog 14 [.psl 1 (l1.map (encInt .i64))] (.int .i64 r) [] := by
 refine awp_pcall Tryz.func14 rfl (by decide) rL ?_
 dsimp only [Tryz.f14]
 rw [stats_sum] at h0
 refine xS 8 [0] ?_
 refine xS 16 [0, 3] ?_
 refine awp_seq ?_
 refine xS 40 [3, 6, 7, 8] ?_
 obtain ⟨x8, hxx8, h0⟩ := bindS h0
 refine awp_bloop (fun s' => s'.nx ≤ 48 ∧ LeN [] s' ⟨[(3, .int .i64 x8)], [], 48, []⟩) ?_ ?_
 ·
  intro s' hs
  obtain ⟨hn, hs⟩ := hs
  refine kn_then ?_
  refine awp_re [] hn hs ?_
  refine xS 64 [2] ?_
  refine awp_ret ?_
  obtain rfl := Option.some.inj h0
  exact leave_retG [] rG
 refine awp_loopF (ι := { p : Nat × Int × Int // stats_sum_l1 l1 p.1 p.2.1 p.2.2 = some x8 }) (fun p => ⟨[(3, .int .i64 p.1.2.1), (6, .psl 1 (List.map (encInt .i64) l1)), (7, .int .i64 (l1.length : Int)), (8, .int .i64 p.1.2.2)], [], 40, []⟩) (fun p => p.1.1) ⟨(fu, 0, 0), hxx8⟩ ⟨rF, rE, rfl, rfl, trivial, trivial⟩ (fun _ => Nat.le_refl _) ?_
 rintro ⟨⟨fu, n9, v10⟩, h1⟩
 cases fu with
 | zero =>
  replace h1 : stats_sum_l1 l1 0 n9 v10 = some x8 := h1
  rw [stats_sum_l1] at h1; cases h1
 | succ fu =>
  replace h1 : stats_sum_l1 l1 (fu + 1) n9 v10 = some x8 := h1
  rw [stats_sum_l1] at h1
  dsimp only
  refine xS 48 [3, 6, 7, 8, 9] ?_
  refine awp_seq ?_
  refine xI h1 rfl (fun h1 hb11 => ?_) (fun h1 hb11 => ?_)
  ·
   refine awp_skip (kn_then (awp_seq (awp_block ?_)))
   obtain ⟨e12, he12, h1⟩ := bindS h1
   obtain ⟨he12a, he12b, he12c⟩ := idxS he12
   refine awp_sr2 72 [3, 5, 6, 7, 8] (fun _ => none) rfl (fun _ _ => rS (rA he12a (rA he12b he12c))) ?_
   refine awp_r2 104 [3, 6, 7, 8] (fun _ => none) rfl (fun _ _ => rS (rA he12a (rA he12b he12c))) ?_
   refine kn_block (kn_then ?_)
   refine awp_r2 120 [3, 6, 7, 8] (fun _ => none) rfl (fun _ _ => rS (rA he12a (rA he12b he12c))) ?_
   refine kn_then ?_
   exact ⟨⟨(fu, (IntKind.i64.wrap (n9 + e12)), (IntKind.i64.wrap (v10 + 1))), h1⟩, ⟨rF, rE, rfl, rfl, trivial, trivial⟩, Nat.lt_succ_self _⟩
  refine awp_exit (kx_then (kx_then (kx_done ?_)))
  obtain rfl := Option.some.inj h1
  exact ⟨rL, ⟨rF, rE, rfl, rfl, trivial, trivial⟩⟩
theorem c_stats_Total [Adr] {fu : Nat} {l1 : List TApiStLevel} {r : TApiStLevel × Int} (h0 : stats_Total fu l1 = some r) : PCall Tryz.prog 5 [.psl 5 (l1.map TApiStLevel.enc)] (.tup [.agg (TApiStLevel.enc r.1), .int .i64 r.2]) [] := by
 refine awp_pcall Tryz.func5 rfl (by decide) rL ?_
 dsimp only [Tryz.f5]
 rw [stats_Total] at h0
 refine xS 16 [0, 2] ?_
 refine awp_seq ?_
 refine xS 40 [0, 2, 11] ?_
 refine xI h0 rfl (fun h0 hb2 => ?_) (fun h0 hb2 => ?_)
 ·
  refine xS 64 [2, 3] ?_
  refine awp_ret (kr_then ?_)
  obtain rfl := Option.some.inj h0
  exact leave_retG [] rG
 refine awp_skip (kn_then ?_)
 refine xS 48 [0, 2, 4] ?_
 refine awp_seq ?_
 refine xS 72 [2, 4, 13, 14, 15] ?_
 obtain ⟨x59, hxx59, h0⟩ := bindS h0
 refine awp_bloop (fun s' => ∃ o92 : Int × Int × Int × Bool × Int, x59 = .inl o92 ∧ s'.nx ≤ 80 ∧ LeN [] s' ⟨[(2, .ref 0 0 0 0), (4, .ref 40 0 0 0)], [(0, ⟨0, true, true, 5, [[.int .i64 0, .int .i64 0, .int .i64 0, .bool false, .int .i64 0]]⟩), (40, ⟨0, true, true, 5, [[.int .i64 o92.1, .int .i64 o92.2.1, .int .i64 o92.2.2.1, .bool o92.2.2.2.1, .int .i64 o92.2.2.2.2]]⟩)], 80, []⟩) ?_ ?_
 ·
  intro s' hs
  obtain ⟨o92, rfl, hn, hs⟩ := hs
  refine kn_then ?_
  refine awp_re [] hn hs ?_
  refine xS 104 [2, 3] ?_
  refine awp_ret ?_
  obtain rfl := Option.some.inj h0
  exact leave_retG [] rG
 refine awp_loopF (ι := { p : Nat × Int × Int × Int × Int × Bool × Int // stats_Total_l3 l1 p.1 p.2.1 p.2.2.1 p.2.2.2.1 p.2.2.2.2.1 p.2.2.2.2.2.1 p.2.2.2.2.2.2 = some x59 }) (fun p => ⟨[(2, .ref 0 0 0 0), (4, .ref 40 0 0 0), (13, .psl 5 (List.map TApiStLevel.enc l1)), (14, .int .i64 (l1.length : Int)), (15, .int .i64 p.1.2.1)], [(0, ⟨0, true, true, 5, [[.int .i64 0, .int .i64 0, .int .i64 0, .bool false, .int .i64 0]]⟩), (40, ⟨0, true, true, 5, [[.int .i64 p.1.2.2.1, .int .i64 p.1.2.2.2.1, .int .i64 p.1.2.2.2.2.1, .bool p.1.2.2.2.2.2.1, .int .i64 p.1.2.2.2.2.2.2]]⟩)], 72, []⟩) (fun p => p.1.1) ⟨(fu, 0, 0, 0, 0, false, 0), hxx59⟩ ⟨rF, rE, rfl, rfl, trivial, trivial⟩ (fun _ => Nat.le_refl _) ?_
 rintro ⟨⟨fu, v60, t61, t62, t63, t64, t65⟩, h1⟩
 cases fu with
 | zero =>
  replace h1 : stats_Total_l3 l1 0 v60 t61 t62 t63 t64 t65 = some x59 := h1
  rw [stats_Total_l3] at h1; cases h1
 | succ fu =>
  replace h1 : stats_Total_l3 l1 (fu + 1) v60 t61 t62 t63 t64 t65 = some x59 := h1
  rw [stats_Total_l3] at h1
  dsimp only
  refine xS 80 [2, 4, 13, 14, 15, 16] ?_
  refine awp_seq ?_
  refine xI h1 rfl (fun h1 hb66 => ?_) (fun h1 hb66 => ?_)
  ·
   refine awp_skip (kn_then (awp_seq (awp_block ?_)))
   obtain ⟨e67, he67, h1⟩ := bindS h1
   obtain ⟨he67a, he67b, he67c⟩ := idxS he67
   refine awp_sr2 112 [2, 4, 6, 13, 14, 15] (fun _ => none) rfl (fun _ _ => rS (rA he67a (rA he67b he67c))) ?_
   refine awp_seq ?_
   refine awp_sr2 200 [2, 4, 6, 13, 14, 15, 27, 28, 29] (fun _ => none) rfl (fun _ _ => rS (rA he67a (rA he67b he67c))) ?_
   refine xE ⟨[(2, .ref 0 0 0 0), (4, .ref 40 0 0 0), (6, .ref 96 0 0 0), (13, .psl 5 (List.map TApiStLevel.enc l1)), (14, .int .i64 (l1.length : Int)), (15, .int .i64 v60), (27, .sl 176 0 1 0 4), (28, .int .i64 4), (29, .int .i64 0)], [(0, ⟨0, true, true, 5, [[.int .i64 0, .int .i64 0, .int .i64 0, .bool false, .int .i64 0]]⟩), (40, ⟨0, true, true, 5, [[.int .i64 t61, .int .i64 t62, .int .i64 t63, .bool t64, .int .i64 t65]]⟩), (96, ⟨0, true, true, 5, [[.int .i64 e67.Runs, .int .i64 e67.Entries, .int .i64 e67.Dead, .bool e67.Job, .int .i64 e67.Left]]⟩), (176, ⟨0, true, true, 1, List.map (encInt .i64) [e67.Runs, e67.Entries, e67.Dead, e67.Left]⟩)], 200, []⟩ ?_
   obtain ⟨x78, hxx78, h1⟩ := bindS h1
   refine awp_bloop (fun s' => ∃ o85 : Unit, x78 = .inl o85 ∧ s'.nx ≤ 208 ∧ LeN [] s' ⟨[(2, .ref 0 0 0 0), (4, .ref 40 0 0 0), (6, .ref 96 0 0 0), (13, .psl 5 (List.map TApiStLevel.enc l1)), (14, .int .i64 (l1.length : Int)), (15, .int .i64 v60)], [(0, ⟨0, true, true, 5, [[.int .i64 0, .int .i64 0, .int .i64 0, .bool false, .int .i64 0]]⟩), (40, ⟨0, true, true, 5, [[.int .i64 t61, .int .i64 t62, .int .i64 t63, .bool t64, .int .i64 t65]]⟩), (96, ⟨0, true, true, 5, [[.int .i64 e67.Runs, .int .i64 e67.Entries, .int .i64 e67.Dead, .bool e67.Job, .int .i64 e67.Left]]⟩), (176, ⟨0, true, true, 1, List.map (encInt .i64) [e67.Runs, e67.Entries, e67.Dead, e67.Left]⟩)], 208, []⟩) ?_ ?_
   ·
    intro s' hs
    obtain ⟨o85, rfl, hn, hs⟩ := hs
    refine kn_then ?_
    refine awp_re [] hn hs ?_
    obtain ⟨vr86, hvr86, h1⟩ := bindS h1
    obtain ⟨vr87, hvr87, h1⟩ := bindS h1
    obtain ⟨vr88, hvr88, h1⟩ := bindS h1
    obtain ⟨vr89, hvr89, h1⟩ := bindS h1
    refine awp_sd2 464 [2, 4, 6, 13, 14, 15] (fun | 5 => some (.int .i64 vr86, []) | 11 => some (.int .i64 vr87, []) | 17 => some (.int .i64 vr88, []) | 23 => some (.int .i64 vr89, []) | _ => none) rfl rfl rfl (fun Kt hK => by
      try have q0 := c_stats_sum hvr86
      try have q1 := c_stats_sum hvr87
      try have q2 := c_stats_sum hvr88
      try have q3 := c_stats_sum hvr89
      exact rSd (rA he67a (rA he67b he67c))) ?_
    refine xE ⟨[(2, .ref 0 0 0 0), (4, .ref 40 0 0 0), (6, .ref 96 0 0 0), (13, .psl 5 (List.map TApiStLevel.enc l1)), (14, .int .i64 (l1.length : Int)), (15, .int .i64 v60)], [(0, ⟨0, true, true, 5, [[.int .i64 0, .int .i64 0, .int .i64 0, .bool false, .int .i64 0]]⟩), (40, ⟨0, true, true, 5, [[.int .i64 vr86, .int .i64 vr87, .int .i64 vr88, .bool t64, .int .i64 vr89]]⟩), (96, ⟨0, true, true, 5, [[.int .i64 e67.Runs, .int .i64 e67.Entries, .int .i64 e67.Dead, .bool e67.Job, .int .i64 e67.Left]]⟩)], 464, []⟩ ?_
    obtain ⟨b90, hb90, h1⟩ := bindS h1
    refine awp_r3 (fr' := [(2, .ref 0 0 0 0), (4, .ref 40 0 0 0), (13, .psl 5 (List.map TApiStLevel.enc l1)), (14, .int .i64 (l1.length : Int)), (15, .int .i64 v60)]) (hp' := [(0, ⟨0, true, true, 5, [[.int .i64 0, .int .i64 0, .int .i64 0, .bool false, .int .i64 0]]⟩), (40, ⟨0, true, true, 5, [[.int .i64 vr86, .int .i64 vr87, .int .i64 vr88, .bool b90, .int .i64 vr89]]⟩), (96, ⟨0, true, true, 5, [[.int .i64 e67.Runs, .int .i64 e67.Entries, .int .i64 e67.Dead, .bool e67.Job, .int .i64 e67.Left]]⟩)]) [0, 40, 96] 528 [2, 4, 13, 14, 15] (fun _ => none) rfl (fun Kt hK => by
      cases t64 with
      | false =>
       replace hb90 := iteF hb90 rfl
       have hqb90 := Option.some.inj hb90
       subst hqb90
       exact rS (rA he67a (rA he67b he67c))
      | true =>
       replace hb90 := iteT hb90 rfl
       have hqb90 := Option.some.inj hb90
       subst hqb90
       exact rS (rA he67a (rA he67b he67c))) ?_
    refine kn_block (kn_then ?_)
    refine awp_r2 544 [2, 4, 13, 14, 15] (fun _ => none) rfl (fun _ _ => rS (rA he67a (rA he67b he67c))) ?_
    refine kn_then ?_
    exact ⟨⟨(fu, (IntKind.i64.wrap (v60 + 1)), vr86, vr87, vr88, b90, vr89), h1⟩, ⟨rF, rE, rfl, rfl, trivial, trivial⟩, Nat.lt_succ_self _⟩
   refine awp_loopF (ι := { p : Nat × Int // stats_Total_l4 e67 p.1 p.2 = some x78 }) (fun p => ⟨[(2, .ref 0 0 0 0), (4, .ref 40 0 0 0), (6, .ref 96 0 0 0), (13, .psl 5 (List.map TApiStLevel.enc l1)), (14, .int .i64 (l1.length : Int)), (15, .int .i64 v60), (27, .sl 176 0 1 0 4), (28, .int .i64 4), (29, .int .i64 p.1.2)], [(0, ⟨0, true, true, 5, [[.int .i64 0, .int .i64 0, .int .i64 0, .bool false, .int .i64 0]]⟩), (40, ⟨0, true, true, 5, [[.int .i64 t61, .int .i64 t62, .int .i64 t63, .bool t64, .int .i64 t65]]⟩), (96, ⟨0, true, true, 5, [[.int .i64 e67.Runs, .int .i64 e67.Entries, .int .i64 e67.Dead, .bool e67.Job, .int .i64 e67.Left]]⟩), (176, ⟨0, true, true, 1, List.map (encInt .i64) [e67.Runs, e67.Entries, e67.Dead, e67.Left]⟩)], 200, []⟩) (fun p => p.1.1) ⟨(fu, 0), hxx78⟩ ⟨rF, rE, rfl, rfl, trivial, trivial⟩ (fun _ => Nat.le_refl _) ?_
   rintro ⟨⟨fu, v79⟩, h2⟩
   cases fu with
   | zero =>
  replace h2 : stats_Total_l4 e67 0 v79 = some x78 := h2
  rw [stats_Total_l4] at h2; cases h2
   | succ fu =>
    replace h2 : stats_Total_l4 e67 (fu + 1) v79 = some x78 := h2
    rw [stats_Total_l4] at h2
    dsimp only
    refine awp_sr2 208 [2, 4, 6, 13, 14, 15, 27, 28, 29, 30] (fun _ => none) rfl (fun _ _ => rS (rA he67a (rA he67b he67c))) ?_
    refine awp_seq ?_
    refine xI h2 rfl (fun h2 hb80 => ?_) (fun h2 hb80 => ?_)
    ·
     refine awp_skip (kn_then (awp_seq (awp_block ?_)))
     obtain ⟨e81, he81, h2⟩ := bindS h2
     obtain ⟨he81a, he81b, he81c⟩ := idxS he81
     have he81d : [[AV.int .i64 e67.Runs], [AV.int .i64 e67.Entries], [AV.int .i64 e67.Dead], [AV.int .i64 e67.Left]][v79.toNat]? = some [AV.int .i64 e81] := by have q := congrArg (Option.map (encInt .i64)) he81c; rw [← List.getElem?_map] at q; exact q
     refine awp_sr2 232 [2, 4, 6, 8, 13, 14, 15, 27, 28, 29] (fun _ => none) rfl (fun _ _ => rS (rA he67a (rA he67b (rA he67c (rA he81a (rA he81b (rA he81c he81d))))))) ?_
     obtain ⟨b82, hb82, h2⟩ := bindS h2
     refine awp_sr3 (fr' := [(2, .ref 0 0 0 0), (4, .ref 40 0 0 0), (6, .ref 96 0 0 0), (13, .psl 5 (List.map TApiStLevel.enc l1)), (14, .int .i64 (l1.length : Int)), (15, .int .i64 v60), (27, .sl 176 0 1 0 4), (28, .int .i64 4), (29, .int .i64 v79), (38, .bool b82)]) (hp' := [(0, ⟨0, true, true, 5, [[.int .i64 0, .int .i64 0, .int .i64 0, .bool false, .int .i64 0]]⟩), (40, ⟨0, true, true, 5, [[.int .i64 t61, .int .i64 t62, .int .i64 t63, .bool t64, .int .i64 t65]]⟩), (96, ⟨0, true, true, 5, [[.int .i64 e67.Runs, .int .i64 e67.Entries, .int .i64 e67.Dead, .bool e67.Job, .int .i64 e67.Left]]⟩), (176, ⟨0, true, true, 1, List.map (encInt .i64) [e67.Runs, e67.Entries, e67.Dead, e67.Left]⟩)]) [0, 40, 96, 176] 280 [2, 4, 6, 13, 14, 15, 27, 28, 29, 38] (fun _ => none) rfl (fun Kt hK => by
       cases hg83 : (decide (e81 < 0)) with
       | false =>
        replace hb82 := iteF hb82 hg83
        have hqb82 := Option.some.inj hb82
        subst hqb82
        exact rWg hg83 (rA he67a (rA he67b (rA he67c (rA he81a (rA he81b (rA he81c he81d)))))) hK
       | true =>
        replace hb82 := iteT hb82 hg83
        have hqb82 := Option.some.inj hb82
        subst hqb82
        exact rWg hg83 (rA he67a (rA he67b (rA he67c (rA he81a (rA he81b (rA he81c he81d)))))) hK) ?_
     refine xI h2 rfl (fun h2 hb84 => ?_) (fun h2 hb84 => ?_)
     ·
      refine awp_sr2 304 [2, 3] (fun _ => none) rfl (fun _ _ => rS (rA he67a (rA he67b (rA he67c (rA he81a (rA he81b (rA he81c he81d))))))) ?_
      refine awp_ret ?_
      obtain rfl := Option.some.inj h2
      obtain rfl := Option.some.inj h1
      refine kr_block (kr_then (kr_then (kr_loop (kr_then (kr_block (kr_then (kr_then (kr_loop (kr_then ?_)))))))))
      obtain rfl := Option.some.inj h0
      refine leave_retG [] ?_
      exact rJ (rA he67a (rA he67b (rA he67c (rA he81a (rA he81b (rA he81c he81d))))))
     refine awp_skip (kn_block (kn_then ?_))
     refine awp_r2 296 [2, 4, 6, 13, 14, 15, 27, 28, 29] (fun _ => none) rfl (fun _ _ => rS (rA he67a (rA he67b (rA he67c (rA he81a (rA he81b (rA he81c he81d))))))) ?_
     refine kn_then ?_
     exact ⟨⟨(fu, (IntKind.i64.wrap (v79 + 1))), h2⟩, ⟨rF, rE, rfl, rfl, trivial, trivial⟩, Nat.lt_succ_self _⟩
    refine awp_exit (kx_then (kx_then (kx_done ?_)))
    obtain rfl := Option.some.inj h2
    exact ⟨_, rfl, rL, ⟨rF, rE, rfl, rfl, trivial, trivial⟩⟩
  refine awp_exit (kx_then (kx_then (kx_done ?_)))
  obtain rfl := Option.some.inj h1
  exact ⟨_, rfl, rL, ⟨rF, rE, rfl, rfl, trivial, trivial⟩⟩
theorem c_bookendref31_inside [Adr] {fu : Nat} {n1 : Int} {r : Bool} (h0 : bookendref31_inside fu n1 = some r) : PCall Tryz.prog 15 [.int .i64 n1] (.bool r) [] := by
 refine awp_pcall Tryz.func15 rfl (by decide) rL ?_
 dsimp only [Tryz.f15]
 rw [bookendref31_inside] at h0
 refine xS 8 [0] ?_
 obtain ⟨b2, hb2, h0⟩ := bindS h0
 refine awp_sr3 (fr' := [(2, .bool b2)]) (hp' := []) [] 64 [2] (fun _ => none) rfl (fun Kt hK => by
   cases hg3 : (decide (0 ≤ n1)) with
   | false =>
    replace hb2 := iteF hb2 hg3
    have hqb2 := Option.some.inj hb2
    subst hqb2
    exact rW hg3 hK
   | true =>
    replace hb2 := iteT hb2 hg3
    have hqb2 := Option.some.inj hb2
    subst hqb2
    exact rW hg3 hK) ?_
 refine awp_ret ?_
 obtain rfl := Option.some.inj h0
 exact leave_retG [] rG
theorem c_bookendref31_Total [Adr] {fu : Nat} {l1 : List TApiStLevel} {r : TApiStLevel × Int} (h0 : bookendref31_Total fu l1 = some r) : PCall Tryz.prog 6 [.psl 5 (l1.map TApiStLevel.enc)] (.tup [.agg (TApiStLevel.enc r.1), .int .i64 r.2]) [] := by
 refine awp_pcall Tryz.func6 rfl (by decide) rL ?_
 dsimp only [Tryz.f6]
 rw [bookendref31_Total] at h0
 refine xS 16 [0, 2] ?_
 refine awp_seq ?_
 refine xS 40 [0, 2, 9] ?_
 refine xI h0 rfl (fun h0 hb2 => ?_) (fun h0 hb2 => ?_)
 ·
  refine xS 64 [2, 3] ?_
  refine awp_ret (kr_then ?_)
  obtain rfl := Option.some.inj h0
  exact leave_retG [] rG
 refine awp_skip (kn_then ?_)
 refine xS 48 [0, 2, 4] ?_
 refine awp_seq ?_
 refine xS 56 [0, 2, 4, 5] ?_
 obtain ⟨x43, hxx43, h0⟩ := bindS h0
 refine awp_bloop (fun s' => ∃ o68 : Int × Int × Int × Bool × Int, x43 = .inl o68 ∧ s'.nx ≤ 88 ∧ LeN [] s' ⟨[(2, .ref 0 0 0 0), (4, .ref 40 0 0 0)], [(0, ⟨0, true, true, 5, [[.int .i64 0, .int .i64 0, .int .i64 0, .bool false, .int .i64 0]]⟩), (40, ⟨0, true, true, 5, [[.int .i64 o68.1, .int .i64 o68.2.1, .int .i64 o68.2.2.1, .bool o68.2.2.2.1, .int .i64 o68.2.2.2.2]]⟩)], 88, []⟩) ?_ ?_
 ·
  intro s' hs
  obtain ⟨o68, rfl, hn, hs⟩ := hs
  refine kn_then ?_
  refine awp_re [] hn hs ?_
  refine xS 112 [2, 3] ?_
  refine awp_ret ?_
  obtain rfl := Option.some.inj h0
  exact leave_retG [] rG
 refine awp_loopF (ι := { p : Nat × Int × Int × Int × Int × Bool × Int // bookendref31_Total_l1 l1 p.1 p.2.1 p.2.2.1 p.2.2.2.1 p.2.2.2.2.1 p.2.2.2.2.2.1 p.2.2.2.2.2.2 = some x43 }) (fun p => ⟨[(0, .psl 5 (List.map TApiStLevel.enc l1)), (2, .ref 0 0 0 0), (4, .ref 40 0 0 0), (5, .int .i64 p.1.2.1)], [(0, ⟨0, true, true, 5, [[.int .i64 0, .int .i64 0, .int .i64 0, .bool false, .int .i64 0]]⟩), (40, ⟨0, true, true, 5, [[.int .i64 p.1.2.2.1, .int .i64 p.1.2.2.2.1, .int .i64 p.1.2.2.2.2.1, .bool p.1.2.2.2.2.2.1, .int .i64 p.1.2.2.2.2.2.2]]⟩)], 56, []⟩) (fun p => p.1.1) ⟨(fu, 0, 0, 0, 0, false, 0), hxx43⟩ ⟨rF, rE, rfl, rfl, trivial, trivial⟩ (fun _ => Nat.le_refl _) ?_
 rintro ⟨⟨fu, i44, t45, t46, t47, t48, t49⟩, h1⟩
 cases fu with
 | zero =>
  replace h1 : bookendref31_Total_l1 l1 0 i44 t45 t46 t47 t48 t49 = some x43 := h1
  rw [bookendref31_Total_l1] at h1; cases h1
 | succ fu =>
  replace h1 : bookendref31_Total_l1 l1 (fu + 1) i44 t45 t46 t47 t48 t49 = some x43 := h1
  rw [bookendref31_Total_l1] at h1
  dsimp only
  refine awp_seq ?_
  refine xS 88 [0, 2, 4, 5, 14] ?_
  refine xI h1 rfl (fun h1 hb50 => ?_) (fun h1 hb50 => ?_)
  ·
   refine awp_skip (kn_then (awp_seq (awp_block ?_)))
   obtain ⟨e51, he51, h1⟩ := bindS h1
   obtain ⟨he51a, he51b, he51c⟩ := idxS he51
   refine awp_sr2 136 [0, 2, 4, 5, 6] (fun _ => none) rfl (fun _ _ => rS (rA he51a (rA he51b he51c))) ?_
   refine awp_seq ?_
   obtain ⟨vr52, hvr52, h1⟩ := bindS h1
   obtain ⟨b54, hb54, h1⟩ := bindS h1
   obtain ⟨b56, hb56, h1⟩ := bindS h1
   obtain ⟨b58, hb58, h1⟩ := bindS h1
   refine awp_sr3 (fr' := [(0, .psl 5 (List.map TApiStLevel.enc l1)), (2, .ref 0 0 0 0), (4, .ref 40 0 0 0), (5, .int .i64 i44), (6, .ref 120 0 0 0), (42, .bool b58)]) (hp' := [(0, ⟨0, true, true, 5, [[.int .i64 0, .int .i64 0, .int .i64 0, .bool false, .int .i64 0]]⟩), (40, ⟨0, true, true, 5, [[.int .i64 t45, .int .i64 t46, .int .i64 t47, .bool t48, .int .i64 t49]]⟩), (120, ⟨0, true, true, 5, [[.int .i64 e51.Runs, .int .i64 e51.Entries, .int .i64 e51.Dead, .bool e51.Job, .int .i64 e51.Left]]⟩)]) [0, 40, 120] 312 [0, 2, 4, 5, 6, 42] (fun | 2 => some (.bool vr52, []) | 7 => (bookendref31_inside fu e51.Entries).bind fun vr53 => some (.bool vr53, []) | 13 => (bookendref31_inside fu e51.Dead).bind fun vr55 => some (.bool vr55, []) | 19 => (bookendref31_inside fu e51.Left).bind fun vr57 => some (.bool vr57, []) | _ => none) rfl (fun Kt hK => by
     cases hg59 : (!vr52) with
     | false =>
      replace hb54 := iteF hb54 hg59
      obtain ⟨vr53, hvr53, hb54⟩ := bindS hb54
      have hqb54 := Option.some.inj hb54
      cases b54 with
      | false =>
       replace hb56 := iteF hb56 rfl
       obtain ⟨vr55, hvr55, hb56⟩ := bindS hb56
       have hqb56 := Option.some.inj hb56
       cases b56 with
       | false =>
        replace hb58 := iteF hb58 rfl
        obtain ⟨vr57, hvr57, hb58⟩ := bindS hb58
        have hqb58 := Option.some.inj hb58
        subst hqb58
        simp (maxSteps := 1000000) only [↓reduceIte, reduceCtorEq, Nat.reduceEqDiff, Nat.reduceLT, Nat.reduceLeDiff, Nat.reduceAdd, Nat.reduceMul, Int.reduceToNat, push_cast, he51a, he51b, he51c, ↓hg59, hvr53, ↓hqb54, hvr55, ↓hqb56, hvr57]
        try simp only [↓hg59, ↓hqb54, ↓hqb56] at hK
        try have q0 := c_bookendref31_inside hvr52
        try have q1 := c_bookendref31_inside hvr53
        try have q2 := c_bookendref31_inside hvr55
        try have q3 := c_bookendref31_inside hvr57
        all_goals exact rU
       | true =>
        replace hb58 := iteT hb58 rfl
        have hqb58 := Option.some.inj hb58
        subst hqb58
        simp (maxSteps := 1000000) only [↓reduceIte, reduceCtorEq, Nat.reduceEqDiff, Nat.reduceLT, Nat.reduceLeDiff, Nat.reduceAdd, Nat.reduceMul, Int.reduceToNat, push_cast, he51a, he51b, he51c, ↓hg59, hvr53, ↓hqb54, hvr55, ↓hqb56]
        try simp only [↓hg59, ↓hqb54, ↓hqb56] at hK
        try have q0 := c_bookendref31_inside hvr52
        try have q1 := c_bookendref31_inside hvr53
        try have q2 := c_bookendref31_inside hvr55
        try have q3 := c_bookendref31_inside hvr57
        all_goals exact rU
      | true =>
       replace hb56 := iteT hb56 rfl
       have hqb56 := Option.some.inj hb56
       cases b56 with
       | false =>
        cases hqb56
       | true =>
        replace hb58 := iteT hb58 rfl
        have hqb58 := Option.some.inj hb58
        subst hqb58
        simp (maxSteps := 1000000) only [↓reduceIte, reduceCtorEq, Nat.reduceEqDiff, Nat.reduceLT, Nat.reduceLeDiff, Nat.reduceAdd, Nat.reduceMul, Int.reduceToNat, push_cast, he51a, he51b, he51c, ↓hg59, hvr53, ↓hqb54]
        try simp only [↓hg59, ↓hqb54] at hK
        try have q0 := c_bookendref31_inside hvr52
        try have q1 := c_bookendref31_inside hvr53
        try have q2 := c_bookendref31_inside hvr55
        try have q3 := c_bookendref31_inside hvr57
        all_goals exact rU
     | true =>
      replace hb54 := iteT hb54 hg59
      have hqb54 := Option.some.inj hb54
      cases b54 with
      | false =>
       cases hqb54
      | true =>
       replace hb56 := iteT hb56 rfl
       have hqb56 := Option.some.inj hb56
       cases b56 with
       | false =>
        cases hqb56
       | true =>
        replace hb58 := iteT hb58 rfl
        have hqb58 := Option.some.inj hb58
        subst hqb58
        simp (maxSteps := 1000000) only [↓reduceIte, reduceCtorEq, Nat.reduceEqDiff, Nat.reduceLT, Nat.reduceLeDiff, Nat.reduceAdd, Nat.reduceMul, Int.reduceToNat, push_cast, he51a, he51b, he51c, ↓hg59]
        try simp only [↓hg59] at hK
        try have q0 := c_bookendref31_inside hvr52
        try have q1 := c_bookendref31_inside hvr53
        try have q2 := c_bookendref31_inside hvr55
        try have q3 := c_bookendref31_inside hvr57
        all_goals exact rU) ?_
   refine xI h1 rfl (fun h1 hb65 => ?_) (fun h1 hb65 => ?_)
   ·
    refine awp_sr2 336 [2, 3] (fun _ => none) rfl (fun _ _ => rS (rA he51a (rA he51b he51c))) ?_
    refine awp_ret ?_
    obtain rfl := Option.some.inj h1
    refine kr_then (kr_block (kr_then (kr_then (kr_loop (kr_then ?_)))))
    obtain rfl := Option.some.inj h0
    refine leave_retG [] ?_
    exact rJ (rA he51a (rA he51b he51c))
   refine awp_skip (kn_then ?_)
   obtain ⟨b66, hb66, h1⟩ := bindS h1
   refine awp_r3 (fr' := [(0, .psl 5 (List.map TApiStLevel.enc l1)), (2, .ref 0 0 0 0), (4, .ref 40 0 0 0), (5, .int .i64 i44)]) (hp' := [(0, ⟨0, true, true, 5, [[.int .i64 0, .int .i64 0, .int .i64 0, .bool false, .int .i64 0]]⟩), (40, ⟨0, true, true, 5, [[.int .i64 (IntKind.i64.wrap (t45 + e51.Runs)), .int .i64 (IntKind.i64.wrap (t46 + e51.Entries)), .int .i64 (IntKind.i64.wrap (t47 + e51.Dead)), .bool b66, .int .i64 (IntKind.i64.wrap (t49 + e51.Left))]]⟩), (120, ⟨0, true, true, 5, [[.int .i64 e51.Runs, .int .i64 e51.Entries, .int .i64 e51.Dead, .bool e51.Job, .int .i64 e51.Left]]⟩)]) [0, 40, 120] 536 [0, 2, 4, 5] (fun _ => none) rfl (fun Kt hK => by
     cases t48 with
     | false =>
      replace hb66 := iteF hb66 rfl
      have hqb66 := Option.some.inj hb66
      subst hqb66
      exact rS (rA he51a (rA he51b he51c))
     | true =>
      replace hb66 := iteT hb66 rfl
      have hqb66 := Option.some.inj hb66
      subst hqb66
      exact rS (rA he51a (rA he51b he51c))) ?_
   refine kn_block (kn_then ?_)
   refine awp_r2 560 [0, 2, 4, 5] (fun _ => none) rfl (fun _ _ => rS (rA he51a (rA he51b he51c))) ?_
   refine kn_then ?_
   exact ⟨⟨(fu, (IntKind.i64.wrap (i44 + 1)), (IntKind.i64.wrap (t45 + e51.Runs)), (IntKind.i64.wrap (t46 + e51.Entries)), (IntKind.i64.wrap (t47 + e51.Dead)), b66, (IntKind.i64.wrap (t49 + e51.Left))), h1⟩, ⟨rF, rE, rfl, rfl, trivial, trivial⟩, Nat.lt_succ_self _⟩
  refine awp_exit (kx_then (kx_then (kx_done ?_)))
  obtain rfl := Option.some.inj h1
  exact ⟨_, rfl, rL, ⟨rF, rE, rfl, rfl, trivial, trivial⟩⟩
theorem c_bookendlaw31_StatsTotals [Adr] [ShownOk] {fu : Nat} {l1 : List TApiStLevel} {r : Bool} (h0 : bookendlaw31_StatsTotals fu l1 = some r) : PCall Tryz.prog 3 [.psl 5 (l1.map TApiStLevel.enc)] (.bool r) [] := by
 refine awp_pcall Tryz.func3 rfl (by decide) rL ?_
 dsimp only [Tryz.f3]
 rw [bookendlaw31_StatsTotals] at h0
 refine xS 8 [0] ?_
 refine awp_seq ?_
 refine xS 32 [0, 9] ?_
 refine xI h0 rfl (fun h0 hb2 => ?_) (fun h0 hb2 => ?_)
 ·
  obtain ⟨vr3, hvr3, h0⟩ := bindS h0
  refine awp_sr2 48 [2] (fun | 0 => some (.bool vr3, []) | _ => none) rfl (fun _ _ => rC (c_bookendlaw31_shown hvr3)) ?_
  refine awp_ret (kr_then ?_)
  obtain rfl := Option.some.inj h0
  exact leave_retG [] rG
 refine awp_skip (kn_then ?_)
 obtain ⟨vr4, hvr4, h0⟩ := bindS h0
 refine awp_sr2 96 [0, 3, 4] (fun | 1 => some (.tup [.agg (TApiStLevel.enc vr4.1), .int .i64 vr4.2], []) | _ => none) rfl (fun _ _ => rC (c_stats_Total hvr4)) ?_
 obtain ⟨vr5, hvr5, h0⟩ := bindS h0
 refine awp_sr2 160 [3, 4, 5, 6] (fun | 1 => some (.tup [.agg (TApiStLevel.enc vr5.1), .int .i64 vr5.2], []) | _ => none) rfl (fun _ _ => rC (c_bookendref31_Total hvr5)) ?_
 obtain ⟨b6, hb6, h0⟩ := bindS h0
 obtain ⟨b8, hb8, h0⟩ := bindS h0
 refine awp_sr3 (fr' := [(2, .bool b8)]) (hp' := [(72, ⟨0, true, true, 5, [[.int .i64 vr4.1.Runs, .int .i64 vr4.1.Entries, .int .i64 vr4.1.Dead, .bool vr4.1.Job, .int .i64 vr4.1.Left]]⟩), (136, ⟨0, true, true, 5, [[.int .i64 vr5.1.Runs, .int .i64 vr5.1.Entries, .int .i64 vr5.1.Dead, .bool vr5.1.Job, .int .i64 vr5.1.Left]]⟩)]) [72, 136] 256 [2] (fun | 9 => (bookendlaw31_shown fu).bind fun vr7 => some (.bool vr7, []) | _ => none) rfl (fun Kt hK => by
   cases hg9 : (TApiStLevel.eqb vr4.1 vr5.1) with
   | false =>
    replace hb6 := iteF hb6 hg9
    have hqb6 := Option.some.inj hb6
    cases b6 with
    | false =>
     replace hb8 := iteF hb8 rfl
     have hqb8 := Option.some.inj hb8
     subst hqb8
     first | exact rWc hg9 (c_bookendlaw31_shown hvr7) hK | exact rW hg9 hK
    | true =>
     cases hqb6
   | true =>
    replace hb6 := iteT hb6 hg9
    have hqb6 := Option.some.inj hb6
    cases b6 with
    | false =>
     replace hb8 := iteF hb8 rfl
     have hqb8 := Option.some.inj hb8
     subst hqb8
     first | exact rWc (rA hg9 hqb6) (c_bookendlaw31_shown hvr7) hK | exact rW (rA hg9 hqb6) hK
    | true =>
     replace hb8 := iteT hb8 rfl
     obtain ⟨vr7, hvr7, hb8⟩ := bindS hb8
     have hqb8 := Option.some.inj hb8
     subst hqb8
     first | exact rWgc (rA hg9 hqb6) hvr7 (c_bookendlaw31_shown hvr7) hK | exact rWg (rA hg9 hqb6) hvr7 hK) ?_
 refine awp_ret ?_
 obtain rfl := Option.some.inj h0
 exact leave_retG [] rG
end Go.T
end
section
set_option linter.unusedSimpArgs false
set_option linter.unusedVariables false
namespace Go.T
open Go Go.AM
def Ev {α : Type} (g : Nat → Option α) (r : α) : Prop := ∃ N, ∀ fu, N ≤ fu → g fu = some r
theorem Ev.ret {α : Type} (r : α) : Ev (fun _ => some r) r := ⟨0, fun _ _ => rfl⟩
theorem Ev.bind {α β : Type} {g : Nat → Option α} {a : α} {k : Nat → α → Option β} {r : β} (h : Ev g a) (h2 : Ev (fun fu => k fu a) r) : Ev (fun fu => (g fu).bind (k fu)) r := by
  obtain ⟨n, h⟩ := h
  obtain ⟨m, h2⟩ := h2
  exact ⟨n + m, fun fu hfu => by show (g fu).bind (k fu) = _; rw [h fu (by omega)]; exact h2 fu (by omega)⟩
theorem Ev.succ {α : Type} {g : Nat → Option α} {r : α} (h : Ev (fun fu => g (fu + 1)) r) : Ev g r := by
  obtain ⟨n, h⟩ := h
  exact ⟨n + 1, fun fu hfu => by obtain ⟨m, rfl⟩ : ∃ m, fu = m + 1 := ⟨fu - 1, by omega⟩; exact h m (by omega)⟩
theorem Ev.of {α : Type} {g g' : Nat → Option α} {r : α} (e : ∀ fu, g fu = g' fu) (h : Ev g' r) : Ev g r := by
  obtain ⟨n, h⟩ := h
  exact ⟨n, fun fu hfu => (e fu).trans (h fu hfu)⟩
theorem Ev.one {α : Type} {g : Nat → Option α} {r : α} (h : Ev g r) : ∃ fu, g fu = some r := by
  obtain ⟨n, h⟩ := h; exact ⟨n, h n (Nat.le_refl n)⟩
theorem wr {n : Int} (h1 : -9223372036854775808 ≤ n) (h2 : n ≤ 9223372036854775807) : IntKind.i64.wrap n = n := by
  rw [IntKind.wrap_i64]; omega
theorem wr_in (n : Int) : -9223372036854775808 ≤ IntKind.i64.wrap n ∧ IntKind.i64.wrap n ≤ 9223372036854775807 := by
  rw [IntKind.wrap_i64]; omega
theorem ix_get {α : Type} (l : List α) (n : Nat) (h : n < l.length) : ix l (n : Int) = some l[n] := by simp [ix, h]
def inB (n : Int) : Bool := decide (0 ≤ n) && decide (n ≤ 1000000)
def inL (e : TApiStLevel) : Bool := inB e.Runs && (inB e.Entries && (inB e.Dead && inB e.Left))
theorem inside_ev (n : Int) : ∀ fu, bookendref31_inside fu n = some (inB n) := by
  intro fu
  unfold bookendref31_inside inB
  by_cases h : 0 ≤ n <;> simp [h]
theorem sum_ev (a b : Int) (h1 : -9223372036854775808 ≤ a) (h2 : a ≤ 9223372036854775807) : Ev (fun fu => stats_sum fu [a, b]) (IntKind.i64.wrap (a + b)) := by
  refine ⟨3, fun fu hfu => ?_⟩
  obtain ⟨m, rfl⟩ : ∃ m, fu = m + 3 := ⟨fu - 3, by omega⟩
  have w1 : IntKind.i64.wrap 1 = 1 := wr (by omega) (by omega)
  have w2 : IntKind.i64.wrap 2 = 2 := wr (by omega) (by omega)
  have w3 : IntKind.i64.wrap a = a := wr h1 h2
  simp [stats_sum, stats_sum_l1, ix, w1, w2, w3]
theorem four_ev (e : TApiStLevel) : Ev (fun fu => stats_Total_l4 e fu 0) (if inL e then .inl () else .inr (TApiStLevel.mk 0 0 0 false 0, 7)) := by
  refine ⟨5, fun fu hfu => ?_⟩
  obtain ⟨m, rfl⟩ : ∃ m, fu = m + 5 := ⟨fu - 5, by omega⟩
  have w1 : IntKind.i64.wrap 1 = 1 := wr (by omega) (by omega)
  have w2 : IntKind.i64.wrap 2 = 2 := wr (by omega) (by omega)
  have w3 : IntKind.i64.wrap 3 = 3 := wr (by omega) (by omega)
  have w4 : IntKind.i64.wrap 4 = 4 := wr (by omega) (by omega)
  have key : ∀ x : Int, ((if decide (x < 0) then some true else some (decide (1000000 < x))) : Option Bool) = some (!inB x) := by
    intro x
    unfold inB
    by_cases h : x < 0
    · simp [h]
    · simp [h]
      have : 0 ≤ x := by omega
      simp [this]
      by_cases h2 : 1000000 < x
      · simp [h2]
      · simp [h2]; omega
  simp only [stats_Total_l4, key, Option.bind_some]
  simp [ix, w1, w2, w3, w4, key]
  unfold inL
  cases h1 : inB e.Runs <;> cases h2 : inB e.Entries <;> cases h3 : inB e.Dead <;> cases h4 : inB e.Left <;> simp [h1, h2, h3, h4]
abbrev TR := Sum (Int × Int × Int × Bool × Int) (TApiStLevel × Int)
theorem loop_ev (l : List TApiStLevel) (hl : l.length ≤ 9223372036854775807) : ∀ (m v : Nat), v + m = l.length → ∀ (a b c d : Int) (j : Bool),
    (-9223372036854775808 ≤ a ∧ a ≤ 9223372036854775807) → (-9223372036854775808 ≤ b ∧ b ≤ 9223372036854775807) → (-9223372036854775808 ≤ c ∧ c ≤ 9223372036854775807) → (-9223372036854775808 ≤ d ∧ d ≤ 9223372036854775807) →
    ∃ r : TR, Ev (fun fu => stats_Total_l3 l fu v a b c j d) r ∧ Ev (fun fu => bookendref31_Total_l1 l fu v a b c j d) r
  | 0, v, hv, a, b, c, d, j, ha, hb, hc, hd => by
    have hn : ¬ ((v : Int) < (l.length : Int)) := by omega
    refine ⟨.inl (a, b, c, j, d), ?_, ?_⟩
    · refine Ev.succ (Ev.of (fun fu => ?_) (Ev.ret _))
      simp only [stats_Total_l3, hn, decide_false, Bool.false_eq_true, if_false]
    · refine Ev.succ (Ev.of (fun fu => ?_) (Ev.ret _))
      simp only [bookendref31_Total_l1, hn, decide_false, Bool.false_eq_true, if_false]
  | m + 1, v, hv, a, b, c, d, j, ha, hb, hc, hd => by
    have hn : (v : Int) < (l.length : Int) := by omega
    have hlt : v < l.length := by omega
    obtain ⟨e, he⟩ : ∃ e, e = l[v] := ⟨_, rfl⟩
    have hx : ix l (v : Int) = some e := by rw [he]; exact ix_get l v hlt
    have hw : IntKind.i64.wrap ((v : Int) + 1) = ((v + 1 : Nat) : Int) := by rw [wr (by omega) (by omega)]; omega
    have hj : ((if j then some true else some e.Job) : Option Bool) = some (j || e.Job) := by cases j <;> rfl
    cases hin : inL e with
    | false =>
      refine ⟨.inr (TApiStLevel.mk 0 0 0 false 0, 7), ?_, ?_⟩
      · refine Ev.succ (Ev.of (g' := fun fu => (stats_Total_l4 e fu 0).bind fun x78 => match x78 with
          | .inl _ => (stats_sum fu [a, e.Runs]).bind fun vr86 => (stats_sum fu [b, e.Entries]).bind fun vr87 => (stats_sum fu [c, e.Dead]).bind fun vr88 => (stats_sum fu [d, e.Left]).bind fun vr89 =>
            (if j then some true else some e.Job).bind fun b90 => stats_Total_l3 l fu (IntKind.i64.wrap ((v : Int) + 1)) vr86 vr87 vr88 b90 vr89
          | .inr y => some (.inr y)) (fun fu => ?_) (Ev.bind (four_ev e) ?_))
        · simp only [stats_Total_l3, hn, decide_true, if_true, hx, Option.bind_some]; rfl
        · rw [hin]; exact Ev.ret _
      · refine Ev.succ (Ev.of (fun fu => ?_) (Ev.ret _))
        simp only [bookendref31_Total_l1, hn, decide_true, if_true, hx, Option.bind_some, inside_ev]
        unfold inL at hin
        cases h1 : inB e.Runs <;> cases h2 : inB e.Entries <;> cases h3 : inB e.Dead <;> cases h4 : inB e.Left <;> simp [h1, h2, h3, h4] at hin ⊢
    | true =>
      obtain ⟨r, r1, r2⟩ := loop_ev l hl m (v + 1) (by omega) (IntKind.i64.wrap (a + e.Runs)) (IntKind.i64.wrap (b + e.Entries)) (IntKind.i64.wrap (c + e.Dead)) (IntKind.i64.wrap (d + e.Left)) (j || e.Job) (wr_in _) (wr_in _) (wr_in _) (wr_in _)
      refine ⟨r, ?_, ?_⟩
      · refine Ev.succ (Ev.of (g' := fun fu => (stats_Total_l4 e fu 0).bind fun x78 => match x78 with
          | .inl _ => (stats_sum fu [a, e.Runs]).bind fun vr86 => (stats_sum fu [b, e.Entries]).bind fun vr87 => (stats_sum fu [c, e.Dead]).bind fun vr88 => (stats_sum fu [d, e.Left]).bind fun vr89 =>
            stats_Total_l3 l fu ((v + 1 : Nat) : Int) vr86 vr87 vr88 (j || e.Job) vr89
          | .inr y => some (.inr y)) (fun fu => ?_) (Ev.bind (four_ev e) ?_))
        · simp only [stats_Total_l3, hn, decide_true, if_true, hx, Option.bind_some, hw, hj]; rfl
        · rw [hin]
          exact Ev.bind (sum_ev a e.Runs ha.1 ha.2) (Ev.bind (sum_ev b e.Entries hb.1 hb.2) (Ev.bind (sum_ev c e.Dead hc.1 hc.2) (Ev.bind (sum_ev d e.Left hd.1 hd.2) r1)))
      · refine Ev.succ (Ev.of (fun fu => ?_) r2)
        simp only [bookendref31_Total_l1, hn, decide_true, if_true, hx, Option.bind_some, inside_ev, hw, hj]
        unfold inL at hin
        cases h1 : inB e.Runs <;> cases h2 : inB e.Entries <;> cases h3 : inB e.Dead <;> cases h4 : inB e.Left <;> simp [h1, h2, h3, h4] at hin ⊢
theorem total_ev (l : List TApiStLevel) (hl : l.length ≤ 9223372036854775807) : ∃ r, Ev (fun fu => stats_Total fu l) r ∧ Ev (fun fu => bookendref31_Total fu l) r := by
  by_cases h : 12 < (l.length : Int)
  · refine ⟨(TApiStLevel.mk 0 0 0 false 0, 3), Ev.of (fun fu => ?_) (Ev.ret _), Ev.of (fun fu => ?_) (Ev.ret _)⟩
    · simp [stats_Total, h]
    · simp [bookendref31_Total, h]
  · obtain ⟨r, r1, r2⟩ := loop_ev l hl l.length 0 (by omega) 0 0 0 0 false (by omega) (by omega) (by omega) (by omega)
    refine ⟨match r with | .inl o => (TApiStLevel.mk o.1 o.2.1 o.2.2.1 o.2.2.2.1 o.2.2.2.2, 0) | .inr y => y, ?_, ?_⟩
    · refine Ev.of (g' := fun fu => (stats_Total_l3 l fu ((0 : Nat) : Int) 0 0 0 false 0).bind fun x => match x with | .inl o => some (TApiStLevel.mk o.1 o.2.1 o.2.2.1 o.2.2.2.1 o.2.2.2.2, 0) | .inr y => some y) (fun fu => ?_) (Ev.bind r1 ?_)
      · simp only [stats_Total, h, decide_false, Bool.false_eq_true, if_false]; rfl
      · cases r <;> exact Ev.ret _
    · refine Ev.of (g' := fun fu => (bookendref31_Total_l1 l fu ((0 : Nat) : Int) 0 0 0 false 0).bind fun x => match x with | .inl o => some (TApiStLevel.mk o.1 o.2.1 o.2.2.1 o.2.2.2.1 o.2.2.2.2, 0) | .inr y => some y) (fun fu => ?_) (Ev.bind r2 ?_)
      · simp only [bookendref31_Total, h, decide_false, Bool.false_eq_true, if_false]; rfl
      · cases r <;> exact Ev.ret _
theorem statsTotals_ev (l : List TApiStLevel) (hl : l.length ≤ 9223372036854775807) : Ev (fun fu => bookendlaw31_StatsTotals fu l) true := by
  by_cases h : 20 < (l.length : Int)
  · refine Ev.of (fun fu => ?_) (Ev.ret _)
    simp [bookendlaw31_StatsTotals, bookendlaw31_shown, h]
  · obtain ⟨r, r1, r2⟩ := total_ev l hl
    refine Ev.of (g' := fun fu => (stats_Total fu l).bind fun vr4 => (bookendref31_Total fu l).bind fun vr5 => (if (TApiStLevel.eqb vr4.1 vr5.1) then some (decide (vr4.2 = vr5.2)) else some false).bind fun b6 => (if b6 then (bookendlaw31_shown fu).bind fun vr7 => some vr7 else some false).bind fun b8 => some b8) (fun fu => ?_) (Ev.bind r1 (Ev.bind r2 ?_))
    · simp only [bookendlaw31_StatsTotals, h, decide_false, Bool.false_eq_true, if_false]
    · refine Ev.of (fun fu => ?_) (Ev.ret _)
      simp [TApiStLevel.eqb, bookendlaw31_shown]
end Go.T
end
section
namespace Go.Proofs.YtfbigpneliegfaaGreatDoor
open Go Go.AM Go.T
theorem statsTotals : Rows.StatsTotalsCardSaid :=
  statsTotals_card (fun ad off h1 h2 x0 w0 => by
    letI : Adr := adrOf ad off
    haveI : ShownOk := ⟨ranAll ad off pok (base0_ok ad off h1 h2)⟩
    obtain ⟨fu, hfu⟩ := (statsTotals_ev x0 (Nat.le_trans w0.1 (by decide))).one
    exact ⟨_, c_bookendlaw31_StatsTotals hfu⟩)
end Go.Proofs.YtfbigpneliegfaaGreatDoor
end
