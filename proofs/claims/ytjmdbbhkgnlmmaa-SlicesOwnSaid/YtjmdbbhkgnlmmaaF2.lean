/- A state that was kept is the same after steps of it were made and their entries changed, and two ways on from it do not meet, of runs that are not far and numbers modulo 30; no other condition. -/
import Derived.Test.YtjmdbbhkgnlmmaaFGt
import Derived.Test.YtjmdbbhkgnlmmaaF1
set_option linter.unusedSimpArgs false
set_option linter.unusedVariables false
section
namespace Go.T
open Go Go.AM Go.Proofs
set_option maxRecDepth 100000
set_option maxHeartbeats 4000000
set_option linter.unusedVariables false
theorem c_slices_Clone_apiEntry {fu : Nat} {vs1 : List (List TApiEntry)} {r : List (List TApiEntry)} (h0 : slices_Clone_apiEntry fu vs1 = some r) : PCall Try.prog 53 [.psl 1 (vs1.map (encSl 4 TApiEntry.enc))] (.psl 1 (r.map (encSl 4 TApiEntry.enc))) [] := by
 refine awp_pcall Try.func53 rfl (by decide) (Nat.le_of_ble_eq_true rfl) ?_
 dsimp only [Try.f53]
 rw [slices_Clone_apiEntry] at h0
 refine (show AWP _ _ _ _ ⟨enumFr 0 _, [], 0, []⟩ from ?_)
 refine awp_sr2 8 [0] (fun _ => none) rfl (fun _ _ => rT) ?_
 refine awp_seq ?_
 cases hb2 : vs1.isEmpty with
 | true =>
  replace h0 := iteT h0 hb2
  obtain rfl : vs1 = [] := List.isEmpty_iff.1 hb2
  refine awp_sr2 24 [0, 4] (fun _ => none) rfl (fun _ _ => rT) ?_
  refine awp_cond_any rfl ?_ ?_
  ·
   skip
   refine awp_sr2 32 [2] (fun _ => none) rfl (fun _ _ => rT) ?_
   refine awp_ret ?_
   refine kr_then ?_
   obtain rfl := Option.some.inj h0
   refine leave_retG [] ?_
   exact rG
  ·
   skip
   refine awp_skip ?_
   refine kn_then ?_
   refine awp_sr2 56 [2] (fun _ => none) rfl (fun _ _ => rT) ?_
   refine awp_re (s2 := ⟨[(2, .sl 24 1 1 0 0)], [(24, ⟨1, true, true, 1, List.map (encSl 4 TApiEntry.enc) []⟩)], 56, []⟩) [] (Nat.le_of_ble_eq_true rfl) ⟨rF, rE, rfl, rfl, trivial, trivial⟩ ?_
   refine awp_ret ?_
   obtain rfl := Option.some.inj h0
   refine leave_retG [] ?_
   exact rG
 | false =>
  replace h0 := iteF h0 hb2
  refine awp_sr2 24 [0, 4] (fun _ => none) rfl (fun _ _ => rS hb2) ?_
  refine awp_condF rfl ?_
  refine awp_skip ?_
  refine kn_then ?_
  obtain ⟨hc3, h0⟩ := guS h0
  refine awp_sr2 56 [2] (fun _ => none) rfl (fun _ _ => rS hb2) ?_
  refine awp_re (s2 := ⟨[(2, .sl 24 1 1 0 vs1.length)], [(24, ⟨1, true, true, 1, List.map (encSl 4 TApiEntry.enc) vs1⟩)], 56, []⟩) [] (Nat.le_of_ble_eq_true rfl) ⟨rF, rE, rfl, rfl, trivial, trivial⟩ ?_
  refine awp_ret ?_
  obtain rfl := Option.some.inj h0
  refine leave_retG [] ?_
  simp (maxSteps := 1000000) only [↓reduceIte, reduceCtorEq, Nat.reduceEqDiff, Nat.reduceLT, Nat.reduceLeDiff, Nat.reduceAdd, Nat.reduceMul, Int.reduceToNat, push_cast, Gives, hb2]
  all_goals exact rH
end Go.T
end
section
namespace Go.T
open Go Go.AM Go.Proofs
set_option maxRecDepth 100000
set_option maxHeartbeats 4000000
set_option linter.unusedVariables false
theorem c_merge_next {fu : Nat} {l1 : List TApiEntry} {vat2 : Int} {r : TApiLsKey} (h0 : merge_next fu l1 vat2 = some r) : PCall Try.prog 71 [.psl 4 (l1.map TApiEntry.enc), .int .i64 vat2] (.agg (TApiLsKey.enc r)) [] := by
 refine awp_pcall Try.func71 rfl (by decide) (Nat.le_of_ble_eq_true rfl) ?_
 dsimp only [Try.f71]
 rw [merge_next] at h0
 refine (show AWP _ _ _ _ ⟨enumFr 0 _, [], 0, []⟩ from ?_)
 refine awp_sr2 8 [0, 1, 4] (fun _ => none) rfl (fun _ _ => rT) ?_
 refine awp_seq ?_
 refine awp_sr2 40 [0, 1, 4, 8] (fun _ => none) rfl (fun _ _ => rT) ?_
 refine awp_if rfl (fun hb3 => ?_) (fun hb3 => ?_)
 ·
  replace h0 := iteT h0 hb3
  refine awp_sr2 56 [4] (fun _ => none) rfl (fun _ _ => rT) ?_
  refine awp_ret ?_
  refine kr_then ?_
  obtain rfl := Option.some.inj h0
  refine leave_retG [] ?_
  exact rG
 ·
  replace h0 := iteF h0 hb3
  refine awp_skip ?_
  refine kn_then ?_
  obtain ⟨e4, he4, h0⟩ := bindS h0
  obtain ⟨he4a, he4b, he4c⟩ := idxS he4
  refine awp_sr2 96 [4] (fun _ => none) rfl (fun _ _ => rS (rA he4a (rA he4b he4c))) ?_
  refine awp_ret ?_
  obtain rfl := Option.some.inj h0
  refine leave_retG [] ?_
  simp (maxSteps := 1000000) only [↓reduceIte, reduceCtorEq, Nat.reduceEqDiff, Nat.reduceLT, Nat.reduceLeDiff, Nat.reduceAdd, Nat.reduceMul, Int.reduceToNat, push_cast, Gives, he4a, he4b, he4c]
  all_goals exact rH
end Go.T
end
section
namespace Go.T
open Go Go.AM Go.Proofs
set_option maxRecDepth 100000
set_option maxHeartbeats 4000000
set_option linter.unusedVariables false
theorem c_loser_check_1 {fu : Nat} {k1 : TApiLsKey} {r : Bool} (h0 : loser_check_1 fu k1 = some r) : PCall Try.prog 95 [.agg (TApiLsKey.enc k1)] (.bool r) [] := by
 refine awp_pcall Try.func95 rfl (by decide) (Nat.le_of_ble_eq_true rfl) ?_
 dsimp only [Try.f95]
 rw [loser_check_1] at h0
 refine (show AWP _ _ _ _ ⟨enumFr 0 _, [], 0, []⟩ from ?_)
 refine awp_sr2 16 [1] (fun _ => none) rfl (fun _ _ => rT) ?_
 obtain ⟨b2, hb2, h0⟩ := bindS h0
 refine awp_sr3 (fr' := [(2, .bool b2)]) (hp' := [(0, ⟨0, true, true, 2, [[.str k1.Key, .bool k1.Done]]⟩)]) [0] 80 [2] (fun _ => none) rfl (fun Kt hK => by
   cases hg3 : k1.Done with
   | false =>
    replace hb2 := iteF hb2 hg3
    have hqb2 := Option.some.inj hb2
    subst hqb2
    simp (maxSteps := 1000000) only [↓reduceIte, reduceCtorEq, Nat.reduceEqDiff, Nat.reduceLT, Nat.reduceLeDiff, Nat.reduceAdd, Nat.reduceMul, Int.reduceToNat, push_cast, ↓hg3]
    try simp only [↓hg3] at hK
    all_goals exact rU
   | true =>
    replace hb2 := iteT hb2 hg3
    have hqb2 := Option.some.inj hb2
    subst hqb2
    simp (maxSteps := 1000000) only [↓reduceIte, reduceCtorEq, Nat.reduceEqDiff, Nat.reduceLT, Nat.reduceLeDiff, Nat.reduceAdd, Nat.reduceMul, Int.reduceToNat, push_cast, ↓hg3]
    try simp only [↓hg3] at hK
    all_goals exact rU) ?_
 refine awp_ret ?_
 obtain rfl := Option.some.inj h0
 refine leave_retG [] ?_
 exact rG
end Go.T
end
section
namespace Go.T
open Go Go.AM Go.Proofs
set_option maxRecDepth 100000
set_option maxHeartbeats 4000000
set_option linter.unusedVariables false
theorem c_slices_IndexFunc_apiLsKey {fu : Nat} {vs1 : List TApiLsKey} {r : Int} (h0 : slices_IndexFunc_apiLsKey fu vs1 = some r) : PCall Try.prog 99 [.psl 2 (vs1.map TApiLsKey.enc), .fn 95 [] []] (.int .i64 r) [] := by
 refine awp_pcall Try.func99 rfl (by decide) (Nat.le_of_ble_eq_true rfl) ?_
 dsimp only [Try.f99]
 rw [slices_IndexFunc_apiLsKey] at h0
 refine (show AWP _ _ _ _ ⟨enumFr 0 _, [], 0, []⟩ from ?_)
 refine awp_sr2 8 [0, 1] (fun _ => none) rfl (fun _ _ => rT) ?_
 refine awp_seq ?_
 refine awp_sr2 32 [0, 1, 7, 8] (fun _ => none) rfl (fun _ _ => rT) ?_
 obtain ⟨x11, hxx11, h0⟩ := bindS h0
 refine awp_bloop (fun s' => ∃ o17 : Unit, x11 = .inl o17 ∧ s'.nx ≤ 40 ∧ LeN [] s' ⟨[], [], 40, []⟩) ?_ ?_
 ·
  intro s' hs
  obtain ⟨o17, rfl, hn, hs⟩ := hs
  refine kn_then ?_
  refine awp_re [] hn hs ?_
  refine awp_sr2 48 [4] (fun _ => none) rfl (fun _ _ => rT) ?_
  refine awp_ret ?_
  obtain rfl := Option.some.inj h0
  refine leave_retG [] ?_
  exact rG
 ·
  refine awp_loopF (ι := { p : Nat × Int // slices_IndexFunc_apiLsKey_l1 vs1 p.1 p.2 = some x11 }) (fun p => ⟨[(0, .psl 2 (List.map TApiLsKey.enc vs1)), (1, .fn 95 [] []), (7, .int .i64 (vs1.length : Int)), (8, .int .i64 p.1.2)], [], 32, []⟩) (fun p => p.1.1) ⟨(fu, 0), hxx11⟩ ⟨rF, rE, rfl, rfl, trivial, trivial⟩ (fun _ => Nat.le_refl _) ?_
  rintro ⟨⟨fu, v12⟩, h1⟩
  cases fu with
  | zero =>
   replace h1 : slices_IndexFunc_apiLsKey_l1 vs1 0 v12 = some x11 := h1
   rw [slices_IndexFunc_apiLsKey_l1] at h1; cases h1
  | succ fu =>
   replace h1 : slices_IndexFunc_apiLsKey_l1 vs1 (fu + 1) v12 = some x11 := h1
   rw [slices_IndexFunc_apiLsKey_l1] at h1
   refine (show AWP _ _ _ _ ⟨[(0, .psl 2 (List.map TApiLsKey.enc vs1)), (1, .fn 95 [] []), (7, .int .i64 (vs1.length : Int)), (8, .int .i64 v12)], [], 32, []⟩ from ?_)
   refine awp_sr2 40 [0, 1, 7, 8, 9] (fun _ => none) rfl (fun _ _ => rT) ?_
   refine awp_seq ?_
   refine awp_if rfl (fun hb13 => ?_) (fun hb13 => ?_)
   ·
    replace h1 := iteT h1 hb13
    refine awp_skip ?_
    refine kn_then ?_
    refine awp_seq ?_
    refine awp_block ?_
    refine awp_sr2 56 [0, 1, 5, 7, 8] (fun _ => none) rfl (fun _ _ => rT) ?_
    obtain ⟨e14, he14, h1⟩ := bindS h1
    obtain ⟨he14a, he14b, he14c⟩ := idxS he14
    obtain ⟨vr15, hvr15, h1⟩ := bindS h1
    refine awp_sr2 104 [0, 1, 5, 7, 8, 16] (fun | 5 => some (.bool vr15, []) | _ => none) rfl (fun _ _ => rB (rA he14a (rA he14b he14c)) (c_loser_check_1 hvr15)) ?_
    refine awp_if rfl (fun hb16 => ?_) (fun hb16 => ?_)
    ·
     replace h1 := iteT h1 hb16
     refine awp_sr2 120 [4] (fun _ => none) rfl (fun _ _ => rS (rA he14a (rA he14b he14c))) ?_
     refine awp_ret ?_
     obtain rfl := Option.some.inj h1
     refine kr_block ?_
     refine kr_then ?_
     refine kr_then ?_
     refine kr_loop ?_
     refine kr_then ?_
     obtain rfl := Option.some.inj h0
     refine leave_retG [] ?_
     simp (maxSteps := 1000000) only [↓reduceIte, reduceCtorEq, Nat.reduceEqDiff, Nat.reduceLT, Nat.reduceLeDiff, Nat.reduceAdd, Nat.reduceMul, Int.reduceToNat, push_cast, Gives, he14a, he14b, he14c]
     all_goals exact rH
    ·
     replace h1 := iteF h1 hb16
     refine awp_skip ?_
     refine kn_block ?_
     refine kn_then ?_
     refine awp_r2 120 [0, 1, 7, 8] (fun _ => none) rfl (fun _ _ => rS (rA he14a (rA he14b he14c))) ?_
     refine kn_then ?_
     exact ⟨⟨(fu, (IntKind.i64.wrap (v12 + 1))), h1⟩, ⟨rF, rE, rfl, rfl, trivial, trivial⟩, Nat.lt_succ_self _⟩
   ·
    replace h1 := iteF h1 hb13
    refine awp_exit ?_
    refine kx_then ?_
    refine kx_then ?_
    refine kx_done ?_
    obtain rfl := Option.some.inj h1
    exact ⟨_, rfl, Nat.le_of_ble_eq_true rfl, ⟨rF, rE, rfl, rfl, trivial, trivial⟩⟩
end Go.T
end
section
namespace Go.T
open Go Go.AM Go.Proofs
set_option maxRecDepth 100000
set_option maxHeartbeats 4000000
set_option linter.unusedVariables false
theorem c_slices_ContainsFunc_apiLsKey {fu : Nat} {vs1 : List TApiLsKey} {r : Bool} (h0 : slices_ContainsFunc_apiLsKey fu vs1 = some r) : PCall Try.prog 94 [.psl 2 (vs1.map TApiLsKey.enc), .fn 95 [] []] (.bool r) [] := by
 refine awp_pcall Try.func94 rfl (by decide) (Nat.le_of_ble_eq_true rfl) ?_
 dsimp only [Try.f94]
 rw [slices_ContainsFunc_apiLsKey] at h0
 refine (show AWP _ _ _ _ ⟨enumFr 0 _, [], 0, []⟩ from ?_)
 refine awp_sr2 8 [0, 1] (fun _ => none) rfl (fun _ _ => rT) ?_
 obtain ⟨vr2, hvr2, h0⟩ := bindS h0
 refine awp_sr2 48 [4] (fun | 2 => some (.int .i64 vr2, []) | _ => none) rfl (fun _ _ => rC (c_slices_IndexFunc_apiLsKey hvr2)) ?_
 refine awp_ret ?_
 obtain rfl := Option.some.inj h0
 refine leave_retG [] ?_
 exact rG
end Go.T
end
section
namespace Go.T
open Go Go.AM Go.Proofs
set_option maxRecDepth 100000
set_option maxHeartbeats 4000000
set_option linter.unusedVariables false
theorem c_loser_check {fu : Nat} {keys1 : List TApiLsKey} {r : Int} (h0 : loser_check fu keys1 = some r) : PCall Try.prog 85 [.psl 2 (keys1.map TApiLsKey.enc)] (.int .i64 r) [] := by
 refine awp_pcall Try.func85 rfl (by decide) (Nat.le_of_ble_eq_true rfl) ?_
 dsimp only [Try.f85]
 rw [loser_check] at h0
 refine (show AWP _ _ _ _ ⟨enumFr 0 _, [], 0, []⟩ from ?_)
 refine awp_sr2 8 [0] (fun _ => none) rfl (fun _ _ => rT) ?_
 refine awp_seq ?_
 refine awp_block ?_
 refine awp_sr2 40 [0, 3] (fun _ => none) rfl (fun _ _ => rT) ?_
 refine awp_if rfl (fun hb2 => ?_) (fun hb2 => ?_)
 ·
  replace h0 := iteT h0 hb2
  refine awp_sr2 48 [2] (fun _ => none) rfl (fun _ _ => rT) ?_
  refine awp_ret ?_
  refine kr_block ?_
  refine kr_then ?_
  obtain rfl := Option.some.inj h0
  refine leave_retG [] ?_
  exact rG
 ·
  replace h0 := iteF h0 hb2
  refine awp_sr2 72 [0, 7] (fun _ => none) rfl (fun _ _ => rT) ?_
  refine awp_if rfl (fun hb3 => ?_) (fun hb3 => ?_)
  ·
   replace h0 := iteT h0 hb3
   refine awp_sr2 80 [2] (fun _ => none) rfl (fun _ _ => rT) ?_
   refine awp_ret ?_
   refine kr_block ?_
   refine kr_then ?_
   obtain rfl := Option.some.inj h0
   refine leave_retG [] ?_
   exact rG
  ·
   replace h0 := iteF h0 hb3
   obtain ⟨vr4, hvr4, h0⟩ := bindS h0
   refine awp_sr2 96 [11] (fun | 1 => some (.bool vr4, []) | _ => none) rfl (fun _ _ => rC (c_slices_ContainsFunc_apiLsKey hvr4)) ?_
   refine awp_if rfl (fun hb5 => ?_) (fun hb5 => ?_)
   ·
    replace h0 := iteT h0 hb5
    refine awp_sr2 104 [2] (fun _ => none) rfl (fun _ _ => rT) ?_
    refine awp_ret ?_
    refine kr_block ?_
    refine kr_then ?_
    obtain rfl := Option.some.inj h0
    refine leave_retG [] ?_
    exact rG
   ·
    replace h0 := iteF h0 hb5
    refine awp_skip ?_
    refine kn_block ?_
    refine kn_then ?_
    refine awp_sr2 104 [2] (fun _ => none) rfl (fun _ _ => rT) ?_
    refine awp_ret ?_
    obtain rfl := Option.some.inj h0
    refine leave_retG [] ?_
    exact rG
end Go.T
end
section
namespace Go.T
open Go Go.AM Go.Proofs
set_option maxRecDepth 100000
set_option maxHeartbeats 4000000
set_option linter.unusedVariables false
theorem c_loser_judge {fu : Nat} {keys1 : List TApiLsKey} {r : List TApiLsKey} (h0 : loser_judge fu keys1 = some r) : PCall Try.prog 96 [.psl 2 (keys1.map TApiLsKey.enc)] (.fn 100 [] [.pp [.psl 2 (r.map TApiLsKey.enc)]]) [] := by
 refine awp_pcall Try.func96 rfl (by decide) (Nat.le_of_ble_eq_true rfl) ?_
 dsimp only [Try.f96]
 rw [loser_judge] at h0
 refine (show AWP _ _ _ _ ⟨enumFr 0 _, [], 0, []⟩ from ?_)
 refine awp_sr2 16 [1] (fun _ => none) rfl (fun _ _ => rT) ?_
 refine awp_sr2 32 [2] (fun _ => none) rfl (fun _ _ => rT) ?_
 refine awp_ret ?_
 obtain rfl := Option.some.inj h0
 refine leave_retG [] ?_
 exact rG
end Go.T
end
section
namespace Go.T
open Go Go.AM Go.Proofs
set_option maxRecDepth 100000
set_option maxHeartbeats 4000000
set_option linter.unusedVariables false
theorem c_slices_Clone_apiLsKey {fu : Nat} {vs1 : List TApiLsKey} {r : List TApiLsKey} (h0 : slices_Clone_apiLsKey fu vs1 = some r) : PCall Try.prog 97 [.psl 2 (vs1.map TApiLsKey.enc)] (.psl 2 (r.map TApiLsKey.enc)) [] := by
 refine awp_pcall Try.func97 rfl (by decide) (Nat.le_of_ble_eq_true rfl) ?_
 dsimp only [Try.f97]
 rw [slices_Clone_apiLsKey] at h0
 refine (show AWP _ _ _ _ ⟨enumFr 0 _, [], 0, []⟩ from ?_)
 refine awp_sr2 8 [0] (fun _ => none) rfl (fun _ _ => rT) ?_
 refine awp_seq ?_
 cases hb2 : vs1.isEmpty with
 | true =>
  replace h0 := iteT h0 hb2
  obtain rfl : vs1 = [] := List.isEmpty_iff.1 hb2
  refine awp_sr2 24 [0, 4] (fun _ => none) rfl (fun _ _ => rT) ?_
  refine awp_cond_any rfl ?_ ?_
  ·
   skip
   refine awp_sr2 32 [2] (fun _ => none) rfl (fun _ _ => rT) ?_
   refine awp_ret ?_
   refine kr_then ?_
   obtain rfl := Option.some.inj h0
   refine leave_retG [] ?_
   exact rG
  ·
   skip
   refine awp_skip ?_
   refine kn_then ?_
   refine awp_sr2 56 [2] (fun _ => none) rfl (fun _ _ => rT) ?_
   refine awp_re (s2 := ⟨[(2, .sl 24 1 2 0 0)], [(24, ⟨1, true, true, 2, List.map TApiLsKey.enc []⟩)], 56, []⟩) [] (Nat.le_of_ble_eq_true rfl) ⟨rF, rE, rfl, rfl, trivial, trivial⟩ ?_
   refine awp_ret ?_
   obtain rfl := Option.some.inj h0
   refine leave_retG [] ?_
   exact rG
 | false =>
  replace h0 := iteF h0 hb2
  refine awp_sr2 24 [0, 4] (fun _ => none) rfl (fun _ _ => rS hb2) ?_
  refine awp_condF rfl ?_
  refine awp_skip ?_
  refine kn_then ?_
  obtain ⟨hc3, h0⟩ := guS h0
  refine awp_sr2 56 [2] (fun _ => none) rfl (fun _ _ => rS hb2) ?_
  refine awp_re (s2 := ⟨[(2, .sl 24 1 2 0 vs1.length)], [(24, ⟨1, true, true, 2, List.map TApiLsKey.enc vs1⟩)], 56, []⟩) [] (Nat.le_of_ble_eq_true rfl) ⟨rF, rE, rfl, rfl, trivial, trivial⟩ ?_
  refine awp_ret ?_
  obtain rfl := Option.some.inj h0
  refine leave_retG [] ?_
  simp (maxSteps := 1000000) only [↓reduceIte, reduceCtorEq, Nat.reduceEqDiff, Nat.reduceLT, Nat.reduceLeDiff, Nat.reduceAdd, Nat.reduceMul, Int.reduceToNat, push_cast, Gives, hb2]
  all_goals exact rH
end Go.T
end
section
namespace Go.T
open Go Go.AM Go.Proofs
set_option maxRecDepth 100000
set_option maxHeartbeats 4000000
set_option linter.unusedVariables false
theorem c_loser_judge_1 {fu : Nat} {p1 : Int} {q2 : Int} {p3 : List TApiLsKey} {r : Bool} (h0 : loser_judge_1 fu p1 q2 p3 = some r) : PCall Try.prog 100 [.int .i64 p1, .int .i64 q2, .pp [.psl 2 (p3.map TApiLsKey.enc)]] (.bool r) [] := by
 refine awp_pcall Try.func100 rfl (by decide) (Nat.le_of_ble_eq_true rfl) ?_
 dsimp only [Try.f100]
 rw [loser_judge_1] at h0
 refine (show AWP _ _ _ _ ⟨enumFr 0 _, [], 0, []⟩ from ?_)
 refine awp_sr2 8 [0, 1, 2] (fun _ => none) rfl (fun _ _ => rT) ?_
 obtain ⟨e4, he4, h0⟩ := bindS h0
 obtain ⟨he4a, he4b, he4c⟩ := idxS he4
 obtain ⟨e5, he5, h0⟩ := bindS h0
 obtain ⟨he5a, he5b, he5c⟩ := idxS he5
 refine awp_sd2 104 [0, 1, 6, 7] (fun _ => none) rfl rfl rfl (fun _ _ => rSd (rA he4a (rA he4b (rA he4c (rA he5a (rA he5b he5c)))))) ?_
 refine awp_seq ?_
 refine awp_block ?_
 refine awp_sr2 152 [0, 1, 6, 7, 16] (fun _ => none) rfl (fun _ _ => rS (rA he4a (rA he4b (rA he4c (rA he5a (rA he5b he5c)))))) ?_
 refine awp_if rfl (fun hb6 => ?_) (fun hb6 => ?_)
 ·
  replace h0 := iteT h0 hb6
  refine awp_sr2 176 [5] (fun _ => none) rfl (fun _ _ => rS (rA he4a (rA he4b (rA he4c (rA he5a (rA he5b he5c)))))) ?_
  refine awp_ret ?_
  refine kr_block ?_
  refine kr_then ?_
  obtain rfl := Option.some.inj h0
  refine leave_retG [] ?_
  simp (maxSteps := 1000000) only [↓reduceIte, reduceCtorEq, Nat.reduceEqDiff, Nat.reduceLT, Nat.reduceLeDiff, Nat.reduceAdd, Nat.reduceMul, Int.reduceToNat, push_cast, Gives, he4a, he4b, he4c, he5a, he5b, he5c]
  all_goals exact rH
 ·
  replace h0 := iteF h0 hb6
  refine awp_sr2 200 [0, 1, 6, 7, 24] (fun _ => none) rfl (fun _ _ => rS (rA he4a (rA he4b (rA he4c (rA he5a (rA he5b he5c)))))) ?_
  refine awp_if rfl (fun hb7 => ?_) (fun hb7 => ?_)
  ·
   replace h0 := iteT h0 hb7
   refine awp_sr2 248 [5] (fun _ => none) rfl (fun _ _ => rS (rA he4a (rA he4b (rA he4c (rA he5a (rA he5b he5c)))))) ?_
   refine awp_ret ?_
   refine kr_block ?_
   refine kr_then ?_
   obtain rfl := Option.some.inj h0
   refine leave_retG [] ?_
   simp (maxSteps := 1000000) only [↓reduceIte, reduceCtorEq, Nat.reduceEqDiff, Nat.reduceLT, Nat.reduceLeDiff, Nat.reduceAdd, Nat.reduceMul, Int.reduceToNat, push_cast, Gives, he4a, he4b, he4c, he5a, he5b, he5c]
   all_goals exact rH
  ·
   replace h0 := iteF h0 hb7
   refine awp_skip ?_
   refine kn_block ?_
   refine kn_then ?_
   refine awp_sr2 232 [5] (fun _ => none) rfl (fun _ _ => rS (rA he4a (rA he4b (rA he4c (rA he5a (rA he5b he5c)))))) ?_
   refine awp_ret ?_
   obtain rfl := Option.some.inj h0
   refine leave_retG [] ?_
   simp (maxSteps := 1000000) only [↓reduceIte, reduceCtorEq, Nat.reduceEqDiff, Nat.reduceLT, Nat.reduceLeDiff, Nat.reduceAdd, Nat.reduceMul, Int.reduceToNat, push_cast, Gives, he4a, he4b, he4c, he5a, he5b, he5c]
   all_goals exact rH
end Go.T
end
section
namespace Go.T
open Go Go.AM Go.Proofs
set_option maxRecDepth 100000
set_option maxHeartbeats 4000000
set_option linter.unusedVariables false
theorem c_loser_play {fu : Nat} {keys1 : List TApiLsKey} {r : TApiLsTree} (h0 : loser_play fu keys1 = some r) : PCall Try.prog 86 [.psl 2 (keys1.map TApiLsKey.enc)] (.agg (TApiLsTree.enc r)) [] := by
 refine awp_pcall Try.func86 rfl (by decide) (Nat.le_of_ble_eq_true rfl) ?_
 dsimp only [Try.f86]
 rw [loser_play] at h0
 refine (show AWP _ _ _ _ ⟨enumFr 0 _, [], 0, []⟩ from ?_)
 refine awp_sr2 8 [0, 2] (fun _ => none) rfl (fun _ _ => rT) ?_
 refine awp_sr2 32 [0, 2, 3] (fun _ => none) rfl (fun _ _ => rT) ?_
 obtain ⟨vr2, hvr2, h0⟩ := bindS h0
 refine awp_sr2 56 [0, 2, 3, 4] (fun | 1 => some (.fn 100 [] [.pp [.psl 2 (vr2.map TApiLsKey.enc)]], []) | _ => none) rfl (fun _ _ => rC (c_loser_judge hvr2)) ?_
 obtain ⟨hc3, h0⟩ := guS h0
 refine awp_sr2 88 [0, 2, 3, 4, 5] (fun _ => none) rfl (fun _ _ => rT) ?_
 refine awp_re (s2 := ⟨[(0, .psl 2 (List.map TApiLsKey.enc keys1)), (2, .ref 0 0 0 0), (3, .int .i64 (keys1.length : Int)), (4, .fn 100 [] [.pp [.psl 2 (List.map TApiLsKey.enc vr2)]]), (5, .sl 72 0 1 0 ((List.replicate (IntKind.i64.wrap (2 * (keys1.length : Int))).toNat 0 : List Int).length))], [(0, ⟨0, true, true, 3, [[.nils, .nils, .int .i64 0]]⟩), (72, ⟨0, true, true, 1, List.map (encInt .i64) (List.replicate (IntKind.i64.wrap (2 * (keys1.length : Int))).toNat 0 : List Int)⟩)], 88, []⟩) [] (Nat.le_of_ble_eq_true rfl) ⟨rF, rE, rfl, rfl, trivial, trivial⟩ ?_
 obtain ⟨vr4, hvr4, h0⟩ := bindS h0
 obtain ⟨hc5, h0⟩ := guS h0
 refine awp_sd2 144 [2, 3, 4, 5, 6] (fun | 1 => some (.psl 2 (vr4.map TApiLsKey.enc), []) | _ => none) rfl rfl rfl (fun _ _ => rCd (c_slices_Clone_apiLsKey hvr4)) ?_
 refine awp_re (s2 := ⟨[(2, .ref 0 0 0 0), (3, .int .i64 (keys1.length : Int)), (4, .fn 100 [] [.pp [.psl 2 (List.map TApiLsKey.enc vr2)]]), (5, .sl 72 0 1 0 ((List.replicate (IntKind.i64.wrap (2 * (keys1.length : Int))).toNat 0 : List Int).length)), (6, .ref 128 0 0 0)], [(0, ⟨0, true, true, 3, [[.nils, .nils, .int .i64 0]]⟩), (72, ⟨0, true, true, 1, List.map (encInt .i64) (List.replicate (IntKind.i64.wrap (2 * (keys1.length : Int))).toNat 0 : List Int)⟩), (112, ⟨0, true, true, 1, List.map (encInt .i64) (List.replicate keys1.length 0 : List Int)⟩), (128, ⟨0, true, false, 3, [[.psl 2 (List.map TApiLsKey.enc vr4), .sl 112 0 1 0 ((List.replicate keys1.length 0 : List Int).length), .int .i64 0]]⟩)], 144, []⟩) [] (Nat.le_of_ble_eq_true rfl) ⟨rF, rE, rfl, rfl, trivial, trivial⟩ ?_
 refine awp_seq ?_
 refine awp_sr2 176 [2, 3, 4, 5, 6, 7] (fun _ => none) rfl (fun _ _ => rT) ?_
 obtain ⟨x33, hxx33, h0⟩ := bindS h0
 refine awp_bloop (fun s' => ∃ g50 : Nat, ∃ g51 : Nat, s'.nx ≤ 192 ∧ LeN [] s' ⟨[(2, .ref 0 0 0 0), (5, .sl 72 g50 1 0 x33.1.length), (6, .ref 128 0 0 0)], [(0, ⟨0, true, true, 3, [[.nils, .nils, .int .i64 0]]⟩), (72, ⟨g50, true, true, 1, List.map (encInt .i64) x33.1⟩), (112, ⟨g51, true, true, 1, List.map (encInt .i64) x33.2⟩), (128, ⟨0, true, false, 3, [[.psl 2 (List.map TApiLsKey.enc vr4), .sl 112 g51 1 0 x33.2.length, .int .i64 0]]⟩)], 192, []⟩) ?_ ?_
 ·
  intro s' hs
  obtain ⟨g50, g51, hn, hs⟩ := hs
  refine kn_then ?_
  refine awp_re [] hn hs ?_
  obtain ⟨e52, he52, h0⟩ := bindS h0
  have he52b := (idxS he52).2.1
  have he52c := (idxL 1 he52 rfl).1
  have he52a := (idxL 1 he52 rfl).2
  refine awp_sr2 232 [2, 6] (fun _ => none) rfl (fun _ _ => rS (rA he52a (rA he52b he52c))) ?_
  refine awp_sr2 248 [2] (fun _ => none) rfl (fun _ _ => rS (rA he52a (rA he52b he52c))) ?_
  refine awp_ret ?_
  obtain rfl := Option.some.inj h0
  refine leave_retG [] ?_
  simp (maxSteps := 1000000) only [↓reduceIte, reduceCtorEq, Nat.reduceEqDiff, Nat.reduceLT, Nat.reduceLeDiff, Nat.reduceAdd, Nat.reduceMul, Int.reduceToNat, push_cast, Gives, he52a, he52b, he52c]
  all_goals exact rH
 ·
  refine awp_loopF (ι := { p : Nat × Int × List Int × List Int × Nat × Nat // loser_play_l1 keys1 vr2 p.1 p.2.1 p.2.2.1 p.2.2.2.1 = some x33 }) (fun p => ⟨[(2, .ref 0 0 0 0), (3, .int .i64 (keys1.length : Int)), (4, .fn 100 [] [.pp [.psl 2 (List.map TApiLsKey.enc vr2)]]), (5, .sl 72 p.1.2.2.2.2.1 1 0 p.1.2.2.1.length), (6, .ref 128 0 0 0), (7, .int .i64 p.1.2.1)], [(0, ⟨0, true, true, 3, [[.nils, .nils, .int .i64 0]]⟩), (72, ⟨p.1.2.2.2.2.1, true, true, 1, List.map (encInt .i64) p.1.2.2.1⟩), (112, ⟨p.1.2.2.2.2.2, true, true, 1, List.map (encInt .i64) p.1.2.2.2.1⟩), (128, ⟨0, true, false, 3, [[.psl 2 (List.map TApiLsKey.enc vr4), .sl 112 p.1.2.2.2.2.2 1 0 p.1.2.2.2.1.length, .int .i64 0]]⟩)], 176, []⟩) (fun p => p.1.1) ⟨(fu, (IntKind.i64.wrap ((IntKind.i64.wrap (2 * (keys1.length : Int))) - 1)), (List.replicate (IntKind.i64.wrap (2 * (keys1.length : Int))).toNat 0 : List Int), (List.replicate keys1.length 0 : List Int), 0, 0), hxx33⟩ ⟨rF, rE, rfl, rfl, trivial, trivial⟩ (fun _ => Nat.le_refl _) ?_
  rintro ⟨⟨fu, i34, players35, v36, g37, g38⟩, h1⟩
  cases fu with
  | zero =>
   replace h1 : loser_play_l1 keys1 vr2 0 i34 players35 v36 = some x33 := h1
   rw [loser_play_l1] at h1; cases h1
  | succ fu =>
   replace h1 : loser_play_l1 keys1 vr2 (fu + 1) i34 players35 v36 = some x33 := h1
   rw [loser_play_l1] at h1
   refine (show AWP _ _ _ _ ⟨[(2, .ref 0 0 0 0), (3, .int .i64 (keys1.length : Int)), (4, .fn 100 [] [.pp [.psl 2 (List.map TApiLsKey.enc vr2)]]), (5, .sl 72 g37 1 0 players35.length), (6, .ref 128 0 0 0), (7, .int .i64 i34)], [(0, ⟨0, true, true, 3, [[.nils, .nils, .int .i64 0]]⟩), (72, ⟨g37, true, true, 1, List.map (encInt .i64) players35⟩), (112, ⟨g38, true, true, 1, List.map (encInt .i64) v36⟩), (128, ⟨0, true, false, 3, [[.psl 2 (List.map TApiLsKey.enc vr4), .sl 112 g38 1 0 v36.length, .int .i64 0]]⟩)], 176, []⟩ from ?_)
   refine awp_seq ?_
   refine awp_sr2 192 [2, 3, 4, 5, 6, 7, 26] (fun _ => none) rfl (fun _ _ => rT) ?_
   refine awp_if rfl (fun hb39 => ?_) (fun hb39 => ?_)
   ·
    replace h1 := iteT h1 hb39
    refine awp_skip ?_
    refine kn_then ?_
    refine awp_seq ?_
    refine awp_block ?_
    refine awp_seq ?_
    refine awp_sr2 216 [2, 3, 4, 5, 6, 7, 31] (fun _ => none) rfl (fun _ _ => rT) ?_
    refine awp_if rfl (fun hb40 => ?_) (fun hb40 => ?_)
    ·
     replace h1 := iteT h1 hb40
     obtain ⟨e41, he41, h1⟩ := bindS h1
     obtain ⟨he41a, he41b, he41c⟩ := idxS he41
     refine awp_sr2 272 [2, 3, 4, 5, 6, 7] (fun _ => none) rfl (fun _ _ => rS (rA he41a (rA he41b he41c))) ?_
     refine awp_re (s2 := ⟨[(2, .ref 0 0 0 0), (3, .int .i64 (keys1.length : Int)), (4, .fn 100 [] [.pp [.psl 2 (List.map TApiLsKey.enc vr2)]]), (5, .sl 72 g37 1 0 ((players35.set i34.toNat (IntKind.i64.wrap (i34 - (keys1.length : Int)))).length)), (6, .ref 128 0 0 0), (7, .int .i64 i34)], [(0, ⟨0, true, true, 3, [[.nils, .nils, .int .i64 0]]⟩), (72, ⟨g37, true, true, 1, List.map (encInt .i64) (players35.set i34.toNat (IntKind.i64.wrap (i34 - (keys1.length : Int))))⟩), (112, ⟨g38, true, true, 1, List.map (encInt .i64) v36⟩), (128, ⟨0, true, false, 3, [[.psl 2 (List.map TApiLsKey.enc vr4), .sl 112 g38 1 0 v36.length, .int .i64 0]]⟩)], 272, []⟩) [] (Nat.le_of_ble_eq_true rfl) ⟨rF, rE, rfl, rfl, trivial, trivial⟩ ?_
     refine awp_exit ?_
     refine kx_then ?_
     refine kx_same ?_
     refine kn_then ?_
     refine awp_r2 296 [2, 3, 4, 5, 6, 7] (fun _ => none) rfl (fun _ _ => rS (rA he41a (rA he41b he41c))) ?_
     refine kn_then ?_
     exact ⟨⟨(fu, (IntKind.i64.wrap (i34 - 1)), (players35.set i34.toNat (IntKind.i64.wrap (i34 - (keys1.length : Int)))), v36, g37, g38), h1⟩, ⟨rF, rE, rfl, rfl, trivial, trivial⟩, Nat.lt_succ_self _⟩
    ·
     replace h1 := iteF h1 hb40
     refine awp_skip ?_
     refine kn_then ?_
     obtain ⟨e42, he42, h1⟩ := bindS h1
     obtain ⟨he42a, he42b, he42c⟩ := idxS he42
     obtain ⟨e43, he43, h1⟩ := bindS h1
     obtain ⟨he43a, he43b, he43c⟩ := idxS he43
     refine awp_sd2 320 [2, 3, 4, 5, 6, 7, 8, 9] (fun _ => none) rfl rfl rfl (fun _ _ => rSd (rA he42a (rA he42b (rA he42c (rA he43a (rA he43b he43c)))))) ?_
     refine awp_seq ?_
     obtain ⟨vr44, hvr44, h1⟩ := bindS h1
     refine awp_sr2 360 [2, 3, 4, 5, 6, 7, 8, 9, 53] (fun | 3 => some (.bool vr44, []) | _ => none) rfl (fun _ _ => rB (rA he42a (rA he42b (rA he42c (rA he43a (rA he43b he43c))))) (c_loser_judge_1 hvr44)) ?_
     refine awp_if rfl (fun hb45 => ?_) (fun hb45 => ?_)
     ·
      replace h1 := iteT h1 hb45
      refine awp_r2 392 [2, 3, 4, 5, 6, 7, 8, 9] (fun _ => none) rfl (fun _ _ => rS (rA he42a (rA he42b (rA he42c (rA he43a (rA he43b he43c)))))) ?_
      refine kn_then ?_
      obtain ⟨e46, he46, h1⟩ := bindS h1
      obtain ⟨he46a, he46b, he46c⟩ := idxS he46
      obtain ⟨e47, he47, h1⟩ := bindS h1
      obtain ⟨he47a, he47b, he47c⟩ := idxS he47
      refine awp_d2 480 [2, 3, 4, 5, 6, 7] (fun _ => none) rfl rfl rfl (fun _ _ => rSd (rA he42a (rA he42b (rA he42c (rA he43a (rA he43b (rA he43c (rA he46a (rA he46b (rA he46c (rA he47a (rA he47b he47c)))))))))))) ?_
      refine kn_block ?_
      refine kn_then ?_
      refine awp_re (s2 := ⟨[(2, .ref 0 0 0 0), (3, .int .i64 (keys1.length : Int)), (4, .fn 100 [] [.pp [.psl 2 (List.map TApiLsKey.enc vr2)]]), (5, .sl 72 g37 1 0 ((players35.set i34.toNat e43).length)), (6, .ref 128 0 0 0), (7, .int .i64 i34)], [(0, ⟨0, true, true, 3, [[.nils, .nils, .int .i64 0]]⟩), (72, ⟨g37, true, true, 1, List.map (encInt .i64) (players35.set i34.toNat e43)⟩), (112, ⟨g38, true, true, 1, List.map (encInt .i64) (v36.set i34.toNat e42)⟩), (128, ⟨0, true, false, 3, [[.psl 2 (List.map TApiLsKey.enc vr4), .sl 112 g38 1 0 ((v36.set i34.toNat e42).length), .int .i64 0]]⟩)], 480, []⟩) [] (Nat.le_of_ble_eq_true rfl) ⟨rF, rE, rfl, rfl, trivial, trivial⟩ ?_
      refine awp_r2 504 [2, 3, 4, 5, 6, 7] (fun _ => none) rfl (fun _ _ => rS (rA he42a (rA he42b (rA he42c (rA he43a (rA he43b (rA he43c (rA he46a (rA he46b (rA he46c (rA he47a (rA he47b he47c)))))))))))) ?_
      refine kn_then ?_
      exact ⟨⟨(fu, (IntKind.i64.wrap (i34 - 1)), (players35.set i34.toNat e43), (v36.set i34.toNat e42), g37, g38), h1⟩, ⟨rF, rE, rfl, rfl, trivial, trivial⟩, Nat.lt_succ_self _⟩
     ·
      replace h1 := iteF h1 hb45
      refine awp_skip ?_
      refine kn_then ?_
      obtain ⟨e48, he48, h1⟩ := bindS h1
      obtain ⟨he48a, he48b, he48c⟩ := idxS he48
      obtain ⟨e49, he49, h1⟩ := bindS h1
      obtain ⟨he49a, he49b, he49c⟩ := idxS he49
      refine awp_d2 448 [2, 3, 4, 5, 6, 7] (fun _ => none) rfl rfl rfl (fun _ _ => rSd (rA he42a (rA he42b (rA he42c (rA he43a (rA he43b (rA he43c (rA he48a (rA he48b (rA he48c (rA he49a (rA he49b he49c)))))))))))) ?_
      refine kn_block ?_
      refine kn_then ?_
      refine awp_re (s2 := ⟨[(2, .ref 0 0 0 0), (3, .int .i64 (keys1.length : Int)), (4, .fn 100 [] [.pp [.psl 2 (List.map TApiLsKey.enc vr2)]]), (5, .sl 72 g37 1 0 ((players35.set i34.toNat e42).length)), (6, .ref 128 0 0 0), (7, .int .i64 i34)], [(0, ⟨0, true, true, 3, [[.nils, .nils, .int .i64 0]]⟩), (72, ⟨g37, true, true, 1, List.map (encInt .i64) (players35.set i34.toNat e42)⟩), (112, ⟨g38, true, true, 1, List.map (encInt .i64) (v36.set i34.toNat e43)⟩), (128, ⟨0, true, false, 3, [[.psl 2 (List.map TApiLsKey.enc vr4), .sl 112 g38 1 0 ((v36.set i34.toNat e43).length), .int .i64 0]]⟩)], 448, []⟩) [] (Nat.le_of_ble_eq_true rfl) ⟨rF, rE, rfl, rfl, trivial, trivial⟩ ?_
      refine awp_r2 472 [2, 3, 4, 5, 6, 7] (fun _ => none) rfl (fun _ _ => rS (rA he42a (rA he42b (rA he42c (rA he43a (rA he43b (rA he43c (rA he48a (rA he48b (rA he48c (rA he49a (rA he49b he49c)))))))))))) ?_
      refine kn_then ?_
      exact ⟨⟨(fu, (IntKind.i64.wrap (i34 - 1)), (players35.set i34.toNat e42), (v36.set i34.toNat e43), g37, g38), h1⟩, ⟨rF, rE, rfl, rfl, trivial, trivial⟩, Nat.lt_succ_self _⟩
   ·
    replace h1 := iteF h1 hb39
    refine awp_exit ?_
    refine kx_then ?_
    refine kx_then ?_
    refine kx_done ?_
    obtain rfl := Option.some.inj h1
    exact ⟨g37, g38, Nat.le_of_ble_eq_true rfl, ⟨rF, rE, rfl, rfl, trivial, trivial⟩⟩
end Go.T
end
section
namespace Go.T
open Go Go.AM Go.Proofs
set_option maxRecDepth 100000
set_option maxHeartbeats 4000000
set_option linter.unusedVariables false
theorem c_loser_Build {fu : Nat} {keys1 : List TApiLsKey} {r : TApiLsTree × Int} (h0 : loser_Build fu keys1 = some r) : PCall Try.prog 72 [.psl 2 (keys1.map TApiLsKey.enc)] (.tup [.agg (TApiLsTree.enc r.1), .int .i64 r.2]) [] := by
 refine awp_pcall Try.func72 rfl (by decide) (Nat.le_of_ble_eq_true rfl) ?_
 dsimp only [Try.f72]
 rw [loser_Build] at h0
 refine (show AWP _ _ _ _ ⟨enumFr 0 _, [], 0, []⟩ from ?_)
 refine awp_sr2 16 [0, 2] (fun _ => none) rfl (fun _ _ => rT) ?_
 refine awp_seq ?_
 obtain ⟨vr2, hvr2, h0⟩ := bindS h0
 refine awp_sr2 40 [0, 2, 4] (fun | 1 => some (.int .i64 vr2, []) | _ => none) rfl (fun _ _ => rC (c_loser_check hvr2)) ?_
 refine awp_sr2 56 [0, 2, 4, 8] (fun _ => none) rfl (fun _ _ => rT) ?_
 refine awp_if rfl (fun hb3 => ?_) (fun hb3 => ?_)
 ·
  replace h0 := iteT h0 hb3
  refine awp_sr2 88 [2, 3] (fun _ => none) rfl (fun _ _ => rT) ?_
  refine awp_ret ?_
  refine kr_then ?_
  obtain rfl := Option.some.inj h0
  refine leave_retG [] ?_
  exact rG
 ·
  replace h0 := iteF h0 hb3
  refine awp_skip ?_
  refine kn_then ?_
  obtain ⟨vr4, hvr4, h0⟩ := bindS h0
  refine awp_sr2 88 [2, 3] (fun | 1 => some (.agg (TApiLsTree.enc vr4), []) | _ => none) rfl (fun _ _ => rC (c_loser_play hvr4)) ?_
  refine awp_ret ?_
  obtain rfl := Option.some.inj h0
  refine leave_retG [] ?_
  exact rG
end Go.T
end
section
namespace Go.T
open Go Go.AM Go.Proofs
set_option maxRecDepth 100000
set_option maxHeartbeats 4000000
set_option linter.unusedVariables false
theorem c_merge_tree {fu : Nat} {runs1 : List (List TApiEntry)} {vat2 : List Int} {r : TApiLsTree} (h0 : merge_tree fu runs1 vat2 = some r) : PCall Try.prog 54 [.psl 1 (runs1.map (encSl 4 TApiEntry.enc)), .psl 1 (vat2.map (encInt .i64))] (.agg (TApiLsTree.enc r)) [] := by
 refine awp_pcall Try.func54 rfl (by decide) (Nat.le_of_ble_eq_true rfl) ?_
 dsimp only [Try.f54]
 rw [merge_tree] at h0
 refine (show AWP _ _ _ _ ⟨enumFr 0 _, [], 0, []⟩ from ?_)
 refine awp_sr2 8 [0, 1, 4] (fun _ => none) rfl (fun _ _ => rT) ?_
 obtain ⟨hc3, h0⟩ := guS h0
 refine awp_sr2 40 [0, 1, 4, 5] (fun _ => none) rfl (fun _ _ => rT) ?_
 refine awp_re (s2 := ⟨[(0, .psl 1 (List.map (encSl 4 TApiEntry.enc) runs1)), (1, .psl 1 (List.map (encInt .i64) vat2)), (4, .ref 0 0 0 0), (5, .sl 24 0 2 0 ((List.replicate runs1.length (TApiLsKey.mk [] false) : List TApiLsKey).length))], [(0, ⟨0, true, true, 3, [[.nils, .nils, .int .i64 0]]⟩), (24, ⟨0, true, true, 2, List.map TApiLsKey.enc (List.replicate runs1.length (TApiLsKey.mk [] false) : List TApiLsKey)⟩)], 40, []⟩) [] (Nat.le_of_ble_eq_true rfl) ⟨rF, rE, rfl, rfl, trivial, trivial⟩ ?_
 refine awp_seq ?_
 refine awp_sr2 64 [1, 4, 5, 13, 14, 15] (fun _ => none) rfl (fun _ _ => rT) ?_
 obtain ⟨x17, hxx17, h0⟩ := bindS h0
 refine awp_bloop (fun s' => ∃ g26 : Nat, s'.nx ≤ 72 ∧ LeN [] s' ⟨[(4, .ref 0 0 0 0), (5, .sl 24 g26 2 0 x17.length)], [(0, ⟨0, true, true, 3, [[.nils, .nils, .int .i64 0]]⟩), (24, ⟨g26, true, true, 2, List.map TApiLsKey.enc x17⟩)], 72, []⟩) ?_ ?_
 ·
  intro s' hs
  obtain ⟨g26, hn, hs⟩ := hs
  refine kn_then ?_
  refine awp_re [] hn hs ?_
  obtain ⟨vr27, hvr27, h0⟩ := bindS h0
  refine awp_sr2 136 [4, 8] (fun | 1 => some (.tup [.agg (TApiLsTree.enc vr27.1), .int .i64 vr27.2], []) | _ => none) rfl (fun _ _ => rC (c_loser_Build hvr27)) ?_
  refine awp_sr2 152 [4] (fun _ => none) rfl (fun _ _ => rT) ?_
  refine awp_ret ?_
  obtain rfl := Option.some.inj h0
  refine leave_retG [] ?_
  exact rG
 ·
  refine awp_loopF (ι := { p : Nat × Int × List TApiLsKey × Nat // merge_tree_l1 runs1 vat2 p.1 p.2.1 p.2.2.1 = some x17 }) (fun p => ⟨[(1, .psl 1 (List.map (encInt .i64) vat2)), (4, .ref 0 0 0 0), (5, .sl 24 p.1.2.2.2 2 0 p.1.2.2.1.length), (13, .psl 1 (List.map (encSl 4 TApiEntry.enc) runs1)), (14, .int .i64 (runs1.length : Int)), (15, .int .i64 p.1.2.1)], [(0, ⟨0, true, true, 3, [[.nils, .nils, .int .i64 0]]⟩), (24, ⟨p.1.2.2.2, true, true, 2, List.map TApiLsKey.enc p.1.2.2.1⟩)], 64, []⟩) (fun p => p.1.1) ⟨(fu, 0, (List.replicate runs1.length (TApiLsKey.mk [] false) : List TApiLsKey), 0), hxx17⟩ ⟨rF, rE, rfl, rfl, trivial, trivial⟩ (fun _ => Nat.le_refl _) ?_
  rintro ⟨⟨fu, v18, keys19, g20⟩, h1⟩
  cases fu with
  | zero =>
   replace h1 : merge_tree_l1 runs1 vat2 0 v18 keys19 = some x17 := h1
   rw [merge_tree_l1] at h1; cases h1
  | succ fu =>
   replace h1 : merge_tree_l1 runs1 vat2 (fu + 1) v18 keys19 = some x17 := h1
   rw [merge_tree_l1] at h1
   refine (show AWP _ _ _ _ ⟨[(1, .psl 1 (List.map (encInt .i64) vat2)), (4, .ref 0 0 0 0), (5, .sl 24 g20 2 0 keys19.length), (13, .psl 1 (List.map (encSl 4 TApiEntry.enc) runs1)), (14, .int .i64 (runs1.length : Int)), (15, .int .i64 v18)], [(0, ⟨0, true, true, 3, [[.nils, .nils, .int .i64 0]]⟩), (24, ⟨g20, true, true, 2, List.map TApiLsKey.enc keys19⟩)], 64, []⟩ from ?_)
   refine awp_sr2 72 [1, 4, 5, 13, 14, 15, 16] (fun _ => none) rfl (fun _ _ => rT) ?_
   refine awp_seq ?_
   refine awp_if rfl (fun hb21 => ?_) (fun hb21 => ?_)
   ·
    replace h1 := iteT h1 hb21
    refine awp_skip ?_
    refine kn_then ?_
    refine awp_seq ?_
    refine awp_block ?_
    obtain ⟨e22, he22, h1⟩ := bindS h1
    obtain ⟨he22a, he22b, he22c⟩ := idxS he22
    refine awp_sr2 112 [1, 4, 5, 6, 7, 13, 14, 15] (fun _ => none) rfl (fun _ _ => rS (rA he22a (rA he22b he22c))) ?_
    obtain ⟨e23, he23, h1⟩ := bindS h1
    obtain ⟨he23a, he23b, he23c⟩ := idxS he23
    obtain ⟨vr24, hvr24, h1⟩ := bindS h1
    obtain ⟨e25, he25, h1⟩ := bindS h1
    obtain ⟨he25a, he25b, he25c⟩ := idxS he25
    refine awp_r2 192 [1, 4, 5, 13, 14, 15] (fun | 7 => some (.agg (TApiLsKey.enc vr24), []) | _ => none) rfl (fun _ _ => rB (rA he22a (rA he22b (rA he22c (rA he23a (rA he23b (rA he23c (rA he25a (rA he25b he25c)))))))) (c_merge_next hvr24)) ?_
    refine kn_block ?_
    refine kn_then ?_
    refine awp_re (s2 := ⟨[(1, .psl 1 (List.map (encInt .i64) vat2)), (4, .ref 0 0 0 0), (5, .sl 24 g20 2 0 ((keys19.set v18.toNat vr24).length)), (13, .psl 1 (List.map (encSl 4 TApiEntry.enc) runs1)), (14, .int .i64 (runs1.length : Int)), (15, .int .i64 v18)], [(0, ⟨0, true, true, 3, [[.nils, .nils, .int .i64 0]]⟩), (24, ⟨g20, true, true, 2, List.map TApiLsKey.enc (keys19.set v18.toNat vr24)⟩)], 192, []⟩) [] (Nat.le_of_ble_eq_true rfl) ⟨rF, rE, rfl, rfl, trivial, trivial⟩ ?_
    refine awp_r2 208 [1, 4, 5, 13, 14, 15] (fun _ => none) rfl (fun _ _ => rS (rA he22a (rA he22b (rA he22c (rA he23a (rA he23b (rA he23c (rA he25a (rA he25b he25c))))))))) ?_
    refine kn_then ?_
    exact ⟨⟨(fu, (IntKind.i64.wrap (v18 + 1)), (keys19.set v18.toNat vr24), g20), h1⟩, ⟨rF, rE, rfl, rfl, trivial, trivial⟩, Nat.lt_succ_self _⟩
   ·
    replace h1 := iteF h1 hb21
    refine awp_exit ?_
    refine kx_then ?_
    refine kx_then ?_
    refine kx_done ?_
    obtain rfl := Option.some.inj h1
    exact ⟨g20, Nat.le_of_ble_eq_true rfl, ⟨rF, rE, rfl, rfl, trivial, trivial⟩⟩
end Go.T
end
section
namespace Go.T
open Go Go.AM Go.Proofs
set_option maxRecDepth 100000
set_option maxHeartbeats 4000000
set_option linter.unusedVariables false
theorem c_merge_Begin {fu : Nat} {runs1 : List (List TApiEntry)} {r : TApiMgState × Int × Int} (h0 : merge_Begin fu runs1 = some r) : PCall Try.prog 30 [.psl 1 (runs1.map (encSl 4 TApiEntry.enc))] (.tup [.agg (TApiMgState.enc r.1), .int .i64 r.2.1, .int .i64 r.2.2]) [] := by
 refine awp_pcall Try.func30 rfl (by decide) (Nat.le_of_ble_eq_true rfl) ?_
 dsimp only [Try.f30]
 rw [merge_Begin] at h0
 refine (show AWP _ _ _ _ ⟨enumFr 0 _, [], 0, []⟩ from ?_)
 refine awp_sr2 24 [0, 2] (fun _ => none) rfl (fun _ _ => rT) ?_
 refine awp_seq ?_
 obtain ⟨vr2, hvr2, h0⟩ := bindS h0
 refine awp_sr2 80 [0, 2, 5, 6] (fun | 1 => some (.tup [.int .i64 vr2.1, .int .i64 vr2.2], []) | _ => none) rfl (fun _ _ => rC (c_merge_check hvr2)) ?_
 refine awp_sr2 96 [0, 2, 5, 6, 14] (fun _ => none) rfl (fun _ _ => rT) ?_
 refine awp_if rfl (fun hb3 => ?_) (fun hb3 => ?_)
 ·
  replace h0 := iteT h0 hb3
  refine awp_sr2 144 [2, 3, 4] (fun _ => none) rfl (fun _ _ => rT) ?_
  refine awp_ret ?_
  refine kr_then ?_
  obtain rfl := Option.some.inj h0
  refine leave_retG [] ?_
  exact rG
 ·
  replace h0 := iteF h0 hb3
  refine awp_skip ?_
  refine kn_then ?_
  obtain ⟨hc4, h0⟩ := guS h0
  refine awp_sr2 128 [0, 2, 7] (fun _ => none) rfl (fun _ _ => rT) ?_
  refine awp_re (s2 := ⟨[(0, .psl 1 (List.map (encSl 4 TApiEntry.enc) runs1)), (2, .ref 0 0 0 0), (7, .sl 112 0 1 0 ((List.replicate runs1.length 0 : List Int).length))], [(0, ⟨0, true, true, 5, [[.nils, .nils, .nils, .nils, .int .i64 0]]⟩), (112, ⟨0, true, true, 1, List.map (encInt .i64) (List.replicate runs1.length 0 : List Int)⟩)], 128, []⟩) [] (Nat.le_of_ble_eq_true rfl) ⟨rF, rE, rfl, rfl, trivial, trivial⟩ ?_
  obtain ⟨vr5, hvr5, h0⟩ := bindS h0
  obtain ⟨vr6, hvr6, h0⟩ := bindS h0
  refine awp_sr2 208 [2, 3, 4] (fun | 1 => some (.psl 1 (vr5.map (encSl 4 TApiEntry.enc)), []) | 5 => some (.agg (TApiLsTree.enc vr6), []) | _ => none) rfl (fun Kt hK => by
    try have q0 := c_slices_Clone_apiEntry hvr5
    try have q1 := c_merge_tree hvr6
    exact rT) ?_
  refine awp_ret ?_
  obtain rfl := Option.some.inj h0
  refine leave_retG [] ?_
  exact rG
end Go.T
end
section
namespace Go.T
open Go Go.AM Go.Proofs
set_option maxRecDepth 100000
set_option maxHeartbeats 4000000
set_option linter.unusedVariables false
theorem c_shadow_Begin {fu : Nat} {bottom1 : Bool} {r : TApiShState} (h0 : shadow_Begin fu bottom1 = some r) : PCall Try.prog 31 [.bool bottom1] (.agg (TApiShState.enc r)) [] := by
 refine awp_pcall Try.func31 rfl (by decide) (Nat.le_of_ble_eq_true rfl) ?_
 dsimp only [Try.f31]
 rw [shadow_Begin] at h0
 refine (show AWP _ _ _ _ ⟨enumFr 0 _, [], 0, []⟩ from ?_)
 refine awp_sr2 8 [0, 2] (fun _ => none) rfl (fun _ _ => rT) ?_
 refine awp_sr2 32 [2] (fun _ => none) rfl (fun _ _ => rT) ?_
 refine awp_ret ?_
 obtain rfl := Option.some.inj h0
 refine leave_retG [] ?_
 exact rG
end Go.T
end
section
namespace Go.T
open Go Go.AM Go.Proofs
set_option maxRecDepth 100000
set_option maxHeartbeats 4000000
set_option linter.unusedVariables false
theorem c_slices_Begin {fu : Nat} {runs1 : List (List TApiEntry)} {bottom2 : Bool} {r : TApiSlState × Int × Int} (h0 : slices_Begin fu runs1 bottom2 = some r) : PCall Try.prog 11 [.psl 1 (runs1.map (encSl 4 TApiEntry.enc)), .bool bottom2] (.tup [.agg (TApiSlState.enc r.1), .int .i64 r.2.1, .int .i64 r.2.2]) [] := by
 refine awp_pcall Try.func11 rfl (by decide) (Nat.le_of_ble_eq_true rfl) ?_
 dsimp only [Try.f11]
 rw [slices_Begin] at h0
 refine (show AWP _ _ _ _ ⟨enumFr 0 _, [], 0, []⟩ from ?_)
 refine awp_sr2 24 [0, 1, 4] (fun _ => none) rfl (fun _ _ => rT) ?_
 obtain ⟨vr3, hvr3, h0⟩ := bindS h0
 refine awp_sr2 104 [1, 4, 5, 6, 7] (fun | 1 => some (.tup [.agg (TApiMgState.enc vr3.1), .int .i64 vr3.2.1, .int .i64 vr3.2.2], []) | _ => none) rfl (fun _ _ => rC (c_merge_Begin hvr3)) ?_
 refine awp_seq ?_
 refine awp_sr2 120 [1, 4, 5, 6, 7, 15] (fun _ => none) rfl (fun _ _ => rT) ?_
 refine awp_if rfl (fun hb4 => ?_) (fun hb4 => ?_)
 ·
  replace h0 := iteT h0 hb4
  refine awp_sr2 168 [4, 5, 6] (fun _ => none) rfl (fun _ _ => rT) ?_
  refine awp_ret ?_
  refine kr_then ?_
  obtain rfl := Option.some.inj h0
  refine leave_retG [] ?_
  exact rG
 ·
  replace h0 := iteF h0 hb4
  refine awp_skip ?_
  refine kn_then ?_
  obtain ⟨vr5, hvr5, h0⟩ := bindS h0
  refine awp_sd2 176 [4, 5, 6] (fun | 2 => some (.agg (TApiShState.enc vr5), []) | _ => none) rfl rfl rfl (fun _ _ => rCd (c_shadow_Begin hvr5)) ?_
  refine awp_ret ?_
  obtain rfl := Option.some.inj h0
  refine leave_retG [] ?_
  exact rG
end Go.T
end
section
namespace Go.T
open Go Go.AM Go.Proofs
set_option maxRecDepth 100000
set_option maxHeartbeats 4000000
set_option linter.unusedVariables false
theorem c_slices_Equal_apiLsKey {fu : Nat} {s11 : List TApiLsKey} {s22 : List TApiLsKey} {r : Bool} (h0 : slices_Equal_apiLsKey fu s11 s22 = some r) : PCall Try.prog 79 [.psl 2 (s11.map TApiLsKey.enc), .psl 2 (s22.map TApiLsKey.enc)] (.bool r) [] := by
 refine awp_pcall Try.func79 rfl (by decide) (Nat.le_of_ble_eq_true rfl) ?_
 dsimp only [Try.f79]
 rw [slices_Equal_apiLsKey] at h0
 refine (show AWP _ _ _ _ ⟨enumFr 0 _, [], 0, []⟩ from ?_)
 refine awp_sr2 8 [0, 1] (fun _ => none) rfl (fun _ _ => rT) ?_
 refine awp_seq ?_
 refine awp_sr2 48 [0, 1, 10] (fun _ => none) rfl (fun _ _ => rT) ?_
 refine awp_if rfl (fun hb3 => ?_) (fun hb3 => ?_)
 ·
  replace h0 := iteT h0 hb3
  refine awp_sr2 56 [4] (fun _ => none) rfl (fun _ _ => rT) ?_
  refine awp_ret ?_
  refine kr_then ?_
  obtain rfl := Option.some.inj h0
  refine leave_retG [] ?_
  exact rG
 ·
  replace h0 := iteF h0 hb3
  refine awp_skip ?_
  refine kn_then ?_
  refine awp_seq ?_
  refine awp_sr2 72 [0, 1, 12, 13] (fun _ => none) rfl (fun _ _ => rT) ?_
  obtain ⟨x13, hxx13, h0⟩ := bindS h0
  refine awp_bloop (fun s' => ∃ o19 : Unit, x13 = .inl o19 ∧ s'.nx ≤ 80 ∧ LeN [] s' ⟨[], [], 80, []⟩) ?_ ?_
  ·
   intro s' hs
   obtain ⟨o19, rfl, hn, hs⟩ := hs
   refine kn_then ?_
   refine awp_re [] hn hs ?_
   refine awp_sr2 88 [4] (fun _ => none) rfl (fun _ _ => rT) ?_
   refine awp_ret ?_
   obtain rfl := Option.some.inj h0
   refine leave_retG [] ?_
   exact rG
  ·
   refine awp_loopF (ι := { p : Nat × Int // slices_Equal_apiLsKey_l1 s11 s22 p.1 p.2 = some x13 }) (fun p => ⟨[(0, .psl 2 (List.map TApiLsKey.enc s11)), (1, .psl 2 (List.map TApiLsKey.enc s22)), (12, .int .i64 (s11.length : Int)), (13, .int .i64 p.1.2)], [], 72, []⟩) (fun p => p.1.1) ⟨(fu, 0), hxx13⟩ ⟨rF, rE, rfl, rfl, trivial, trivial⟩ (fun _ => Nat.le_refl _) ?_
   rintro ⟨⟨fu, v14⟩, h1⟩
   cases fu with
   | zero =>
   replace h1 : slices_Equal_apiLsKey_l1 s11 s22 0 v14 = some x13 := h1
   rw [slices_Equal_apiLsKey_l1] at h1; cases h1
   | succ fu =>
    replace h1 : slices_Equal_apiLsKey_l1 s11 s22 (fu + 1) v14 = some x13 := h1
    rw [slices_Equal_apiLsKey_l1] at h1
    refine (show AWP _ _ _ _ ⟨[(0, .psl 2 (List.map TApiLsKey.enc s11)), (1, .psl 2 (List.map TApiLsKey.enc s22)), (12, .int .i64 (s11.length : Int)), (13, .int .i64 v14)], [], 72, []⟩ from ?_)
    refine awp_sr2 80 [0, 1, 12, 13, 14] (fun _ => none) rfl (fun _ _ => rT) ?_
    refine awp_seq ?_
    refine awp_if rfl (fun hb15 => ?_) (fun hb15 => ?_)
    ·
     replace h1 := iteT h1 hb15
     refine awp_skip ?_
     refine kn_then ?_
     refine awp_seq ?_
     refine awp_block ?_
     refine awp_sr2 96 [0, 1, 5, 12, 13] (fun _ => none) rfl (fun _ _ => rT) ?_
     obtain ⟨e16, he16, h1⟩ := bindS h1
     obtain ⟨he16a, he16b, he16c⟩ := idxS he16
     obtain ⟨e17, he17, h1⟩ := bindS h1
     obtain ⟨he17a, he17b, he17c⟩ := idxS he17
     refine awp_sd2 168 [0, 1, 12, 13, 24] (fun _ => none) rfl rfl rfl (fun _ _ => rSd (rA he16a (rA he16b (rA he16c (rA he17a (rA he17b he17c)))))) ?_
     refine awp_if rfl (fun hb18 => ?_) (fun hb18 => ?_)
     ·
      replace h1 := iteT h1 hb18
      refine awp_sr2 176 [4] (fun _ => none) rfl (fun _ _ => rS (rA he16a (rA he16b (rA he16c (rA he17a (rA he17b he17c)))))) ?_
      refine awp_ret ?_
      obtain rfl := Option.some.inj h1
      refine kr_block ?_
      refine kr_then ?_
      refine kr_then ?_
      refine kr_loop ?_
      refine kr_then ?_
      obtain rfl := Option.some.inj h0
      refine leave_retG [] ?_
      simp (maxSteps := 1000000) only [↓reduceIte, reduceCtorEq, Nat.reduceEqDiff, Nat.reduceLT, Nat.reduceLeDiff, Nat.reduceAdd, Nat.reduceMul, Int.reduceToNat, push_cast, Gives, he16a, he16b, he16c, he17a, he17b, he17c]
      all_goals exact rH
     ·
      replace h1 := iteF h1 hb18
      refine awp_skip ?_
      refine kn_block ?_
      refine kn_then ?_
      refine awp_r2 184 [0, 1, 12, 13] (fun _ => none) rfl (fun _ _ => rS (rA he16a (rA he16b (rA he16c (rA he17a (rA he17b he17c)))))) ?_
      refine kn_then ?_
      exact ⟨⟨(fu, (IntKind.i64.wrap (v14 + 1))), h1⟩, ⟨rF, rE, rfl, rfl, trivial, trivial⟩, Nat.lt_succ_self _⟩
    ·
     replace h1 := iteF h1 hb15
     refine awp_exit ?_
     refine kx_then ?_
     refine kx_then ?_
     refine kx_done ?_
     obtain rfl := Option.some.inj h1
     exact ⟨_, rfl, Nat.le_of_ble_eq_true rfl, ⟨rF, rE, rfl, rfl, trivial, trivial⟩⟩
end Go.T
end
section
namespace Go.T
open Go Go.AM Go.Proofs
set_option maxRecDepth 100000
set_option maxHeartbeats 4000000
set_option linter.unusedVariables false
theorem c_slices_Equal_int {fu : Nat} {s11 : List Int} {s22 : List Int} {r : Bool} (h0 : slices_Equal_int fu s11 s22 = some r) : PCall Try.prog 80 [.psl 1 (s11.map (encInt .i64)), .psl 1 (s22.map (encInt .i64))] (.bool r) [] := by
 refine awp_pcall Try.func80 rfl (by decide) (Nat.le_of_ble_eq_true rfl) ?_
 dsimp only [Try.f80]
 rw [slices_Equal_int] at h0
 refine (show AWP _ _ _ _ ⟨enumFr 0 _, [], 0, []⟩ from ?_)
 refine awp_sr2 8 [0, 1] (fun _ => none) rfl (fun _ _ => rT) ?_
 refine awp_seq ?_
 refine awp_sr2 48 [0, 1, 10] (fun _ => none) rfl (fun _ _ => rT) ?_
 refine awp_if rfl (fun hb3 => ?_) (fun hb3 => ?_)
 ·
  replace h0 := iteT h0 hb3
  refine awp_sr2 56 [4] (fun _ => none) rfl (fun _ _ => rT) ?_
  refine awp_ret ?_
  refine kr_then ?_
  obtain rfl := Option.some.inj h0
  refine leave_retG [] ?_
  exact rG
 ·
  replace h0 := iteF h0 hb3
  refine awp_skip ?_
  refine kn_then ?_
  refine awp_seq ?_
  refine awp_sr2 72 [0, 1, 12, 13] (fun _ => none) rfl (fun _ _ => rT) ?_
  obtain ⟨x13, hxx13, h0⟩ := bindS h0
  refine awp_bloop (fun s' => ∃ o19 : Unit, x13 = .inl o19 ∧ s'.nx ≤ 80 ∧ LeN [] s' ⟨[], [], 80, []⟩) ?_ ?_
  ·
   intro s' hs
   obtain ⟨o19, rfl, hn, hs⟩ := hs
   refine kn_then ?_
   refine awp_re [] hn hs ?_
   refine awp_sr2 88 [4] (fun _ => none) rfl (fun _ _ => rT) ?_
   refine awp_ret ?_
   obtain rfl := Option.some.inj h0
   refine leave_retG [] ?_
   exact rG
  ·
   refine awp_loopF (ι := { p : Nat × Int // slices_Equal_int_l1 s11 s22 p.1 p.2 = some x13 }) (fun p => ⟨[(0, .psl 1 (List.map (encInt .i64) s11)), (1, .psl 1 (List.map (encInt .i64) s22)), (12, .int .i64 (s11.length : Int)), (13, .int .i64 p.1.2)], [], 72, []⟩) (fun p => p.1.1) ⟨(fu, 0), hxx13⟩ ⟨rF, rE, rfl, rfl, trivial, trivial⟩ (fun _ => Nat.le_refl _) ?_
   rintro ⟨⟨fu, v14⟩, h1⟩
   cases fu with
   | zero =>
   replace h1 : slices_Equal_int_l1 s11 s22 0 v14 = some x13 := h1
   rw [slices_Equal_int_l1] at h1; cases h1
   | succ fu =>
    replace h1 : slices_Equal_int_l1 s11 s22 (fu + 1) v14 = some x13 := h1
    rw [slices_Equal_int_l1] at h1
    refine (show AWP _ _ _ _ ⟨[(0, .psl 1 (List.map (encInt .i64) s11)), (1, .psl 1 (List.map (encInt .i64) s22)), (12, .int .i64 (s11.length : Int)), (13, .int .i64 v14)], [], 72, []⟩ from ?_)
    refine awp_sr2 80 [0, 1, 12, 13, 14] (fun _ => none) rfl (fun _ _ => rT) ?_
    refine awp_seq ?_
    refine awp_if rfl (fun hb15 => ?_) (fun hb15 => ?_)
    ·
     replace h1 := iteT h1 hb15
     refine awp_skip ?_
     refine kn_then ?_
     refine awp_seq ?_
     refine awp_block ?_
     refine awp_sr2 96 [0, 1, 5, 12, 13] (fun _ => none) rfl (fun _ _ => rT) ?_
     obtain ⟨e16, he16, h1⟩ := bindS h1
     obtain ⟨he16a, he16b, he16c⟩ := idxS he16
     obtain ⟨e17, he17, h1⟩ := bindS h1
     obtain ⟨he17a, he17b, he17c⟩ := idxS he17
     refine awp_sd2 168 [0, 1, 12, 13, 24] (fun _ => none) rfl rfl rfl (fun _ _ => rSd (rA he16a (rA he16b (rA he16c (rA he17a (rA he17b he17c)))))) ?_
     refine awp_if rfl (fun hb18 => ?_) (fun hb18 => ?_)
     ·
      replace h1 := iteT h1 hb18
      refine awp_sr2 176 [4] (fun _ => none) rfl (fun _ _ => rS (rA he16a (rA he16b (rA he16c (rA he17a (rA he17b he17c)))))) ?_
      refine awp_ret ?_
      obtain rfl := Option.some.inj h1
      refine kr_block ?_
      refine kr_then ?_
      refine kr_then ?_
      refine kr_loop ?_
      refine kr_then ?_
      obtain rfl := Option.some.inj h0
      refine leave_retG [] ?_
      simp (maxSteps := 1000000) only [↓reduceIte, reduceCtorEq, Nat.reduceEqDiff, Nat.reduceLT, Nat.reduceLeDiff, Nat.reduceAdd, Nat.reduceMul, Int.reduceToNat, push_cast, Gives, he16a, he16b, he16c, he17a, he17b, he17c]
      all_goals exact rH
     ·
      replace h1 := iteF h1 hb18
      refine awp_skip ?_
      refine kn_block ?_
      refine kn_then ?_
      refine awp_r2 184 [0, 1, 12, 13] (fun _ => none) rfl (fun _ _ => rS (rA he16a (rA he16b (rA he16c (rA he17a (rA he17b he17c)))))) ?_
      refine kn_then ?_
      exact ⟨⟨(fu, (IntKind.i64.wrap (v14 + 1))), h1⟩, ⟨rF, rE, rfl, rfl, trivial, trivial⟩, Nat.lt_succ_self _⟩
    ·
     replace h1 := iteF h1 hb15
     refine awp_exit ?_
     refine kx_then ?_
     refine kx_then ?_
     refine kx_done ?_
     obtain rfl := Option.some.inj h1
     exact ⟨_, rfl, Nat.le_of_ble_eq_true rfl, ⟨rF, rE, rfl, rfl, trivial, trivial⟩⟩
end Go.T
end
section
namespace Go.T
open Go Go.AM Go.Proofs
set_option maxRecDepth 100000
set_option maxHeartbeats 4000000
set_option linter.unusedVariables false
theorem c_merge_alike {fu : Nat} {a1 : TApiLsTree} {b2 : TApiLsTree} {r : Bool} (h0 : merge_alike fu a1 b2 = some r) : PCall Try.prog 63 [.agg (TApiLsTree.enc a1), .agg (TApiLsTree.enc b2)] (.bool r) [] := by
 refine awp_pcall Try.func63 rfl (by decide) (Nat.le_of_ble_eq_true rfl) ?_
 dsimp only [Try.f63]
 rw [merge_alike] at h0
 refine (show AWP _ _ _ _ ⟨enumFr 0 _, [], 0, []⟩ from ?_)
 refine awp_sr2 24 [2, 3] (fun _ => none) rfl (fun _ _ => rT) ?_
 obtain ⟨b4, hb4, h0⟩ := bindS h0
 obtain ⟨b6, hb6, h0⟩ := bindS h0
 refine awp_sr3 (fr' := [(4, .bool b6)]) (hp' := [(0, ⟨0, true, true, 3, [[.psl 2 (List.map TApiLsKey.enc a1.Keys), .psl 1 (List.map (encInt .i64) a1.Lose), .int .i64 a1.Win]]⟩), (8, ⟨0, true, true, 3, [[.psl 2 (List.map TApiLsKey.enc b2.Keys), .psl 1 (List.map (encInt .i64) b2.Lose), .int .i64 b2.Win]]⟩)]) [0, 8] 184 [4] (fun | 10 => (slices_Equal_apiLsKey fu a1.Keys b2.Keys).bind fun vr3 => some (.bool vr3, []) | 17 => (slices_Equal_int fu a1.Lose b2.Lose).bind fun vr5 => some (.bool vr5, []) | _ => none) rfl (fun Kt hK => by
   cases hg7 : (decide (a1.Win = b2.Win)) with
   | false =>
    replace hb4 := iteF hb4 hg7
    have hqb4 := Option.some.inj hb4
    cases b4 with
    | false =>
     replace hb6 := iteF hb6 rfl
     have hqb6 := Option.some.inj hb6
     subst hqb6
     simp (maxSteps := 1000000) only [↓reduceIte, reduceCtorEq, Nat.reduceEqDiff, Nat.reduceLT, Nat.reduceLeDiff, Nat.reduceAdd, Nat.reduceMul, Int.reduceToNat, push_cast, ↓hg7]
     try simp only [↓hg7] at hK
     try have q0 := c_slices_Equal_apiLsKey hvr3
     try have q1 := c_slices_Equal_int hvr5
     all_goals exact rU
    | true =>
     cases hqb4
   | true =>
    replace hb4 := iteT hb4 hg7
    obtain ⟨vr3, hvr3, hb4⟩ := bindS hb4
    have hqb4 := Option.some.inj hb4
    cases b4 with
    | false =>
     subst hqb4
     replace hb6 := iteF hb6 rfl
     have hqb6 := Option.some.inj hb6
     subst hqb6
     simp (maxSteps := 1000000) only [↓reduceIte, reduceCtorEq, Nat.reduceEqDiff, Nat.reduceLT, Nat.reduceLeDiff, Nat.reduceAdd, Nat.reduceMul, Int.reduceToNat, push_cast, ↓hg7, hvr3]
     try simp only [↓hg7] at hK
     try have q0 := c_slices_Equal_apiLsKey hvr3
     try have q1 := c_slices_Equal_int hvr5
     all_goals exact rU
    | true =>
     subst hqb4
     replace hb6 := iteT hb6 rfl
     obtain ⟨vr5, hvr5, hb6⟩ := bindS hb6
     have hqb6 := Option.some.inj hb6
     subst hqb6
     simp (maxSteps := 1000000) only [↓reduceIte, reduceCtorEq, Nat.reduceEqDiff, Nat.reduceLT, Nat.reduceLeDiff, Nat.reduceAdd, Nat.reduceMul, Int.reduceToNat, push_cast, ↓hg7, hvr3, hvr5]
     try simp only [↓hg7] at hK
     try have q0 := c_slices_Equal_apiLsKey hvr3
     try have q1 := c_slices_Equal_int hvr5
     all_goals exact rU) ?_
 refine awp_ret ?_
 obtain rfl := Option.some.inj h0
 refine leave_retG [] ?_
 exact rG
end Go.T
end
section
namespace Go.T
open Go Go.AM Go.Proofs
set_option maxRecDepth 100000
set_option maxHeartbeats 4000000
set_option linter.unusedVariables false
theorem c_loser_Check {fu : Nat} {t1 : TApiLsTree} {r : Int × Int} (h0 : loser_Check fu t1 = some r) : PCall Try.prog 92 [.agg (TApiLsTree.enc t1)] (.tup [.int .i64 r.1, .int .i64 r.2]) [] := by
 refine awp_pcall Try.func92 rfl (by decide) (Nat.le_of_ble_eq_true rfl) ?_
 dsimp only [Try.f92]
 rw [loser_Check] at h0
 refine (show AWP _ _ _ _ ⟨enumFr 0 _, [], 0, []⟩ from ?_)
 refine awp_sr2 24 [1] (fun _ => none) rfl (fun _ _ => rT) ?_
 refine awp_seq ?_
 obtain ⟨vr2, hvr2, h0⟩ := bindS h0
 refine awp_sr2 56 [1, 4] (fun | 2 => some (.int .i64 vr2, []) | _ => none) rfl (fun _ _ => rC (c_loser_check hvr2)) ?_
 refine awp_sr2 72 [1, 4, 12] (fun _ => none) rfl (fun _ _ => rT) ?_
 refine awp_if rfl (fun hb3 => ?_) (fun hb3 => ?_)
 ·
  replace h0 := iteT h0 hb3
  refine awp_sr2 96 [2, 3] (fun _ => none) rfl (fun _ _ => rT) ?_
  refine awp_ret ?_
  refine kr_then ?_
  obtain rfl := Option.some.inj h0
  refine leave_retG [] ?_
  exact rG
 ·
  replace h0 := iteF h0 hb3
  refine awp_skip ?_
  refine kn_then ?_
  refine awp_seq ?_
  refine awp_sr2 128 [1, 20] (fun _ => none) rfl (fun _ _ => rT) ?_
  refine awp_if rfl (fun hb4 => ?_) (fun hb4 => ?_)
  ·
   replace h0 := iteT h0 hb4
   refine awp_sr2 144 [2, 3] (fun _ => none) rfl (fun _ _ => rT) ?_
   refine awp_ret ?_
   refine kr_then ?_
   obtain rfl := Option.some.inj h0
   refine leave_retG [] ?_
   exact rG
  ·
   replace h0 := iteF h0 hb4
   refine awp_skip ?_
   refine kn_then ?_
   obtain ⟨vr5, hvr5, h0⟩ := bindS h0
   refine awp_sr2 168 [1, 5] (fun | 2 => some (.agg (TApiLsTree.enc vr5), []) | _ => none) rfl (fun _ _ => rC (c_loser_play hvr5)) ?_
   refine awp_seq ?_
   refine awp_sr2 200 [1, 5, 25, 26, 27] (fun _ => none) rfl (fun _ _ => rT) ?_
   obtain ⟨x15, hxx15, h0⟩ := bindS h0
   refine awp_bloop (fun s' => ∃ o21 : Unit, x15 = .inl o21 ∧ s'.nx ≤ 208 ∧ LeN [] s' ⟨[(1, .ref 0 0 0 0), (5, .ref 152 0 0 0)], [(0, ⟨0, true, true, 3, [[.psl 2 (List.map TApiLsKey.enc t1.Keys), .psl 1 (List.map (encInt .i64) t1.Lose), .int .i64 t1.Win]]⟩), (152, ⟨0, true, true, 3, [[.psl 2 (List.map TApiLsKey.enc vr5.Keys), .psl 1 (List.map (encInt .i64) vr5.Lose), .int .i64 vr5.Win]]⟩)], 208, []⟩) ?_ ?_
   ·
    intro s' hs
    obtain ⟨o21, rfl, hn, hs⟩ := hs
    refine kn_then ?_
    refine awp_re [] hn hs ?_
    refine awp_seq ?_
    refine awp_sr2 248 [45] (fun _ => none) rfl (fun _ _ => rT) ?_
    refine awp_if rfl (fun hb22 => ?_) (fun hb22 => ?_)
    ·
     replace h0 := iteT h0 hb22
     refine awp_sr2 264 [2, 3] (fun _ => none) rfl (fun _ _ => rT) ?_
     refine awp_ret ?_
     refine kr_then ?_
     obtain rfl := Option.some.inj h0
     refine leave_retG [] ?_
     exact rG
    ·
     replace h0 := iteF h0 hb22
     refine awp_skip ?_
     refine kn_then ?_
     refine awp_sr2 264 [2, 3] (fun _ => none) rfl (fun _ _ => rT) ?_
     refine awp_ret ?_
     obtain rfl := Option.some.inj h0
     refine leave_retG [] ?_
     exact rG
   ·
    refine awp_loopF (ι := { p : Nat × Int // loser_Check_l1 vr5 t1 p.1 p.2 = some x15 }) (fun p => ⟨[(1, .ref 0 0 0 0), (5, .ref 152 0 0 0), (25, .psl 1 (List.map (encInt .i64) vr5.Lose)), (26, .int .i64 (vr5.Lose.length : Int)), (27, .int .i64 p.1.2)], [(0, ⟨0, true, true, 3, [[.psl 2 (List.map TApiLsKey.enc t1.Keys), .psl 1 (List.map (encInt .i64) t1.Lose), .int .i64 t1.Win]]⟩), (152, ⟨0, true, true, 3, [[.psl 2 (List.map TApiLsKey.enc vr5.Keys), .psl 1 (List.map (encInt .i64) vr5.Lose), .int .i64 vr5.Win]]⟩)], 200, []⟩) (fun p => p.1.1) ⟨(fu, 0), hxx15⟩ ⟨rF, rE, rfl, rfl, trivial, trivial⟩ (fun _ => Nat.le_refl _) ?_
    rintro ⟨⟨fu, v16⟩, h1⟩
    cases fu with
    | zero =>
   replace h1 : loser_Check_l1 vr5 t1 0 v16 = some x15 := h1
   rw [loser_Check_l1] at h1; cases h1
    | succ fu =>
     replace h1 : loser_Check_l1 vr5 t1 (fu + 1) v16 = some x15 := h1
     rw [loser_Check_l1] at h1
     refine (show AWP _ _ _ _ ⟨[(1, .ref 0 0 0 0), (5, .ref 152 0 0 0), (25, .psl 1 (List.map (encInt .i64) vr5.Lose)), (26, .int .i64 (vr5.Lose.length : Int)), (27, .int .i64 v16)], [(0, ⟨0, true, true, 3, [[.psl 2 (List.map TApiLsKey.enc t1.Keys), .psl 1 (List.map (encInt .i64) t1.Lose), .int .i64 t1.Win]]⟩), (152, ⟨0, true, true, 3, [[.psl 2 (List.map TApiLsKey.enc vr5.Keys), .psl 1 (List.map (encInt .i64) vr5.Lose), .int .i64 vr5.Win]]⟩)], 200, []⟩ from ?_)
     refine awp_sr2 208 [1, 5, 25, 26, 27, 28] (fun _ => none) rfl (fun _ _ => rT) ?_
     refine awp_seq ?_
     refine awp_if rfl (fun hb17 => ?_) (fun hb17 => ?_)
     ·
      replace h1 := iteT h1 hb17
      refine awp_skip ?_
      refine kn_then ?_
      refine awp_seq ?_
      refine awp_block ?_
      obtain ⟨e18, he18, h1⟩ := bindS h1
      obtain ⟨he18a, he18b, he18c⟩ := idxS he18
      refine awp_sr2 248 [1, 5, 6, 7, 25, 26, 27] (fun _ => none) rfl (fun _ _ => rS (rA he18a (rA he18b he18c))) ?_
      obtain ⟨e19, he19, h1⟩ := bindS h1
      obtain ⟨he19a, he19b, he19c⟩ := idxS he19
      refine awp_sr2 304 [1, 5, 6, 25, 26, 27, 38] (fun _ => none) rfl (fun _ _ => rS (rA he18a (rA he18b (rA he18c (rA he19a (rA he19b he19c)))))) ?_
      refine awp_if rfl (fun hb20 => ?_) (fun hb20 => ?_)
      ·
       replace h1 := iteT h1 hb20
       refine awp_sr2 328 [2, 3] (fun _ => none) rfl (fun _ _ => rS (rA he18a (rA he18b (rA he18c (rA he19a (rA he19b he19c)))))) ?_
       refine awp_ret ?_
       obtain rfl := Option.some.inj h1
       refine kr_block ?_
       refine kr_then ?_
       refine kr_then ?_
       refine kr_loop ?_
       refine kr_then ?_
       obtain rfl := Option.some.inj h0
       refine leave_retG [] ?_
       simp (maxSteps := 1000000) only [↓reduceIte, reduceCtorEq, Nat.reduceEqDiff, Nat.reduceLT, Nat.reduceLeDiff, Nat.reduceAdd, Nat.reduceMul, Int.reduceToNat, push_cast, Gives, he18a, he18b, he18c, he19a, he19b, he19c]
       all_goals exact rH
      ·
       replace h1 := iteF h1 hb20
       refine awp_skip ?_
       refine kn_block ?_
       refine kn_then ?_
       refine awp_r2 320 [1, 5, 25, 26, 27] (fun _ => none) rfl (fun _ _ => rS (rA he18a (rA he18b (rA he18c (rA he19a (rA he19b he19c)))))) ?_
       refine kn_then ?_
       exact ⟨⟨(fu, (IntKind.i64.wrap (v16 + 1))), h1⟩, ⟨rF, rE, rfl, rfl, trivial, trivial⟩, Nat.lt_succ_self _⟩
     ·
      replace h1 := iteF h1 hb17
      refine awp_exit ?_
      refine kx_then ?_
      refine kx_then ?_
      refine kx_done ?_
      obtain rfl := Option.some.inj h1
      exact ⟨_, rfl, Nat.le_of_ble_eq_true rfl, ⟨rF, rE, rfl, rfl, trivial, trivial⟩⟩
end Go.T
end
section
namespace Go.T
open Go Go.AM Go.Proofs
set_option maxRecDepth 100000
set_option maxHeartbeats 4000000
set_option linter.unusedVariables false
theorem c_loser_open {fu : Nat} {t1 : TApiLsTree} {r : Int} (h0 : loser_open fu t1 = some r) : PCall Try.prog 81 [.agg (TApiLsTree.enc t1)] (.int .i64 r) [] := by
 refine awp_pcall Try.func81 rfl (by decide) (Nat.le_of_ble_eq_true rfl) ?_
 dsimp only [Try.f81]
 rw [loser_open] at h0
 refine (show AWP _ _ _ _ ⟨enumFr 0 _, [], 0, []⟩ from ?_)
 refine awp_sr2 16 [1] (fun _ => none) rfl (fun _ _ => rT) ?_
 refine awp_seq ?_
 obtain ⟨vr2, hvr2, h0⟩ := bindS h0
 refine awp_sr2 72 [1, 4] (fun | 1 => some (.tup [.int .i64 vr2.1, .int .i64 vr2.2], []) | _ => none) rfl (fun _ _ => rC (c_loser_Check hvr2)) ?_
 refine awp_sr2 88 [1, 4, 11] (fun _ => none) rfl (fun _ _ => rT) ?_
 refine awp_if rfl (fun hb3 => ?_) (fun hb3 => ?_)
 ·
  replace h0 := iteT h0 hb3
  refine awp_sr2 104 [2] (fun _ => none) rfl (fun _ _ => rT) ?_
  refine awp_ret ?_
  refine kr_then ?_
  obtain rfl := Option.some.inj h0
  refine leave_retG [] ?_
  exact rG
 ·
  replace h0 := iteF h0 hb3
  refine awp_skip ?_
  refine kn_then ?_
  refine awp_seq ?_
  obtain ⟨e4, he4, h0⟩ := bindS h0
  obtain ⟨he4a, he4b, he4c⟩ := idxS he4
  refine awp_sr2 144 [19] (fun _ => none) rfl (fun _ _ => rS (rA he4a (rA he4b he4c))) ?_
  refine awp_if rfl (fun hb5 => ?_) (fun hb5 => ?_)
  ·
   replace h0 := iteT h0 hb5
   refine awp_sr2 152 [2] (fun _ => none) rfl (fun _ _ => rS (rA he4a (rA he4b he4c))) ?_
   refine awp_ret ?_
   refine kr_then ?_
   obtain rfl := Option.some.inj h0
   refine leave_retG [] ?_
   simp (maxSteps := 1000000) only [↓reduceIte, reduceCtorEq, Nat.reduceEqDiff, Nat.reduceLT, Nat.reduceLeDiff, Nat.reduceAdd, Nat.reduceMul, Int.reduceToNat, push_cast, Gives, he4a, he4b, he4c]
   all_goals exact rH
  ·
   replace h0 := iteF h0 hb5
   refine awp_skip ?_
   refine kn_then ?_
   refine awp_sr2 152 [2] (fun _ => none) rfl (fun _ _ => rS (rA he4a (rA he4b he4c))) ?_
   refine awp_ret ?_
   obtain rfl := Option.some.inj h0
   refine leave_retG [] ?_
   simp (maxSteps := 1000000) only [↓reduceIte, reduceCtorEq, Nat.reduceEqDiff, Nat.reduceLT, Nat.reduceLeDiff, Nat.reduceAdd, Nat.reduceMul, Int.reduceToNat, push_cast, Gives, he4a, he4b, he4c]
   all_goals exact rH
end Go.T
end
section
namespace Go.T
open Go Go.AM Go.Proofs
set_option maxRecDepth 100000
set_option maxHeartbeats 4000000
set_option linter.unusedVariables false
theorem c_loser_Winner {fu : Nat} {t1 : TApiLsTree} {r : Int × List UInt8 × Int} (h0 : loser_Winner fu t1 = some r) : PCall Try.prog 64 [.agg (TApiLsTree.enc t1)] (.tup [.int .i64 r.1, .str r.2.1, .int .i64 r.2.2]) [] := by
 refine awp_pcall Try.func64 rfl (by decide) (Nat.le_of_ble_eq_true rfl) ?_
 dsimp only [Try.f64]
 rw [loser_Winner] at h0
 refine (show AWP _ _ _ _ ⟨enumFr 0 _, [], 0, []⟩ from ?_)
 refine awp_sr2 32 [1] (fun _ => none) rfl (fun _ _ => rT) ?_
 refine awp_seq ?_
 obtain ⟨vr2, hvr2, h0⟩ := bindS h0
 refine awp_sr2 56 [1, 5] (fun | 1 => some (.int .i64 vr2, []) | _ => none) rfl (fun _ _ => rC (c_loser_open hvr2)) ?_
 refine awp_sr2 72 [1, 5, 9] (fun _ => none) rfl (fun _ _ => rT) ?_
 refine awp_if rfl (fun hb3 => ?_) (fun hb3 => ?_)
 ·
  replace h0 := iteT h0 hb3
  refine awp_sr2 104 [2, 3, 4] (fun _ => none) rfl (fun _ _ => rT) ?_
  refine awp_ret ?_
  refine kr_then ?_
  obtain rfl := Option.some.inj h0
  refine leave_retG [] ?_
  exact rG
 ·
  replace h0 := iteF h0 hb3
  refine awp_skip ?_
  refine kn_then ?_
  obtain ⟨e4, he4, h0⟩ := bindS h0
  obtain ⟨he4a, he4b, he4c⟩ := idxS he4
  refine awp_sd2 168 [2, 3, 4] (fun _ => none) rfl rfl rfl (fun _ _ => rSd (rA he4a (rA he4b he4c))) ?_
  refine awp_ret ?_
  obtain rfl := Option.some.inj h0
  refine leave_retG [] ?_
  simp (maxSteps := 1000000) only [↓reduceIte, reduceCtorEq, Nat.reduceEqDiff, Nat.reduceLT, Nat.reduceLeDiff, Nat.reduceAdd, Nat.reduceMul, Int.reduceToNat, push_cast, Gives, he4a, he4b, he4c]
  all_goals exact rH
end Go.T
end
section
namespace Go.T
open Go Go.AM Go.Proofs
set_option maxRecDepth 100000
set_option maxHeartbeats 4000000
set_option linter.unusedVariables false
theorem c_cmp_isNaN_string {fu : Nat} {vx1 : List UInt8} {r : Bool} (h0 : cmp_isNaN_string fu vx1 = some r) : PCall Try.prog 82 [.str vx1] (.bool r) [] := by
 refine awp_pcall Try.func82 rfl (by decide) (Nat.le_of_ble_eq_true rfl) ?_
 dsimp only [Try.f82]
 rw [cmp_isNaN_string] at h0
 refine (show AWP _ _ _ _ ⟨enumFr 0 _, [], 0, []⟩ from ?_)
 refine awp_sr2 8 [0] (fun _ => none) rfl (fun _ _ => rT) ?_
 refine awp_sr2 40 [2] (fun _ => none) rfl (fun _ _ => rT) ?_
 refine awp_ret ?_
 obtain rfl := Option.some.inj h0
 refine leave_retG [] ?_
 exact rG
end Go.T
end
section
namespace Go.T
open Go Go.AM Go.Proofs
set_option maxRecDepth 100000
set_option maxHeartbeats 4000000
set_option linter.unusedVariables false
theorem c_cmp_Compare_string {fu : Nat} {vx1 : List UInt8} {y2 : List UInt8} {r : Int} (h0 : cmp_Compare_string fu vx1 y2 = some r) : PCall Try.prog 66 [.str vx1, .str y2] (.int .i64 r) [] := by
 refine awp_pcall Try.func66 rfl (by decide) (Nat.le_of_ble_eq_true rfl) ?_
 dsimp only [Try.f66]
 rw [cmp_Compare_string] at h0
 refine (show AWP _ _ _ _ ⟨enumFr 0 _, [], 0, []⟩ from ?_)
 refine awp_sr2 8 [0, 1] (fun _ => none) rfl (fun _ _ => rT) ?_
 obtain ⟨vr3, hvr3, h0⟩ := bindS h0
 refine awp_sr2 32 [0, 1, 5] (fun | 1 => some (.bool vr3, []) | _ => none) rfl (fun _ _ => rC (c_cmp_isNaN_string hvr3)) ?_
 obtain ⟨vr4, hvr4, h0⟩ := bindS h0
 refine awp_sr2 56 [0, 1, 5, 6] (fun | 1 => some (.bool vr4, []) | _ => none) rfl (fun _ _ => rC (c_cmp_isNaN_string hvr4)) ?_
 refine awp_seq ?_
 refine awp_sr2 64 [0, 1, 6, 11] (fun _ => none) rfl (fun _ _ => rT) ?_
 refine awp_if rfl (fun hb5 => ?_) (fun hb5 => ?_)
 ·
  replace h0 := iteT h0 hb5
  refine awp_seq ?_
  refine awp_sr2 72 [12] (fun _ => none) rfl (fun _ _ => rT) ?_
  refine awp_if rfl (fun hb6 => ?_) (fun hb6 => ?_)
  ·
   replace h0 := iteT h0 hb6
   refine awp_sr2 80 [4] (fun _ => none) rfl (fun _ _ => rT) ?_
   refine awp_ret ?_
   refine kr_then ?_
   refine kr_then ?_
   obtain rfl := Option.some.inj h0
   refine leave_retG [] ?_
   exact rG
  ·
   replace h0 := iteF h0 hb6
   refine awp_skip ?_
   refine kn_then ?_
   refine awp_sr2 80 [4] (fun _ => none) rfl (fun _ _ => rT) ?_
   refine awp_ret ?_
   refine kr_then ?_
   obtain rfl := Option.some.inj h0
   refine leave_retG [] ?_
   exact rG
 ·
  replace h0 := iteF h0 hb5
  refine awp_skip ?_
  refine kn_then ?_
  refine awp_seq ?_
  refine awp_sr2 72 [0, 1, 13] (fun _ => none) rfl (fun _ _ => rT) ?_
  refine awp_if rfl (fun hb7 => ?_) (fun hb7 => ?_)
  ·
   replace h0 := iteT h0 hb7
   refine awp_sr2 80 [4] (fun _ => none) rfl (fun _ _ => rT) ?_
   refine awp_ret ?_
   refine kr_then ?_
   obtain rfl := Option.some.inj h0
   refine leave_retG [] ?_
   exact rG
  ·
   replace h0 := iteF h0 hb7
   refine awp_skip ?_
   refine kn_then ?_
   refine awp_seq ?_
   refine awp_sr2 96 [0, 1, 16] (fun _ => none) rfl (fun _ _ => rT) ?_
   refine awp_if rfl (fun hb8 => ?_) (fun hb8 => ?_)
   ·
    replace h0 := iteT h0 hb8
    refine awp_sr2 104 [4] (fun _ => none) rfl (fun _ _ => rT) ?_
    refine awp_ret ?_
    refine kr_then ?_
    obtain rfl := Option.some.inj h0
    refine leave_retG [] ?_
    exact rG
   ·
    replace h0 := iteF h0 hb8
    refine awp_skip ?_
    refine kn_then ?_
    refine awp_seq ?_
    refine awp_sr2 120 [19] (fun _ => none) rfl (fun _ _ => rT) ?_
    refine awp_if rfl (fun hb9 => ?_) (fun hb9 => ?_)
    ·
     replace h0 := iteT h0 hb9
     refine awp_sr2 128 [4] (fun _ => none) rfl (fun _ _ => rT) ?_
     refine awp_ret ?_
     refine kr_then ?_
     obtain rfl := Option.some.inj h0
     refine leave_retG [] ?_
     exact rG
    ·
     replace h0 := iteF h0 hb9
     refine awp_skip ?_
     refine kn_then ?_
     refine awp_sr2 128 [4] (fun _ => none) rfl (fun _ _ => rT) ?_
     refine awp_ret ?_
     obtain rfl := Option.some.inj h0
     refine leave_retG [] ?_
     exact rG
end Go.T
end
section
namespace Go.T
open Go Go.AM Go.Proofs
set_option maxRecDepth 100000
set_option maxHeartbeats 4000000
set_option linter.unusedVariables false
theorem c_cmp_isNaN_int {fu : Nat} {vx1 : Int} {r : Bool} (h0 : cmp_isNaN_int fu vx1 = some r) : PCall Try.prog 83 [.int .i64 vx1] (.bool r) [] := by
 refine awp_pcall Try.func83 rfl (by decide) (Nat.le_of_ble_eq_true rfl) ?_
 dsimp only [Try.f83]
 rw [cmp_isNaN_int] at h0
 refine (show AWP _ _ _ _ ⟨enumFr 0 _, [], 0, []⟩ from ?_)
 refine awp_sr2 8 [0] (fun _ => none) rfl (fun _ _ => rT) ?_
 refine awp_sr2 40 [2] (fun _ => none) rfl (fun _ _ => rT) ?_
 refine awp_ret ?_
 obtain rfl := Option.some.inj h0
 refine leave_retG [] ?_
 exact rG
end Go.T
end
section
namespace Go.T
open Go Go.AM Go.Proofs
set_option maxRecDepth 100000
set_option maxHeartbeats 4000000
set_option linter.unusedVariables false
theorem c_cmp_Compare_int {fu : Nat} {vx1 : Int} {y2 : Int} {r : Int} (h0 : cmp_Compare_int fu vx1 y2 = some r) : PCall Try.prog 67 [.int .i64 vx1, .int .i64 y2] (.int .i64 r) [] := by
 refine awp_pcall Try.func67 rfl (by decide) (Nat.le_of_ble_eq_true rfl) ?_
 dsimp only [Try.f67]
 rw [cmp_Compare_int] at h0
 refine (show AWP _ _ _ _ ⟨enumFr 0 _, [], 0, []⟩ from ?_)
 refine awp_sr2 8 [0, 1] (fun _ => none) rfl (fun _ _ => rT) ?_
 obtain ⟨vr3, hvr3, h0⟩ := bindS h0
 refine awp_sr2 32 [0, 1, 5] (fun | 1 => some (.bool vr3, []) | _ => none) rfl (fun _ _ => rC (c_cmp_isNaN_int hvr3)) ?_
 obtain ⟨vr4, hvr4, h0⟩ := bindS h0
 refine awp_sr2 56 [0, 1, 5, 6] (fun | 1 => some (.bool vr4, []) | _ => none) rfl (fun _ _ => rC (c_cmp_isNaN_int hvr4)) ?_
 refine awp_seq ?_
 refine awp_sr2 64 [0, 1, 6, 11] (fun _ => none) rfl (fun _ _ => rT) ?_
 refine awp_if rfl (fun hb5 => ?_) (fun hb5 => ?_)
 ·
  replace h0 := iteT h0 hb5
  refine awp_seq ?_
  refine awp_sr2 72 [12] (fun _ => none) rfl (fun _ _ => rT) ?_
  refine awp_if rfl (fun hb6 => ?_) (fun hb6 => ?_)
  ·
   replace h0 := iteT h0 hb6
   refine awp_sr2 80 [4] (fun _ => none) rfl (fun _ _ => rT) ?_
   refine awp_ret ?_
   refine kr_then ?_
   refine kr_then ?_
   obtain rfl := Option.some.inj h0
   refine leave_retG [] ?_
   exact rG
  ·
   replace h0 := iteF h0 hb6
   refine awp_skip ?_
   refine kn_then ?_
   refine awp_sr2 80 [4] (fun _ => none) rfl (fun _ _ => rT) ?_
   refine awp_ret ?_
   refine kr_then ?_
   obtain rfl := Option.some.inj h0
   refine leave_retG [] ?_
   exact rG
 ·
  replace h0 := iteF h0 hb5
  refine awp_skip ?_
  refine kn_then ?_
  refine awp_seq ?_
  refine awp_sr2 72 [0, 1, 13] (fun _ => none) rfl (fun _ _ => rT) ?_
  refine awp_if rfl (fun hb7 => ?_) (fun hb7 => ?_)
  ·
   replace h0 := iteT h0 hb7
   refine awp_sr2 80 [4] (fun _ => none) rfl (fun _ _ => rT) ?_
   refine awp_ret ?_
   refine kr_then ?_
   obtain rfl := Option.some.inj h0
   refine leave_retG [] ?_
   exact rG
  ·
   replace h0 := iteF h0 hb7
   refine awp_skip ?_
   refine kn_then ?_
   refine awp_seq ?_
   refine awp_sr2 96 [0, 1, 16] (fun _ => none) rfl (fun _ _ => rT) ?_
   refine awp_if rfl (fun hb8 => ?_) (fun hb8 => ?_)
   ·
    replace h0 := iteT h0 hb8
    refine awp_sr2 104 [4] (fun _ => none) rfl (fun _ _ => rT) ?_
    refine awp_ret ?_
    refine kr_then ?_
    obtain rfl := Option.some.inj h0
    refine leave_retG [] ?_
    exact rG
   ·
    replace h0 := iteF h0 hb8
    refine awp_skip ?_
    refine kn_then ?_
    refine awp_seq ?_
    refine awp_sr2 120 [19] (fun _ => none) rfl (fun _ _ => rT) ?_
    refine awp_if rfl (fun hb9 => ?_) (fun hb9 => ?_)
    ·
     replace h0 := iteT h0 hb9
     refine awp_sr2 128 [4] (fun _ => none) rfl (fun _ _ => rT) ?_
     refine awp_ret ?_
     refine kr_then ?_
     obtain rfl := Option.some.inj h0
     refine leave_retG [] ?_
     exact rG
    ·
     replace h0 := iteF h0 hb9
     refine awp_skip ?_
     refine kn_then ?_
     refine awp_sr2 128 [4] (fun _ => none) rfl (fun _ _ => rT) ?_
     refine awp_ret ?_
     obtain rfl := Option.some.inj h0
     refine leave_retG [] ?_
     exact rG
end Go.T
end
section
namespace Go.T
open Go Go.AM Go.Proofs
set_option maxRecDepth 100000
set_option maxHeartbeats 4000000
set_option linter.unusedVariables false
theorem c_cmp_Or_int {fu : Nat} {vals1 : List Int} {r : Int} (h0 : cmp_Or_int fu vals1 = some r) : PCall Try.prog 65 [.psl 1 (vals1.map (encInt .i64))] (.int .i64 r) [] := by
 refine awp_pcall Try.func65 rfl (by decide) (Nat.le_of_ble_eq_true rfl) ?_
 dsimp only [Try.f65]
 rw [cmp_Or_int] at h0
 refine (show AWP _ _ _ _ ⟨enumFr 0 _, [], 0, []⟩ from ?_)
 refine awp_sr2 8 [0] (fun _ => none) rfl (fun _ _ => rT) ?_
 refine awp_sr2 16 [0, 3] (fun _ => none) rfl (fun _ _ => rT) ?_
 refine awp_seq ?_
 refine awp_sr2 40 [3, 6, 7, 8] (fun _ => none) rfl (fun _ _ => rT) ?_
 obtain ⟨x9, hxx9, h0⟩ := bindS h0
 refine awp_bloop (fun s' => ∃ o14 : Unit, x9 = .inl o14 ∧ s'.nx ≤ 48 ∧ LeN [] s' ⟨[(3, .int .i64 0)], [], 48, []⟩) ?_ ?_
 ·
  intro s' hs
  obtain ⟨o14, rfl, hn, hs⟩ := hs
  refine kn_then ?_
  refine awp_re [] hn hs ?_
  refine awp_sr2 64 [2] (fun _ => none) rfl (fun _ _ => rT) ?_
  refine awp_ret ?_
  obtain rfl := Option.some.inj h0
  refine leave_retG [] ?_
  exact rG
 ·
  refine awp_loopF (ι := { p : Nat × Int // cmp_Or_int_l1 vals1 p.1 p.2 = some x9 }) (fun p => ⟨[(3, .int .i64 0), (6, .psl 1 (List.map (encInt .i64) vals1)), (7, .int .i64 (vals1.length : Int)), (8, .int .i64 p.1.2)], [], 40, []⟩) (fun p => p.1.1) ⟨(fu, 0), hxx9⟩ ⟨rF, rE, rfl, rfl, trivial, trivial⟩ (fun _ => Nat.le_refl _) ?_
  rintro ⟨⟨fu, v10⟩, h1⟩
  cases fu with
  | zero =>
   replace h1 : cmp_Or_int_l1 vals1 0 v10 = some x9 := h1
   rw [cmp_Or_int_l1] at h1; cases h1
  | succ fu =>
   replace h1 : cmp_Or_int_l1 vals1 (fu + 1) v10 = some x9 := h1
   rw [cmp_Or_int_l1] at h1
   refine (show AWP _ _ _ _ ⟨[(3, .int .i64 0), (6, .psl 1 (List.map (encInt .i64) vals1)), (7, .int .i64 (vals1.length : Int)), (8, .int .i64 v10)], [], 40, []⟩ from ?_)
   refine awp_sr2 48 [3, 6, 7, 8, 9] (fun _ => none) rfl (fun _ _ => rT) ?_
   refine awp_seq ?_
   refine awp_if rfl (fun hb11 => ?_) (fun hb11 => ?_)
   ·
    replace h1 := iteT h1 hb11
    refine awp_skip ?_
    refine kn_then ?_
    refine awp_seq ?_
    refine awp_block ?_
    obtain ⟨e12, he12, h1⟩ := bindS h1
    obtain ⟨he12a, he12b, he12c⟩ := idxS he12
    refine awp_sr2 72 [3, 5, 6, 7, 8] (fun _ => none) rfl (fun _ _ => rS (rA he12a (rA he12b he12c))) ?_
    refine awp_sr2 96 [3, 5, 6, 7, 8, 14] (fun _ => none) rfl (fun _ _ => rS (rA he12a (rA he12b he12c))) ?_
    refine awp_if rfl (fun hb13 => ?_) (fun hb13 => ?_)
    ·
     replace h1 := iteT h1 hb13
     refine awp_sr2 112 [2] (fun _ => none) rfl (fun _ _ => rS (rA he12a (rA he12b he12c))) ?_
     refine awp_ret ?_
     obtain rfl := Option.some.inj h1
     refine kr_block ?_
     refine kr_then ?_
     refine kr_then ?_
     refine kr_loop ?_
     refine kr_then ?_
     obtain rfl := Option.some.inj h0
     refine leave_retG [] ?_
     simp (maxSteps := 1000000) only [↓reduceIte, reduceCtorEq, Nat.reduceEqDiff, Nat.reduceLT, Nat.reduceLeDiff, Nat.reduceAdd, Nat.reduceMul, Int.reduceToNat, push_cast, Gives, he12a, he12b, he12c]
     all_goals exact rH
    ·
     replace h1 := iteF h1 hb13
     refine awp_skip ?_
     refine kn_block ?_
     refine kn_then ?_
     refine awp_r2 112 [3, 6, 7, 8] (fun _ => none) rfl (fun _ _ => rS (rA he12a (rA he12b he12c))) ?_
     refine kn_then ?_
     exact ⟨⟨(fu, (IntKind.i64.wrap (v10 + 1))), h1⟩, ⟨rF, rE, rfl, rfl, trivial, trivial⟩, Nat.lt_succ_self _⟩
   ·
    replace h1 := iteF h1 hb11
    refine awp_exit ?_
    refine kx_then ?_
    refine kx_then ?_
    refine kx_done ?_
    obtain rfl := Option.some.inj h1
    exact ⟨_, rfl, Nat.le_of_ble_eq_true rfl, ⟨rF, rE, rfl, rfl, trivial, trivial⟩⟩
end Go.T
end
section
namespace Go.T
open Go Go.AM Go.Proofs
set_option maxRecDepth 100000
set_option maxHeartbeats 4000000
set_option linter.unusedVariables false
theorem c_merge_Check {fu : Nat} {vs1 : TApiMgState} {r : Int × Int} (h0 : merge_Check fu vs1 = some r) : PCall Try.prog 44 [.agg (TApiMgState.enc vs1)] (.tup [.int .i64 r.1, .int .i64 r.2]) [] := by
 refine awp_pcall Try.func44 rfl (by decide) (Nat.le_of_ble_eq_true rfl) ?_
 dsimp only [Try.f44]
 rw [merge_Check] at h0
 refine (show AWP _ _ _ _ ⟨enumFr 0 _, [], 0, []⟩ from ?_)
 refine awp_sr2 24 [1] (fun _ => none) rfl (fun _ _ => rT) ?_
 refine awp_seq ?_
 obtain ⟨vr2, hvr2, h0⟩ := bindS h0
 refine awp_sr2 88 [1, 4, 5] (fun | 2 => some (.tup [.int .i64 vr2.1, .int .i64 vr2.2], []) | _ => none) rfl (fun _ _ => rC (c_merge_check hvr2)) ?_
 refine awp_sr2 104 [1, 4, 5, 19] (fun _ => none) rfl (fun _ _ => rT) ?_
 refine awp_if rfl (fun hb3 => ?_) (fun hb3 => ?_)
 ·
  replace h0 := iteT h0 hb3
  refine awp_sr2 136 [2, 3] (fun _ => none) rfl (fun _ _ => rT) ?_
  refine awp_ret ?_
  refine kr_then ?_
  obtain rfl := Option.some.inj h0
  refine leave_retG [] ?_
  exact rG
 ·
  replace h0 := iteF h0 hb3
  refine awp_skip ?_
  refine kn_then ?_
  refine awp_seq ?_
  refine awp_sr2 160 [1, 28] (fun _ => none) rfl (fun _ _ => rT) ?_
  refine awp_if rfl (fun hb4 => ?_) (fun hb4 => ?_)
  ·
   replace h0 := iteT h0 hb4
   refine awp_sr2 176 [2, 3] (fun _ => none) rfl (fun _ _ => rT) ?_
   refine awp_ret ?_
   refine kr_then ?_
   obtain rfl := Option.some.inj h0
   refine leave_retG [] ?_
   exact rG
  ·
   replace h0 := iteF h0 hb4
   refine awp_skip ?_
   refine kn_then ?_
   refine awp_seq ?_
   refine awp_sr2 192 [1, 30, 31, 32] (fun _ => none) rfl (fun _ _ => rT) ?_
   obtain ⟨x18, hxx18, h0⟩ := bindS h0
   refine awp_bloop (fun s' => ∃ o26 : Unit, x18 = .inl o26 ∧ s'.nx ≤ 200 ∧ LeN [] s' ⟨[(1, .ref 0 0 0 0)], [(0, ⟨0, true, true, 5, [[.psl 1 (List.map (encSl 4 TApiEntry.enc) vs1.Runs), .psl 1 (List.map (encInt .i64) vs1.At), .psl 2 (List.map TApiLsKey.enc vs1.Tree.Keys), .psl 1 (List.map (encInt .i64) vs1.Tree.Lose), .int .i64 vs1.Tree.Win]]⟩)], 200, []⟩) ?_ ?_
   ·
    intro s' hs
    obtain ⟨o26, rfl, hn, hs⟩ := hs
    refine kn_then ?_
    refine awp_re [] hn hs ?_
    refine awp_seq ?_
    obtain ⟨vr27, hvr27, h0⟩ := bindS h0
    obtain ⟨vr28, hvr28, h0⟩ := bindS h0
    refine awp_sd2 272 [1, 59] (fun | 6 => some (.agg (TApiLsTree.enc vr27), []) | 7 => some (.bool vr28, []) | _ => none) rfl rfl rfl (fun Kt hK => by
      try have q0 := c_merge_tree hvr27
      try have q1 := c_merge_alike hvr28
      exact rTd) ?_
    refine awp_if rfl (fun hb29 => ?_) (fun hb29 => ?_)
    ·
     replace h0 := iteT h0 hb29
     refine awp_sr2 288 [2, 3] (fun _ => none) rfl (fun _ _ => rT) ?_
     refine awp_ret ?_
     refine kr_then ?_
     obtain rfl := Option.some.inj h0
     refine leave_retG [] ?_
     exact rG
    ·
     replace h0 := iteF h0 hb29
     refine awp_skip ?_
     refine kn_then ?_
     obtain ⟨vr30, hvr30, h0⟩ := bindS h0
     refine awp_sr2 352 [1, 3, 8, 9] (fun | 2 => some (.tup [.int .i64 vr30.1, .str vr30.2.1, .int .i64 vr30.2.2], []) | _ => none) rfl (fun _ _ => rC (c_loser_Winner hvr30)) ?_
     refine awp_seq ?_
     refine awp_sr2 368 [1, 8, 9, 68] (fun _ => none) rfl (fun _ _ => rT) ?_
     refine awp_if rfl (fun hb31 => ?_) (fun hb31 => ?_)
     ·
      replace h0 := iteT h0 hb31
      refine awp_sr2 384 [2, 3] (fun _ => none) rfl (fun _ _ => rT) ?_
      refine awp_ret ?_
      refine kr_then ?_
      obtain rfl := Option.some.inj h0
      refine leave_retG [] ?_
      exact rG
     ·
      replace h0 := iteF h0 hb31
      refine awp_skip ?_
      refine kn_then ?_
      refine awp_seq ?_
      refine awp_sr2 400 [1, 8, 9, 70, 71, 72] (fun _ => none) rfl (fun _ _ => rT) ?_
      obtain ⟨x53, hxx53, h0⟩ := bindS h0
      refine awp_bloop (fun s' => ∃ o65 : Unit, x53 = .inl o65 ∧ s'.nx ≤ 408 ∧ LeN [] s' ⟨[], [(0, ⟨0, true, true, 5, [[.psl 1 (List.map (encSl 4 TApiEntry.enc) vs1.Runs), .psl 1 (List.map (encInt .i64) vs1.At), .psl 2 (List.map TApiLsKey.enc vs1.Tree.Keys), .psl 1 (List.map (encInt .i64) vs1.Tree.Lose), .int .i64 vs1.Tree.Win]]⟩)], 408, []⟩) ?_ ?_
      ·
       intro s' hs
       obtain ⟨o65, rfl, hn, hs⟩ := hs
       refine kn_then ?_
       refine awp_re [] hn hs ?_
       refine awp_sr2 424 [2, 3] (fun _ => none) rfl (fun _ _ => rT) ?_
       refine awp_ret ?_
       obtain rfl := Option.some.inj h0
       refine leave_retG [] ?_
       exact rG
      ·
       refine awp_loopF (ι := { p : Nat × Int // merge_Check_l2 vs1 vr30 p.1 p.2 = some x53 }) (fun p => ⟨[(1, .ref 0 0 0 0), (8, .int .i64 vr30.1), (9, .str vr30.2.1), (70, .psl 1 (List.map (encInt .i64) vs1.At)), (71, .int .i64 (vs1.At.length : Int)), (72, .int .i64 p.1.2)], [(0, ⟨0, true, true, 5, [[.psl 1 (List.map (encSl 4 TApiEntry.enc) vs1.Runs), .psl 1 (List.map (encInt .i64) vs1.At), .psl 2 (List.map TApiLsKey.enc vs1.Tree.Keys), .psl 1 (List.map (encInt .i64) vs1.Tree.Lose), .int .i64 vs1.Tree.Win]]⟩)], 400, []⟩) (fun p => p.1.1) ⟨(fu, 0), hxx53⟩ ⟨rF, rE, rfl, rfl, trivial, trivial⟩ (fun _ => Nat.le_refl _) ?_
       rintro ⟨⟨fu, v54⟩, h1⟩
       cases fu with
       | zero =>
   replace h1 : merge_Check_l2 vs1 vr30 0 v54 = some x53 := h1
   rw [merge_Check_l2] at h1; cases h1
       | succ fu =>
        replace h1 : merge_Check_l2 vs1 vr30 (fu + 1) v54 = some x53 := h1
        rw [merge_Check_l2] at h1
        refine (show AWP _ _ _ _ ⟨[(1, .ref 0 0 0 0), (8, .int .i64 vr30.1), (9, .str vr30.2.1), (70, .psl 1 (List.map (encInt .i64) vs1.At)), (71, .int .i64 (vs1.At.length : Int)), (72, .int .i64 v54)], [(0, ⟨0, true, true, 5, [[.psl 1 (List.map (encSl 4 TApiEntry.enc) vs1.Runs), .psl 1 (List.map (encInt .i64) vs1.At), .psl 2 (List.map TApiLsKey.enc vs1.Tree.Keys), .psl 1 (List.map (encInt .i64) vs1.Tree.Lose), .int .i64 vs1.Tree.Win]]⟩)], 400, []⟩ from ?_)
        refine awp_sr2 408 [1, 8, 9, 70, 71, 72, 73] (fun _ => none) rfl (fun _ _ => rT) ?_
        refine awp_seq ?_
        refine awp_if rfl (fun hb55 => ?_) (fun hb55 => ?_)
        ·
         replace h1 := iteT h1 hb55
         refine awp_skip ?_
         refine kn_then ?_
         refine awp_seq ?_
         refine awp_block ?_
         obtain ⟨e56, he56, h1⟩ := bindS h1
         obtain ⟨he56a, he56b, he56c⟩ := idxS he56
         refine awp_sr2 448 [1, 8, 9, 10, 11, 70, 71, 72] (fun _ => none) rfl (fun _ _ => rS (rA he56a (rA he56b he56c))) ?_
         obtain ⟨b62, hb62, h1⟩ := bindS h1
         refine awp_sr3 (fr' := [(1, .ref 0 0 0 0), (8, .int .i64 vr30.1), (9, .str vr30.2.1), (70, .psl 1 (List.map (encInt .i64) vs1.At)), (71, .int .i64 (vs1.At.length : Int)), (72, .int .i64 v54), (98, .bool b62)]) (hp' := [(0, ⟨0, true, true, 5, [[.psl 1 (List.map (encSl 4 TApiEntry.enc) vs1.Runs), .psl 1 (List.map (encInt .i64) vs1.At), .psl 2 (List.map TApiLsKey.enc vs1.Tree.Keys), .psl 1 (List.map (encInt .i64) vs1.Tree.Lose), .int .i64 vs1.Tree.Win]]⟩)]) [0] 624 [1, 8, 9, 70, 71, 72, 98] (fun | 14 => (ix vs1.Runs v54).bind fun e57 => (ix e57 (IntKind.i64.wrap (e56 - 1))).bind fun e58 => (cmp_Compare_string fu e58.Key vr30.2.1).bind fun vr59 => some (.int .i64 vr59, []) | 17 => (ix vs1.Runs v54).bind fun e57 => (ix e57 (IntKind.i64.wrap (e56 - 1))).bind fun e58 => (cmp_Compare_string fu e58.Key vr30.2.1).bind fun vr59 => (cmp_Compare_int fu v54 vr30.1).bind fun vr60 => some (.int .i64 vr60, []) | 19 => (ix vs1.Runs v54).bind fun e57 => (ix e57 (IntKind.i64.wrap (e56 - 1))).bind fun e58 => (cmp_Compare_string fu e58.Key vr30.2.1).bind fun vr59 => (cmp_Compare_int fu v54 vr30.1).bind fun vr60 => (cmp_Or_int fu [vr59, vr60]).bind fun vr61 => some (.int .i64 vr61, []) | _ => none) rfl (fun Kt hK => by
           cases hg63 : (decide (0 < e56)) with
           | false =>
            replace hb62 := iteF hb62 hg63
            have hqb62 := Option.some.inj hb62
            subst hqb62
            simp (maxSteps := 1000000) only [↓reduceIte, reduceCtorEq, Nat.reduceEqDiff, Nat.reduceLT, Nat.reduceLeDiff, Nat.reduceAdd, Nat.reduceMul, Int.reduceToNat, push_cast, he56a, he56b, he56c, ↓hg63]
            try simp only [↓hg63] at hK
            try have q0 := c_cmp_Compare_string hvr59
            try have q1 := c_cmp_Compare_int hvr60
            try have q2 := c_cmp_Or_int hvr61
            all_goals exact rU
           | true =>
            replace hb62 := iteT hb62 hg63
            obtain ⟨e57, he57, hb62⟩ := bindS hb62
            obtain ⟨he57a, he57b, he57c⟩ := idxS he57
            obtain ⟨e58, he58, hb62⟩ := bindS hb62
            obtain ⟨he58a, he58b, he58c⟩ := idxS he58
            obtain ⟨vr59, hvr59, hb62⟩ := bindS hb62
            obtain ⟨vr60, hvr60, hb62⟩ := bindS hb62
            obtain ⟨vr61, hvr61, hb62⟩ := bindS hb62
            have hqb62 := Option.some.inj hb62
            subst hqb62
            simp (maxSteps := 1000000) only [↓reduceIte, reduceCtorEq, Nat.reduceEqDiff, Nat.reduceLT, Nat.reduceLeDiff, Nat.reduceAdd, Nat.reduceMul, Int.reduceToNat, push_cast, he56a, he56b, he56c, ↓hg63, he57a, he57b, he57c, he57, he58a, he58b, he58c, he58, hvr59, hvr60, hvr61]
            try simp only [↓hg63] at hK
            try have q0 := c_cmp_Compare_string hvr59
            try have q1 := c_cmp_Compare_int hvr60
            try have q2 := c_cmp_Or_int hvr61
            all_goals exact rU) ?_
         refine awp_re (s2 := ⟨[(1, .ref 0 0 0 0), (8, .int .i64 vr30.1), (9, .str vr30.2.1), (70, .psl 1 (List.map (encInt .i64) vs1.At)), (71, .int .i64 (vs1.At.length : Int)), (72, .int .i64 v54), (98, .bool b62)], [(0, ⟨0, true, true, 5, [[.psl 1 (List.map (encSl 4 TApiEntry.enc) vs1.Runs), .psl 1 (List.map (encInt .i64) vs1.At), .psl 2 (List.map TApiLsKey.enc vs1.Tree.Keys), .psl 1 (List.map (encInt .i64) vs1.Tree.Lose), .int .i64 vs1.Tree.Win]]⟩)], 624, []⟩) [] (Nat.le_of_ble_eq_true rfl) ⟨rF, rE, rfl, rfl, trivial, trivial⟩ ?_
         refine awp_if rfl (fun hb64 => ?_) (fun hb64 => ?_)
         ·
          replace h1 := iteT h1 hb64
          refine awp_sr2 648 [2, 3] (fun _ => none) rfl (fun _ _ => rS (rA he56a (rA he56b he56c))) ?_
          refine awp_ret ?_
          obtain rfl := Option.some.inj h1
          refine kr_block ?_
          refine kr_then ?_
          refine kr_then ?_
          refine kr_loop ?_
          refine kr_then ?_
          obtain rfl := Option.some.inj h0
          refine leave_retG [] ?_
          simp (maxSteps := 1000000) only [↓reduceIte, reduceCtorEq, Nat.reduceEqDiff, Nat.reduceLT, Nat.reduceLeDiff, Nat.reduceAdd, Nat.reduceMul, Int.reduceToNat, push_cast, Gives, he56a, he56b, he56c]
          all_goals exact rH
         ·
          replace h1 := iteF h1 hb64
          refine awp_skip ?_
          refine kn_block ?_
          refine kn_then ?_
          refine awp_r2 640 [1, 8, 9, 70, 71, 72] (fun _ => none) rfl (fun _ _ => rS (rA he56a (rA he56b he56c))) ?_
          refine kn_then ?_
          exact ⟨⟨(fu, (IntKind.i64.wrap (v54 + 1))), h1⟩, ⟨rF, rE, rfl, rfl, trivial, trivial⟩, Nat.lt_succ_self _⟩
        ·
         replace h1 := iteF h1 hb55
         refine awp_exit ?_
         refine kx_then ?_
         refine kx_then ?_
         refine kx_done ?_
         obtain rfl := Option.some.inj h1
         exact ⟨_, rfl, Nat.le_of_ble_eq_true rfl, ⟨rF, rE, rfl, rfl, trivial, trivial⟩⟩
   ·
    refine awp_loopF (ι := { p : Nat × Int // merge_Check_l1 vs1 p.1 p.2 = some x18 }) (fun p => ⟨[(1, .ref 0 0 0 0), (30, .psl 1 (List.map (encInt .i64) vs1.At)), (31, .int .i64 (vs1.At.length : Int)), (32, .int .i64 p.1.2)], [(0, ⟨0, true, true, 5, [[.psl 1 (List.map (encSl 4 TApiEntry.enc) vs1.Runs), .psl 1 (List.map (encInt .i64) vs1.At), .psl 2 (List.map TApiLsKey.enc vs1.Tree.Keys), .psl 1 (List.map (encInt .i64) vs1.Tree.Lose), .int .i64 vs1.Tree.Win]]⟩)], 192, []⟩) (fun p => p.1.1) ⟨(fu, 0), hxx18⟩ ⟨rF, rE, rfl, rfl, trivial, trivial⟩ (fun _ => Nat.le_refl _) ?_
    rintro ⟨⟨fu, v19⟩, h1⟩
    cases fu with
    | zero =>
   replace h1 : merge_Check_l1 vs1 0 v19 = some x18 := h1
   rw [merge_Check_l1] at h1; cases h1
    | succ fu =>
     replace h1 : merge_Check_l1 vs1 (fu + 1) v19 = some x18 := h1
     rw [merge_Check_l1] at h1
     refine (show AWP _ _ _ _ ⟨[(1, .ref 0 0 0 0), (30, .psl 1 (List.map (encInt .i64) vs1.At)), (31, .int .i64 (vs1.At.length : Int)), (32, .int .i64 v19)], [(0, ⟨0, true, true, 5, [[.psl 1 (List.map (encSl 4 TApiEntry.enc) vs1.Runs), .psl 1 (List.map (encInt .i64) vs1.At), .psl 2 (List.map TApiLsKey.enc vs1.Tree.Keys), .psl 1 (List.map (encInt .i64) vs1.Tree.Lose), .int .i64 vs1.Tree.Win]]⟩)], 192, []⟩ from ?_)
     refine awp_sr2 200 [1, 30, 31, 32, 33] (fun _ => none) rfl (fun _ _ => rT) ?_
     refine awp_seq ?_
     refine awp_if rfl (fun hb20 => ?_) (fun hb20 => ?_)
     ·
      replace h1 := iteT h1 hb20
      refine awp_skip ?_
      refine kn_then ?_
      refine awp_seq ?_
      refine awp_block ?_
      obtain ⟨e21, he21, h1⟩ := bindS h1
      obtain ⟨he21a, he21b, he21c⟩ := idxS he21
      refine awp_sr2 240 [1, 6, 7, 30, 31, 32] (fun _ => none) rfl (fun _ _ => rS (rA he21a (rA he21b he21c))) ?_
      obtain ⟨b23, hb23, h1⟩ := bindS h1
      refine awp_sr3 (fr' := [(1, .ref 0 0 0 0), (6, .int .i64 v19), (30, .psl 1 (List.map (encInt .i64) vs1.At)), (31, .int .i64 (vs1.At.length : Int)), (32, .int .i64 v19), (48, .bool b23)]) (hp' := [(0, ⟨0, true, true, 5, [[.psl 1 (List.map (encSl 4 TApiEntry.enc) vs1.Runs), .psl 1 (List.map (encInt .i64) vs1.At), .psl 2 (List.map TApiLsKey.enc vs1.Tree.Keys), .psl 1 (List.map (encInt .i64) vs1.Tree.Lose), .int .i64 vs1.Tree.Win]]⟩)]) [0] 336 [1, 6, 30, 31, 32, 48] (fun _ => none) rfl (fun Kt hK => by
        cases hg24 : (decide (e21 < 0)) with
        | false =>
         replace hb23 := iteF hb23 hg24
         obtain ⟨e22, he22, hb23⟩ := bindS hb23
         obtain ⟨he22a, he22b, he22c⟩ := idxS he22
         have hqb23 := Option.some.inj hb23
         subst hqb23
         simp (maxSteps := 1000000) only [↓reduceIte, reduceCtorEq, Nat.reduceEqDiff, Nat.reduceLT, Nat.reduceLeDiff, Nat.reduceAdd, Nat.reduceMul, Int.reduceToNat, push_cast, he21a, he21b, he21c, ↓hg24, he22a, he22b, he22c, he22]
         try simp only [↓hg24] at hK
         all_goals exact rU
        | true =>
         replace hb23 := iteT hb23 hg24
         have hqb23 := Option.some.inj hb23
         subst hqb23
         simp (maxSteps := 1000000) only [↓reduceIte, reduceCtorEq, Nat.reduceEqDiff, Nat.reduceLT, Nat.reduceLeDiff, Nat.reduceAdd, Nat.reduceMul, Int.reduceToNat, push_cast, he21a, he21b, he21c, ↓hg24]
         try simp only [↓hg24] at hK
         all_goals exact rU) ?_
      refine awp_if rfl (fun hb25 => ?_) (fun hb25 => ?_)
      ·
       replace h1 := iteT h1 hb25
       refine awp_sr2 360 [2, 3] (fun _ => none) rfl (fun _ _ => rS (rA he21a (rA he21b he21c))) ?_
       refine awp_ret ?_
       obtain rfl := Option.some.inj h1
       refine kr_block ?_
       refine kr_then ?_
       refine kr_then ?_
       refine kr_loop ?_
       refine kr_then ?_
       obtain rfl := Option.some.inj h0
       refine leave_retG [] ?_
       simp (maxSteps := 1000000) only [↓reduceIte, reduceCtorEq, Nat.reduceEqDiff, Nat.reduceLT, Nat.reduceLeDiff, Nat.reduceAdd, Nat.reduceMul, Int.reduceToNat, push_cast, Gives, he21a, he21b, he21c]
       all_goals exact rH
      ·
       replace h1 := iteF h1 hb25
       refine awp_skip ?_
       refine kn_block ?_
       refine kn_then ?_
       refine awp_r2 352 [1, 30, 31, 32] (fun _ => none) rfl (fun _ _ => rS (rA he21a (rA he21b he21c))) ?_
       refine kn_then ?_
       exact ⟨⟨(fu, (IntKind.i64.wrap (v19 + 1))), h1⟩, ⟨rF, rE, rfl, rfl, trivial, trivial⟩, Nat.lt_succ_self _⟩
     ·
      replace h1 := iteF h1 hb20
      refine awp_exit ?_
      refine kx_then ?_
      refine kx_then ?_
      refine kx_done ?_
      obtain rfl := Option.some.inj h1
      exact ⟨_, rfl, Nat.le_of_ble_eq_true rfl, ⟨rF, rE, rfl, rfl, trivial, trivial⟩⟩
end Go.T
end
section
namespace Go.T
open Go Go.AM Go.Proofs
set_option maxRecDepth 100000
set_option maxHeartbeats 4000000
set_option linter.unusedVariables false
theorem c_merge_reader_peek {fu : Nat} {vr1 : List (List TApiEntry)} {vr2 : List Int} {vr3 : List TApiLsKey} {vr4 : List Int} {vr5 : Int} {r : TApiEntry × Int × Int} (h0 : merge_reader_peek fu vr1 vr2 vr3 vr4 vr5 = some r) : PCall Try.prog 75 [.pp [.psl 1 (vr1.map (encSl 4 TApiEntry.enc)), .psl 1 (vr2.map (encInt .i64)), .psl 2 (vr3.map TApiLsKey.enc), .psl 1 (vr4.map (encInt .i64)), .int .i64 vr5]] (.tup [.agg (TApiEntry.enc r.1), .int .i64 r.2.1, .int .i64 r.2.2]) [] := by
 refine awp_pcall Try.func75 rfl (by decide) (Nat.le_of_ble_eq_true rfl) ?_
 dsimp only [Try.f75]
 rw [merge_reader_peek] at h0
 refine (show AWP _ _ _ _ ⟨enumFr 0 _, [], 0, []⟩ from ?_)
 refine awp_sr2 24 [0, 2] (fun _ => none) rfl (fun _ _ => rT) ?_
 obtain ⟨vr6, hvr6, h0⟩ := bindS h0
 refine awp_sr2 128 [0, 2, 5, 7] (fun | 5 => some (.tup [.int .i64 vr6.1, .str vr6.2.1, .int .i64 vr6.2.2], []) | _ => none) rfl (fun _ _ => rC (c_loser_Winner hvr6)) ?_
 refine awp_seq ?_
 refine awp_sr2 144 [0, 2, 5, 7, 19] (fun _ => none) rfl (fun _ _ => rT) ?_
 refine awp_if rfl (fun hb7 => ?_) (fun hb7 => ?_)
 ·
  replace h0 := iteT h0 hb7
  refine awp_sr2 184 [2, 3, 4] (fun _ => none) rfl (fun _ _ => rT) ?_
  refine awp_ret ?_
  refine kr_then ?_
  obtain rfl := Option.some.inj h0
  refine leave_retG [] ?_
  exact rG
 ·
  replace h0 := iteF h0 hb7
  refine awp_skip ?_
  refine kn_then ?_
  obtain ⟨e8, he8, h0⟩ := bindS h0
  obtain ⟨he8a, he8b, he8c⟩ := idxS he8
  obtain ⟨e9, he9, h0⟩ := bindS h0
  obtain ⟨he9a, he9b, he9c⟩ := idxS he9
  obtain ⟨e10, he10, h0⟩ := bindS h0
  obtain ⟨he10a, he10b, he10c⟩ := idxS he10
  refine awp_sd2 320 [2, 3, 4] (fun _ => none) rfl rfl rfl (fun _ _ => rSd (rA he8a (rA he8b (rA he8c (rA he9a (rA he9b (rA he9c (rA he10a (rA he10b he10c))))))))) ?_
  refine awp_ret ?_
  obtain rfl := Option.some.inj h0
  refine leave_retG [] ?_
  simp (maxSteps := 1000000) only [↓reduceIte, reduceCtorEq, Nat.reduceEqDiff, Nat.reduceLT, Nat.reduceLeDiff, Nat.reduceAdd, Nat.reduceMul, Int.reduceToNat, push_cast, Gives, he8a, he8b, he8c, he9a, he9b, he9c, he10a, he10b, he10c]
  all_goals exact rH
end Go.T
end
section
namespace Go.T
open Go Go.AM Go.Proofs
set_option maxRecDepth 100000
set_option maxHeartbeats 4000000
set_option linter.unusedVariables false
theorem c_slices_Clone_apiLsKey_2 {fu : Nat} {vs1 : List TApiLsKey} {r : List TApiLsKey} (h0 : slices_Clone_apiLsKey_2 fu vs1 = some r) : PCall Try.prog 97 [.psl 2 (vs1.map TApiLsKey.enc)] (.sl 0 0 2 0 r.length) [⟨0, true, true, 2, r.map TApiLsKey.enc⟩] := by
 refine awp_pcall Try.func97 rfl (by decide) (Nat.le_of_ble_eq_true rfl) ?_
 dsimp only [Try.f97]
 rw [slices_Clone_apiLsKey_2] at h0
 refine (show AWP _ _ _ _ ⟨enumFr 0 _, [], 0, []⟩ from ?_)
 refine awp_sr2 8 [0] (fun _ => none) rfl (fun _ _ => rT) ?_
 refine awp_seq ?_
 cases hb2 : vs1.isEmpty with
 | true =>
  replace h0 := iteT h0 hb2
  obtain rfl : vs1 = [] := List.isEmpty_iff.1 hb2
  refine awp_sr2 24 [0, 4] (fun _ => none) rfl (fun _ _ => rT) ?_
  refine awp_cond_any rfl ?_ ?_
  ·
   skip
   refine awp_sr2 32 [2] (fun _ => none) rfl (fun _ _ => rT) ?_
   refine awp_re (s2 := ⟨[(2, .sl 32 0 2 0 0)], [(32, ⟨0, true, true, 2, List.map TApiLsKey.enc []⟩)], 33, []⟩) [(32, 2)] (Nat.le_of_ble_eq_true rfl) ⟨rF, rE, rfl, rfl, trivial, rN⟩ ?_
   refine awp_ret ?_
   refine kr_then ?_
   obtain rfl := Option.some.inj h0
   refine leave_retG [32] ?_
   exact rG
  ·
   skip
   refine awp_skip ?_
   refine kn_then ?_
   refine awp_sr2 56 [2] (fun _ => none) rfl (fun _ _ => rT) ?_
   refine awp_re (s2 := ⟨[(2, .sl 24 1 2 0 0)], [(24, ⟨1, true, true, 2, List.map TApiLsKey.enc []⟩)], 56, []⟩) [] (Nat.le_of_ble_eq_true rfl) ⟨rF, rE, rfl, rfl, trivial, trivial⟩ ?_
   refine awp_ret ?_
   obtain rfl := Option.some.inj h0
   refine leave_retG [24] ?_
   exact rG
 | false =>
  replace h0 := iteF h0 hb2
  refine awp_sr2 24 [0, 4] (fun _ => none) rfl (fun _ _ => rS hb2) ?_
  refine awp_condF rfl ?_
  refine awp_skip ?_
  refine kn_then ?_
  obtain ⟨hc3, h0⟩ := guS h0
  refine awp_sr2 56 [2] (fun _ => none) rfl (fun _ _ => rS hb2) ?_
  refine awp_re (s2 := ⟨[(2, .sl 24 1 2 0 vs1.length)], [(24, ⟨1, true, true, 2, List.map TApiLsKey.enc vs1⟩)], 56, []⟩) [] (Nat.le_of_ble_eq_true rfl) ⟨rF, rE, rfl, rfl, trivial, trivial⟩ ?_
  refine awp_ret ?_
  obtain rfl := Option.some.inj h0
  refine leave_retG [24] ?_
  simp (maxSteps := 1000000) only [↓reduceIte, reduceCtorEq, Nat.reduceEqDiff, Nat.reduceLT, Nat.reduceLeDiff, Nat.reduceAdd, Nat.reduceMul, Int.reduceToNat, push_cast, Gives, hb2]
  all_goals exact rH
end Go.T
end
section
namespace Go.T
open Go Go.AM Go.Proofs
set_option maxRecDepth 100000
set_option maxHeartbeats 4000000
set_option linter.unusedVariables false
theorem c_loser_play_3 {fu : Nat} {keys1 : List TApiLsKey} {r : TApiLsTree} (h0 : loser_play_3 fu keys1 = some r) : PCall Try.prog 86 [.psl 2 (keys1.map TApiLsKey.enc)] (.agg [.sl 0 0 2 0 r.Keys.length, .sl 1 0 1 0 r.Lose.length, .int .i64 r.Win]) [⟨0, true, true, 2, r.Keys.map TApiLsKey.enc⟩, ⟨0, true, true, 1, r.Lose.map (encInt .i64)⟩] := by
 refine awp_pcall Try.func86 rfl (by decide) (Nat.le_of_ble_eq_true rfl) ?_
 dsimp only [Try.f86]
 rw [loser_play_3] at h0
 refine (show AWP _ _ _ _ ⟨enumFr 0 _, [], 0, []⟩ from ?_)
 refine awp_sr2 8 [0, 2] (fun _ => none) rfl (fun _ _ => rT) ?_
 refine awp_sr2 32 [0, 2, 3] (fun _ => none) rfl (fun _ _ => rT) ?_
 obtain ⟨vr2, hvr2, h0⟩ := bindS h0
 refine awp_sr2 56 [0, 2, 3, 4] (fun | 1 => some (.fn 100 [] [.pp [.psl 2 (vr2.map TApiLsKey.enc)]], []) | _ => none) rfl (fun _ _ => rC (c_loser_judge hvr2)) ?_
 obtain ⟨hc3, h0⟩ := guS h0
 refine awp_sr2 88 [0, 2, 3, 4, 5] (fun _ => none) rfl (fun _ _ => rT) ?_
 refine awp_re (s2 := ⟨[(0, .psl 2 (List.map TApiLsKey.enc keys1)), (2, .ref 0 0 0 0), (3, .int .i64 (keys1.length : Int)), (4, .fn 100 [] [.pp [.psl 2 (List.map TApiLsKey.enc vr2)]]), (5, .sl 72 0 1 0 ((List.replicate (IntKind.i64.wrap (2 * (keys1.length : Int))).toNat 0 : List Int).length))], [(0, ⟨0, true, true, 3, [[.nils, .nils, .int .i64 0]]⟩), (72, ⟨0, true, true, 1, List.map (encInt .i64) (List.replicate (IntKind.i64.wrap (2 * (keys1.length : Int))).toNat 0 : List Int)⟩)], 88, []⟩) [] (Nat.le_of_ble_eq_true rfl) ⟨rF, rE, rfl, rfl, trivial, trivial⟩ ?_
 obtain ⟨vr4, hvr4, h0⟩ := bindS h0
 obtain ⟨hc5, h0⟩ := guS h0
 refine awp_sd2 144 [2, 3, 4, 5, 6] (fun | 1 => some (.sl 0 0 2 0 vr4.length, [⟨0, true, true, 2, vr4.map TApiLsKey.enc⟩]) | _ => none) rfl rfl rfl (fun _ _ => rCd (c_slices_Clone_apiLsKey_2 hvr4)) ?_
 refine awp_re (s2 := ⟨[(2, .ref 0 0 0 0), (3, .int .i64 (keys1.length : Int)), (4, .fn 100 [] [.pp [.psl 2 (List.map TApiLsKey.enc vr2)]]), (5, .sl 72 0 1 0 ((List.replicate (IntKind.i64.wrap (2 * (keys1.length : Int))).toNat 0 : List Int).length)), (6, .ref 128 0 0 0)], [(0, ⟨0, true, true, 3, [[.nils, .nils, .int .i64 0]]⟩), (72, ⟨0, true, true, 1, List.map (encInt .i64) (List.replicate (IntKind.i64.wrap (2 * (keys1.length : Int))).toNat 0 : List Int)⟩), (96, ⟨0, true, true, 2, List.map TApiLsKey.enc vr4⟩), (112, ⟨0, true, true, 1, List.map (encInt .i64) (List.replicate keys1.length 0 : List Int)⟩), (128, ⟨0, true, false, 3, [[.sl 96 0 2 0 vr4.length, .sl 112 0 1 0 ((List.replicate keys1.length 0 : List Int).length), .int .i64 0]]⟩)], 144, []⟩) [] (Nat.le_of_ble_eq_true rfl) ⟨rF, rE, rfl, rfl, trivial, trivial⟩ ?_
 refine awp_seq ?_
 refine awp_sr2 176 [2, 3, 4, 5, 6, 7] (fun _ => none) rfl (fun _ _ => rT) ?_
 obtain ⟨x33, hxx33, h0⟩ := bindS h0
 refine awp_bloop (fun s' => ∃ g50 : Nat, ∃ g51 : Nat, s'.nx ≤ 192 ∧ LeN [] s' ⟨[(2, .ref 0 0 0 0), (5, .sl 72 g50 1 0 x33.1.length), (6, .ref 128 0 0 0)], [(0, ⟨0, true, true, 3, [[.nils, .nils, .int .i64 0]]⟩), (72, ⟨g50, true, true, 1, List.map (encInt .i64) x33.1⟩), (96, ⟨0, true, true, 2, List.map TApiLsKey.enc vr4⟩), (112, ⟨g51, true, true, 1, List.map (encInt .i64) x33.2⟩), (128, ⟨0, true, false, 3, [[.sl 96 0 2 0 vr4.length, .sl 112 g51 1 0 x33.2.length, .int .i64 0]]⟩)], 192, []⟩) ?_ ?_
 ·
  intro s' hs
  obtain ⟨g50, g51, hn, hs⟩ := hs
  refine kn_then ?_
  refine awp_re [] hn hs ?_
  obtain ⟨e52, he52, h0⟩ := bindS h0
  have he52b := (idxS he52).2.1
  have he52c := (idxL 1 he52 rfl).1
  have he52a := (idxL 1 he52 rfl).2
  refine awp_sr2 232 [2, 6] (fun _ => none) rfl (fun _ _ => rS (rA he52a (rA he52b he52c))) ?_
  refine awp_sr2 248 [2] (fun _ => none) rfl (fun _ _ => rS (rA he52a (rA he52b he52c))) ?_
  refine awp_ret ?_
  obtain rfl := Option.some.inj h0
  refine leave_retG [96, 112] ?_
  simp (maxSteps := 1000000) only [↓reduceIte, reduceCtorEq, Nat.reduceEqDiff, Nat.reduceLT, Nat.reduceLeDiff, Nat.reduceAdd, Nat.reduceMul, Int.reduceToNat, push_cast, Gives, he52a, he52b, he52c]
  all_goals exact rH
 ·
  refine awp_loopF (ι := { p : Nat × Int × List Int × List Int × Nat × Nat // loser_play_3_l1 keys1 vr2 p.1 p.2.1 p.2.2.1 p.2.2.2.1 = some x33 }) (fun p => ⟨[(2, .ref 0 0 0 0), (3, .int .i64 (keys1.length : Int)), (4, .fn 100 [] [.pp [.psl 2 (List.map TApiLsKey.enc vr2)]]), (5, .sl 72 p.1.2.2.2.2.1 1 0 p.1.2.2.1.length), (6, .ref 128 0 0 0), (7, .int .i64 p.1.2.1)], [(0, ⟨0, true, true, 3, [[.nils, .nils, .int .i64 0]]⟩), (72, ⟨p.1.2.2.2.2.1, true, true, 1, List.map (encInt .i64) p.1.2.2.1⟩), (96, ⟨0, true, true, 2, List.map TApiLsKey.enc vr4⟩), (112, ⟨p.1.2.2.2.2.2, true, true, 1, List.map (encInt .i64) p.1.2.2.2.1⟩), (128, ⟨0, true, false, 3, [[.sl 96 0 2 0 vr4.length, .sl 112 p.1.2.2.2.2.2 1 0 p.1.2.2.2.1.length, .int .i64 0]]⟩)], 176, []⟩) (fun p => p.1.1) ⟨(fu, (IntKind.i64.wrap ((IntKind.i64.wrap (2 * (keys1.length : Int))) - 1)), (List.replicate (IntKind.i64.wrap (2 * (keys1.length : Int))).toNat 0 : List Int), (List.replicate keys1.length 0 : List Int), 0, 0), hxx33⟩ ⟨rF, rE, rfl, rfl, trivial, trivial⟩ (fun _ => Nat.le_refl _) ?_
  rintro ⟨⟨fu, i34, players35, v36, g37, g38⟩, h1⟩
  cases fu with
  | zero =>
   replace h1 : loser_play_3_l1 keys1 vr2 0 i34 players35 v36 = some x33 := h1
   rw [loser_play_3_l1] at h1; cases h1
  | succ fu =>
   replace h1 : loser_play_3_l1 keys1 vr2 (fu + 1) i34 players35 v36 = some x33 := h1
   rw [loser_play_3_l1] at h1
   refine (show AWP _ _ _ _ ⟨[(2, .ref 0 0 0 0), (3, .int .i64 (keys1.length : Int)), (4, .fn 100 [] [.pp [.psl 2 (List.map TApiLsKey.enc vr2)]]), (5, .sl 72 g37 1 0 players35.length), (6, .ref 128 0 0 0), (7, .int .i64 i34)], [(0, ⟨0, true, true, 3, [[.nils, .nils, .int .i64 0]]⟩), (72, ⟨g37, true, true, 1, List.map (encInt .i64) players35⟩), (96, ⟨0, true, true, 2, List.map TApiLsKey.enc vr4⟩), (112, ⟨g38, true, true, 1, List.map (encInt .i64) v36⟩), (128, ⟨0, true, false, 3, [[.sl 96 0 2 0 vr4.length, .sl 112 g38 1 0 v36.length, .int .i64 0]]⟩)], 176, []⟩ from ?_)
   refine awp_seq ?_
   refine awp_sr2 192 [2, 3, 4, 5, 6, 7, 26] (fun _ => none) rfl (fun _ _ => rT) ?_
   refine awp_if rfl (fun hb39 => ?_) (fun hb39 => ?_)
   ·
    replace h1 := iteT h1 hb39
    refine awp_skip ?_
    refine kn_then ?_
    refine awp_seq ?_
    refine awp_block ?_
    refine awp_seq ?_
    refine awp_sr2 216 [2, 3, 4, 5, 6, 7, 31] (fun _ => none) rfl (fun _ _ => rT) ?_
    refine awp_if rfl (fun hb40 => ?_) (fun hb40 => ?_)
    ·
     replace h1 := iteT h1 hb40
     obtain ⟨e41, he41, h1⟩ := bindS h1
     obtain ⟨he41a, he41b, he41c⟩ := idxS he41
     refine awp_sr2 272 [2, 3, 4, 5, 6, 7] (fun _ => none) rfl (fun _ _ => rS (rA he41a (rA he41b he41c))) ?_
     refine awp_re (s2 := ⟨[(2, .ref 0 0 0 0), (3, .int .i64 (keys1.length : Int)), (4, .fn 100 [] [.pp [.psl 2 (List.map TApiLsKey.enc vr2)]]), (5, .sl 72 g37 1 0 ((players35.set i34.toNat (IntKind.i64.wrap (i34 - (keys1.length : Int)))).length)), (6, .ref 128 0 0 0), (7, .int .i64 i34)], [(0, ⟨0, true, true, 3, [[.nils, .nils, .int .i64 0]]⟩), (72, ⟨g37, true, true, 1, List.map (encInt .i64) (players35.set i34.toNat (IntKind.i64.wrap (i34 - (keys1.length : Int))))⟩), (96, ⟨0, true, true, 2, List.map TApiLsKey.enc vr4⟩), (112, ⟨g38, true, true, 1, List.map (encInt .i64) v36⟩), (128, ⟨0, true, false, 3, [[.sl 96 0 2 0 vr4.length, .sl 112 g38 1 0 v36.length, .int .i64 0]]⟩)], 272, []⟩) [] (Nat.le_of_ble_eq_true rfl) ⟨rF, rE, rfl, rfl, trivial, trivial⟩ ?_
     refine awp_exit ?_
     refine kx_then ?_
     refine kx_same ?_
     refine kn_then ?_
     refine awp_r2 296 [2, 3, 4, 5, 6, 7] (fun _ => none) rfl (fun _ _ => rS (rA he41a (rA he41b he41c))) ?_
     refine kn_then ?_
     exact ⟨⟨(fu, (IntKind.i64.wrap (i34 - 1)), (players35.set i34.toNat (IntKind.i64.wrap (i34 - (keys1.length : Int)))), v36, g37, g38), h1⟩, ⟨rF, rE, rfl, rfl, trivial, trivial⟩, Nat.lt_succ_self _⟩
    ·
     replace h1 := iteF h1 hb40
     refine awp_skip ?_
     refine kn_then ?_
     obtain ⟨e42, he42, h1⟩ := bindS h1
     obtain ⟨he42a, he42b, he42c⟩ := idxS he42
     obtain ⟨e43, he43, h1⟩ := bindS h1
     obtain ⟨he43a, he43b, he43c⟩ := idxS he43
     refine awp_sd2 320 [2, 3, 4, 5, 6, 7, 8, 9] (fun _ => none) rfl rfl rfl (fun _ _ => rSd (rA he42a (rA he42b (rA he42c (rA he43a (rA he43b he43c)))))) ?_
     refine awp_seq ?_
     obtain ⟨vr44, hvr44, h1⟩ := bindS h1
     refine awp_sr2 360 [2, 3, 4, 5, 6, 7, 8, 9, 53] (fun | 3 => some (.bool vr44, []) | _ => none) rfl (fun _ _ => rB (rA he42a (rA he42b (rA he42c (rA he43a (rA he43b he43c))))) (c_loser_judge_1 hvr44)) ?_
     refine awp_if rfl (fun hb45 => ?_) (fun hb45 => ?_)
     ·
      replace h1 := iteT h1 hb45
      refine awp_r2 392 [2, 3, 4, 5, 6, 7, 8, 9] (fun _ => none) rfl (fun _ _ => rS (rA he42a (rA he42b (rA he42c (rA he43a (rA he43b he43c)))))) ?_
      refine kn_then ?_
      obtain ⟨e46, he46, h1⟩ := bindS h1
      obtain ⟨he46a, he46b, he46c⟩ := idxS he46
      obtain ⟨e47, he47, h1⟩ := bindS h1
      obtain ⟨he47a, he47b, he47c⟩ := idxS he47
      refine awp_d2 480 [2, 3, 4, 5, 6, 7] (fun _ => none) rfl rfl rfl (fun _ _ => rSd (rA he42a (rA he42b (rA he42c (rA he43a (rA he43b (rA he43c (rA he46a (rA he46b (rA he46c (rA he47a (rA he47b he47c)))))))))))) ?_
      refine kn_block ?_
      refine kn_then ?_
      refine awp_re (s2 := ⟨[(2, .ref 0 0 0 0), (3, .int .i64 (keys1.length : Int)), (4, .fn 100 [] [.pp [.psl 2 (List.map TApiLsKey.enc vr2)]]), (5, .sl 72 g37 1 0 ((players35.set i34.toNat e43).length)), (6, .ref 128 0 0 0), (7, .int .i64 i34)], [(0, ⟨0, true, true, 3, [[.nils, .nils, .int .i64 0]]⟩), (72, ⟨g37, true, true, 1, List.map (encInt .i64) (players35.set i34.toNat e43)⟩), (96, ⟨0, true, true, 2, List.map TApiLsKey.enc vr4⟩), (112, ⟨g38, true, true, 1, List.map (encInt .i64) (v36.set i34.toNat e42)⟩), (128, ⟨0, true, false, 3, [[.sl 96 0 2 0 vr4.length, .sl 112 g38 1 0 ((v36.set i34.toNat e42).length), .int .i64 0]]⟩)], 480, []⟩) [] (Nat.le_of_ble_eq_true rfl) ⟨rF, rE, rfl, rfl, trivial, trivial⟩ ?_
      refine awp_r2 504 [2, 3, 4, 5, 6, 7] (fun _ => none) rfl (fun _ _ => rS (rA he42a (rA he42b (rA he42c (rA he43a (rA he43b (rA he43c (rA he46a (rA he46b (rA he46c (rA he47a (rA he47b he47c)))))))))))) ?_
      refine kn_then ?_
      exact ⟨⟨(fu, (IntKind.i64.wrap (i34 - 1)), (players35.set i34.toNat e43), (v36.set i34.toNat e42), g37, g38), h1⟩, ⟨rF, rE, rfl, rfl, trivial, trivial⟩, Nat.lt_succ_self _⟩
     ·
      replace h1 := iteF h1 hb45
      refine awp_skip ?_
      refine kn_then ?_
      obtain ⟨e48, he48, h1⟩ := bindS h1
      obtain ⟨he48a, he48b, he48c⟩ := idxS he48
      obtain ⟨e49, he49, h1⟩ := bindS h1
      obtain ⟨he49a, he49b, he49c⟩ := idxS he49
      refine awp_d2 448 [2, 3, 4, 5, 6, 7] (fun _ => none) rfl rfl rfl (fun _ _ => rSd (rA he42a (rA he42b (rA he42c (rA he43a (rA he43b (rA he43c (rA he48a (rA he48b (rA he48c (rA he49a (rA he49b he49c)))))))))))) ?_
      refine kn_block ?_
      refine kn_then ?_
      refine awp_re (s2 := ⟨[(2, .ref 0 0 0 0), (3, .int .i64 (keys1.length : Int)), (4, .fn 100 [] [.pp [.psl 2 (List.map TApiLsKey.enc vr2)]]), (5, .sl 72 g37 1 0 ((players35.set i34.toNat e42).length)), (6, .ref 128 0 0 0), (7, .int .i64 i34)], [(0, ⟨0, true, true, 3, [[.nils, .nils, .int .i64 0]]⟩), (72, ⟨g37, true, true, 1, List.map (encInt .i64) (players35.set i34.toNat e42)⟩), (96, ⟨0, true, true, 2, List.map TApiLsKey.enc vr4⟩), (112, ⟨g38, true, true, 1, List.map (encInt .i64) (v36.set i34.toNat e43)⟩), (128, ⟨0, true, false, 3, [[.sl 96 0 2 0 vr4.length, .sl 112 g38 1 0 ((v36.set i34.toNat e43).length), .int .i64 0]]⟩)], 448, []⟩) [] (Nat.le_of_ble_eq_true rfl) ⟨rF, rE, rfl, rfl, trivial, trivial⟩ ?_
      refine awp_r2 472 [2, 3, 4, 5, 6, 7] (fun _ => none) rfl (fun _ _ => rS (rA he42a (rA he42b (rA he42c (rA he43a (rA he43b (rA he43c (rA he48a (rA he48b (rA he48c (rA he49a (rA he49b he49c)))))))))))) ?_
      refine kn_then ?_
      exact ⟨⟨(fu, (IntKind.i64.wrap (i34 - 1)), (players35.set i34.toNat e42), (v36.set i34.toNat e43), g37, g38), h1⟩, ⟨rF, rE, rfl, rfl, trivial, trivial⟩, Nat.lt_succ_self _⟩
   ·
    replace h1 := iteF h1 hb39
    refine awp_exit ?_
    refine kx_then ?_
    refine kx_then ?_
    refine kx_done ?_
    obtain rfl := Option.some.inj h1
    exact ⟨g37, g38, Nat.le_of_ble_eq_true rfl, ⟨rF, rE, rfl, rfl, trivial, trivial⟩⟩
end Go.T
end
section
namespace Go.T
open Go Go.AM Go.Proofs
set_option maxRecDepth 100000
set_option maxHeartbeats 4000000
set_option linter.unusedVariables false
theorem c_loser_Build_3 {fu : Nat} {keys1 : List TApiLsKey} {r : TApiLsTree × Int} (h0 : loser_Build_3 fu keys1 = some r) : PCall Try.prog 72 [.psl 2 (keys1.map TApiLsKey.enc)] (.tup [.agg [.sl 0 0 2 0 r.1.Keys.length, .sl 1 0 1 0 r.1.Lose.length, .int .i64 r.1.Win], .int .i64 r.2]) [⟨0, true, true, 2, r.1.Keys.map TApiLsKey.enc⟩, ⟨0, true, true, 1, r.1.Lose.map (encInt .i64)⟩] := by
 refine awp_pcall Try.func72 rfl (by decide) (Nat.le_of_ble_eq_true rfl) ?_
 dsimp only [Try.f72]
 rw [loser_Build_3] at h0
 refine (show AWP _ _ _ _ ⟨enumFr 0 _, [], 0, []⟩ from ?_)
 refine awp_sr2 16 [0, 2] (fun _ => none) rfl (fun _ _ => rT) ?_
 refine awp_seq ?_
 obtain ⟨vr2, hvr2, h0⟩ := bindS h0
 refine awp_sr2 40 [0, 2, 4] (fun | 1 => some (.int .i64 vr2, []) | _ => none) rfl (fun _ _ => rC (c_loser_check hvr2)) ?_
 refine awp_sr2 56 [0, 2, 4, 8] (fun _ => none) rfl (fun _ _ => rT) ?_
 refine awp_if rfl (fun hb3 => ?_) (fun hb3 => ?_)
 ·
  replace h0 := iteT h0 hb3
  refine awp_sr2 88 [2, 3] (fun _ => none) rfl (fun _ _ => rT) ?_
  refine awp_re (s2 := ⟨[(2, .ref 0 0 0 0), (3, .int .i64 vr2)], [(0, ⟨0, true, false, 3, [[.sl 88 0 2 0 0, .sl 89 0 1 0 0, .int .i64 0]]⟩), (88, ⟨0, true, true, 2, List.map TApiLsKey.enc []⟩), (89, ⟨0, true, true, 1, List.map (encInt .i64) []⟩)], 90, []⟩) [(88, 2), (89, 1)] (Nat.le_of_ble_eq_true rfl) ⟨rF, rE, rfl, rfl, trivial, rN⟩ ?_
  refine awp_ret ?_
  refine kr_then ?_
  obtain rfl := Option.some.inj h0
  refine leave_retG [88, 89] ?_
  exact rG
 ·
  replace h0 := iteF h0 hb3
  refine awp_skip ?_
  refine kn_then ?_
  obtain ⟨vr4, hvr4, h0⟩ := bindS h0
  refine awp_sr2 88 [2, 3] (fun | 1 => some (.agg [.sl 0 0 2 0 vr4.Keys.length, .sl 1 0 1 0 vr4.Lose.length, .int .i64 vr4.Win], [⟨0, true, true, 2, vr4.Keys.map TApiLsKey.enc⟩, ⟨0, true, true, 1, vr4.Lose.map (encInt .i64)⟩]) | _ => none) rfl (fun _ _ => rC (c_loser_play_3 hvr4)) ?_
  refine awp_ret ?_
  obtain rfl := Option.some.inj h0
  refine leave_retG [64, 65] ?_
  exact rG
end Go.T
end
section
namespace Go.T
open Go Go.AM Go.Proofs
set_option maxRecDepth 100000
set_option maxHeartbeats 4000000
set_option linter.unusedVariables false
theorem c_merge_tree_2 {fu : Nat} {runs1 : List (List TApiEntry)} {vat2 : List Int} {r : TApiLsTree} (h0 : merge_tree_2 fu runs1 vat2 = some r) : PCall Try.prog 54 [.psl 1 (runs1.map (encSl 4 TApiEntry.enc)), .psl 1 (vat2.map (encInt .i64))] (.agg [.sl 0 0 2 0 r.Keys.length, .sl 1 0 1 0 r.Lose.length, .int .i64 r.Win]) [⟨0, true, true, 2, r.Keys.map TApiLsKey.enc⟩, ⟨0, true, true, 1, r.Lose.map (encInt .i64)⟩] := by
 refine awp_pcall Try.func54 rfl (by decide) (Nat.le_of_ble_eq_true rfl) ?_
 dsimp only [Try.f54]
 rw [merge_tree_2] at h0
 refine (show AWP _ _ _ _ ⟨enumFr 0 _, [], 0, []⟩ from ?_)
 refine awp_sr2 8 [0, 1, 4] (fun _ => none) rfl (fun _ _ => rT) ?_
 obtain ⟨hc3, h0⟩ := guS h0
 refine awp_sr2 40 [0, 1, 4, 5] (fun _ => none) rfl (fun _ _ => rT) ?_
 refine awp_re (s2 := ⟨[(0, .psl 1 (List.map (encSl 4 TApiEntry.enc) runs1)), (1, .psl 1 (List.map (encInt .i64) vat2)), (4, .ref 0 0 0 0), (5, .sl 24 0 2 0 ((List.replicate runs1.length (TApiLsKey.mk [] false) : List TApiLsKey).length))], [(0, ⟨0, true, true, 3, [[.nils, .nils, .int .i64 0]]⟩), (24, ⟨0, true, true, 2, List.map TApiLsKey.enc (List.replicate runs1.length (TApiLsKey.mk [] false) : List TApiLsKey)⟩)], 40, []⟩) [] (Nat.le_of_ble_eq_true rfl) ⟨rF, rE, rfl, rfl, trivial, trivial⟩ ?_
 refine awp_seq ?_
 refine awp_sr2 64 [1, 4, 5, 13, 14, 15] (fun _ => none) rfl (fun _ _ => rT) ?_
 obtain ⟨x17, hxx17, h0⟩ := bindS h0
 refine awp_bloop (fun s' => ∃ g26 : Nat, s'.nx ≤ 72 ∧ LeN [] s' ⟨[(4, .ref 0 0 0 0), (5, .sl 24 g26 2 0 x17.length)], [(0, ⟨0, true, true, 3, [[.nils, .nils, .int .i64 0]]⟩), (24, ⟨g26, true, true, 2, List.map TApiLsKey.enc x17⟩)], 72, []⟩) ?_ ?_
 ·
  intro s' hs
  obtain ⟨g26, hn, hs⟩ := hs
  refine kn_then ?_
  refine awp_re [] hn hs ?_
  obtain ⟨vr27, hvr27, h0⟩ := bindS h0
  refine awp_sr2 136 [4, 8] (fun | 1 => some (.tup [.agg [.sl 0 0 2 0 vr27.1.Keys.length, .sl 1 0 1 0 vr27.1.Lose.length, .int .i64 vr27.1.Win], .int .i64 vr27.2], [⟨0, true, true, 2, vr27.1.Keys.map TApiLsKey.enc⟩, ⟨0, true, true, 1, vr27.1.Lose.map (encInt .i64)⟩]) | _ => none) rfl (fun _ _ => rC (c_loser_Build_3 hvr27)) ?_
  refine awp_sr2 152 [4] (fun _ => none) rfl (fun _ _ => rT) ?_
  refine awp_ret ?_
  obtain rfl := Option.some.inj h0
  refine leave_retG [80, 81] ?_
  exact rG
 ·
  refine awp_loopF (ι := { p : Nat × Int × List TApiLsKey × Nat // merge_tree_2_l1 runs1 vat2 p.1 p.2.1 p.2.2.1 = some x17 }) (fun p => ⟨[(1, .psl 1 (List.map (encInt .i64) vat2)), (4, .ref 0 0 0 0), (5, .sl 24 p.1.2.2.2 2 0 p.1.2.2.1.length), (13, .psl 1 (List.map (encSl 4 TApiEntry.enc) runs1)), (14, .int .i64 (runs1.length : Int)), (15, .int .i64 p.1.2.1)], [(0, ⟨0, true, true, 3, [[.nils, .nils, .int .i64 0]]⟩), (24, ⟨p.1.2.2.2, true, true, 2, List.map TApiLsKey.enc p.1.2.2.1⟩)], 64, []⟩) (fun p => p.1.1) ⟨(fu, 0, (List.replicate runs1.length (TApiLsKey.mk [] false) : List TApiLsKey), 0), hxx17⟩ ⟨rF, rE, rfl, rfl, trivial, trivial⟩ (fun _ => Nat.le_refl _) ?_
  rintro ⟨⟨fu, v18, keys19, g20⟩, h1⟩
  cases fu with
  | zero =>
   replace h1 : merge_tree_2_l1 runs1 vat2 0 v18 keys19 = some x17 := h1
   rw [merge_tree_2_l1] at h1; cases h1
  | succ fu =>
   replace h1 : merge_tree_2_l1 runs1 vat2 (fu + 1) v18 keys19 = some x17 := h1
   rw [merge_tree_2_l1] at h1
   refine (show AWP _ _ _ _ ⟨[(1, .psl 1 (List.map (encInt .i64) vat2)), (4, .ref 0 0 0 0), (5, .sl 24 g20 2 0 keys19.length), (13, .psl 1 (List.map (encSl 4 TApiEntry.enc) runs1)), (14, .int .i64 (runs1.length : Int)), (15, .int .i64 v18)], [(0, ⟨0, true, true, 3, [[.nils, .nils, .int .i64 0]]⟩), (24, ⟨g20, true, true, 2, List.map TApiLsKey.enc keys19⟩)], 64, []⟩ from ?_)
   refine awp_sr2 72 [1, 4, 5, 13, 14, 15, 16] (fun _ => none) rfl (fun _ _ => rT) ?_
   refine awp_seq ?_
   refine awp_if rfl (fun hb21 => ?_) (fun hb21 => ?_)
   ·
    replace h1 := iteT h1 hb21
    refine awp_skip ?_
    refine kn_then ?_
    refine awp_seq ?_
    refine awp_block ?_
    obtain ⟨e22, he22, h1⟩ := bindS h1
    obtain ⟨he22a, he22b, he22c⟩ := idxS he22
    refine awp_sr2 112 [1, 4, 5, 6, 7, 13, 14, 15] (fun _ => none) rfl (fun _ _ => rS (rA he22a (rA he22b he22c))) ?_
    obtain ⟨e23, he23, h1⟩ := bindS h1
    obtain ⟨he23a, he23b, he23c⟩ := idxS he23
    obtain ⟨vr24, hvr24, h1⟩ := bindS h1
    obtain ⟨e25, he25, h1⟩ := bindS h1
    obtain ⟨he25a, he25b, he25c⟩ := idxS he25
    refine awp_r2 192 [1, 4, 5, 13, 14, 15] (fun | 7 => some (.agg (TApiLsKey.enc vr24), []) | _ => none) rfl (fun _ _ => rB (rA he22a (rA he22b (rA he22c (rA he23a (rA he23b (rA he23c (rA he25a (rA he25b he25c)))))))) (c_merge_next hvr24)) ?_
    refine kn_block ?_
    refine kn_then ?_
    refine awp_re (s2 := ⟨[(1, .psl 1 (List.map (encInt .i64) vat2)), (4, .ref 0 0 0 0), (5, .sl 24 g20 2 0 ((keys19.set v18.toNat vr24).length)), (13, .psl 1 (List.map (encSl 4 TApiEntry.enc) runs1)), (14, .int .i64 (runs1.length : Int)), (15, .int .i64 v18)], [(0, ⟨0, true, true, 3, [[.nils, .nils, .int .i64 0]]⟩), (24, ⟨g20, true, true, 2, List.map TApiLsKey.enc (keys19.set v18.toNat vr24)⟩)], 192, []⟩) [] (Nat.le_of_ble_eq_true rfl) ⟨rF, rE, rfl, rfl, trivial, trivial⟩ ?_
    refine awp_r2 208 [1, 4, 5, 13, 14, 15] (fun _ => none) rfl (fun _ _ => rS (rA he22a (rA he22b (rA he22c (rA he23a (rA he23b (rA he23c (rA he25a (rA he25b he25c))))))))) ?_
    refine kn_then ?_
    exact ⟨⟨(fu, (IntKind.i64.wrap (v18 + 1)), (keys19.set v18.toNat vr24), g20), h1⟩, ⟨rF, rE, rfl, rfl, trivial, trivial⟩, Nat.lt_succ_self _⟩
   ·
    replace h1 := iteF h1 hb21
    refine awp_exit ?_
    refine kx_then ?_
    refine kx_then ?_
    refine kx_done ?_
    obtain rfl := Option.some.inj h1
    exact ⟨g20, Nat.le_of_ble_eq_true rfl, ⟨rF, rE, rfl, rfl, trivial, trivial⟩⟩
end Go.T
end
section
namespace Go.T
open Go Go.AM Go.Proofs
set_option maxRecDepth 100000
set_option maxHeartbeats 4000000
set_option linter.unusedVariables false
theorem c_merge_Begin_2 {fu : Nat} {runs1 : List (List TApiEntry)} {r : TApiMgState × Int × Int} (h0 : merge_Begin_2 fu runs1 = some r) : PCall Try.prog 30 [.psl 1 (runs1.map (encSl 4 TApiEntry.enc))] (.tup [.agg [.psl 1 (List.map (encSl 4 TApiEntry.enc) r.1.Runs), .sl 0 0 1 0 r.1.At.length, .psl 2 (List.map TApiLsKey.enc r.1.Tree.Keys), .psl 1 (List.map (encInt .i64) r.1.Tree.Lose), .int .i64 r.1.Tree.Win], .int .i64 r.2.1, .int .i64 r.2.2]) [⟨0, true, true, 1, r.1.At.map (encInt .i64)⟩] := by
 refine awp_pcall Try.func30 rfl (by decide) (Nat.le_of_ble_eq_true rfl) ?_
 dsimp only [Try.f30]
 rw [merge_Begin_2] at h0
 refine (show AWP _ _ _ _ ⟨enumFr 0 _, [], 0, []⟩ from ?_)
 refine awp_sr2 24 [0, 2] (fun _ => none) rfl (fun _ _ => rT) ?_
 refine awp_seq ?_
 obtain ⟨vr2, hvr2, h0⟩ := bindS h0
 refine awp_sr2 80 [0, 2, 5, 6] (fun | 1 => some (.tup [.int .i64 vr2.1, .int .i64 vr2.2], []) | _ => none) rfl (fun _ _ => rC (c_merge_check hvr2)) ?_
 refine awp_sr2 96 [0, 2, 5, 6, 14] (fun _ => none) rfl (fun _ _ => rT) ?_
 refine awp_if rfl (fun hb3 => ?_) (fun hb3 => ?_)
 ·
  replace h0 := iteT h0 hb3
  refine awp_sr2 144 [2, 3, 4] (fun _ => none) rfl (fun _ _ => rT) ?_
  refine awp_re (s2 := ⟨[(2, .ref 0 0 0 0), (3, .int .i64 vr2.1), (4, .int .i64 vr2.2)], [(0, ⟨0, true, false, 5, [[.nils, .sl 144 0 1 0 0, .nils, .nils, .int .i64 0]]⟩), (144, ⟨0, true, true, 1, List.map (encInt .i64) []⟩)], 145, []⟩) [(144, 1)] (Nat.le_of_ble_eq_true rfl) ⟨rF, rE, rfl, rfl, trivial, rN⟩ ?_
  refine awp_ret ?_
  refine kr_then ?_
  obtain rfl := Option.some.inj h0
  refine leave_retG [144] ?_
  exact rG
 ·
  replace h0 := iteF h0 hb3
  refine awp_skip ?_
  refine kn_then ?_
  obtain ⟨hc4, h0⟩ := guS h0
  refine awp_sr2 128 [0, 2, 7] (fun _ => none) rfl (fun _ _ => rT) ?_
  refine awp_re (s2 := ⟨[(0, .psl 1 (List.map (encSl 4 TApiEntry.enc) runs1)), (2, .ref 0 0 0 0), (7, .sl 112 0 1 0 ((List.replicate runs1.length 0 : List Int).length))], [(0, ⟨0, true, true, 5, [[.nils, .nils, .nils, .nils, .int .i64 0]]⟩), (112, ⟨0, true, true, 1, List.map (encInt .i64) (List.replicate runs1.length 0 : List Int)⟩)], 128, []⟩) [] (Nat.le_of_ble_eq_true rfl) ⟨rF, rE, rfl, rfl, trivial, trivial⟩ ?_
  obtain ⟨vr5, hvr5, h0⟩ := bindS h0
  obtain ⟨vr6, hvr6, h0⟩ := bindS h0
  refine awp_sr2 208 [2, 3, 4] (fun | 1 => some (.psl 1 (vr5.map (encSl 4 TApiEntry.enc)), []) | 5 => some (.agg [.sl 0 0 2 0 vr6.Keys.length, .sl 1 0 1 0 vr6.Lose.length, .int .i64 vr6.Win], [⟨0, true, true, 2, vr6.Keys.map TApiLsKey.enc⟩, ⟨0, true, true, 1, vr6.Lose.map (encInt .i64)⟩]) | _ => none) rfl (fun Kt hK => by
    try have q0 := c_slices_Clone_apiEntry hvr5
    try have q1 := c_merge_tree_2 hvr6
    exact rT) ?_
  refine awp_ret ?_
  obtain rfl := Option.some.inj h0
  refine leave_retG [112] ?_
  exact rG
end Go.T
end
section
namespace Go.T
open Go Go.AM Go.Proofs
set_option maxRecDepth 100000
set_option maxHeartbeats 4000000
set_option linter.unusedVariables false
theorem c_slices_Clone_int_2 {fu : Nat} {vs1 : List Int} {r : List Int} (h0 : slices_Clone_int_2 fu vs1 = some r) : PCall Try.prog 91 [.psl 1 (vs1.map (encInt .i64))] (.sl 0 0 1 0 r.length) [⟨0, true, true, 1, r.map (encInt .i64)⟩] := by
 refine awp_pcall Try.func91 rfl (by decide) (Nat.le_of_ble_eq_true rfl) ?_
 dsimp only [Try.f91]
 rw [slices_Clone_int_2] at h0
 refine (show AWP _ _ _ _ ⟨enumFr 0 _, [], 0, []⟩ from ?_)
 refine awp_sr2 8 [0] (fun _ => none) rfl (fun _ _ => rT) ?_
 refine awp_seq ?_
 cases hb2 : vs1.isEmpty with
 | true =>
  replace h0 := iteT h0 hb2
  obtain rfl : vs1 = [] := List.isEmpty_iff.1 hb2
  refine awp_sr2 24 [0, 4] (fun _ => none) rfl (fun _ _ => rT) ?_
  refine awp_cond_any rfl ?_ ?_
  ·
   skip
   refine awp_sr2 32 [2] (fun _ => none) rfl (fun _ _ => rT) ?_
   refine awp_re (s2 := ⟨[(2, .sl 32 0 1 0 0)], [(32, ⟨0, true, true, 1, List.map (encInt .i64) []⟩)], 33, []⟩) [(32, 1)] (Nat.le_of_ble_eq_true rfl) ⟨rF, rE, rfl, rfl, trivial, rN⟩ ?_
   refine awp_ret ?_
   refine kr_then ?_
   obtain rfl := Option.some.inj h0
   refine leave_retG [32] ?_
   exact rG
  ·
   skip
   refine awp_skip ?_
   refine kn_then ?_
   refine awp_sr2 56 [2] (fun _ => none) rfl (fun _ _ => rT) ?_
   refine awp_re (s2 := ⟨[(2, .sl 24 1 1 0 0)], [(24, ⟨1, true, true, 1, List.map (encInt .i64) []⟩)], 56, []⟩) [] (Nat.le_of_ble_eq_true rfl) ⟨rF, rE, rfl, rfl, trivial, trivial⟩ ?_
   refine awp_ret ?_
   obtain rfl := Option.some.inj h0
   refine leave_retG [24] ?_
   exact rG
 | false =>
  replace h0 := iteF h0 hb2
  refine awp_sr2 24 [0, 4] (fun _ => none) rfl (fun _ _ => rS hb2) ?_
  refine awp_condF rfl ?_
  refine awp_skip ?_
  refine kn_then ?_
  obtain ⟨hc3, h0⟩ := guS h0
  refine awp_sr2 56 [2] (fun _ => none) rfl (fun _ _ => rS hb2) ?_
  refine awp_re (s2 := ⟨[(2, .sl 24 1 1 0 vs1.length)], [(24, ⟨1, true, true, 1, List.map (encInt .i64) vs1⟩)], 56, []⟩) [] (Nat.le_of_ble_eq_true rfl) ⟨rF, rE, rfl, rfl, trivial, trivial⟩ ?_
  refine awp_ret ?_
  obtain rfl := Option.some.inj h0
  refine leave_retG [24] ?_
  simp (maxSteps := 1000000) only [↓reduceIte, reduceCtorEq, Nat.reduceEqDiff, Nat.reduceLT, Nat.reduceLeDiff, Nat.reduceAdd, Nat.reduceMul, Int.reduceToNat, push_cast, Gives, hb2]
  all_goals exact rH
end Go.T
end
section
namespace Go.T
open Go Go.AM Go.Proofs
set_option maxRecDepth 100000
set_option maxHeartbeats 4000000
set_option linter.unusedVariables false
theorem c_loser_Replace {fu : Nat} {t1 : TApiLsTree} {k2 : TApiLsKey} {r : TApiLsTree × Int × Int} (h0 : loser_Replace fu t1 k2 = some r) : PCall Try.prog 89 [.agg (TApiLsTree.enc t1), .agg (TApiLsKey.enc k2)] (.tup [.agg (TApiLsTree.enc r.1), .int .i64 r.2.1, .int .i64 r.2.2]) [] := by
 refine awp_pcall Try.func89 rfl (by decide) (Nat.le_of_ble_eq_true rfl) ?_
 dsimp only [Try.f89]
 rw [loser_Replace] at h0
 refine (show AWP _ _ _ _ ⟨enumFr 0 _, [], 0, []⟩ from ?_)
 refine awp_sr2 40 [2, 3, 4, 5] (fun _ => none) rfl (fun _ _ => rT) ?_
 refine awp_scope ?_
 refine awp_seq ?_
 obtain ⟨vr3, hvr3, h0⟩ := bindS h0
 refine awp_sr2 64 [2, 3, 4, 5, 7] (fun | 1 => some (.int .i64 vr3, []) | _ => none) rfl (fun _ _ => rC (c_loser_open hvr3)) ?_
 refine awp_sr2 80 [2, 3, 4, 5, 7, 14] (fun _ => none) rfl (fun _ _ => rT) ?_
 refine awp_if rfl (fun hb4 => ?_) (fun hb4 => ?_)
 ·
  replace h0 := iteT h0 hb4
  refine awp_sr2 120 [4, 5, 6] (fun _ => none) rfl (fun _ _ => rT) ?_
  refine awp_ret ?_
  refine kr_then ?_
  refine kr_scope ?_
  obtain rfl := Option.some.inj h0
  refine leave_retG [] ?_
  exact rG
 ·
  replace h0 := iteF h0 hb4
  refine awp_skip ?_
  refine kn_then ?_
  refine awp_seq ?_
  obtain ⟨vr5, hvr5, h0⟩ := bindS h0
  refine awp_sr2 112 [2, 3, 4, 5, 8] (fun | 2 => some (.int .i64 vr5, []) | _ => none) rfl (fun _ _ => rC (c_loser_check hvr5)) ?_
  refine awp_re (s2 := ⟨[(2, .ref 0 0 0 0), (3, .ref 8 0 0 0), (4, .ref 16 0 0 0), (5, .int .i64 0), (8, .int .i64 vr5)], [(0, ⟨0, true, true, 3, [[.psl 2 (List.map TApiLsKey.enc t1.Keys), .psl 1 (List.map (encInt .i64) t1.Lose), .int .i64 t1.Win]]⟩), (8, ⟨0, true, true, 2, [[.str k2.Key, .bool k2.Done]]⟩), (16, ⟨0, true, true, 3, [[.nils, .nils, .int .i64 0]]⟩), (88, ⟨0, true, true, 2, List.map TApiLsKey.enc [k2]⟩)], 112, []⟩) [] (Nat.le_of_ble_eq_true rfl) ⟨rF, rE, rfl, rfl, trivial, trivial⟩ ?_
  refine awp_sr2 128 [2, 3, 4, 5, 8, 21] (fun _ => none) rfl (fun _ _ => rT) ?_
  refine awp_if rfl (fun hb6 => ?_) (fun hb6 => ?_)
  ·
   replace h0 := iteT h0 hb6
   refine awp_sr2 168 [4, 5, 6] (fun _ => none) rfl (fun _ _ => rT) ?_
   refine awp_ret ?_
   refine kr_then ?_
   refine kr_scope ?_
   obtain rfl := Option.some.inj h0
   refine leave_retG [] ?_
   exact rG
  ·
   replace h0 := iteF h0 hb6
   refine awp_skip ?_
   refine kn_then ?_
   refine awp_seq ?_
   obtain ⟨b8, hb8, h0⟩ := bindS h0
   refine awp_sd3 (fr' := [(2, .ref 0 0 0 0), (3, .ref 8 0 0 0), (4, .ref 16 0 0 0), (5, .int .i64 0), (38, .bool b8)]) (hp' := [(0, ⟨0, true, true, 3, [[.psl 2 (List.map TApiLsKey.enc t1.Keys), .psl 1 (List.map (encInt .i64) t1.Lose), .int .i64 t1.Win]]⟩), (8, ⟨0, true, true, 2, [[.str k2.Key, .bool k2.Done]]⟩), (16, ⟨0, true, true, 3, [[.nils, .nils, .int .i64 0]]⟩), (88, ⟨0, true, true, 2, List.map TApiLsKey.enc [k2]⟩)]) [0, 8, 16, 88] 248 [2, 3, 4, 5, 38] (fun _ => none) rfl rfl rfl (fun Kt hK => by
     cases hg9 : (!k2.Done) with
     | false =>
      replace hb8 := iteF hb8 hg9
      have hqb8 := Option.some.inj hb8
      subst hqb8
      simp (maxSteps := 1000000) only [↓reduceIte, reduceCtorEq, Nat.reduceEqDiff, Nat.reduceLT, Nat.reduceLeDiff, Nat.reduceAdd, Nat.reduceMul, Int.reduceToNat, push_cast, ↓hg9]
      try simp only [↓hg9] at hK
      all_goals exact rUd
     | true =>
      replace hb8 := iteT hb8 hg9
      obtain ⟨e7, he7, hb8⟩ := bindS hb8
      obtain ⟨he7a, he7b, he7c⟩ := idxS he7
      have hqb8 := Option.some.inj hb8
      subst hqb8
      simp (maxSteps := 1000000) only [↓reduceIte, reduceCtorEq, Nat.reduceEqDiff, Nat.reduceLT, Nat.reduceLeDiff, Nat.reduceAdd, Nat.reduceMul, Int.reduceToNat, push_cast, ↓hg9, he7a, he7b, he7c, he7]
      try simp only [↓hg9] at hK
      all_goals exact rUd) ?_
   refine awp_if rfl (fun hb10 => ?_) (fun hb10 => ?_)
   ·
    replace h0 := iteT h0 hb10
    refine awp_sr2 280 [4, 5, 6] (fun _ => none) rfl (fun _ _ => rT) ?_
    refine awp_ret ?_
    refine kr_then ?_
    refine kr_scope ?_
    obtain rfl := Option.some.inj h0
    refine leave_retG [] ?_
    exact rG
   ·
    replace h0 := iteF h0 hb10
    refine awp_skip ?_
    refine kn_then ?_
    obtain ⟨vr11, hvr11, h0⟩ := bindS h0
    obtain ⟨vr12, hvr12, h0⟩ := bindS h0
    refine awp_sd2 328 [3, 4, 5] (fun | 2 => some (.sl 0 0 2 0 vr11.length, [⟨0, true, true, 2, vr11.map TApiLsKey.enc⟩]) | 5 => some (.sl 0 0 1 0 vr12.length, [⟨0, true, true, 1, vr12.map (encInt .i64)⟩]) | _ => none) rfl rfl rfl (fun Kt hK => by
      try have q0 := c_slices_Clone_apiLsKey_2 hvr11
      try have q1 := c_slices_Clone_int_2 hvr12
      exact rTd) ?_
    obtain ⟨e13, he13, h0⟩ := bindS h0
    obtain ⟨he13a, he13b, he13c⟩ := idxS he13
    refine awp_sr2 384 [4, 5] (fun _ => none) rfl (fun _ _ => rS (rA he13a (rA he13b he13c))) ?_
    refine awp_re (s2 := ⟨[(4, .ref 16 0 0 0), (5, .int .i64 0)], [(0, ⟨0, true, true, 3, [[.psl 2 (List.map TApiLsKey.enc t1.Keys), .psl 1 (List.map (encInt .i64) t1.Lose), .int .i64 t1.Win]]⟩), (8, ⟨0, true, true, 2, [[.str k2.Key, .bool k2.Done]]⟩), (16, ⟨0, true, false, 3, [[.sl 264 0 2 0 ((vr11.set t1.Win.toNat k2).length), .sl 288 0 1 0 vr12.length, .int .i64 t1.Win]]⟩), (88, ⟨0, true, true, 2, List.map TApiLsKey.enc [k2]⟩), (264, ⟨0, true, true, 2, List.map TApiLsKey.enc (vr11.set t1.Win.toNat k2)⟩), (288, ⟨0, true, true, 1, List.map (encInt .i64) vr12⟩)], 384, []⟩) [] (Nat.le_of_ble_eq_true rfl) ⟨rF, rE, rfl, rfl, trivial, trivial⟩ ?_
    obtain ⟨vr14, hvr14, h0⟩ := bindS h0
    refine awp_sr2 416 [4, 5, 9] (fun | 2 => some (.fn 100 [] [.pp [.psl 2 (vr14.map TApiLsKey.enc)]], []) | _ => none) rfl (fun _ _ => rB (rA he13a (rA he13b he13c)) (c_loser_judge hvr14)) ?_
    refine awp_sr2 472 [4, 5, 9, 10] (fun _ => none) rfl (fun _ _ => rS (rA he13a (rA he13b he13c))) ?_
    refine awp_seq ?_
    refine awp_label ?_
    refine kn_then ?_
    obtain ⟨x28, hxx28, h0⟩ := bindS h0
    refine awp_sloop (fun s' => ∃ g38 : Nat, s'.nx ≤ 512 ∧ LeN [] s' ⟨[(4, .ref 16 0 0 0), (5, .int .i64 x28.1)], [(0, ⟨0, true, true, 3, [[.psl 2 (List.map TApiLsKey.enc t1.Keys), .psl 1 (List.map (encInt .i64) t1.Lose), .int .i64 t1.Win]]⟩), (8, ⟨0, true, true, 2, [[.str k2.Key, .bool k2.Done]]⟩), (16, ⟨0, true, false, 3, [[.sl 264 0 2 0 ((vr11.set t1.Win.toNat k2).length), .sl 288 g38 1 0 x28.2.2.length, .int .i64 x28.2.1]]⟩), (88, ⟨0, true, true, 2, List.map TApiLsKey.enc [k2]⟩), (264, ⟨0, false, true, 2, List.map TApiLsKey.enc (vr11.set t1.Win.toNat k2)⟩), (288, ⟨g38, true, true, 1, List.map (encInt .i64) x28.2.2⟩)], 512, []⟩) ?_ ?_
    ·
     intro s' hs
     obtain ⟨g38, hn, hs⟩ := hs
     refine awp_re [] hn hs ?_
     refine awp_sr2 552 [4, 5, 6] (fun _ => none) rfl (fun _ _ => rS (rA he13a (rA he13b he13c))) ?_
     refine awp_ret ?_
     refine kr_scope ?_
     obtain rfl := Option.some.inj h0
     refine leave_retG [] ?_
     simp (maxSteps := 1000000) only [↓reduceIte, reduceCtorEq, Nat.reduceEqDiff, Nat.reduceLT, Nat.reduceLeDiff, Nat.reduceAdd, Nat.reduceMul, Int.reduceToNat, push_cast, Gives, he13a, he13b, he13c]
     all_goals exact rH
    ·
     refine awp_loopF (ι := { p : Nat × Int × Int × Int × List Int × Nat // loser_Replace_l1 vr14 p.1 p.2.1 p.2.2.1 p.2.2.2.1 p.2.2.2.2.1 = some x28 }) (fun p => ⟨[(4, .ref 16 0 0 0), (5, .int .i64 p.1.2.1), (9, .fn 100 [] [.pp [.psl 2 (List.map TApiLsKey.enc vr14)]]), (10, .int .i64 p.1.2.2.1)], [(0, ⟨0, true, true, 3, [[.psl 2 (List.map TApiLsKey.enc t1.Keys), .psl 1 (List.map (encInt .i64) t1.Lose), .int .i64 t1.Win]]⟩), (8, ⟨0, true, true, 2, [[.str k2.Key, .bool k2.Done]]⟩), (16, ⟨0, true, false, 3, [[.sl 264 0 2 0 ((vr11.set t1.Win.toNat k2).length), .sl 288 p.1.2.2.2.2.2 1 0 p.1.2.2.2.2.1.length, .int .i64 p.1.2.2.2.1]]⟩), (88, ⟨0, true, true, 2, List.map TApiLsKey.enc [k2]⟩), (264, ⟨0, false, true, 2, List.map TApiLsKey.enc (vr11.set t1.Win.toNat k2)⟩), (288, ⟨p.1.2.2.2.2.2, true, true, 1, List.map (encInt .i64) p.1.2.2.2.2.1⟩)], 472, []⟩) (fun p => p.1.1) ⟨(fu, 0, (IntKind.i64.wrap (((vr11.set t1.Win.toNat k2).length : Int) + t1.Win)), t1.Win, vr12, 0), hxx28⟩ ⟨rF, rE, rfl, rfl, trivial, trivial⟩ (fun _ => Nat.le_refl _) ?_
     rintro ⟨⟨fu, games29, node30, u31, v32, g33⟩, h1⟩
     cases fu with
     | zero =>
   replace h1 : loser_Replace_l1 vr14 0 games29 node30 u31 v32 = some x28 := h1
   rw [loser_Replace_l1] at h1; cases h1
     | succ fu =>
      replace h1 : loser_Replace_l1 vr14 (fu + 1) games29 node30 u31 v32 = some x28 := h1
      rw [loser_Replace_l1] at h1
      refine (show AWP _ _ _ _ ⟨[(4, .ref 16 0 0 0), (5, .int .i64 games29), (9, .fn 100 [] [.pp [.psl 2 (List.map TApiLsKey.enc vr14)]]), (10, .int .i64 node30)], [(0, ⟨0, true, true, 3, [[.psl 2 (List.map TApiLsKey.enc t1.Keys), .psl 1 (List.map (encInt .i64) t1.Lose), .int .i64 t1.Win]]⟩), (8, ⟨0, true, true, 2, [[.str k2.Key, .bool k2.Done]]⟩), (16, ⟨0, true, false, 3, [[.sl 264 0 2 0 ((vr11.set t1.Win.toNat k2).length), .sl 288 g33 1 0 v32.length, .int .i64 u31]]⟩), (88, ⟨0, true, true, 2, List.map TApiLsKey.enc [k2]⟩), (264, ⟨0, false, true, 2, List.map TApiLsKey.enc (vr11.set t1.Win.toNat k2)⟩), (288, ⟨g33, true, true, 1, List.map (encInt .i64) v32⟩)], 472, []⟩ from ?_)
      refine awp_block ?_
      refine awp_sr2 496 [4, 5, 9, 10] (fun _ => none) rfl (fun _ _ => rS (rA he13a (rA he13b he13c))) ?_
      refine awp_seq ?_
      refine awp_sr2 512 [4, 5, 9, 10, 67] (fun _ => none) rfl (fun _ _ => rS (rA he13a (rA he13b he13c))) ?_
      refine awp_if rfl (fun hb34 => ?_) (fun hb34 => ?_)
      ·
       replace h1 := iteT h1 hb34
       refine awp_exit ?_
       refine kx_then ?_
       refine kx_other (by decide) ?_
       refine kx_then ?_
       refine kx_done ?_
       obtain rfl := Option.some.inj h1
       exact ⟨g33, Nat.le_of_ble_eq_true rfl, ⟨rF, rE, rfl, rfl, trivial, trivial⟩⟩
      ·
       replace h1 := iteF h1 hb34
       refine awp_skip ?_
       refine kn_then ?_
       refine awp_sr2 536 [4, 5, 9, 10] (fun _ => none) rfl (fun _ _ => rS (rA he13a (rA he13b he13c))) ?_
       obtain ⟨e35, he35, h1⟩ := bindS h1
       obtain ⟨he35a, he35b, he35c⟩ := idxS he35
       obtain ⟨vr36, hvr36, h1⟩ := bindS h1
       refine awp_sd2 608 [4, 5, 9, 10, 78] (fun | 8 => some (.bool vr36, []) | _ => none) rfl rfl rfl (fun _ _ => rBd (rA he13a (rA he13b (rA he13c (rA he35a (rA he35b he35c))))) (c_loser_judge_1 hvr36)) ?_
       refine awp_if rfl (fun hb37 => ?_) (fun hb37 => ?_)
       ·
        replace h1 := iteT h1 hb37
        refine awp_d2 720 [4, 5, 9, 10] (fun _ => none) rfl rfl rfl (fun _ _ => rSd (rA he13a (rA he13b (rA he13c (rA he35a (rA he35b he35c)))))) ?_
        refine kn_block ?_
        refine kn_then ?_
        exact ⟨⟨(fu, (IntKind.i64.wrap (games29 + 1)), (IntKind.i64.wrap (node30.tdiv 2)), e35, (v32.set ((IntKind.i64.wrap (node30.tdiv 2)).toNat) u31), g33), h1⟩, ⟨rF, rE, rfl, rfl, trivial, trivial⟩, Nat.lt_succ_self _⟩
       ·
        replace h1 := iteF h1 hb37
        refine awp_skip ?_
        refine kn_block ?_
        refine kn_then ?_
        exact ⟨⟨(fu, (IntKind.i64.wrap (games29 + 1)), (IntKind.i64.wrap (node30.tdiv 2)), u31, v32, g33), h1⟩, ⟨rF, rE, rfl, rfl, trivial, trivial⟩, Nat.lt_succ_self _⟩
end Go.T
end
section
namespace Go.T
open Go Go.AM Go.Proofs
set_option maxRecDepth 100000
set_option maxHeartbeats 4000000
set_option linter.unusedVariables false
theorem c_merge_All {fu : Nat} {runs1 : List (List TApiEntry)} {r : List TApiEntry × List Int × Int} (h0 : merge_All fu runs1 = some r) : PCall Try.prog 34 [.psl 1 (runs1.map (encSl 4 TApiEntry.enc))] (.tup [.psl 4 (r.1.map TApiEntry.enc), .psl 1 (r.2.1.map (encInt .i64)), .int .i64 r.2.2]) [] := by
 refine awp_pcall Try.func34 rfl (by decide) (Nat.le_of_ble_eq_true rfl) ?_
 dsimp only [Try.f34]
 rw [merge_All] at h0
 refine (show AWP _ _ _ _ ⟨enumFr 0 _, [], 0, []⟩ from ?_)
 refine awp_sr2 24 [0, 2, 3] (fun _ => none) rfl (fun _ _ => rT) ?_
 obtain ⟨vr2, hvr2, h0⟩ := bindS h0
 refine awp_sr2 104 [2, 3, 4, 5] (fun | 1 => some (.tup [.agg [.psl 1 (List.map (encSl 4 TApiEntry.enc) vr2.1.Runs), .sl 0 0 1 0 vr2.1.At.length, .psl 2 (List.map TApiLsKey.enc vr2.1.Tree.Keys), .psl 1 (List.map (encInt .i64) vr2.1.Tree.Lose), .int .i64 vr2.1.Tree.Win], .int .i64 vr2.2.1, .int .i64 vr2.2.2], [⟨0, true, true, 1, vr2.1.At.map (encInt .i64)⟩]) | _ => none) rfl (fun _ _ => rC (c_merge_Begin_2 hvr2)) ?_
 refine awp_seq ?_
 refine awp_sr2 120 [2, 3, 4, 5, 17] (fun _ => none) rfl (fun _ _ => rT) ?_
 refine awp_if rfl (fun hb3 => ?_) (fun hb3 => ?_)
 ·
  replace h0 := iteT h0 hb3
  refine awp_sr2 152 [2, 3, 4] (fun _ => none) rfl (fun _ _ => rT) ?_
  refine awp_ret ?_
  refine kr_then ?_
  obtain rfl := Option.some.inj h0
  refine leave_retG [] ?_
  exact rG
 ·
  replace h0 := iteF h0 hb3
  refine awp_skip ?_
  refine kn_then ?_
  refine awp_sr2 152 [2, 3, 4, 7] (fun _ => none) rfl (fun _ _ => rT) ?_
  refine awp_seq ?_
  refine awp_sops2 2 rfl ?_
  refine awpo_cut (l' := List.range' 0 1 ++ (1 :: (List.range' 2 0 ++ []))) rfl ?_
  refine awpo_seg 0 1 160 (1 :: (List.range' 2 0 ++ [])) (fun _ => none) rfl rfl rfl (fun _ _ => rT) ?_
  refine awpo_in rfl rfl rfl rfl rfl Try.func56 rfl (by decide) rfl (Nat.le_of_ble_eq_true rfl) ?_
  dsimp only [Try.f56]
  refine awp_re (s2 := ⟨[(0, .ref 136 0 0 0)], [(0, ⟨0, true, true, 1, [[.nils]]⟩), (8, ⟨0, true, true, 1, [[.nils]]⟩), (32, ⟨0, true, true, 1, List.map (encInt .i64) vr2.1.At⟩), (72, ⟨0, true, false, 5, [[.psl 1 (List.map (encSl 4 TApiEntry.enc) vr2.1.Runs), .sl 32 0 1 0 vr2.1.At.length, .psl 2 (List.map TApiLsKey.enc vr2.1.Tree.Keys), .psl 1 (List.map (encInt .i64) vr2.1.Tree.Lose), .int .i64 vr2.1.Tree.Win]]⟩), (136, ⟨0, true, false, 5, [[.psl 1 (List.map (encSl 4 TApiEntry.enc) vr2.1.Runs), .sl 32 0 1 0 vr2.1.At.length, .psl 2 (List.map TApiLsKey.enc vr2.1.Tree.Keys), .psl 1 (List.map (encInt .i64) vr2.1.Tree.Lose), .int .i64 vr2.1.Tree.Win]]⟩)], 160, []⟩) [] (Nat.le_of_ble_eq_true rfl) ⟨rF, rE, rfl, rfl, trivial, trivial⟩ ?_
  refine awp_sr2 176 [1] (fun _ => none) rfl (fun _ _ => rT) ?_
  refine awp_sr2 192 [2] (fun _ => none) rfl (fun _ _ => rT) ?_
  refine awp_ret ?_
  refine leave_retK (fun _ _ => rT) ?_
  refine awpo_re (s2 := ⟨[(2, .ref 0 0 0 0), (3, .ref 8 0 0 0), (4, .int .i64 vr2.2.2), (7, .ref 136 0 0 0), (22, .ref 136 0 0 0), (23, .fn 74 [] [.ref 160 0 0 0])], [(0, ⟨0, true, true, 1, [[.nils]]⟩), (8, ⟨0, true, true, 1, [[.nils]]⟩), (32, ⟨0, true, true, 1, List.map (encInt .i64) vr2.1.At⟩), (72, ⟨0, true, false, 5, [[.psl 1 (List.map (encSl 4 TApiEntry.enc) vr2.1.Runs), .sl 32 0 1 0 vr2.1.At.length, .psl 2 (List.map TApiLsKey.enc vr2.1.Tree.Keys), .psl 1 (List.map (encInt .i64) vr2.1.Tree.Lose), .int .i64 vr2.1.Tree.Win]]⟩), (136, ⟨0, true, false, 5, [[.psl 1 (List.map (encSl 4 TApiEntry.enc) vr2.1.Runs), .sl 32 0 1 0 vr2.1.At.length, .psl 2 (List.map TApiLsKey.enc vr2.1.Tree.Keys), .psl 1 (List.map (encInt .i64) vr2.1.Tree.Lose), .int .i64 vr2.1.Tree.Win]]⟩), (160, ⟨0, true, false, 1, [[.ref 136 0 0 0]]⟩)], 192, []⟩) [] (Nat.le_of_ble_eq_true rfl) ⟨rF, rE, rfl, rfl, trivial, trivial⟩ ?_
  refine awpo_cut (l' := []) rfl ?_
  refine awpo_nil ?_
  refine kn_then ?_
  refine awp_re (s2 := ⟨[(2, .ref 0 0 0 0), (3, .ref 8 0 0 0), (4, .int .i64 vr2.2.2), (23, .fn 74 [] [.ref 160 0 0 0])], [(0, ⟨0, true, true, 1, [[.nils]]⟩), (8, ⟨0, true, true, 1, [[.nils]]⟩), (32, ⟨0, true, true, 1, List.map (encInt .i64) vr2.1.At⟩), (72, ⟨0, true, false, 5, [[.psl 1 (List.map (encSl 4 TApiEntry.enc) vr2.1.Runs), .sl 32 0 1 0 vr2.1.At.length, .psl 2 (List.map TApiLsKey.enc vr2.1.Tree.Keys), .psl 1 (List.map (encInt .i64) vr2.1.Tree.Lose), .int .i64 vr2.1.Tree.Win]]⟩), (136, ⟨0, true, false, 5, [[.psl 1 (List.map (encSl 4 TApiEntry.enc) vr2.1.Runs), .sl 32 0 1 0 vr2.1.At.length, .psl 2 (List.map TApiLsKey.enc vr2.1.Tree.Keys), .psl 1 (List.map (encInt .i64) vr2.1.Tree.Lose), .int .i64 vr2.1.Tree.Win]]⟩), (160, ⟨0, true, false, 1, [[.ref 136 0 0 0]]⟩)], 192, []⟩) [] (Nat.le_of_ble_eq_true rfl) ⟨rF, rE, rfl, rfl, trivial, trivial⟩ ?_
  refine awp_block ?_
  refine awp_rangeV rfl Try.func74 rfl (by decide) (Nat.le_of_ble_eq_true rfl) ?_
  intro RC4 hRC4
  have stRC4 : RC4.st = .ready ∧ RC4.pend = none := by rw [hRC4]; exact ⟨rfl, rfl⟩
  have okRC4 : RCok 192 RC4 := by rw [hRC4]; exact And.intro (rR) rfl
  dsimp only [Try.f74]
  refine awp_re (s2 := ⟨[(0, .yld 192), (1, .ref 160 0 0 0)], [(0, ⟨0, true, true, 1, [[.nils]]⟩), (8, ⟨0, true, true, 1, [[.nils]]⟩), (32, ⟨0, true, true, 1, List.map (encInt .i64) vr2.1.At⟩), (72, ⟨0, true, false, 5, [[.psl 1 (List.map (encSl 4 TApiEntry.enc) vr2.1.Runs), .sl 32 0 1 0 vr2.1.At.length, .psl 2 (List.map TApiLsKey.enc vr2.1.Tree.Keys), .psl 1 (List.map (encInt .i64) vr2.1.Tree.Lose), .int .i64 vr2.1.Tree.Win]]⟩), (136, ⟨0, true, false, 5, [[.psl 1 (List.map (encSl 4 TApiEntry.enc) vr2.1.Runs), .sl 32 0 1 0 vr2.1.At.length, .psl 2 (List.map TApiLsKey.enc vr2.1.Tree.Keys), .psl 1 (List.map (encInt .i64) vr2.1.Tree.Lose), .int .i64 vr2.1.Tree.Win]]⟩), (160, ⟨0, true, false, 1, [[.ref 136 0 0 0]]⟩)], 193, [(192, RC4)]⟩) [] (Nat.le_of_ble_eq_true rfl) ⟨rF, rE, rfl, rfl, (LpLe.consR (Nat.le_of_ble_eq_true rfl) rfl okRC4 (Nat.le_of_ble_eq_true rfl) trivial), trivial⟩ ?_
  refine awp_re (s2 := ⟨[(0, .yld 192), (1, .ref 160 0 0 0)], [(0, ⟨0, true, false, 1, [[.sl 193 0 4 0 0]]⟩), (8, ⟨0, true, false, 1, [[.sl 194 0 1 0 0]]⟩), (32, ⟨0, true, true, 1, List.map (encInt .i64) vr2.1.At⟩), (72, ⟨0, true, false, 5, [[.psl 1 (List.map (encSl 4 TApiEntry.enc) vr2.1.Runs), .sl 32 0 1 0 vr2.1.At.length, .psl 2 (List.map TApiLsKey.enc vr2.1.Tree.Keys), .psl 1 (List.map (encInt .i64) vr2.1.Tree.Lose), .int .i64 vr2.1.Tree.Win]]⟩), (136, ⟨0, true, false, 5, [[.psl 1 (List.map (encSl 4 TApiEntry.enc) vr2.1.Runs), .sl 32 0 1 0 vr2.1.At.length, .psl 2 (List.map TApiLsKey.enc vr2.1.Tree.Keys), .psl 1 (List.map (encInt .i64) vr2.1.Tree.Lose), .int .i64 vr2.1.Tree.Win]]⟩), (160, ⟨0, true, false, 1, [[.ref 136 0 0 0]]⟩), (193, ⟨0, true, true, 4, List.map TApiEntry.enc []⟩), (194, ⟨0, true, true, 1, List.map (encInt .i64) []⟩)], 195, [(192, RC4)]⟩) [(193, 4), (194, 1)] (Nat.le_of_ble_eq_true rfl) ⟨rF, rE, rfl, rfl, (LpLe.consR (Nat.le_of_ble_eq_true rfl) rfl okRC4 (Nat.le_of_ble_eq_true rfl) trivial), rN⟩ ?_
  obtain ⟨x37, hxx37, h0⟩ := bindS h0
  refine awp_bloop (fun _ => False) ?_ ?_
  ·
   intro _ h; exact h.elim
  ·
   refine awp_loopF (ι := { p : Nat × List Int × List TApiLsKey × List Int × Int × List TApiEntry × List Int × Nat × Nat × Nat // merge_All_l1 vr2 p.1 p.2.1 p.2.2.1 p.2.2.2.1 p.2.2.2.2.1 p.2.2.2.2.2.1 p.2.2.2.2.2.2.1 = some x37 }) (fun p => ⟨[(0, .yld 192), (1, .ref 160 0 0 0)], [(0, ⟨0, true, false, 1, [[.sl 193 p.1.2.2.2.2.2.2.2.2.1 4 0 p.1.2.2.2.2.2.1.length]]⟩), (8, ⟨0, true, false, 1, [[.sl 194 p.1.2.2.2.2.2.2.2.2.2 1 0 p.1.2.2.2.2.2.2.1.length]]⟩), (32, ⟨p.1.2.2.2.2.2.2.2.1, true, true, 1, List.map (encInt .i64) p.1.2.1⟩), (72, ⟨0, true, false, 5, [[.psl 1 (List.map (encSl 4 TApiEntry.enc) vr2.1.Runs), .sl 32 p.1.2.2.2.2.2.2.2.1 1 0 p.1.2.1.length, .psl 2 (List.map TApiLsKey.enc vr2.1.Tree.Keys), .psl 1 (List.map (encInt .i64) vr2.1.Tree.Lose), .int .i64 vr2.1.Tree.Win]]⟩), (136, ⟨0, true, false, 5, [[.psl 1 (List.map (encSl 4 TApiEntry.enc) vr2.1.Runs), .sl 32 p.1.2.2.2.2.2.2.2.1 1 0 p.1.2.1.length, .psl 2 (List.map TApiLsKey.enc p.1.2.2.1), .psl 1 (List.map (encInt .i64) p.1.2.2.2.1), .int .i64 p.1.2.2.2.2.1]]⟩), (160, ⟨0, true, false, 1, [[.ref 136 0 0 0]]⟩), (193, ⟨p.1.2.2.2.2.2.2.2.2.1, true, true, 4, List.map TApiEntry.enc p.1.2.2.2.2.2.1⟩), (194, ⟨p.1.2.2.2.2.2.2.2.2.2, true, true, 1, List.map (encInt .i64) p.1.2.2.2.2.2.2.1⟩)], 195, [(192, RC4)]⟩) (fun p => p.1.1) ⟨(fu, vr2.1.At, vr2.1.Tree.Keys, vr2.1.Tree.Lose, vr2.1.Tree.Win, [], [], 0, 0, 0), hxx37⟩ ⟨rF, rE, rfl, rfl, (LpLe.consR (Nat.le_of_ble_eq_true rfl) rfl okRC4 (Nat.le_of_ble_eq_true rfl) trivial), trivial⟩ (fun _ => Nat.le_refl _) ?_
   rintro ⟨⟨fu, v38, v39, v40, v41, v42, v43, g44, g45, g46⟩, h1⟩
   cases fu with
   | zero =>
   replace h1 : merge_All_l1 vr2 0 v38 v39 v40 v41 v42 v43 = some x37 := h1
   rw [merge_All_l1] at h1; cases h1
   | succ fu =>
    replace h1 : merge_All_l1 vr2 (fu + 1) v38 v39 v40 v41 v42 v43 = some x37 := h1
    rw [merge_All_l1] at h1
    refine (show AWP _ _ _ _ ⟨[(0, .yld 192), (1, .ref 160 0 0 0)], [(0, ⟨0, true, false, 1, [[.sl 193 g45 4 0 v42.length]]⟩), (8, ⟨0, true, false, 1, [[.sl 194 g46 1 0 v43.length]]⟩), (32, ⟨g44, true, true, 1, List.map (encInt .i64) v38⟩), (72, ⟨0, true, false, 5, [[.psl 1 (List.map (encSl 4 TApiEntry.enc) vr2.1.Runs), .sl 32 g44 1 0 v38.length, .psl 2 (List.map TApiLsKey.enc vr2.1.Tree.Keys), .psl 1 (List.map (encInt .i64) vr2.1.Tree.Lose), .int .i64 vr2.1.Tree.Win]]⟩), (136, ⟨0, true, false, 5, [[.psl 1 (List.map (encSl 4 TApiEntry.enc) vr2.1.Runs), .sl 32 g44 1 0 v38.length, .psl 2 (List.map TApiLsKey.enc v39), .psl 1 (List.map (encInt .i64) v40), .int .i64 v41]]⟩), (160, ⟨0, true, false, 1, [[.ref 136 0 0 0]]⟩), (193, ⟨g45, true, true, 4, List.map TApiEntry.enc v42⟩), (194, ⟨g46, true, true, 1, List.map (encInt .i64) v43⟩)], 195, [(192, RC4)]⟩ from ?_)
    refine awp_block ?_
    obtain ⟨vr47, hvr47, h1⟩ := bindS h1
    refine awp_sr2 275 [0, 1, 3, 4, 5] (fun | 1 => some (.tup [.agg (TApiEntry.enc vr47.1), .int .i64 vr47.2.1, .int .i64 vr47.2.2], []) | _ => none) rfl (fun _ _ => rC (c_merge_reader_peek hvr47)) ?_
    refine awp_seq ?_
    refine awp_sops2 9 rfl ?_
    refine awpo_cut (l' := List.range' 0 3 ++ (List.range' 3 6 ++ [])) rfl ?_
    refine awpo_seg 0 3 299 (List.range' 3 6 ++ []) (fun _ => none) rfl rfl rfl (fun _ _ => rT) ?_
    refine awpo_re (s2 := ⟨[(0, .yld 192), (1, .ref 160 0 0 0), (3, .ref 243 0 0 0), (4, .int .i64 vr47.2.1), (5, .int .i64 vr47.2.2), (12, .int .i64 vr47.2.2), (13, .bool (!(decide (vr47.2.2 = 0)))), (14, .bool (!(decide (vr47.2.2 = 0))))], [(0, ⟨0, true, false, 1, [[.sl 193 g45 4 0 v42.length]]⟩), (8, ⟨0, true, false, 1, [[.sl 194 g46 1 0 v43.length]]⟩), (32, ⟨g44, true, true, 1, List.map (encInt .i64) v38⟩), (72, ⟨0, true, false, 5, [[.psl 1 (List.map (encSl 4 TApiEntry.enc) vr2.1.Runs), .sl 32 g44 1 0 v38.length, .psl 2 (List.map TApiLsKey.enc vr2.1.Tree.Keys), .psl 1 (List.map (encInt .i64) vr2.1.Tree.Lose), .int .i64 vr2.1.Tree.Win]]⟩), (136, ⟨0, true, false, 5, [[.psl 1 (List.map (encSl 4 TApiEntry.enc) vr2.1.Runs), .sl 32 g44 1 0 v38.length, .psl 2 (List.map TApiLsKey.enc v39), .psl 1 (List.map (encInt .i64) v40), .int .i64 v41]]⟩), (160, ⟨0, true, false, 1, [[.ref 136 0 0 0]]⟩), (193, ⟨g45, true, true, 4, List.map TApiEntry.enc v42⟩), (194, ⟨g46, true, true, 1, List.map (encInt .i64) v43⟩), (243, ⟨0, true, true, 4, [[.str vr47.1.Key, .str vr47.1.Val, .bool vr47.1.Dead, .int .i64 vr47.1.Seq]]⟩)], 299, [(192, RC4)]⟩) [] (Nat.le_of_ble_eq_true rfl) ⟨rF, rE, rfl, rfl, (LpLe.consR (Nat.le_of_ble_eq_true rfl) rfl okRC4 (Nat.le_of_ble_eq_true rfl) trivial), trivial⟩ ?_
    generalize hg48 : (!(decide (vr47.2.2 = 0))) = b48
    cases b48 with
    | true =>
     replace h1 := iteT h1 hg48
     refine awpo_cut (l' := List.range' 3 6 ++ []) rfl ?_
     refine awpo_seg 3 6 347 [] (fun _ => none) rfl rfl rfl (fun _ _ => rT) ?_
     refine awpo_nil ?_
     refine kn_then ?_
     refine awp_re (s2 := ⟨[(0, .yld 192), (1, .ref 160 0 0 0), (4, .int .i64 vr47.2.1), (20, .bool true)], [(0, ⟨0, true, false, 1, [[.sl 193 g45 4 0 v42.length]]⟩), (8, ⟨0, true, false, 1, [[.sl 194 g46 1 0 v43.length]]⟩), (32, ⟨g44, true, true, 1, List.map (encInt .i64) v38⟩), (72, ⟨0, true, false, 5, [[.psl 1 (List.map (encSl 4 TApiEntry.enc) vr2.1.Runs), .sl 32 g44 1 0 v38.length, .psl 2 (List.map TApiLsKey.enc vr2.1.Tree.Keys), .psl 1 (List.map (encInt .i64) vr2.1.Tree.Lose), .int .i64 vr2.1.Tree.Win]]⟩), (136, ⟨0, true, false, 5, [[.psl 1 (List.map (encSl 4 TApiEntry.enc) vr2.1.Runs), .sl 32 g44 1 0 v38.length, .psl 2 (List.map TApiLsKey.enc v39), .psl 1 (List.map (encInt .i64) v40), .int .i64 v41]]⟩), (160, ⟨0, true, false, 1, [[.ref 136 0 0 0]]⟩), (193, ⟨g45, true, true, 4, List.map TApiEntry.enc v42⟩), (194, ⟨g46, true, true, 1, List.map (encInt .i64) v43⟩), (243, ⟨0, true, true, 4, [[.str vr47.1.Key, .str vr47.1.Val, .bool vr47.1.Dead, .int .i64 vr47.1.Seq]]⟩)], 347, [(192, RC4)]⟩) [] (Nat.le_of_ble_eq_true rfl) ⟨rF, rE, rfl, rfl, (LpLe.consR (Nat.le_of_ble_eq_true rfl) rfl okRC4 (Nat.le_of_ble_eq_true rfl) trivial), trivial⟩ ?_
     refine awp_condT rfl ?_
     refine awp_ret ?_
     obtain rfl := Option.some.inj h1
     refine kr_then ?_
     refine kr_block ?_
     refine kr_then ?_
     refine kr_loop ?_
     refine leave_retK (fun _ _ => rT) ?_
     refine behind_ok stRC4 rfl ?_
     refine kn_block ?_
     refine kn_then ?_
     refine awp_re (s2 := ⟨[(2, .ref 0 0 0 0), (3, .ref 8 0 0 0), (4, .int .i64 vr2.2.2), (23, .fn 74 [] [.ref 160 0 0 0])], [(0, ⟨0, true, false, 1, [[.sl 193 g45 4 0 v42.length]]⟩), (8, ⟨0, true, false, 1, [[.sl 194 g46 1 0 v43.length]]⟩), (32, ⟨g44, true, true, 1, List.map (encInt .i64) v38⟩), (72, ⟨0, true, false, 5, [[.psl 1 (List.map (encSl 4 TApiEntry.enc) vr2.1.Runs), .sl 32 g44 1 0 v38.length, .psl 2 (List.map TApiLsKey.enc vr2.1.Tree.Keys), .psl 1 (List.map (encInt .i64) vr2.1.Tree.Lose), .int .i64 vr2.1.Tree.Win]]⟩), (136, ⟨0, true, false, 5, [[.psl 1 (List.map (encSl 4 TApiEntry.enc) vr2.1.Runs), .sl 32 g44 1 0 v38.length, .psl 2 (List.map TApiLsKey.enc v39), .psl 1 (List.map (encInt .i64) v40), .int .i64 v41]]⟩), (160, ⟨0, true, false, 1, [[.ref 136 0 0 0]]⟩), (193, ⟨g45, true, true, 4, List.map TApiEntry.enc v42⟩), (194, ⟨g46, true, true, 1, List.map (encInt .i64) v43⟩), (243, ⟨0, true, true, 4, [[.str vr47.1.Key, .str vr47.1.Val, .bool vr47.1.Dead, .int .i64 vr47.1.Seq]]⟩)], 347, []⟩) [] (Nat.le_of_ble_eq_true rfl) ⟨rF, rE, rfl, rfl, trivial, trivial⟩ ?_
     refine awp_sd2 387 [2, 3, 4] (fun _ => none) rfl rfl rfl (fun _ _ => rTd) ?_
     refine awp_ret ?_
     obtain rfl := Option.some.inj h0
     refine leave_retG [] ?_
     exact rG
    | false =>
     replace h1 := iteF h1 hg48
     refine awpo_cut (l' := List.range' 3 3 ++ (6 :: (List.range' 7 2 ++ []))) rfl ?_
     refine awpo_seg 3 3 323 (6 :: (List.range' 7 2 ++ [])) (fun _ => none) rfl rfl rfl (fun _ _ => rT) ?_
     refine awpo_yieldV hRC4 rfl rfl rfl rfl rfl rfl rfl rfl rfl ?_
     refine awp_re (s2 := ⟨[(2, .ref 0 0 0 0), (3, .ref 8 0 0 0), (4, .int .i64 vr2.2.2), (23, .fn 74 [] [.ref 160 0 0 0]), (24, .int .i64 vr47.2.1), (25, .agg [.str vr47.1.Key, .str vr47.1.Val, .bool vr47.1.Dead, .int .i64 vr47.1.Seq])], [(0, ⟨0, true, false, 1, [[.sl 193 g45 4 0 v42.length]]⟩), (8, ⟨0, true, false, 1, [[.sl 194 g46 1 0 v43.length]]⟩), (32, ⟨g44, true, true, 1, List.map (encInt .i64) v38⟩), (72, ⟨0, true, false, 5, [[.psl 1 (List.map (encSl 4 TApiEntry.enc) vr2.1.Runs), .sl 32 g44 1 0 v38.length, .psl 2 (List.map TApiLsKey.enc vr2.1.Tree.Keys), .psl 1 (List.map (encInt .i64) vr2.1.Tree.Lose), .int .i64 vr2.1.Tree.Win]]⟩), (136, ⟨0, true, false, 5, [[.psl 1 (List.map (encSl 4 TApiEntry.enc) vr2.1.Runs), .sl 32 g44 1 0 v38.length, .psl 2 (List.map TApiLsKey.enc v39), .psl 1 (List.map (encInt .i64) v40), .int .i64 v41]]⟩), (160, ⟨0, true, false, 1, [[.ref 136 0 0 0]]⟩), (193, ⟨g45, true, true, 4, List.map TApiEntry.enc v42⟩), (194, ⟨g46, true, true, 1, List.map (encInt .i64) v43⟩), (243, ⟨0, true, true, 4, [[.str vr47.1.Key, .str vr47.1.Val, .bool vr47.1.Dead, .int .i64 vr47.1.Seq]]⟩)], 323, [(192, RC4)]⟩) [] (Nat.le_of_ble_eq_true rfl) ⟨rF, rE, rfl, rfl, (LpLe.consR (Nat.le_of_ble_eq_true rfl) rfl okRC4 (Nat.le_of_ble_eq_true rfl) trivial), trivial⟩ ?_
     refine awp_sr2 331 [2, 3, 4, 8, 25] (fun _ => none) rfl (fun _ _ => rT) ?_
     refine awp_r2 347 [2, 3, 4, 8, 9] (fun _ => none) rfl (fun _ _ => rT) ?_
     refine kn_then ?_
     refine ⟨RC4, rfl, stRC4.1, ?_⟩
     refine awp_re (s2 := ⟨[(2, .ref 0 0 0 0), (3, .ref 8 0 0 0), (4, .int .i64 vr2.2.2), (8, .int .i64 vr47.2.1), (9, .ref 331 0 0 0)], [(0, ⟨0, true, false, 1, [[.sl 193 g45 4 0 v42.length]]⟩), (8, ⟨0, true, false, 1, [[.sl 194 g46 1 0 v43.length]]⟩), (32, ⟨g44, true, true, 1, List.map (encInt .i64) v38⟩), (72, ⟨0, true, false, 5, [[.psl 1 (List.map (encSl 4 TApiEntry.enc) vr2.1.Runs), .sl 32 g44 1 0 v38.length, .psl 2 (List.map TApiLsKey.enc vr2.1.Tree.Keys), .psl 1 (List.map (encInt .i64) vr2.1.Tree.Lose), .int .i64 vr2.1.Tree.Win]]⟩), (136, ⟨0, true, false, 5, [[.psl 1 (List.map (encSl 4 TApiEntry.enc) vr2.1.Runs), .sl 32 g44 1 0 v38.length, .psl 2 (List.map TApiLsKey.enc v39), .psl 1 (List.map (encInt .i64) v40), .int .i64 v41]]⟩), (160, ⟨0, true, false, 1, [[.ref 136 0 0 0]]⟩), (193, ⟨g45, true, true, 4, List.map TApiEntry.enc v42⟩), (194, ⟨g46, true, true, 1, List.map (encInt .i64) v43⟩), (243, ⟨0, true, true, 4, [[.str vr47.1.Key, .str vr47.1.Val, .bool vr47.1.Dead, .int .i64 vr47.1.Seq]]⟩), (331, ⟨0, true, true, 4, [[.str vr47.1.Key, .str vr47.1.Val, .bool vr47.1.Dead, .int .i64 vr47.1.Seq]]⟩)], 347, [(192, { RC4 with st := .busy, pend := RC4.pend })]⟩) [] (Nat.le_of_ble_eq_true rfl) ⟨rF, rE, rfl, rfl, (LpLe.consR (Nat.le_of_ble_eq_true rfl) rfl okRC4 (Nat.le_of_ble_eq_true rfl) trivial), trivial⟩ ?_
     refine awp_block ?_
     obtain ⟨hc49, h1⟩ := guS h1
     obtain ⟨hc50, h1⟩ := guS h1
     refine awp_d2 427 [2, 3, 4] (fun _ => none) rfl rfl rfl (fun _ _ => rTd) ?_
     refine kn_block ?_
     refine round_ok stRC4 rfl ?_
     refine awpo_re (s2 := ⟨[(0, .yld 192), (1, .ref 160 0 0 0), (3, .ref 243 0 0 0), (4, .int .i64 vr47.2.1), (5, .int .i64 vr47.2.2), (12, .int .i64 vr47.2.2), (13, .bool false), (14, .bool false), (15, .yld 192), (16, .int .i64 vr47.2.1), (17, .agg [.str vr47.1.Key, .str vr47.1.Val, .bool vr47.1.Dead, .int .i64 vr47.1.Seq]), (18, .bool true)], [(0, ⟨0, true, false, 1, [[.sl 193 (g45 + 1) 4 0 ((v42 ++ [vr47.1]).length)]]⟩), (8, ⟨0, true, false, 1, [[.sl 194 (g46 + 1) 1 0 ((v43 ++ [vr47.2.1]).length)]]⟩), (32, ⟨g44, true, true, 1, List.map (encInt .i64) v38⟩), (72, ⟨0, true, false, 5, [[.psl 1 (List.map (encSl 4 TApiEntry.enc) vr2.1.Runs), .sl 32 g44 1 0 v38.length, .psl 2 (List.map TApiLsKey.enc vr2.1.Tree.Keys), .psl 1 (List.map (encInt .i64) vr2.1.Tree.Lose), .int .i64 vr2.1.Tree.Win]]⟩), (136, ⟨0, true, false, 5, [[.psl 1 (List.map (encSl 4 TApiEntry.enc) vr2.1.Runs), .sl 32 g44 1 0 v38.length, .psl 2 (List.map TApiLsKey.enc v39), .psl 1 (List.map (encInt .i64) v40), .int .i64 v41]]⟩), (160, ⟨0, true, false, 1, [[.ref 136 0 0 0]]⟩), (193, ⟨(g45 + 1), true, true, 4, List.map TApiEntry.enc (v42 ++ [vr47.1])⟩), (194, ⟨(g46 + 1), true, true, 1, List.map (encInt .i64) (v43 ++ [vr47.2.1])⟩), (243, ⟨0, true, true, 4, [[.str vr47.1.Key, .str vr47.1.Val, .bool vr47.1.Dead, .int .i64 vr47.1.Seq]]⟩), (331, ⟨0, true, true, 4, [[.str vr47.1.Key, .str vr47.1.Val, .bool vr47.1.Dead, .int .i64 vr47.1.Seq]]⟩), (363, ⟨0, true, true, 4, List.map TApiEntry.enc [vr47.1]⟩), (395, ⟨0, true, true, 1, List.map (encInt .i64) [vr47.2.1]⟩)], 427, [(192, RC4)]⟩) [] (Nat.le_of_ble_eq_true rfl) ⟨rF, rE, rfl, rfl, (LpLe.consR (Nat.le_of_ble_eq_true rfl) rfl okRC4 (Nat.le_of_ble_eq_true rfl) trivial), trivial⟩ ?_
     refine awpo_cut (l' := List.range' 7 2 ++ []) rfl ?_
     refine awpo_seg 7 2 443 [] (fun _ => none) rfl rfl rfl (fun _ _ => rT) ?_
     refine awpo_nil ?_
     refine kn_then ?_
     refine awp_re (s2 := ⟨[(0, .yld 192), (1, .ref 160 0 0 0), (4, .int .i64 vr47.2.1), (15, .yld 192), (16, .int .i64 vr47.2.1), (17, .agg [.str vr47.1.Key, .str vr47.1.Val, .bool vr47.1.Dead, .int .i64 vr47.1.Seq]), (18, .bool true), (19, .bool false), (20, .bool false)], [(0, ⟨0, true, false, 1, [[.sl 193 (g45 + 1) 4 0 ((v42 ++ [vr47.1]).length)]]⟩), (8, ⟨0, true, false, 1, [[.sl 194 (g46 + 1) 1 0 ((v43 ++ [vr47.2.1]).length)]]⟩), (32, ⟨g44, true, true, 1, List.map (encInt .i64) v38⟩), (72, ⟨0, true, false, 5, [[.psl 1 (List.map (encSl 4 TApiEntry.enc) vr2.1.Runs), .sl 32 g44 1 0 v38.length, .psl 2 (List.map TApiLsKey.enc vr2.1.Tree.Keys), .psl 1 (List.map (encInt .i64) vr2.1.Tree.Lose), .int .i64 vr2.1.Tree.Win]]⟩), (136, ⟨0, true, false, 5, [[.psl 1 (List.map (encSl 4 TApiEntry.enc) vr2.1.Runs), .sl 32 g44 1 0 v38.length, .psl 2 (List.map TApiLsKey.enc v39), .psl 1 (List.map (encInt .i64) v40), .int .i64 v41]]⟩), (160, ⟨0, true, false, 1, [[.ref 136 0 0 0]]⟩), (193, ⟨(g45 + 1), true, true, 4, List.map TApiEntry.enc (v42 ++ [vr47.1])⟩), (194, ⟨(g46 + 1), true, true, 1, List.map (encInt .i64) (v43 ++ [vr47.2.1])⟩), (243, ⟨0, true, true, 4, [[.str vr47.1.Key, .str vr47.1.Val, .bool vr47.1.Dead, .int .i64 vr47.1.Seq]]⟩), (331, ⟨0, true, true, 4, [[.str vr47.1.Key, .str vr47.1.Val, .bool vr47.1.Dead, .int .i64 vr47.1.Seq]]⟩), (363, ⟨0, true, true, 4, List.map TApiEntry.enc [vr47.1]⟩), (395, ⟨0, true, true, 1, List.map (encInt .i64) [vr47.2.1]⟩)], 443, [(192, RC4)]⟩) [] (Nat.le_of_ble_eq_true rfl) ⟨rF, rE, rfl, rfl, (LpLe.consR (Nat.le_of_ble_eq_true rfl) rfl okRC4 (Nat.le_of_ble_eq_true rfl) trivial), trivial⟩ ?_
     refine awp_condF rfl ?_
     refine awp_skip ?_
     refine kn_then ?_
     refine awp_ops2 3 rfl ?_
     refine awpo_cut (l' := List.range' 0 2 ++ (2 :: (List.range' 3 0 ++ []))) rfl ?_
     refine awpo_seg 0 2 459 (2 :: (List.range' 3 0 ++ [])) (fun _ => none) rfl rfl rfl (fun _ _ => rT) ?_
     refine awpo_in rfl rfl rfl rfl rfl Try.func76 rfl (by decide) rfl (Nat.le_of_ble_eq_true rfl) ?_
     dsimp only [Try.f76]
     refine awp_re (s2 := ⟨[(0, .ref 136 0 0 0), (1, .int .i64 vr47.2.1)], [(0, ⟨0, true, false, 1, [[.sl 193 (g45 + 1) 4 0 ((v42 ++ [vr47.1]).length)]]⟩), (8, ⟨0, true, false, 1, [[.sl 194 (g46 + 1) 1 0 ((v43 ++ [vr47.2.1]).length)]]⟩), (32, ⟨g44, true, true, 1, List.map (encInt .i64) v38⟩), (72, ⟨0, true, false, 5, [[.psl 1 (List.map (encSl 4 TApiEntry.enc) vr2.1.Runs), .sl 32 g44 1 0 v38.length, .psl 2 (List.map TApiLsKey.enc vr2.1.Tree.Keys), .psl 1 (List.map (encInt .i64) vr2.1.Tree.Lose), .int .i64 vr2.1.Tree.Win]]⟩), (136, ⟨0, true, false, 5, [[.psl 1 (List.map (encSl 4 TApiEntry.enc) vr2.1.Runs), .sl 32 g44 1 0 v38.length, .psl 2 (List.map TApiLsKey.enc v39), .psl 1 (List.map (encInt .i64) v40), .int .i64 v41]]⟩), (160, ⟨0, true, false, 1, [[.ref 136 0 0 0]]⟩), (193, ⟨(g45 + 1), true, true, 4, List.map TApiEntry.enc (v42 ++ [vr47.1])⟩), (194, ⟨(g46 + 1), true, true, 1, List.map (encInt .i64) (v43 ++ [vr47.2.1])⟩), (243, ⟨0, true, true, 4, [[.str vr47.1.Key, .str vr47.1.Val, .bool vr47.1.Dead, .int .i64 vr47.1.Seq]]⟩), (331, ⟨0, true, true, 4, [[.str vr47.1.Key, .str vr47.1.Val, .bool vr47.1.Dead, .int .i64 vr47.1.Seq]]⟩), (363, ⟨0, true, true, 4, List.map TApiEntry.enc [vr47.1]⟩), (395, ⟨0, true, true, 1, List.map (encInt .i64) [vr47.2.1]⟩)], 459, [(192, RC4)]⟩) [] (Nat.le_of_ble_eq_true rfl) ⟨rF, rE, rfl, rfl, (LpLe.consR (Nat.le_of_ble_eq_true rfl) rfl okRC4 (Nat.le_of_ble_eq_true rfl) trivial), trivial⟩ ?_
     obtain ⟨e51, he51, h1⟩ := bindS h1
     obtain ⟨he51a, he51b, he51c⟩ := idxS he51
     refine awp_sr2 547 [0, 1] (fun _ => none) rfl (fun _ _ => rS (rA he51a (rA he51b he51c))) ?_
     refine awp_re (s2 := ⟨[(0, .ref 136 0 0 0), (1, .int .i64 vr47.2.1)], [(0, ⟨0, true, false, 1, [[.sl 193 (g45 + 1) 4 0 ((v42 ++ [vr47.1]).length)]]⟩), (8, ⟨0, true, false, 1, [[.sl 194 (g46 + 1) 1 0 ((v43 ++ [vr47.2.1]).length)]]⟩), (32, ⟨g44, true, true, 1, List.map (encInt .i64) (v38.set vr47.2.1.toNat (IntKind.i64.wrap (e51 + 1)))⟩), (72, ⟨0, true, false, 5, [[.psl 1 (List.map (encSl 4 TApiEntry.enc) vr2.1.Runs), .sl 32 g44 1 0 ((v38.set vr47.2.1.toNat (IntKind.i64.wrap (e51 + 1))).length), .psl 2 (List.map TApiLsKey.enc vr2.1.Tree.Keys), .psl 1 (List.map (encInt .i64) vr2.1.Tree.Lose), .int .i64 vr2.1.Tree.Win]]⟩), (136, ⟨0, true, false, 5, [[.psl 1 (List.map (encSl 4 TApiEntry.enc) vr2.1.Runs), .sl 32 g44 1 0 ((v38.set vr47.2.1.toNat (IntKind.i64.wrap (e51 + 1))).length), .psl 2 (List.map TApiLsKey.enc v39), .psl 1 (List.map (encInt .i64) v40), .int .i64 v41]]⟩), (160, ⟨0, true, false, 1, [[.ref 136 0 0 0]]⟩), (193, ⟨(g45 + 1), true, true, 4, List.map TApiEntry.enc (v42 ++ [vr47.1])⟩), (194, ⟨(g46 + 1), true, true, 1, List.map (encInt .i64) (v43 ++ [vr47.2.1])⟩), (243, ⟨0, true, true, 4, [[.str vr47.1.Key, .str vr47.1.Val, .bool vr47.1.Dead, .int .i64 vr47.1.Seq]]⟩), (331, ⟨0, true, true, 4, [[.str vr47.1.Key, .str vr47.1.Val, .bool vr47.1.Dead, .int .i64 vr47.1.Seq]]⟩), (363, ⟨0, true, true, 4, List.map TApiEntry.enc [vr47.1]⟩), (395, ⟨0, true, true, 1, List.map (encInt .i64) [vr47.2.1]⟩)], 547, [(192, RC4)]⟩) [] (Nat.le_of_ble_eq_true rfl) ⟨rF, rE, rfl, rfl, (LpLe.consR (Nat.le_of_ble_eq_true rfl) rfl okRC4 (Nat.le_of_ble_eq_true rfl) trivial), trivial⟩ ?_
     obtain ⟨e52, he52, h1⟩ := bindS h1
     obtain ⟨he52a, he52b, he52c⟩ := idxS he52
     obtain ⟨e53, he53, h1⟩ := bindS h1
     obtain ⟨he53a, he53b, he53c⟩ := idxS he53
     obtain ⟨vr54, hvr54, h1⟩ := bindS h1
     obtain ⟨vr55, hvr55, h1⟩ := bindS h1
     refine awp_d2 803 [] (fun | 22 => some (.agg (TApiLsKey.enc vr54), []) | 23 => some (.tup [.agg (TApiLsTree.enc vr55.1), .int .i64 vr55.2.1, .int .i64 vr55.2.2], []) | _ => none) rfl rfl rfl (fun Kt hK => by
       try have q0 := c_merge_next hvr54
       try have q1 := c_loser_Replace hvr55
       exact rSd (rA he51a (rA he51b (rA he51c (rA he52a (rA he52b (rA he52c (rA he53a (rA he53b he53c))))))))) ?_
     refine leave_endK (fun _ _ => rS (rA he51a (rA he51b (rA he51c (rA he52a (rA he52b (rA he52c (rA he53a (rA he53b he53c))))))))) ?_
     refine awpo_re (s2 := ⟨[(0, .yld 192), (1, .ref 160 0 0 0), (4, .int .i64 vr47.2.1), (15, .yld 192), (16, .int .i64 vr47.2.1), (17, .agg [.str vr47.1.Key, .str vr47.1.Val, .bool vr47.1.Dead, .int .i64 vr47.1.Seq]), (18, .bool true), (19, .bool false), (20, .bool false), (21, .ref 136 0 0 0), (22, .int .i64 vr47.2.1), (23, .tup [])], [(0, ⟨0, true, false, 1, [[.sl 193 (g45 + 1) 4 0 ((v42 ++ [vr47.1]).length)]]⟩), (8, ⟨0, true, false, 1, [[.sl 194 (g46 + 1) 1 0 ((v43 ++ [vr47.2.1]).length)]]⟩), (32, ⟨g44, true, true, 1, List.map (encInt .i64) (v38.set vr47.2.1.toNat (IntKind.i64.wrap (e51 + 1)))⟩), (72, ⟨0, true, false, 5, [[.psl 1 (List.map (encSl 4 TApiEntry.enc) vr2.1.Runs), .sl 32 g44 1 0 ((v38.set vr47.2.1.toNat (IntKind.i64.wrap (e51 + 1))).length), .psl 2 (List.map TApiLsKey.enc vr2.1.Tree.Keys), .psl 1 (List.map (encInt .i64) vr2.1.Tree.Lose), .int .i64 vr2.1.Tree.Win]]⟩), (136, ⟨0, true, false, 5, [[.psl 1 (List.map (encSl 4 TApiEntry.enc) vr2.1.Runs), .sl 32 g44 1 0 ((v38.set vr47.2.1.toNat (IntKind.i64.wrap (e51 + 1))).length), .psl 2 (List.map TApiLsKey.enc vr55.1.Keys), .psl 1 (List.map (encInt .i64) vr55.1.Lose), .int .i64 vr55.1.Win]]⟩), (160, ⟨0, true, false, 1, [[.ref 136 0 0 0]]⟩), (193, ⟨(g45 + 1), true, true, 4, List.map TApiEntry.enc (v42 ++ [vr47.1])⟩), (194, ⟨(g46 + 1), true, true, 1, List.map (encInt .i64) (v43 ++ [vr47.2.1])⟩), (243, ⟨0, true, true, 4, [[.str vr47.1.Key, .str vr47.1.Val, .bool vr47.1.Dead, .int .i64 vr47.1.Seq]]⟩), (331, ⟨0, true, true, 4, [[.str vr47.1.Key, .str vr47.1.Val, .bool vr47.1.Dead, .int .i64 vr47.1.Seq]]⟩), (363, ⟨0, true, true, 4, List.map TApiEntry.enc [vr47.1]⟩), (395, ⟨0, true, true, 1, List.map (encInt .i64) [vr47.2.1]⟩)], 803, [(192, RC4)]⟩) [] (Nat.le_of_ble_eq_true rfl) ⟨rF, rE, rfl, rfl, (LpLe.consR (Nat.le_of_ble_eq_true rfl) rfl okRC4 (Nat.le_of_ble_eq_true rfl) trivial), trivial⟩ ?_
     refine awpo_cut (l' := []) rfl ?_
     refine awpo_nil ?_
     refine kn_block ?_
     refine kn_then ?_
     exact ⟨⟨(fu, (v38.set vr47.2.1.toNat (IntKind.i64.wrap (e51 + 1))), vr55.1.Keys, vr55.1.Lose, vr55.1.Win, (v42 ++ [vr47.1]), (v43 ++ [vr47.2.1]), g44, (g45 + 1), (g46 + 1)), h1⟩, ⟨rF, rE, rfl, rfl, (LpLe.consR (Nat.le_of_ble_eq_true rfl) rfl okRC4 (Nat.le_of_ble_eq_true rfl) trivial), trivial⟩, Nat.lt_succ_self _⟩
end Go.T
end
section
namespace Go.T
open Go Go.AM Go.Proofs
set_option maxRecDepth 100000
set_option maxHeartbeats 4000000
set_option linter.unusedVariables false
theorem c_shadow_Check {fu : Nat} {vs1 : TApiShState} {r : Int} (h0 : shadow_Check fu vs1 = some r) : PCall Try.prog 90 [.agg (TApiShState.enc vs1)] (.int .i64 r) [] := by
 refine awp_pcall Try.func90 rfl (by decide) (Nat.le_of_ble_eq_true rfl) ?_
 dsimp only [Try.f90]
 rw [shadow_Check] at h0
 refine (show AWP _ _ _ _ ⟨enumFr 0 _, [], 0, []⟩ from ?_)
 refine awp_sr2 16 [1] (fun _ => none) rfl (fun _ _ => rT) ?_
 refine awp_seq ?_
 obtain ⟨vr2, hvr2, h0⟩ := bindS h0
 refine awp_sr2 48 [1, 3] (fun | 2 => some (.int .i64 vr2, []) | _ => none) rfl (fun _ _ => rC (c_keys_Check hvr2)) ?_
 refine awp_sr2 64 [1, 3, 8] (fun _ => none) rfl (fun _ _ => rT) ?_
 refine awp_if rfl (fun hb3 => ?_) (fun hb3 => ?_)
 ·
  replace h0 := iteT h0 hb3
  refine awp_sr2 80 [2] (fun _ => none) rfl (fun _ _ => rT) ?_
  refine awp_ret ?_
  refine kr_then ?_
  obtain rfl := Option.some.inj h0
  refine leave_retG [] ?_
  exact rG
 ·
  replace h0 := iteF h0 hb3
  refine awp_skip ?_
  refine kn_then ?_
  refine awp_seq ?_
  obtain ⟨b4, hb4, h0⟩ := bindS h0
  refine awp_sr3 (fr' := [(17, .bool b4)]) (hp' := [(0, ⟨0, true, true, 3, [[.bool vs1.Some, .str vs1.Last, .bool vs1.Bottom]]⟩)]) [0] 128 [17] (fun _ => none) rfl (fun Kt hK => by
    cases hg5 : (!vs1.Some) with
    | false =>
     replace hb4 := iteF hb4 hg5
     have hqb4 := Option.some.inj hb4
     subst hqb4
     simp (maxSteps := 1000000) only [↓reduceIte, reduceCtorEq, Nat.reduceEqDiff, Nat.reduceLT, Nat.reduceLeDiff, Nat.reduceAdd, Nat.reduceMul, Int.reduceToNat, push_cast, ↓hg5]
     try simp only [↓hg5] at hK
     all_goals exact rU
    | true =>
     replace hb4 := iteT hb4 hg5
     have hqb4 := Option.some.inj hb4
     subst hqb4
     simp (maxSteps := 1000000) only [↓reduceIte, reduceCtorEq, Nat.reduceEqDiff, Nat.reduceLT, Nat.reduceLeDiff, Nat.reduceAdd, Nat.reduceMul, Int.reduceToNat, push_cast, ↓hg5]
     try simp only [↓hg5] at hK
     all_goals exact rU) ?_
  refine awp_if rfl (fun hb6 => ?_) (fun hb6 => ?_)
  ·
   replace h0 := iteT h0 hb6
   refine awp_sr2 136 [2] (fun _ => none) rfl (fun _ _ => rT) ?_
   refine awp_ret ?_
   refine kr_then ?_
   obtain rfl := Option.some.inj h0
   refine leave_retG [] ?_
   exact rG
  ·
   replace h0 := iteF h0 hb6
   refine awp_skip ?_
   refine kn_then ?_
   refine awp_sr2 136 [2] (fun _ => none) rfl (fun _ _ => rT) ?_
   refine awp_ret ?_
   obtain rfl := Option.some.inj h0
   refine leave_retG [] ?_
   exact rG
end Go.T
end
section
namespace Go.T
open Go Go.AM Go.Proofs
set_option maxRecDepth 100000
set_option maxHeartbeats 4000000
set_option linter.unusedVariables false
theorem c_shadow_kept_entry {fu : Nat} {vx1 : TShadowKept} {r : TApiEntry} (h0 : shadow_kept_entry fu vx1 = some r) : PCall Try.prog 117 [.agg (TShadowKept.enc vx1)] (.agg (TApiEntry.enc r)) [] := by
 refine awp_pcall Try.func117 rfl (by decide) (Nat.le_of_ble_eq_true rfl) ?_
 dsimp only [Try.f117]
 rw [shadow_kept_entry] at h0
 refine (show AWP _ _ _ _ ⟨enumFr 0 _, [], 0, []⟩ from ?_)
 refine awp_sr2 16 [1, 2] (fun _ => none) rfl (fun _ _ => rT) ?_
 refine awp_sr2 32 [2] (fun _ => none) rfl (fun _ _ => rT) ?_
 refine awp_ret ?_
 obtain rfl := Option.some.inj h0
 refine leave_retG [] ?_
 exact rG
end Go.T
end
section
namespace Go.T
open Go Go.AM Go.Proofs
set_option maxRecDepth 100000
set_option maxHeartbeats 4000000
set_option linter.unusedVariables false
theorem c_shadow_Filter {fu : Nat} {l1 : List TApiEntry} {bottom2 : Bool} {r : List TApiEntry × Int × Int} (h0 : shadow_Filter fu l1 bottom2 = some r) : PCall Try.prog 35 [.psl 4 (l1.map TApiEntry.enc), .bool bottom2] (.tup [.psl 4 (r.1.map TApiEntry.enc), .int .i64 r.2.1, .int .i64 r.2.2]) [] := by
 refine awp_pcall Try.func35 rfl (by decide) (Nat.le_of_ble_eq_true rfl) ?_
 dsimp only [Try.f35]
 rw [shadow_Filter] at h0
 refine (show AWP _ _ _ _ ⟨enumFr 0 _, [], 0, []⟩ from ?_)
 refine awp_sr2 24 [0, 1, 4] (fun _ => none) rfl (fun _ _ => rT) ?_
 refine awp_sops2 9 rfl ?_
 refine awpo_cut (l' := List.range' 0 3 ++ (3 :: (List.range' 4 5 ++ []))) rfl ?_
 refine awpo_seg 0 3 48 (3 :: (List.range' 4 5 ++ [])) (fun _ => none) rfl rfl rfl (fun _ _ => rT) ?_
 refine awpo_in rfl rfl rfl rfl rfl Try.func57 rfl (by decide) rfl (Nat.le_of_ble_eq_true rfl) ?_
 dsimp only [Try.f57]
 refine awp_re (s2 := ⟨[(0, .psl 4 (List.map TApiEntry.enc l1)), (1, .bool bottom2), (2, .fn 58 [] [.ref 0 0 0 0])], [(0, ⟨0, true, true, 1, [[.nils]]⟩)], 48, []⟩) [] (Nat.le_of_ble_eq_true rfl) ⟨rF, rE, rfl, rfl, trivial, trivial⟩ ?_
 refine awp_sr2 64 [0, 1, 2] (fun _ => none) rfl (fun _ _ => rT) ?_
 refine awp_seq ?_
 refine awp_sr2 88 [0, 1, 2, 16] (fun _ => none) rfl (fun _ _ => rT) ?_
 refine awp_if rfl (fun hb3 => ?_) (fun hb3 => ?_)
 ·
  replace h0 := iteT h0 hb3
  refine awp_sr2 104 [6, 7] (fun _ => none) rfl (fun _ _ => rT) ?_
  refine awp_ret ?_
  refine kr_then ?_
  refine leave_retK (fun _ _ => rT) ?_
  refine awpo_re (s2 := ⟨[(0, .psl 4 (List.map TApiEntry.enc l1)), (1, .bool bottom2), (4, .ref 0 0 0 0), (8, .psl 4 (List.map TApiEntry.enc l1)), (9, .bool bottom2), (10, .fn 58 [] [.ref 0 0 0 0]), (11, .tup [.int .i64 (-1), .int .i64 3])], [(0, ⟨0, true, true, 1, [[.nils]]⟩)], 104, []⟩) [] (Nat.le_of_ble_eq_true rfl) ⟨rF, rE, rfl, rfl, trivial, trivial⟩ ?_
  refine awpo_cut (l' := List.range' 4 5 ++ []) rfl ?_
  refine awpo_seg 4 5 144 [] (fun _ => none) rfl rfl rfl (fun _ _ => rT) ?_
  refine awpo_nil ?_
  refine kn_then ?_
  refine awp_re (s2 := ⟨[(4, .ref 0 0 0 0), (5, .int .i64 (-1)), (6, .int .i64 3)], [(0, ⟨0, true, true, 1, [[.nils]]⟩)], 144, []⟩) [] (Nat.le_of_ble_eq_true rfl) ⟨rF, rE, rfl, rfl, trivial, trivial⟩ ?_
  refine awp_seq ?_
  refine awp_sr2 160 [4, 5, 6, 15] (fun _ => none) rfl (fun _ _ => rT) ?_
  refine awp_condT rfl ?_
  refine awp_sr2 200 [4, 5, 6] (fun _ => none) rfl (fun _ _ => rT) ?_
  refine awp_ret ?_
  refine kr_then ?_
  obtain rfl := Option.some.inj h0
  refine leave_retG [] ?_
  exact rG
 ·
  replace h0 := iteF h0 hb3
  refine awp_skip ?_
  refine kn_then ?_
  obtain ⟨vr4, hvr4, h0⟩ := bindS h0
  refine awp_sr2 120 [0, 2, 8] (fun | 1 => some (.agg (TApiShState.enc vr4), []) | _ => none) rfl (fun _ _ => rC (c_shadow_Begin hvr4)) ?_
  refine awp_seq ?_
  refine awp_sr2 144 [2, 8, 19, 20, 21] (fun _ => none) rfl (fun _ _ => rT) ?_
  refine awp_re (s2 := ⟨[(2, .fn 58 [] [.ref 0 0 0 0]), (8, .ref 104 0 0 0), (19, .psl 4 (List.map TApiEntry.enc l1)), (20, .int .i64 (l1.length : Int)), (21, .int .i64 0)], [(0, ⟨0, true, false, 1, [[.sl 144 0 4 0 0]]⟩), (104, ⟨0, true, true, 3, [[.bool vr4.Some, .str vr4.Last, .bool vr4.Bottom]]⟩), (144, ⟨0, true, true, 4, List.map TApiEntry.enc []⟩)], 145, []⟩) [(144, 4)] (Nat.le_of_ble_eq_true rfl) ⟨rF, rE, rfl, rfl, trivial, rN⟩ ?_
  obtain ⟨x59, hxx59, h0⟩ := bindS h0
  refine awp_bloop (fun s' => ∃ o82 : Bool × List UInt8 × List TApiEntry, ∃ g83 : Nat, x59 = .inl o82 ∧ s'.nx ≤ 153 ∧ LeN [] s' ⟨[], [(0, ⟨0, true, false, 1, [[.sl 144 g83 4 0 o82.2.2.length]]⟩), (104, ⟨0, true, true, 3, [[.bool o82.1, .str o82.2.1, .bool vr4.Bottom]]⟩), (144, ⟨g83, true, true, 4, List.map TApiEntry.enc o82.2.2⟩)], 153, []⟩) ?_ ?_
  ·
   intro s' hs
   obtain ⟨o82, g83, rfl, hn, hs⟩ := hs
   refine kn_then ?_
   refine awp_re [] hn hs ?_
   refine awp_sr2 169 [6, 7] (fun _ => none) rfl (fun _ _ => rT) ?_
   refine awp_ret ?_
   refine leave_retK (fun _ _ => rT) ?_
   refine awpo_re (s2 := ⟨[(0, .psl 4 (List.map TApiEntry.enc l1)), (1, .bool bottom2), (4, .ref 0 0 0 0), (8, .psl 4 (List.map TApiEntry.enc l1)), (9, .bool bottom2), (10, .fn 58 [] [.ref 0 0 0 0]), (11, .tup [.int .i64 0, .int .i64 0])], [(0, ⟨0, true, false, 1, [[.sl 144 g83 4 0 o82.2.2.length]]⟩), (144, ⟨g83, true, true, 4, List.map TApiEntry.enc o82.2.2⟩)], 169, []⟩) [] (Nat.le_of_ble_eq_true rfl) ⟨rF, rE, rfl, rfl, trivial, trivial⟩ ?_
   refine awpo_cut (l' := List.range' 4 5 ++ []) rfl ?_
   refine awpo_seg 4 5 209 [] (fun _ => none) rfl rfl rfl (fun _ _ => rT) ?_
   refine awpo_nil ?_
   refine kn_then ?_
   refine awp_re (s2 := ⟨[(4, .ref 0 0 0 0), (5, .int .i64 0), (6, .int .i64 0)], [(0, ⟨0, true, false, 1, [[.sl 144 g83 4 0 o82.2.2.length]]⟩), (144, ⟨g83, true, true, 4, List.map TApiEntry.enc o82.2.2⟩)], 209, []⟩) [] (Nat.le_of_ble_eq_true rfl) ⟨rF, rE, rfl, rfl, trivial, trivial⟩ ?_
   refine awp_seq ?_
   refine awp_sr2 225 [4, 5, 6, 15] (fun _ => none) rfl (fun _ _ => rT) ?_
   refine awp_condF rfl ?_
   refine awp_skip ?_
   refine kn_then ?_
   refine awp_sr2 257 [4, 5, 6] (fun _ => none) rfl (fun _ _ => rT) ?_
   refine awp_ret ?_
   obtain rfl := Option.some.inj h0
   refine leave_retG [] ?_
   exact rG
  ·
   refine awp_loopF (ι := { p : Nat × Int × Bool × List UInt8 × List TApiEntry × Nat // shadow_Filter_l1 l1 vr4 p.1 p.2.1 p.2.2.1 p.2.2.2.1 p.2.2.2.2.1 = some x59 }) (fun p => ⟨[(2, .fn 58 [] [.ref 0 0 0 0]), (8, .ref 104 0 0 0), (19, .psl 4 (List.map TApiEntry.enc l1)), (20, .int .i64 (l1.length : Int)), (21, .int .i64 p.1.2.1)], [(0, ⟨0, true, false, 1, [[.sl 144 p.1.2.2.2.2.2 4 0 p.1.2.2.2.2.1.length]]⟩), (104, ⟨0, true, true, 3, [[.bool p.1.2.2.1, .str p.1.2.2.2.1, .bool vr4.Bottom]]⟩), (144, ⟨p.1.2.2.2.2.2, true, true, 4, List.map TApiEntry.enc p.1.2.2.2.2.1⟩)], 145, []⟩) (fun p => p.1.1) ⟨(fu, 0, vr4.Some, vr4.Last, [], 0), hxx59⟩ ⟨rF, rE, rfl, rfl, trivial, trivial⟩ (fun _ => Nat.le_refl _) ?_
   rintro ⟨⟨fu, v60, v61, v62, v63, g64⟩, h1⟩
   cases fu with
   | zero =>
   replace h1 : shadow_Filter_l1 l1 vr4 0 v60 v61 v62 v63 = some x59 := h1
   rw [shadow_Filter_l1] at h1; cases h1
   | succ fu =>
    replace h1 : shadow_Filter_l1 l1 vr4 (fu + 1) v60 v61 v62 v63 = some x59 := h1
    rw [shadow_Filter_l1] at h1
    refine (show AWP _ _ _ _ ⟨[(2, .fn 58 [] [.ref 0 0 0 0]), (8, .ref 104 0 0 0), (19, .psl 4 (List.map TApiEntry.enc l1)), (20, .int .i64 (l1.length : Int)), (21, .int .i64 v60)], [(0, ⟨0, true, false, 1, [[.sl 144 g64 4 0 v63.length]]⟩), (104, ⟨0, true, true, 3, [[.bool v61, .str v62, .bool vr4.Bottom]]⟩), (144, ⟨g64, true, true, 4, List.map TApiEntry.enc v63⟩)], 145, []⟩ from ?_)
    refine awp_sr2 153 [2, 8, 19, 20, 21, 22] (fun _ => none) rfl (fun _ _ => rT) ?_
    refine awp_seq ?_
    refine awp_if rfl (fun hb65 => ?_) (fun hb65 => ?_)
    ·
     replace h1 := iteT h1 hb65
     refine awp_skip ?_
     refine kn_then ?_
     refine awp_seq ?_
     refine awp_block ?_
     obtain ⟨e66, he66, h1⟩ := bindS h1
     obtain ⟨he66a, he66b, he66c⟩ := idxS he66
     refine awp_sr2 201 [2, 8, 9, 10, 19, 20, 21] (fun _ => none) rfl (fun _ _ => rS (rA he66a (rA he66b he66c))) ?_
     refine awp_sops2 11 rfl ?_
     refine awpo_cut (l' := List.range' 0 2 ++ (2 :: (List.range' 3 8 ++ []))) rfl ?_
     refine awpo_seg 0 2 217 (2 :: (List.range' 3 8 ++ [])) (fun _ => none) rfl rfl rfl (fun _ _ => rS (rA he66a (rA he66b he66c))) ?_
     refine awpo_in rfl rfl rfl rfl rfl Try.func77 rfl (by decide) rfl (Nat.le_of_ble_eq_true rfl) ?_
     dsimp only [Try.f77]
     refine awp_re (s2 := ⟨[(0, .agg [.bool v61, .str v62, .bool vr4.Bottom]), (1, .agg [.str e66.Key, .str e66.Val, .bool e66.Dead, .int .i64 e66.Seq])], [(0, ⟨0, true, false, 1, [[.sl 144 g64 4 0 v63.length]]⟩), (104, ⟨0, true, true, 3, [[.bool v61, .str v62, .bool vr4.Bottom]]⟩), (144, ⟨g64, true, true, 4, List.map TApiEntry.enc v63⟩), (177, ⟨0, true, true, 4, [[.str e66.Key, .str e66.Val, .bool e66.Dead, .int .i64 e66.Seq]]⟩)], 217, []⟩) [] (Nat.le_of_ble_eq_true rfl) ⟨rF, rE, rfl, rfl, trivial, trivial⟩ ?_
     refine awp_sr2 257 [2, 3, 5] (fun _ => none) rfl (fun _ _ => rS (rA he66a (rA he66b he66c))) ?_
     refine awp_seq ?_
     obtain ⟨vr67, hvr67, h1⟩ := bindS h1
     refine awp_sr2 281 [2, 3, 5, 7] (fun | 1 => some (.int .i64 vr67, []) | _ => none) rfl (fun _ _ => rB (rA he66a (rA he66b he66c)) (c_shadow_Check hvr67)) ?_
     refine awp_sr2 297 [2, 3, 5, 7, 13] (fun _ => none) rfl (fun _ _ => rS (rA he66a (rA he66b he66c))) ?_
     refine awp_if rfl (fun hb68 => ?_) (fun hb68 => ?_)
     ·
      replace h1 := iteT h1 hb68
      refine awp_sr2 337 [4, 5, 6] (fun _ => none) rfl (fun _ _ => rS (rA he66a (rA he66b he66c))) ?_
      refine awp_ret ?_
      refine kr_then ?_
      refine leave_retK (fun _ _ => rS (rA he66a (rA he66b he66c))) ?_
      refine awpo_re (s2 := ⟨[(2, .fn 58 [] [.ref 0 0 0 0]), (8, .ref 104 0 0 0), (9, .int .i64 v60), (10, .ref 177 0 0 0), (19, .psl 4 (List.map TApiEntry.enc l1)), (20, .int .i64 (l1.length : Int)), (21, .int .i64 v60), (27, .agg [.bool v61, .str v62, .bool vr4.Bottom]), (28, .agg [.str e66.Key, .str e66.Val, .bool e66.Dead, .int .i64 e66.Seq]), (29, .tup [.nili, .agg [.bool false, .str [], .bool false], .int .i64 vr67])], [(0, ⟨0, true, false, 1, [[.sl 144 g64 4 0 v63.length]]⟩), (104, ⟨0, true, true, 3, [[.bool v61, .str v62, .bool vr4.Bottom]]⟩), (144, ⟨g64, true, true, 4, List.map TApiEntry.enc v63⟩), (177, ⟨0, true, true, 4, [[.str e66.Key, .str e66.Val, .bool e66.Dead, .int .i64 e66.Seq]]⟩)], 337, []⟩) [] (Nat.le_of_ble_eq_true rfl) ⟨rF, rE, rfl, rfl, trivial, trivial⟩ ?_
      refine awpo_cut (l' := List.range' 3 8 ++ []) rfl ?_
      refine awpo_seg 3 8 401 [] (fun _ => none) rfl rfl rfl (fun _ _ => rS (rA he66a (rA he66b he66c))) ?_
      refine awpo_nil ?_
      refine kn_then ?_
      refine awp_re (s2 := ⟨[(2, .fn 58 [] [.ref 0 0 0 0]), (8, .ref 104 0 0 0), (9, .int .i64 v60), (11, .nili), (12, .ref 369 0 0 0), (13, .int .i64 vr67), (19, .psl 4 (List.map TApiEntry.enc l1)), (20, .int .i64 (l1.length : Int)), (21, .int .i64 v60)], [(0, ⟨0, true, false, 1, [[.sl 144 g64 4 0 v63.length]]⟩), (104, ⟨0, true, true, 3, [[.bool v61, .str v62, .bool vr4.Bottom]]⟩), (144, ⟨g64, true, true, 4, List.map TApiEntry.enc v63⟩), (177, ⟨0, true, true, 4, [[.str e66.Key, .str e66.Val, .bool e66.Dead, .int .i64 e66.Seq]]⟩), (369, ⟨0, true, true, 3, [[.bool false, .str [], .bool false]]⟩)], 401, []⟩) [] (Nat.le_of_ble_eq_true rfl) ⟨rF, rE, rfl, rfl, trivial, trivial⟩ ?_
      refine awp_seq ?_
      refine awp_sr2 417 [2, 8, 9, 11, 12, 13, 19, 20, 21, 34] (fun _ => none) rfl (fun _ _ => rS (rA he66a (rA he66b he66c))) ?_
      refine awp_condKT rfl hb68 ?_
      refine awp_sr2 449 [6, 7] (fun _ => none) rfl (fun _ _ => rS (rA he66a (rA he66b he66c))) ?_
      refine awp_ret ?_
      obtain rfl := Option.some.inj h1
      refine kr_then ?_
      refine kr_block ?_
      refine kr_then ?_
      refine kr_then ?_
      refine kr_loop ?_
      refine kr_then ?_
      refine leave_retK (fun _ _ => rS (rA he66a (rA he66b he66c))) ?_
      refine awpo_re (s2 := ⟨[(0, .psl 4 (List.map TApiEntry.enc l1)), (1, .bool bottom2), (4, .ref 0 0 0 0), (8, .psl 4 (List.map TApiEntry.enc l1)), (9, .bool bottom2), (10, .fn 58 [] [.ref 0 0 0 0]), (11, .tup [.int .i64 v60, .int .i64 vr67])], [(0, ⟨0, true, false, 1, [[.sl 144 g64 4 0 v63.length]]⟩), (144, ⟨g64, true, true, 4, List.map TApiEntry.enc v63⟩)], 449, []⟩) [] (Nat.le_of_ble_eq_true rfl) ⟨rF, rE, rfl, rfl, trivial, trivial⟩ ?_
      refine awpo_cut (l' := List.range' 4 5 ++ []) rfl ?_
      refine awpo_seg 4 5 489 [] (fun _ => none) rfl rfl rfl (fun _ _ => rS (rA he66a (rA he66b he66c))) ?_
      refine awpo_nil ?_
      refine kn_then ?_
      refine awp_re (s2 := ⟨[(4, .ref 0 0 0 0), (5, .int .i64 v60), (6, .int .i64 vr67)], [(0, ⟨0, true, false, 1, [[.sl 144 g64 4 0 v63.length]]⟩), (144, ⟨g64, true, true, 4, List.map TApiEntry.enc v63⟩)], 489, []⟩) [] (Nat.le_of_ble_eq_true rfl) ⟨rF, rE, rfl, rfl, trivial, trivial⟩ ?_
      refine awp_seq ?_
      refine awp_sr2 505 [4, 5, 6, 15] (fun _ => none) rfl (fun _ _ => rS (rA he66a (rA he66b he66c))) ?_
      refine awp_condKT rfl hb68 ?_
      refine awp_sr2 545 [4, 5, 6] (fun _ => none) rfl (fun _ _ => rS (rA he66a (rA he66b he66c))) ?_
      refine awp_ret ?_
      refine kr_then ?_
      obtain rfl := Option.some.inj h0
      refine leave_retG [] ?_
      simp (maxSteps := 1000000) only [↓reduceIte, reduceCtorEq, Nat.reduceEqDiff, Nat.reduceLT, Nat.reduceLeDiff, Nat.reduceAdd, Nat.reduceMul, Int.reduceToNat, push_cast, Gives, he66a, he66b, he66c]
      all_goals exact rH
     ·
      replace h1 := iteF h1 hb68
      refine awp_skip ?_
      refine kn_then ?_
      refine awp_seq ?_
      obtain ⟨vr69, hvr69, h1⟩ := bindS h1
      refine awp_sr2 321 [2, 3, 5, 8] (fun | 1 => some (.int .i64 vr69, []) | _ => none) rfl (fun _ _ => rB (rA he66a (rA he66b he66c)) (c_entries_Check hvr69)) ?_
      refine awp_sr2 337 [2, 3, 5, 8, 19] (fun _ => none) rfl (fun _ _ => rS (rA he66a (rA he66b he66c))) ?_
      refine awp_if rfl (fun hb70 => ?_) (fun hb70 => ?_)
      ·
       replace h1 := iteT h1 hb70
       refine awp_sr2 377 [4, 5, 6] (fun _ => none) rfl (fun _ _ => rS (rA he66a (rA he66b he66c))) ?_
       refine awp_ret ?_
       refine kr_then ?_
       refine leave_retK (fun _ _ => rS (rA he66a (rA he66b he66c))) ?_
       refine awpo_re (s2 := ⟨[(2, .fn 58 [] [.ref 0 0 0 0]), (8, .ref 104 0 0 0), (9, .int .i64 v60), (10, .ref 177 0 0 0), (19, .psl 4 (List.map TApiEntry.enc l1)), (20, .int .i64 (l1.length : Int)), (21, .int .i64 v60), (27, .agg [.bool v61, .str v62, .bool vr4.Bottom]), (28, .agg [.str e66.Key, .str e66.Val, .bool e66.Dead, .int .i64 e66.Seq]), (29, .tup [.nili, .agg [.bool false, .str [], .bool false], .int .i64 vr69])], [(0, ⟨0, true, false, 1, [[.sl 144 g64 4 0 v63.length]]⟩), (104, ⟨0, true, true, 3, [[.bool v61, .str v62, .bool vr4.Bottom]]⟩), (144, ⟨g64, true, true, 4, List.map TApiEntry.enc v63⟩), (177, ⟨0, true, true, 4, [[.str e66.Key, .str e66.Val, .bool e66.Dead, .int .i64 e66.Seq]]⟩)], 377, []⟩) [] (Nat.le_of_ble_eq_true rfl) ⟨rF, rE, rfl, rfl, trivial, trivial⟩ ?_
       refine awpo_cut (l' := List.range' 3 8 ++ []) rfl ?_
       refine awpo_seg 3 8 441 [] (fun _ => none) rfl rfl rfl (fun _ _ => rS (rA he66a (rA he66b he66c))) ?_
       refine awpo_nil ?_
       refine kn_then ?_
       refine awp_re (s2 := ⟨[(2, .fn 58 [] [.ref 0 0 0 0]), (8, .ref 104 0 0 0), (9, .int .i64 v60), (11, .nili), (12, .ref 409 0 0 0), (13, .int .i64 vr69), (19, .psl 4 (List.map TApiEntry.enc l1)), (20, .int .i64 (l1.length : Int)), (21, .int .i64 v60)], [(0, ⟨0, true, false, 1, [[.sl 144 g64 4 0 v63.length]]⟩), (104, ⟨0, true, true, 3, [[.bool v61, .str v62, .bool vr4.Bottom]]⟩), (144, ⟨g64, true, true, 4, List.map TApiEntry.enc v63⟩), (177, ⟨0, true, true, 4, [[.str e66.Key, .str e66.Val, .bool e66.Dead, .int .i64 e66.Seq]]⟩), (409, ⟨0, true, true, 3, [[.bool false, .str [], .bool false]]⟩)], 441, []⟩) [] (Nat.le_of_ble_eq_true rfl) ⟨rF, rE, rfl, rfl, trivial, trivial⟩ ?_
       refine awp_seq ?_
       refine awp_sr2 457 [2, 8, 9, 11, 12, 13, 19, 20, 21, 34] (fun _ => none) rfl (fun _ _ => rS (rA he66a (rA he66b he66c))) ?_
       refine awp_condKT rfl hb70 ?_
       refine awp_sr2 489 [6, 7] (fun _ => none) rfl (fun _ _ => rS (rA he66a (rA he66b he66c))) ?_
       refine awp_ret ?_
       obtain rfl := Option.some.inj h1
       refine kr_then ?_
       refine kr_block ?_
       refine kr_then ?_
       refine kr_then ?_
       refine kr_loop ?_
       refine kr_then ?_
       refine leave_retK (fun _ _ => rS (rA he66a (rA he66b he66c))) ?_
       refine awpo_re (s2 := ⟨[(0, .psl 4 (List.map TApiEntry.enc l1)), (1, .bool bottom2), (4, .ref 0 0 0 0), (8, .psl 4 (List.map TApiEntry.enc l1)), (9, .bool bottom2), (10, .fn 58 [] [.ref 0 0 0 0]), (11, .tup [.int .i64 v60, .int .i64 vr69])], [(0, ⟨0, true, false, 1, [[.sl 144 g64 4 0 v63.length]]⟩), (144, ⟨g64, true, true, 4, List.map TApiEntry.enc v63⟩)], 489, []⟩) [] (Nat.le_of_ble_eq_true rfl) ⟨rF, rE, rfl, rfl, trivial, trivial⟩ ?_
       refine awpo_cut (l' := List.range' 4 5 ++ []) rfl ?_
       refine awpo_seg 4 5 529 [] (fun _ => none) rfl rfl rfl (fun _ _ => rS (rA he66a (rA he66b he66c))) ?_
       refine awpo_nil ?_
       refine kn_then ?_
       refine awp_re (s2 := ⟨[(4, .ref 0 0 0 0), (5, .int .i64 v60), (6, .int .i64 vr69)], [(0, ⟨0, true, false, 1, [[.sl 144 g64 4 0 v63.length]]⟩), (144, ⟨g64, true, true, 4, List.map TApiEntry.enc v63⟩)], 529, []⟩) [] (Nat.le_of_ble_eq_true rfl) ⟨rF, rE, rfl, rfl, trivial, trivial⟩ ?_
       refine awp_seq ?_
       refine awp_sr2 545 [4, 5, 6, 15] (fun _ => none) rfl (fun _ _ => rS (rA he66a (rA he66b he66c))) ?_
       refine awp_condKT rfl hb70 ?_
       refine awp_sr2 585 [4, 5, 6] (fun _ => none) rfl (fun _ _ => rS (rA he66a (rA he66b he66c))) ?_
       refine awp_ret ?_
       refine kr_then ?_
       obtain rfl := Option.some.inj h0
       refine leave_retG [] ?_
       simp (maxSteps := 1000000) only [↓reduceIte, reduceCtorEq, Nat.reduceEqDiff, Nat.reduceLT, Nat.reduceLeDiff, Nat.reduceAdd, Nat.reduceMul, Int.reduceToNat, push_cast, Gives, he66a, he66b, he66c]
       all_goals exact rH
      ·
       replace h1 := iteF h1 hb70
       refine awp_skip ?_
       refine kn_then ?_
       refine awp_seq ?_
       obtain ⟨b71, hb71, h1⟩ := bindS h1
       refine awp_sr3 (fr' := [(2, .ref 217 0 0 0), (3, .ref 225 0 0 0), (5, .ref 241 0 0 0), (30, .bool b71)]) (hp' := [(0, ⟨0, true, false, 1, [[.sl 144 g64 4 0 v63.length]]⟩), (104, ⟨0, true, true, 3, [[.bool v61, .str v62, .bool vr4.Bottom]]⟩), (144, ⟨g64, true, true, 4, List.map TApiEntry.enc v63⟩), (177, ⟨0, true, true, 4, [[.str e66.Key, .str e66.Val, .bool e66.Dead, .int .i64 e66.Seq]]⟩), (217, ⟨0, true, true, 3, [[.bool v61, .str v62, .bool vr4.Bottom]]⟩), (225, ⟨0, true, true, 4, [[.str e66.Key, .str e66.Val, .bool e66.Dead, .int .i64 e66.Seq]]⟩), (241, ⟨0, true, true, 3, [[.bool false, .str [], .bool false]]⟩)]) [0, 104, 144, 177, 217, 225, 241] 409 [2, 3, 5, 30] (fun _ => none) rfl (fun Kt hK => by
         cases v61 with
         | false =>
          replace hb71 := iteF hb71 rfl
          have hqb71 := Option.some.inj hb71
          subst hqb71
          exact rS (rA he66a (rA he66b he66c))
         | true =>
          replace hb71 := iteT hb71 rfl
          have hqb71 := Option.some.inj hb71
          subst hqb71
          exact rS (rA he66a (rA he66b he66c))) ?_
       refine awp_if rfl (fun hb73 => ?_) (fun hb73 => ?_)
       ·
        replace h1 := iteT h1 hb73
        refine awp_sr2 441 [4, 5, 6] (fun _ => none) rfl (fun _ _ => rS (rA he66a (rA he66b he66c))) ?_
        refine awp_ret ?_
        refine kr_then ?_
        refine leave_retK (fun _ _ => rS (rA he66a (rA he66b he66c))) ?_
        refine awpo_re (s2 := ⟨[(2, .fn 58 [] [.ref 0 0 0 0]), (8, .ref 104 0 0 0), (9, .int .i64 v60), (10, .ref 177 0 0 0), (19, .psl 4 (List.map TApiEntry.enc l1)), (20, .int .i64 (l1.length : Int)), (21, .int .i64 v60), (27, .agg [.bool v61, .str v62, .bool vr4.Bottom]), (28, .agg [.str e66.Key, .str e66.Val, .bool e66.Dead, .int .i64 e66.Seq]), (29, .tup [.nili, .agg [.bool false, .str [], .bool false], .int .i64 6])], [(0, ⟨0, true, false, 1, [[.sl 144 g64 4 0 v63.length]]⟩), (104, ⟨0, true, true, 3, [[.bool v61, .str v62, .bool vr4.Bottom]]⟩), (144, ⟨g64, true, true, 4, List.map TApiEntry.enc v63⟩), (177, ⟨0, true, true, 4, [[.str e66.Key, .str e66.Val, .bool e66.Dead, .int .i64 e66.Seq]]⟩)], 441, []⟩) [] (Nat.le_of_ble_eq_true rfl) ⟨rF, rE, rfl, rfl, trivial, trivial⟩ ?_
        refine awpo_cut (l' := List.range' 3 8 ++ []) rfl ?_
        refine awpo_seg 3 8 505 [] (fun _ => none) rfl rfl rfl (fun _ _ => rS (rA he66a (rA he66b he66c))) ?_
        refine awpo_nil ?_
        refine kn_then ?_
        refine awp_re (s2 := ⟨[(2, .fn 58 [] [.ref 0 0 0 0]), (8, .ref 104 0 0 0), (9, .int .i64 v60), (11, .nili), (12, .ref 473 0 0 0), (13, .int .i64 6), (19, .psl 4 (List.map TApiEntry.enc l1)), (20, .int .i64 (l1.length : Int)), (21, .int .i64 v60)], [(0, ⟨0, true, false, 1, [[.sl 144 g64 4 0 v63.length]]⟩), (104, ⟨0, true, true, 3, [[.bool v61, .str v62, .bool vr4.Bottom]]⟩), (144, ⟨g64, true, true, 4, List.map TApiEntry.enc v63⟩), (177, ⟨0, true, true, 4, [[.str e66.Key, .str e66.Val, .bool e66.Dead, .int .i64 e66.Seq]]⟩), (473, ⟨0, true, true, 3, [[.bool false, .str [], .bool false]]⟩)], 505, []⟩) [] (Nat.le_of_ble_eq_true rfl) ⟨rF, rE, rfl, rfl, trivial, trivial⟩ ?_
        refine awp_seq ?_
        refine awp_sr2 521 [2, 8, 9, 11, 12, 13, 19, 20, 21, 34] (fun _ => none) rfl (fun _ _ => rS (rA he66a (rA he66b he66c))) ?_
        refine awp_condT rfl ?_
        refine awp_sr2 553 [6, 7] (fun _ => none) rfl (fun _ _ => rS (rA he66a (rA he66b he66c))) ?_
        refine awp_ret ?_
        obtain rfl := Option.some.inj h1
        refine kr_then ?_
        refine kr_block ?_
        refine kr_then ?_
        refine kr_then ?_
        refine kr_loop ?_
        refine kr_then ?_
        refine leave_retK (fun _ _ => rS (rA he66a (rA he66b he66c))) ?_
        refine awpo_re (s2 := ⟨[(0, .psl 4 (List.map TApiEntry.enc l1)), (1, .bool bottom2), (4, .ref 0 0 0 0), (8, .psl 4 (List.map TApiEntry.enc l1)), (9, .bool bottom2), (10, .fn 58 [] [.ref 0 0 0 0]), (11, .tup [.int .i64 v60, .int .i64 6])], [(0, ⟨0, true, false, 1, [[.sl 144 g64 4 0 v63.length]]⟩), (144, ⟨g64, true, true, 4, List.map TApiEntry.enc v63⟩)], 553, []⟩) [] (Nat.le_of_ble_eq_true rfl) ⟨rF, rE, rfl, rfl, trivial, trivial⟩ ?_
        refine awpo_cut (l' := List.range' 4 5 ++ []) rfl ?_
        refine awpo_seg 4 5 593 [] (fun _ => none) rfl rfl rfl (fun _ _ => rS (rA he66a (rA he66b he66c))) ?_
        refine awpo_nil ?_
        refine kn_then ?_
        refine awp_re (s2 := ⟨[(4, .ref 0 0 0 0), (5, .int .i64 v60), (6, .int .i64 6)], [(0, ⟨0, true, false, 1, [[.sl 144 g64 4 0 v63.length]]⟩), (144, ⟨g64, true, true, 4, List.map TApiEntry.enc v63⟩)], 593, []⟩) [] (Nat.le_of_ble_eq_true rfl) ⟨rF, rE, rfl, rfl, trivial, trivial⟩ ?_
        refine awp_seq ?_
        refine awp_sr2 609 [4, 5, 6, 15] (fun _ => none) rfl (fun _ _ => rS (rA he66a (rA he66b he66c))) ?_
        refine awp_condT rfl ?_
        refine awp_sr2 649 [4, 5, 6] (fun _ => none) rfl (fun _ _ => rS (rA he66a (rA he66b he66c))) ?_
        refine awp_ret ?_
        refine kr_then ?_
        obtain rfl := Option.some.inj h0
        refine leave_retG [] ?_
        simp (maxSteps := 1000000) only [↓reduceIte, reduceCtorEq, Nat.reduceEqDiff, Nat.reduceLT, Nat.reduceLeDiff, Nat.reduceAdd, Nat.reduceMul, Int.reduceToNat, push_cast, Gives, he66a, he66b, he66c]
        all_goals exact rH
       ·
        replace h1 := iteF h1 hb73
        refine awp_skip ?_
        refine kn_then ?_
        refine awp_sr2 465 [2, 3, 5, 9] (fun _ => none) rfl (fun _ _ => rS (rA he66a (rA he66b he66c))) ?_
        refine awp_seq ?_
        refine awp_block ?_
        obtain ⟨b74, hb74, h1⟩ := bindS h1
        refine awp_sr3 (fr' := [(2, .ref 217 0 0 0), (3, .ref 225 0 0 0), (5, .ref 241 0 0 0), (9, .ref 449 0 0 0), (37, .bool b74)]) (hp' := [(0, ⟨0, true, false, 1, [[.sl 144 g64 4 0 v63.length]]⟩), (104, ⟨0, true, true, 3, [[.bool v61, .str v62, .bool vr4.Bottom]]⟩), (144, ⟨g64, true, true, 4, List.map TApiEntry.enc v63⟩), (177, ⟨0, true, true, 4, [[.str e66.Key, .str e66.Val, .bool e66.Dead, .int .i64 e66.Seq]]⟩), (217, ⟨0, true, true, 3, [[.bool v61, .str v62, .bool vr4.Bottom]]⟩), (225, ⟨0, true, true, 4, [[.str e66.Key, .str e66.Val, .bool e66.Dead, .int .i64 e66.Seq]]⟩), (241, ⟨0, true, true, 3, [[.bool false, .str [], .bool false]]⟩), (449, ⟨0, true, true, 3, [[.bool true, .str e66.Key, .bool vr4.Bottom]]⟩)]) [0, 104, 144, 177, 217, 225, 241, 449] 545 [2, 3, 5, 9, 37] (fun _ => none) rfl (fun Kt hK => by
          cases v61 with
          | false =>
           replace hb74 := iteF hb74 rfl
           have hqb74 := Option.some.inj hb74
           subst hqb74
           exact rS (rA he66a (rA he66b he66c))
          | true =>
           replace hb74 := iteT hb74 rfl
           have hqb74 := Option.some.inj hb74
           subst hqb74
           exact rS (rA he66a (rA he66b he66c))) ?_
        refine awp_if rfl (fun hb76 => ?_) (fun hb76 => ?_)
        ·
         replace h1 := iteT h1 hb76
         refine awp_sd2 593 [4, 5, 6] (fun _ => none) rfl rfl rfl (fun _ _ => rSd (rA he66a (rA he66b he66c))) ?_
         refine awp_ret ?_
         refine kr_block ?_
         refine kr_then ?_
         refine leave_retK (fun _ _ => rS (rA he66a (rA he66b he66c))) ?_
         refine awpo_re (s2 := ⟨[(2, .fn 58 [] [.ref 0 0 0 0]), (8, .ref 104 0 0 0), (9, .int .i64 v60), (10, .ref 177 0 0 0), (19, .psl 4 (List.map TApiEntry.enc l1)), (20, .int .i64 (l1.length : Int)), (21, .int .i64 v60), (27, .agg [.bool v61, .str v62, .bool vr4.Bottom]), (28, .agg [.str e66.Key, .str e66.Val, .bool e66.Dead, .int .i64 e66.Seq]), (29, .tup [.iface 129 (.agg [.str e66.Key, .str e66.Val, .bool e66.Dead, .int .i64 e66.Seq]), .agg [.bool true, .str e66.Key, .bool vr4.Bottom], .int .i64 0])], [(0, ⟨0, true, false, 1, [[.sl 144 g64 4 0 v63.length]]⟩), (104, ⟨0, true, true, 3, [[.bool v61, .str v62, .bool vr4.Bottom]]⟩), (144, ⟨g64, true, true, 4, List.map TApiEntry.enc v63⟩), (177, ⟨0, true, true, 4, [[.str e66.Key, .str e66.Val, .bool e66.Dead, .int .i64 e66.Seq]]⟩)], 593, []⟩) [] (Nat.le_of_ble_eq_true rfl) ⟨rF, rE, rfl, rfl, trivial, trivial⟩ ?_
         refine awpo_cut (l' := List.range' 3 8 ++ []) rfl ?_
         refine awpo_seg 3 8 657 [] (fun _ => none) rfl rfl rfl (fun _ _ => rS (rA he66a (rA he66b he66c))) ?_
         refine awpo_nil ?_
         refine kn_then ?_
         refine awp_re (s2 := ⟨[(2, .fn 58 [] [.ref 0 0 0 0]), (8, .ref 104 0 0 0), (9, .int .i64 v60), (11, .iface 129 (.agg [.str e66.Key, .str e66.Val, .bool e66.Dead, .int .i64 e66.Seq])), (12, .ref 625 0 0 0), (13, .int .i64 0), (19, .psl 4 (List.map TApiEntry.enc l1)), (20, .int .i64 (l1.length : Int)), (21, .int .i64 v60)], [(0, ⟨0, true, false, 1, [[.sl 144 g64 4 0 v63.length]]⟩), (104, ⟨0, true, true, 3, [[.bool v61, .str v62, .bool vr4.Bottom]]⟩), (144, ⟨g64, true, true, 4, List.map TApiEntry.enc v63⟩), (177, ⟨0, true, true, 4, [[.str e66.Key, .str e66.Val, .bool e66.Dead, .int .i64 e66.Seq]]⟩), (625, ⟨0, true, true, 3, [[.bool true, .str e66.Key, .bool vr4.Bottom]]⟩)], 657, []⟩) [] (Nat.le_of_ble_eq_true rfl) ⟨rF, rE, rfl, rfl, trivial, trivial⟩ ?_
         refine awp_seq ?_
         refine awp_sr2 673 [2, 8, 9, 11, 12, 13, 19, 20, 21, 34] (fun _ => none) rfl (fun _ _ => rS (rA he66a (rA he66b he66c))) ?_
         refine awp_condF rfl ?_
         refine awp_skip ?_
         refine kn_then ?_
         refine awp_sops2 3 rfl ?_
         refine awpo_cut (l' := List.range' 0 2 ++ (2 :: (List.range' 3 0 ++ []))) rfl ?_
         refine awpo_seg 0 2 689 (2 :: (List.range' 3 0 ++ [])) (fun _ => none) rfl rfl rfl (fun _ _ => rS (rA he66a (rA he66b he66c))) ?_
         refine awpo_in rfl rfl rfl rfl rfl Try.func58 rfl (by decide) rfl (Nat.le_of_ble_eq_true rfl) ?_
         dsimp only [Try.f58]
         refine awp_re (s2 := ⟨[(0, .iface 129 (.agg [.str e66.Key, .str e66.Val, .bool e66.Dead, .int .i64 e66.Seq])), (1, .ref 0 0 0 0)], [(0, ⟨0, true, false, 1, [[.sl 144 g64 4 0 v63.length]]⟩), (104, ⟨0, true, true, 3, [[.bool v61, .str v62, .bool vr4.Bottom]]⟩), (144, ⟨g64, true, true, 4, List.map TApiEntry.enc v63⟩), (177, ⟨0, true, true, 4, [[.str e66.Key, .str e66.Val, .bool e66.Dead, .int .i64 e66.Seq]]⟩), (625, ⟨0, true, true, 3, [[.bool true, .str e66.Key, .bool vr4.Bottom]]⟩)], 689, []⟩) [] (Nat.le_of_ble_eq_true rfl) ⟨rF, rE, rfl, rfl, trivial, trivial⟩ ?_
         refine awp_sr2 753 [0, 1, 4] (fun _ => none) rfl (fun _ _ => rS (rA he66a (rA he66b he66c))) ?_
         refine awp_sr2 761 [0, 1, 10] (fun _ => none) rfl (fun _ _ => rS (rA he66a (rA he66b he66c))) ?_
         refine awp_condF rfl ?_
         refine awp_skip ?_
         refine leave_endK (fun _ _ => rS (rA he66a (rA he66b he66c))) ?_
         refine awpo_re (s2 := ⟨[(2, .fn 58 [] [.ref 0 0 0 0]), (8, .ref 104 0 0 0), (9, .int .i64 v60), (11, .iface 129 (.agg [.str e66.Key, .str e66.Val, .bool e66.Dead, .int .i64 e66.Seq])), (12, .ref 625 0 0 0), (13, .int .i64 0), (19, .psl 4 (List.map TApiEntry.enc l1)), (20, .int .i64 (l1.length : Int)), (21, .int .i64 v60), (34, .bool false), (37, .fn 58 [] [.ref 0 0 0 0]), (38, .iface 129 (.agg [.str e66.Key, .str e66.Val, .bool e66.Dead, .int .i64 e66.Seq])), (39, .tup [])], [(0, ⟨0, true, false, 1, [[.sl 144 g64 4 0 v63.length]]⟩), (104, ⟨0, true, true, 3, [[.bool v61, .str v62, .bool vr4.Bottom]]⟩), (144, ⟨g64, true, true, 4, List.map TApiEntry.enc v63⟩), (177, ⟨0, true, true, 4, [[.str e66.Key, .str e66.Val, .bool e66.Dead, .int .i64 e66.Seq]]⟩), (625, ⟨0, true, true, 3, [[.bool true, .str e66.Key, .bool vr4.Bottom]]⟩)], 761, []⟩) [] (Nat.le_of_ble_eq_true rfl) ⟨rF, rE, rfl, rfl, trivial, trivial⟩ ?_
         refine awpo_cut (l' := []) rfl ?_
         refine awpo_nil ?_
         refine kn_then ?_
         refine awp_re (s2 := ⟨[(2, .fn 58 [] [.ref 0 0 0 0]), (8, .ref 104 0 0 0), (12, .ref 625 0 0 0), (19, .psl 4 (List.map TApiEntry.enc l1)), (20, .int .i64 (l1.length : Int)), (21, .int .i64 v60)], [(0, ⟨0, true, false, 1, [[.sl 144 g64 4 0 v63.length]]⟩), (104, ⟨0, true, true, 3, [[.bool v61, .str v62, .bool vr4.Bottom]]⟩), (144, ⟨g64, true, true, 4, List.map TApiEntry.enc v63⟩), (177, ⟨0, true, true, 4, [[.str e66.Key, .str e66.Val, .bool e66.Dead, .int .i64 e66.Seq]]⟩), (625, ⟨0, true, true, 3, [[.bool true, .str e66.Key, .bool vr4.Bottom]]⟩)], 761, []⟩) [] (Nat.le_of_ble_eq_true rfl) ⟨rF, rE, rfl, rfl, trivial, trivial⟩ ?_
         refine awp_r2 777 [2, 8, 19, 20, 21] (fun _ => none) rfl (fun _ _ => rS (rA he66a (rA he66b he66c))) ?_
         refine kn_block ?_
         refine kn_then ?_
         refine awp_r2 793 [2, 8, 19, 20, 21] (fun _ => none) rfl (fun _ _ => rS (rA he66a (rA he66b he66c))) ?_
         refine kn_then ?_
         exact ⟨⟨(fu, (IntKind.i64.wrap (v60 + 1)), true, e66.Key, v63, g64), h1⟩, ⟨rF, rE, rfl, rfl, trivial, trivial⟩, Nat.lt_succ_self _⟩
        ·
         replace h1 := iteF h1 hb76
         obtain ⟨b77, hb77, h1⟩ := bindS h1
         refine awp_sr3 (fr' := [(3, .ref 225 0 0 0), (5, .ref 241 0 0 0), (9, .ref 449 0 0 0), (50, .bool b77)]) (hp' := [(0, ⟨0, true, false, 1, [[.sl 144 g64 4 0 v63.length]]⟩), (104, ⟨0, true, true, 3, [[.bool v61, .str v62, .bool vr4.Bottom]]⟩), (144, ⟨g64, true, true, 4, List.map TApiEntry.enc v63⟩), (177, ⟨0, true, true, 4, [[.str e66.Key, .str e66.Val, .bool e66.Dead, .int .i64 e66.Seq]]⟩), (217, ⟨0, true, true, 3, [[.bool v61, .str v62, .bool vr4.Bottom]]⟩), (225, ⟨0, true, true, 4, [[.str e66.Key, .str e66.Val, .bool e66.Dead, .int .i64 e66.Seq]]⟩), (241, ⟨0, true, true, 3, [[.bool false, .str [], .bool false]]⟩), (449, ⟨0, true, true, 3, [[.bool true, .str e66.Key, .bool vr4.Bottom]]⟩)]) [0, 104, 144, 177, 217, 225, 241, 449] 601 [3, 5, 9, 50] (fun _ => none) rfl (fun Kt hK => by
           cases hg78 : vr4.Bottom with
           | false =>
            replace hb77 := iteF hb77 hg78
            have hqb77 := Option.some.inj hb77
            subst hqb77
            simp (maxSteps := 1000000) only [↓reduceIte, reduceCtorEq, Nat.reduceEqDiff, Nat.reduceLT, Nat.reduceLeDiff, Nat.reduceAdd, Nat.reduceMul, Int.reduceToNat, push_cast, he66a, he66b, he66c, ↓hg78]
            try simp only [↓hg78] at hK
            all_goals exact rU
           | true =>
            replace hb77 := iteT hb77 hg78
            have hqb77 := Option.some.inj hb77
            subst hqb77
            simp (maxSteps := 1000000) only [↓reduceIte, reduceCtorEq, Nat.reduceEqDiff, Nat.reduceLT, Nat.reduceLeDiff, Nat.reduceAdd, Nat.reduceMul, Int.reduceToNat, push_cast, he66a, he66b, he66c, ↓hg78]
            try simp only [↓hg78] at hK
            all_goals exact rU) ?_
         refine awp_if rfl (fun hb79 => ?_) (fun hb79 => ?_)
         ·
          replace h1 := iteT h1 hb79
          refine awp_sd2 649 [4, 5, 6] (fun _ => none) rfl rfl rfl (fun _ _ => rSd (rA he66a (rA he66b he66c))) ?_
          refine awp_ret ?_
          refine kr_block ?_
          refine kr_then ?_
          refine leave_retK (fun _ _ => rS (rA he66a (rA he66b he66c))) ?_
          refine awpo_re (s2 := ⟨[(2, .fn 58 [] [.ref 0 0 0 0]), (8, .ref 104 0 0 0), (9, .int .i64 v60), (10, .ref 177 0 0 0), (19, .psl 4 (List.map TApiEntry.enc l1)), (20, .int .i64 (l1.length : Int)), (21, .int .i64 v60), (27, .agg [.bool v61, .str v62, .bool vr4.Bottom]), (28, .agg [.str e66.Key, .str e66.Val, .bool e66.Dead, .int .i64 e66.Seq]), (29, .tup [.iface 130 (.agg [.str e66.Key, .str e66.Val, .bool e66.Dead, .int .i64 e66.Seq]), .agg [.bool true, .str e66.Key, .bool vr4.Bottom], .int .i64 0])], [(0, ⟨0, true, false, 1, [[.sl 144 g64 4 0 v63.length]]⟩), (104, ⟨0, true, true, 3, [[.bool v61, .str v62, .bool vr4.Bottom]]⟩), (144, ⟨g64, true, true, 4, List.map TApiEntry.enc v63⟩), (177, ⟨0, true, true, 4, [[.str e66.Key, .str e66.Val, .bool e66.Dead, .int .i64 e66.Seq]]⟩)], 649, []⟩) [] (Nat.le_of_ble_eq_true rfl) ⟨rF, rE, rfl, rfl, trivial, trivial⟩ ?_
          refine awpo_cut (l' := List.range' 3 8 ++ []) rfl ?_
          refine awpo_seg 3 8 713 [] (fun _ => none) rfl rfl rfl (fun _ _ => rS (rA he66a (rA he66b he66c))) ?_
          refine awpo_nil ?_
          refine kn_then ?_
          refine awp_re (s2 := ⟨[(2, .fn 58 [] [.ref 0 0 0 0]), (8, .ref 104 0 0 0), (9, .int .i64 v60), (11, .iface 130 (.agg [.str e66.Key, .str e66.Val, .bool e66.Dead, .int .i64 e66.Seq])), (12, .ref 681 0 0 0), (13, .int .i64 0), (19, .psl 4 (List.map TApiEntry.enc l1)), (20, .int .i64 (l1.length : Int)), (21, .int .i64 v60)], [(0, ⟨0, true, false, 1, [[.sl 144 g64 4 0 v63.length]]⟩), (104, ⟨0, true, true, 3, [[.bool v61, .str v62, .bool vr4.Bottom]]⟩), (144, ⟨g64, true, true, 4, List.map TApiEntry.enc v63⟩), (177, ⟨0, true, true, 4, [[.str e66.Key, .str e66.Val, .bool e66.Dead, .int .i64 e66.Seq]]⟩), (681, ⟨0, true, true, 3, [[.bool true, .str e66.Key, .bool vr4.Bottom]]⟩)], 713, []⟩) [] (Nat.le_of_ble_eq_true rfl) ⟨rF, rE, rfl, rfl, trivial, trivial⟩ ?_
          refine awp_seq ?_
          refine awp_sr2 729 [2, 8, 9, 11, 12, 13, 19, 20, 21, 34] (fun _ => none) rfl (fun _ _ => rS (rA he66a (rA he66b he66c))) ?_
          refine awp_condF rfl ?_
          refine awp_skip ?_
          refine kn_then ?_
          refine awp_sops2 3 rfl ?_
          refine awpo_cut (l' := List.range' 0 2 ++ (2 :: (List.range' 3 0 ++ []))) rfl ?_
          refine awpo_seg 0 2 745 (2 :: (List.range' 3 0 ++ [])) (fun _ => none) rfl rfl rfl (fun _ _ => rS (rA he66a (rA he66b he66c))) ?_
          refine awpo_in rfl rfl rfl rfl rfl Try.func58 rfl (by decide) rfl (Nat.le_of_ble_eq_true rfl) ?_
          dsimp only [Try.f58]
          refine awp_re (s2 := ⟨[(0, .iface 130 (.agg [.str e66.Key, .str e66.Val, .bool e66.Dead, .int .i64 e66.Seq])), (1, .ref 0 0 0 0)], [(0, ⟨0, true, false, 1, [[.sl 144 g64 4 0 v63.length]]⟩), (104, ⟨0, true, true, 3, [[.bool v61, .str v62, .bool vr4.Bottom]]⟩), (144, ⟨g64, true, true, 4, List.map TApiEntry.enc v63⟩), (177, ⟨0, true, true, 4, [[.str e66.Key, .str e66.Val, .bool e66.Dead, .int .i64 e66.Seq]]⟩), (681, ⟨0, true, true, 3, [[.bool true, .str e66.Key, .bool vr4.Bottom]]⟩)], 745, []⟩) [] (Nat.le_of_ble_eq_true rfl) ⟨rF, rE, rfl, rfl, trivial, trivial⟩ ?_
          refine awp_sr2 809 [0, 1, 4] (fun _ => none) rfl (fun _ _ => rS (rA he66a (rA he66b he66c))) ?_
          refine awp_sr2 817 [0, 1, 10] (fun _ => none) rfl (fun _ _ => rS (rA he66a (rA he66b he66c))) ?_
          refine awp_condF rfl ?_
          refine awp_skip ?_
          refine leave_endK (fun _ _ => rS (rA he66a (rA he66b he66c))) ?_
          refine awpo_re (s2 := ⟨[(2, .fn 58 [] [.ref 0 0 0 0]), (8, .ref 104 0 0 0), (9, .int .i64 v60), (11, .iface 130 (.agg [.str e66.Key, .str e66.Val, .bool e66.Dead, .int .i64 e66.Seq])), (12, .ref 681 0 0 0), (13, .int .i64 0), (19, .psl 4 (List.map TApiEntry.enc l1)), (20, .int .i64 (l1.length : Int)), (21, .int .i64 v60), (34, .bool false), (37, .fn 58 [] [.ref 0 0 0 0]), (38, .iface 130 (.agg [.str e66.Key, .str e66.Val, .bool e66.Dead, .int .i64 e66.Seq])), (39, .tup [])], [(0, ⟨0, true, false, 1, [[.sl 144 g64 4 0 v63.length]]⟩), (104, ⟨0, true, true, 3, [[.bool v61, .str v62, .bool vr4.Bottom]]⟩), (144, ⟨g64, true, true, 4, List.map TApiEntry.enc v63⟩), (177, ⟨0, true, true, 4, [[.str e66.Key, .str e66.Val, .bool e66.Dead, .int .i64 e66.Seq]]⟩), (681, ⟨0, true, true, 3, [[.bool true, .str e66.Key, .bool vr4.Bottom]]⟩)], 817, []⟩) [] (Nat.le_of_ble_eq_true rfl) ⟨rF, rE, rfl, rfl, trivial, trivial⟩ ?_
          refine awpo_cut (l' := []) rfl ?_
          refine awpo_nil ?_
          refine kn_then ?_
          refine awp_re (s2 := ⟨[(2, .fn 58 [] [.ref 0 0 0 0]), (8, .ref 104 0 0 0), (12, .ref 681 0 0 0), (19, .psl 4 (List.map TApiEntry.enc l1)), (20, .int .i64 (l1.length : Int)), (21, .int .i64 v60)], [(0, ⟨0, true, false, 1, [[.sl 144 g64 4 0 v63.length]]⟩), (104, ⟨0, true, true, 3, [[.bool v61, .str v62, .bool vr4.Bottom]]⟩), (144, ⟨g64, true, true, 4, List.map TApiEntry.enc v63⟩), (177, ⟨0, true, true, 4, [[.str e66.Key, .str e66.Val, .bool e66.Dead, .int .i64 e66.Seq]]⟩), (681, ⟨0, true, true, 3, [[.bool true, .str e66.Key, .bool vr4.Bottom]]⟩)], 817, []⟩) [] (Nat.le_of_ble_eq_true rfl) ⟨rF, rE, rfl, rfl, trivial, trivial⟩ ?_
          refine awp_r2 833 [2, 8, 19, 20, 21] (fun _ => none) rfl (fun _ _ => rS (rA he66a (rA he66b he66c))) ?_
          refine kn_block ?_
          refine kn_then ?_
          refine awp_r2 849 [2, 8, 19, 20, 21] (fun _ => none) rfl (fun _ _ => rS (rA he66a (rA he66b he66c))) ?_
          refine kn_then ?_
          exact ⟨⟨(fu, (IntKind.i64.wrap (v60 + 1)), true, e66.Key, v63, g64), h1⟩, ⟨rF, rE, rfl, rfl, trivial, trivial⟩, Nat.lt_succ_self _⟩
         ·
          replace h1 := iteF h1 hb79
          refine awp_skip ?_
          refine kn_block ?_
          refine kn_then ?_
          refine awp_sd2 649 [4, 5, 6] (fun _ => none) rfl rfl rfl (fun _ _ => rSd (rA he66a (rA he66b he66c))) ?_
          refine awp_ret ?_
          refine leave_retK (fun _ _ => rS (rA he66a (rA he66b he66c))) ?_
          refine awpo_re (s2 := ⟨[(2, .fn 58 [] [.ref 0 0 0 0]), (8, .ref 104 0 0 0), (9, .int .i64 v60), (10, .ref 177 0 0 0), (19, .psl 4 (List.map TApiEntry.enc l1)), (20, .int .i64 (l1.length : Int)), (21, .int .i64 v60), (27, .agg [.bool v61, .str v62, .bool vr4.Bottom]), (28, .agg [.str e66.Key, .str e66.Val, .bool e66.Dead, .int .i64 e66.Seq]), (29, .tup [.iface 98 (.agg [.str e66.Key, .str e66.Val, .bool e66.Dead, .int .i64 e66.Seq]), .agg [.bool true, .str e66.Key, .bool vr4.Bottom], .int .i64 0])], [(0, ⟨0, true, false, 1, [[.sl 144 g64 4 0 v63.length]]⟩), (104, ⟨0, true, true, 3, [[.bool v61, .str v62, .bool vr4.Bottom]]⟩), (144, ⟨g64, true, true, 4, List.map TApiEntry.enc v63⟩), (177, ⟨0, true, true, 4, [[.str e66.Key, .str e66.Val, .bool e66.Dead, .int .i64 e66.Seq]]⟩)], 649, []⟩) [] (Nat.le_of_ble_eq_true rfl) ⟨rF, rE, rfl, rfl, trivial, trivial⟩ ?_
          refine awpo_cut (l' := List.range' 3 8 ++ []) rfl ?_
          refine awpo_seg 3 8 713 [] (fun _ => none) rfl rfl rfl (fun _ _ => rS (rA he66a (rA he66b he66c))) ?_
          refine awpo_nil ?_
          refine kn_then ?_
          refine awp_re (s2 := ⟨[(2, .fn 58 [] [.ref 0 0 0 0]), (8, .ref 104 0 0 0), (9, .int .i64 v60), (11, .iface 98 (.agg [.str e66.Key, .str e66.Val, .bool e66.Dead, .int .i64 e66.Seq])), (12, .ref 681 0 0 0), (13, .int .i64 0), (19, .psl 4 (List.map TApiEntry.enc l1)), (20, .int .i64 (l1.length : Int)), (21, .int .i64 v60)], [(0, ⟨0, true, false, 1, [[.sl 144 g64 4 0 v63.length]]⟩), (104, ⟨0, true, true, 3, [[.bool v61, .str v62, .bool vr4.Bottom]]⟩), (144, ⟨g64, true, true, 4, List.map TApiEntry.enc v63⟩), (177, ⟨0, true, true, 4, [[.str e66.Key, .str e66.Val, .bool e66.Dead, .int .i64 e66.Seq]]⟩), (681, ⟨0, true, true, 3, [[.bool true, .str e66.Key, .bool vr4.Bottom]]⟩)], 713, []⟩) [] (Nat.le_of_ble_eq_true rfl) ⟨rF, rE, rfl, rfl, trivial, trivial⟩ ?_
          refine awp_seq ?_
          refine awp_sr2 729 [2, 8, 9, 11, 12, 13, 19, 20, 21, 34] (fun _ => none) rfl (fun _ _ => rS (rA he66a (rA he66b he66c))) ?_
          refine awp_condF rfl ?_
          refine awp_skip ?_
          refine kn_then ?_
          refine awp_sops2 3 rfl ?_
          refine awpo_cut (l' := List.range' 0 2 ++ (2 :: (List.range' 3 0 ++ []))) rfl ?_
          refine awpo_seg 0 2 745 (2 :: (List.range' 3 0 ++ [])) (fun _ => none) rfl rfl rfl (fun _ _ => rS (rA he66a (rA he66b he66c))) ?_
          refine awpo_in rfl rfl rfl rfl rfl Try.func58 rfl (by decide) rfl (Nat.le_of_ble_eq_true rfl) ?_
          dsimp only [Try.f58]
          refine awp_re (s2 := ⟨[(0, .iface 98 (.agg [.str e66.Key, .str e66.Val, .bool e66.Dead, .int .i64 e66.Seq])), (1, .ref 0 0 0 0)], [(0, ⟨0, true, false, 1, [[.sl 144 g64 4 0 v63.length]]⟩), (104, ⟨0, true, true, 3, [[.bool v61, .str v62, .bool vr4.Bottom]]⟩), (144, ⟨g64, true, true, 4, List.map TApiEntry.enc v63⟩), (177, ⟨0, true, true, 4, [[.str e66.Key, .str e66.Val, .bool e66.Dead, .int .i64 e66.Seq]]⟩), (681, ⟨0, true, true, 3, [[.bool true, .str e66.Key, .bool vr4.Bottom]]⟩)], 745, []⟩) [] (Nat.le_of_ble_eq_true rfl) ⟨rF, rE, rfl, rfl, trivial, trivial⟩ ?_
          refine awp_sr2 809 [0, 1, 4] (fun _ => none) rfl (fun _ _ => rS (rA he66a (rA he66b he66c))) ?_
          refine awp_sr2 817 [0, 1, 10] (fun _ => none) rfl (fun _ _ => rS (rA he66a (rA he66b he66c))) ?_
          refine awp_condT rfl ?_
          obtain ⟨vr80, hvr80, h1⟩ := bindS h1
          obtain ⟨hc81, h1⟩ := guS h1
          refine awp_d2 865 [] (fun | 2 => some (.agg (TApiEntry.enc vr80), []) | _ => none) rfl rfl rfl (fun _ _ => rBd (rA he66a (rA he66b he66c)) (c_shadow_kept_entry hvr80)) ?_
          refine leave_endK (fun _ _ => rS (rA he66a (rA he66b he66c))) ?_
          refine awpo_re (s2 := ⟨[(2, .fn 58 [] [.ref 0 0 0 0]), (8, .ref 104 0 0 0), (9, .int .i64 v60), (11, .iface 98 (.agg [.str e66.Key, .str e66.Val, .bool e66.Dead, .int .i64 e66.Seq])), (12, .ref 681 0 0 0), (13, .int .i64 0), (19, .psl 4 (List.map TApiEntry.enc l1)), (20, .int .i64 (l1.length : Int)), (21, .int .i64 v60), (34, .bool false), (37, .fn 58 [] [.ref 0 0 0 0]), (38, .iface 98 (.agg [.str e66.Key, .str e66.Val, .bool e66.Dead, .int .i64 e66.Seq])), (39, .tup [])], [(0, ⟨0, true, false, 1, [[.sl 144 (g64 + 1) 4 0 ((v63 ++ [vr80]).length)]]⟩), (104, ⟨0, true, true, 3, [[.bool v61, .str v62, .bool vr4.Bottom]]⟩), (144, ⟨(g64 + 1), true, true, 4, List.map TApiEntry.enc (v63 ++ [vr80])⟩), (177, ⟨0, true, true, 4, [[.str e66.Key, .str e66.Val, .bool e66.Dead, .int .i64 e66.Seq]]⟩), (681, ⟨0, true, true, 3, [[.bool true, .str e66.Key, .bool vr4.Bottom]]⟩)], 865, []⟩) [] (Nat.le_of_ble_eq_true rfl) ⟨rF, rE, rfl, rfl, trivial, trivial⟩ ?_
          refine awpo_cut (l' := []) rfl ?_
          refine awpo_nil ?_
          refine kn_then ?_
          refine awp_re (s2 := ⟨[(2, .fn 58 [] [.ref 0 0 0 0]), (8, .ref 104 0 0 0), (12, .ref 681 0 0 0), (19, .psl 4 (List.map TApiEntry.enc l1)), (20, .int .i64 (l1.length : Int)), (21, .int .i64 v60)], [(0, ⟨0, true, false, 1, [[.sl 144 (g64 + 1) 4 0 ((v63 ++ [vr80]).length)]]⟩), (104, ⟨0, true, true, 3, [[.bool v61, .str v62, .bool vr4.Bottom]]⟩), (144, ⟨(g64 + 1), true, true, 4, List.map TApiEntry.enc (v63 ++ [vr80])⟩), (177, ⟨0, true, true, 4, [[.str e66.Key, .str e66.Val, .bool e66.Dead, .int .i64 e66.Seq]]⟩), (681, ⟨0, true, true, 3, [[.bool true, .str e66.Key, .bool vr4.Bottom]]⟩)], 865, []⟩) [] (Nat.le_of_ble_eq_true rfl) ⟨rF, rE, rfl, rfl, trivial, trivial⟩ ?_
          refine awp_r2 881 [2, 8, 19, 20, 21] (fun _ => none) rfl (fun _ _ => rS (rA he66a (rA he66b he66c))) ?_
          refine kn_block ?_
          refine kn_then ?_
          refine awp_r2 897 [2, 8, 19, 20, 21] (fun _ => none) rfl (fun _ _ => rS (rA he66a (rA he66b he66c))) ?_
          refine kn_then ?_
          exact ⟨⟨(fu, (IntKind.i64.wrap (v60 + 1)), true, e66.Key, (v63 ++ [vr80]), (g64 + 1)), h1⟩, ⟨rF, rE, rfl, rfl, trivial, trivial⟩, Nat.lt_succ_self _⟩
    ·
     replace h1 := iteF h1 hb65
     refine awp_exit ?_
     refine kx_then ?_
     refine kx_then ?_
     refine kx_done ?_
     obtain rfl := Option.some.inj h1
     exact ⟨_, g64, rfl, Nat.le_of_ble_eq_true rfl, ⟨rF, rE, rfl, rfl, trivial, trivial⟩⟩
end Go.T
end
section
namespace Go.T
open Go Go.AM Go.Proofs
set_option maxRecDepth 100000
set_option maxHeartbeats 4000000
set_option linter.unusedVariables false
theorem c_slices_alike {fu : Nat} {a1 : List TApiEntry} {b2 : List TApiEntry} {r : Bool} (h0 : slices_alike fu a1 b2 = some r) : PCall Try.prog 45 [.psl 4 (a1.map TApiEntry.enc), .psl 4 (b2.map TApiEntry.enc)] (.bool r) [] := by
 refine awp_pcall Try.func45 rfl (by decide) (Nat.le_of_ble_eq_true rfl) ?_
 dsimp only [Try.f45]
 rw [slices_alike] at h0
 refine (show AWP _ _ _ _ ⟨enumFr 0 _, [], 0, []⟩ from ?_)
 refine awp_sr2 8 [0, 1] (fun _ => none) rfl (fun _ _ => rT) ?_
 refine awp_seq ?_
 refine awp_sr2 48 [0, 1, 11] (fun _ => none) rfl (fun _ _ => rT) ?_
 refine awp_if rfl (fun hb3 => ?_) (fun hb3 => ?_)
 ·
  replace h0 := iteT h0 hb3
  refine awp_sr2 56 [4] (fun _ => none) rfl (fun _ _ => rT) ?_
  refine awp_ret ?_
  refine kr_then ?_
  obtain rfl := Option.some.inj h0
  refine leave_retG [] ?_
  exact rG
 ·
  replace h0 := iteF h0 hb3
  refine awp_skip ?_
  refine kn_then ?_
  refine awp_seq ?_
  refine awp_sr2 72 [1, 12, 13, 14] (fun _ => none) rfl (fun _ _ => rT) ?_
  obtain ⟨x13, hxx13, h0⟩ := bindS h0
  refine awp_bloop (fun s' => ∃ o19 : Unit, x13 = .inl o19 ∧ s'.nx ≤ 80 ∧ LeN [] s' ⟨[], [], 80, []⟩) ?_ ?_
  ·
   intro s' hs
   obtain ⟨o19, rfl, hn, hs⟩ := hs
   refine kn_then ?_
   refine awp_re [] hn hs ?_
   refine awp_sr2 88 [4] (fun _ => none) rfl (fun _ _ => rT) ?_
   refine awp_ret ?_
   obtain rfl := Option.some.inj h0
   refine leave_retG [] ?_
   exact rG
  ·
   refine awp_loopF (ι := { p : Nat × Int // slices_alike_l1 a1 b2 p.1 p.2 = some x13 }) (fun p => ⟨[(1, .psl 4 (List.map TApiEntry.enc b2)), (12, .psl 4 (List.map TApiEntry.enc a1)), (13, .int .i64 (a1.length : Int)), (14, .int .i64 p.1.2)], [], 72, []⟩) (fun p => p.1.1) ⟨(fu, 0), hxx13⟩ ⟨rF, rE, rfl, rfl, trivial, trivial⟩ (fun _ => Nat.le_refl _) ?_
   rintro ⟨⟨fu, v14⟩, h1⟩
   cases fu with
   | zero =>
   replace h1 : slices_alike_l1 a1 b2 0 v14 = some x13 := h1
   rw [slices_alike_l1] at h1; cases h1
   | succ fu =>
    replace h1 : slices_alike_l1 a1 b2 (fu + 1) v14 = some x13 := h1
    rw [slices_alike_l1] at h1
    refine (show AWP _ _ _ _ ⟨[(1, .psl 4 (List.map TApiEntry.enc b2)), (12, .psl 4 (List.map TApiEntry.enc a1)), (13, .int .i64 (a1.length : Int)), (14, .int .i64 v14)], [], 72, []⟩ from ?_)
    refine awp_sr2 80 [1, 12, 13, 14, 15] (fun _ => none) rfl (fun _ _ => rT) ?_
    refine awp_seq ?_
    refine awp_if rfl (fun hb15 => ?_) (fun hb15 => ?_)
    ·
     replace h1 := iteT h1 hb15
     refine awp_skip ?_
     refine kn_then ?_
     refine awp_seq ?_
     refine awp_block ?_
     obtain ⟨e16, he16, h1⟩ := bindS h1
     obtain ⟨he16a, he16b, he16c⟩ := idxS he16
     refine awp_sr2 128 [1, 5, 6, 12, 13, 14] (fun _ => none) rfl (fun _ _ => rS (rA he16a (rA he16b he16c))) ?_
     obtain ⟨e17, he17, h1⟩ := bindS h1
     obtain ⟨he17a, he17b, he17c⟩ := idxS he17
     refine awp_sd2 176 [1, 12, 13, 14, 24] (fun _ => none) rfl rfl rfl (fun _ _ => rSd (rA he16a (rA he16b (rA he16c (rA he17a (rA he17b he17c)))))) ?_
     refine awp_if rfl (fun hb18 => ?_) (fun hb18 => ?_)
     ·
      replace h1 := iteT h1 hb18
      refine awp_sr2 184 [4] (fun _ => none) rfl (fun _ _ => rS (rA he16a (rA he16b (rA he16c (rA he17a (rA he17b he17c)))))) ?_
      refine awp_ret ?_
      obtain rfl := Option.some.inj h1
      refine kr_block ?_
      refine kr_then ?_
      refine kr_then ?_
      refine kr_loop ?_
      refine kr_then ?_
      obtain rfl := Option.some.inj h0
      refine leave_retG [] ?_
      simp (maxSteps := 1000000) only [↓reduceIte, reduceCtorEq, Nat.reduceEqDiff, Nat.reduceLT, Nat.reduceLeDiff, Nat.reduceAdd, Nat.reduceMul, Int.reduceToNat, push_cast, Gives, he16a, he16b, he16c, he17a, he17b, he17c]
      all_goals exact rH
     ·
      replace h1 := iteF h1 hb18
      refine awp_skip ?_
      refine kn_block ?_
      refine kn_then ?_
      refine awp_r2 192 [1, 12, 13, 14] (fun _ => none) rfl (fun _ _ => rS (rA he16a (rA he16b (rA he16c (rA he17a (rA he17b he17c)))))) ?_
      refine kn_then ?_
      exact ⟨⟨(fu, (IntKind.i64.wrap (v14 + 1))), h1⟩, ⟨rF, rE, rfl, rfl, trivial, trivial⟩, Nat.lt_succ_self _⟩
    ·
     replace h1 := iteF h1 hb15
     refine awp_exit ?_
     refine kx_then ?_
     refine kx_then ?_
     refine kx_done ?_
     obtain rfl := Option.some.inj h1
     exact ⟨_, rfl, Nat.le_of_ble_eq_true rfl, ⟨rF, rE, rfl, rfl, trivial, trivial⟩⟩
end Go.T
end
section
namespace Go.T
open Go Go.AM Go.Proofs
set_option maxRecDepth 100000
set_option maxHeartbeats 4000000
set_option linter.unusedVariables false
theorem c_slices_Check {fu : Nat} {vs1 : TApiSlState} {r : Int} (h0 : slices_Check fu vs1 = some r) : PCall Try.prog 24 [.agg (TApiSlState.enc vs1)] (.int .i64 r) [] := by
 refine awp_pcall Try.func24 rfl (by decide) (Nat.le_of_ble_eq_true rfl) ?_
 dsimp only [Try.f24]
 rw [slices_Check] at h0
 refine (show AWP _ _ _ _ ⟨enumFr 0 _, [], 0, []⟩ from ?_)
 refine awp_sr2 16 [1] (fun _ => none) rfl (fun _ _ => rT) ?_
 refine awp_seq ?_
 obtain ⟨vr2, hvr2, h0⟩ := bindS h0
 refine awp_sr2 80 [1, 4] (fun | 2 => some (.tup [.int .i64 vr2.1, .int .i64 vr2.2], []) | _ => none) rfl (fun _ _ => rC (c_merge_Check hvr2)) ?_
 refine awp_sr2 96 [1, 4, 21] (fun _ => none) rfl (fun _ _ => rT) ?_
 refine awp_if rfl (fun hb3 => ?_) (fun hb3 => ?_)
 ·
  replace h0 := iteT h0 hb3
  refine awp_sr2 112 [2] (fun _ => none) rfl (fun _ _ => rT) ?_
  refine awp_ret ?_
  refine kr_then ?_
  obtain rfl := Option.some.inj h0
  refine leave_retG [] ?_
  exact rG
 ·
  replace h0 := iteF h0 hb3
  refine awp_skip ?_
  refine kn_then ?_
  refine awp_sr2 104 [1, 5] (fun _ => none) rfl (fun _ _ => rT) ?_
  refine awp_seq ?_
  refine awp_sr2 144 [1, 5, 25, 26, 27] (fun _ => none) rfl (fun _ _ => rT) ?_
  obtain ⟨x10, hxx10, h0⟩ := bindS h0
  refine awp_bloop (fun s' => s'.nx ≤ 152 ∧ LeN [] s' ⟨[(1, .ref 0 0 0 0), (5, .int .i64 x10)], [(0, ⟨0, true, true, 10, [[.psl 1 (List.map (encSl 4 TApiEntry.enc) vs1.Merge.Runs), .psl 1 (List.map (encInt .i64) vs1.Merge.At), .psl 2 (List.map TApiLsKey.enc vs1.Merge.Tree.Keys), .psl 1 (List.map (encInt .i64) vs1.Merge.Tree.Lose), .int .i64 vs1.Merge.Tree.Win, .bool vs1.Shadow.Some, .str vs1.Shadow.Last, .bool vs1.Shadow.Bottom, .psl 4 (List.map TApiEntry.enc vs1.Out), .int .i64 vs1.Steps]]⟩)], 152, []⟩) ?_ ?_
  ·
   intro s' hs
   obtain ⟨hn, hs⟩ := hs
   refine kn_then ?_
   refine awp_re [] hn hs ?_
   refine awp_seq ?_
   refine awp_block ?_
   obtain ⟨b15, hb15, h0⟩ := bindS h0
   refine awp_sr3 (fr' := [(1, .ref 0 0 0 0), (5, .int .i64 x10), (35, .bool b15)]) (hp' := [(0, ⟨0, true, true, 10, [[.psl 1 (List.map (encSl 4 TApiEntry.enc) vs1.Merge.Runs), .psl 1 (List.map (encInt .i64) vs1.Merge.At), .psl 2 (List.map TApiLsKey.enc vs1.Merge.Tree.Keys), .psl 1 (List.map (encInt .i64) vs1.Merge.Tree.Lose), .int .i64 vs1.Merge.Tree.Win, .bool vs1.Shadow.Some, .str vs1.Shadow.Last, .bool vs1.Shadow.Bottom, .psl 4 (List.map TApiEntry.enc vs1.Out), .int .i64 vs1.Steps]]⟩)]) [0] 224 [1, 5, 35] (fun _ => none) rfl (fun Kt hK => by
     cases hg16 : (decide (20000 < (vs1.Out.length : Int))) with
     | false =>
      replace hb15 := iteF hb15 hg16
      have hqb15 := Option.some.inj hb15
      subst hqb15
      simp (maxSteps := 1000000) only [↓reduceIte, reduceCtorEq, Nat.reduceEqDiff, Nat.reduceLT, Nat.reduceLeDiff, Nat.reduceAdd, Nat.reduceMul, Int.reduceToNat, push_cast, ↓hg16]
      try simp only [↓hg16] at hK
      all_goals exact rU
     | true =>
      replace hb15 := iteT hb15 hg16
      have hqb15 := Option.some.inj hb15
      subst hqb15
      simp (maxSteps := 1000000) only [↓reduceIte, reduceCtorEq, Nat.reduceEqDiff, Nat.reduceLT, Nat.reduceLeDiff, Nat.reduceAdd, Nat.reduceMul, Int.reduceToNat, push_cast, ↓hg16]
      try simp only [↓hg16] at hK
      all_goals exact rU) ?_
   refine awp_if rfl (fun hb17 => ?_) (fun hb17 => ?_)
   ·
    replace h0 := iteT h0 hb17
    refine awp_sr2 232 [2] (fun _ => none) rfl (fun _ _ => rT) ?_
    refine awp_ret ?_
    refine kr_block ?_
    refine kr_then ?_
    obtain rfl := Option.some.inj h0
    refine leave_retG [] ?_
    exact rG
   ·
    replace h0 := iteF h0 hb17
    refine awp_sr2 264 [1, 5, 44] (fun _ => none) rfl (fun _ _ => rT) ?_
    refine awp_if rfl (fun hb18 => ?_) (fun hb18 => ?_)
    ·
     replace h0 := iteT h0 hb18
     refine awp_sr2 272 [2] (fun _ => none) rfl (fun _ _ => rT) ?_
     refine awp_ret ?_
     refine kr_block ?_
     refine kr_then ?_
     obtain rfl := Option.some.inj h0
     refine leave_retG [] ?_
     exact rG
    ·
     replace h0 := iteF h0 hb18
     refine awp_skip ?_
     refine kn_block ?_
     refine kn_then ?_
     obtain ⟨vr19, hvr19, h0⟩ := bindS h0
     refine awp_sr2 352 [1, 5, 8, 10] (fun | 3 => some (.tup [.psl 4 (vr19.1.map TApiEntry.enc), .psl 1 (vr19.2.1.map (encInt .i64)), .int .i64 vr19.2.2], []) | _ => none) rfl (fun _ _ => rC (c_merge_All hvr19)) ?_
     refine awp_seq ?_
     refine awp_sr2 368 [1, 5, 8, 10, 58] (fun _ => none) rfl (fun _ _ => rT) ?_
     refine awp_if rfl (fun hb20 => ?_) (fun hb20 => ?_)
     ·
      replace h0 := iteT h0 hb20
      refine awp_sr2 384 [2] (fun _ => none) rfl (fun _ _ => rT) ?_
      refine awp_ret ?_
      refine kr_then ?_
      obtain rfl := Option.some.inj h0
      refine leave_retG [] ?_
      exact rG
     ·
      replace h0 := iteF h0 hb20
      refine awp_skip ?_
      refine kn_then ?_
      obtain ⟨hc21, h0⟩ := guS h0
      obtain ⟨vr22, hvr22, h0⟩ := bindS h0
      refine awp_sd2 480 [1, 5, 8, 10, 11] (fun | 6 => some (.tup [.psl 4 (vr22.1.map TApiEntry.enc), .int .i64 vr22.2.1, .int .i64 vr22.2.2], []) | _ => none) rfl rfl rfl (fun _ _ => rCd (c_shadow_Filter hvr22)) ?_
      refine awp_seq ?_
      refine awp_sr2 496 [1, 5, 8, 10, 11, 72] (fun _ => none) rfl (fun _ _ => rT) ?_
      refine awp_if rfl (fun hb23 => ?_) (fun hb23 => ?_)
      ·
       replace h0 := iteT h0 hb23
       refine awp_sr2 512 [2] (fun _ => none) rfl (fun _ _ => rT) ?_
       refine awp_ret ?_
       refine kr_then ?_
       obtain rfl := Option.some.inj h0
       refine leave_retG [] ?_
       exact rG
      ·
       replace h0 := iteF h0 hb23
       refine awp_skip ?_
       refine kn_then ?_
       obtain ⟨vr24, hvr24, h0⟩ := bindS h0
       refine awp_sr2 544 [1, 5, 8, 11, 13] (fun | 3 => some (.agg (TApiShState.enc vr24), []) | _ => none) rfl (fun _ _ => rC (c_shadow_Begin hvr24)) ?_
       refine awp_seq ?_
       refine awp_sr2 560 [1, 5, 8, 11, 13, 79] (fun _ => none) rfl (fun _ _ => rT) ?_
       refine awp_if rfl (fun hb25 => ?_) (fun hb25 => ?_)
       ·
        replace h0 := iteT h0 hb25
        obtain ⟨e26, he26, h0⟩ := bindS h0
        obtain ⟨he26a, he26b, he26c⟩ := idxS he26
        refine awp_d2 640 [1, 11, 13] (fun _ => none) rfl rfl rfl (fun _ _ => rSd (rA he26a (rA he26b he26c))) ?_
        refine kn_then ?_
        refine awp_seq ?_
        obtain ⟨vr27, hvr27, h0⟩ := bindS h0
        obtain ⟨b28, hb28, h0⟩ := bindS h0
        refine awp_sr3 (fr' := [(98, .bool b28)]) (hp' := [(0, ⟨0, true, true, 10, [[.psl 1 (List.map (encSl 4 TApiEntry.enc) vs1.Merge.Runs), .psl 1 (List.map (encInt .i64) vs1.Merge.At), .psl 2 (List.map TApiLsKey.enc vs1.Merge.Tree.Keys), .psl 1 (List.map (encInt .i64) vs1.Merge.Tree.Lose), .int .i64 vs1.Merge.Tree.Win, .bool vs1.Shadow.Some, .str vs1.Shadow.Last, .bool vs1.Shadow.Bottom, .psl 4 (List.map TApiEntry.enc vs1.Out), .int .i64 vs1.Steps]]⟩), (528, ⟨0, true, true, 3, [[.bool true, .str e26.Key, .bool vr24.Bottom]]⟩)]) [0, 528] 728 [98] (fun | 3 => some (.bool vr27, []) | _ => none) rfl (fun Kt hK => by
          cases hg29 : (!vr27) with
          | false =>
           replace hb28 := iteF hb28 hg29
           have hqb28 := Option.some.inj hb28
           subst hqb28
           simp (maxSteps := 1000000) only [↓reduceIte, reduceCtorEq, Nat.reduceEqDiff, Nat.reduceLT, Nat.reduceLeDiff, Nat.reduceAdd, Nat.reduceMul, Int.reduceToNat, push_cast, he26a, he26b, he26c, ↓hg29]
           try simp only [↓hg29] at hK
           try have q0 := c_slices_alike hvr27
           all_goals exact rU
          | true =>
           replace hb28 := iteT hb28 hg29
           have hqb28 := Option.some.inj hb28
           subst hqb28
           simp (maxSteps := 1000000) only [↓reduceIte, reduceCtorEq, Nat.reduceEqDiff, Nat.reduceLT, Nat.reduceLeDiff, Nat.reduceAdd, Nat.reduceMul, Int.reduceToNat, push_cast, he26a, he26b, he26c, ↓hg29]
           try simp only [↓hg29] at hK
           try have q0 := c_slices_alike hvr27
           all_goals exact rU) ?_
        refine awp_if rfl (fun hb30 => ?_) (fun hb30 => ?_)
        ·
         replace h0 := iteT h0 hb30
         refine awp_sr2 736 [2] (fun _ => none) rfl (fun _ _ => rS (rA he26a (rA he26b he26c))) ?_
         refine awp_ret ?_
         refine kr_then ?_
         obtain rfl := Option.some.inj h0
         refine leave_retG [] ?_
         simp (maxSteps := 1000000) only [↓reduceIte, reduceCtorEq, Nat.reduceEqDiff, Nat.reduceLT, Nat.reduceLeDiff, Nat.reduceAdd, Nat.reduceMul, Int.reduceToNat, push_cast, Gives, he26a, he26b, he26c]
         all_goals exact rH
        ·
         replace h0 := iteF h0 hb30
         refine awp_skip ?_
         refine kn_then ?_
         refine awp_sr2 736 [2] (fun _ => none) rfl (fun _ _ => rS (rA he26a (rA he26b he26c))) ?_
         refine awp_ret ?_
         obtain rfl := Option.some.inj h0
         refine leave_retG [] ?_
         simp (maxSteps := 1000000) only [↓reduceIte, reduceCtorEq, Nat.reduceEqDiff, Nat.reduceLT, Nat.reduceLeDiff, Nat.reduceAdd, Nat.reduceMul, Int.reduceToNat, push_cast, Gives, he26a, he26b, he26c]
         all_goals exact rH
       ·
        replace h0 := iteF h0 hb25
        refine awp_skip ?_
        refine kn_then ?_
        refine awp_seq ?_
        obtain ⟨vr31, hvr31, h0⟩ := bindS h0
        obtain ⟨b32, hb32, h0⟩ := bindS h0
        refine awp_sr3 (fr' := [(98, .bool b32)]) (hp' := [(0, ⟨0, true, true, 10, [[.psl 1 (List.map (encSl 4 TApiEntry.enc) vs1.Merge.Runs), .psl 1 (List.map (encInt .i64) vs1.Merge.At), .psl 2 (List.map TApiLsKey.enc vs1.Merge.Tree.Keys), .psl 1 (List.map (encInt .i64) vs1.Merge.Tree.Lose), .int .i64 vs1.Merge.Tree.Win, .bool vs1.Shadow.Some, .str vs1.Shadow.Last, .bool vs1.Shadow.Bottom, .psl 4 (List.map TApiEntry.enc vs1.Out), .int .i64 vs1.Steps]]⟩), (528, ⟨0, true, true, 3, [[.bool vr24.Some, .str vr24.Last, .bool vr24.Bottom]]⟩)]) [0, 528] 648 [98] (fun | 3 => some (.bool vr31, []) | _ => none) rfl (fun Kt hK => by
          cases hg33 : (!vr31) with
          | false =>
           replace hb32 := iteF hb32 hg33
           have hqb32 := Option.some.inj hb32
           subst hqb32
           simp (maxSteps := 1000000) only [↓reduceIte, reduceCtorEq, Nat.reduceEqDiff, Nat.reduceLT, Nat.reduceLeDiff, Nat.reduceAdd, Nat.reduceMul, Int.reduceToNat, push_cast, ↓hg33]
           try simp only [↓hg33] at hK
           try have q0 := c_slices_alike hvr31
           all_goals exact rU
          | true =>
           replace hb32 := iteT hb32 hg33
           have hqb32 := Option.some.inj hb32
           subst hqb32
           simp (maxSteps := 1000000) only [↓reduceIte, reduceCtorEq, Nat.reduceEqDiff, Nat.reduceLT, Nat.reduceLeDiff, Nat.reduceAdd, Nat.reduceMul, Int.reduceToNat, push_cast, ↓hg33]
           try simp only [↓hg33] at hK
           try have q0 := c_slices_alike hvr31
           all_goals exact rU) ?_
        refine awp_if rfl (fun hb34 => ?_) (fun hb34 => ?_)
        ·
         replace h0 := iteT h0 hb34
         refine awp_sr2 656 [2] (fun _ => none) rfl (fun _ _ => rT) ?_
         refine awp_ret ?_
         refine kr_then ?_
         obtain rfl := Option.some.inj h0
         refine leave_retG [] ?_
         exact rG
        ·
         replace h0 := iteF h0 hb34
         refine awp_skip ?_
         refine kn_then ?_
         refine awp_sr2 656 [2] (fun _ => none) rfl (fun _ _ => rT) ?_
         refine awp_ret ?_
         obtain rfl := Option.some.inj h0
         refine leave_retG [] ?_
         exact rG
  ·
   refine awp_loopF (ι := { p : Nat × Int × Int // slices_Check_l1 vs1 p.1 p.2.1 p.2.2 = some x10 }) (fun p => ⟨[(1, .ref 0 0 0 0), (5, .int .i64 p.1.2.1), (25, .psl 1 (List.map (encInt .i64) vs1.Merge.At)), (26, .int .i64 (vs1.Merge.At.length : Int)), (27, .int .i64 p.1.2.2)], [(0, ⟨0, true, true, 10, [[.psl 1 (List.map (encSl 4 TApiEntry.enc) vs1.Merge.Runs), .psl 1 (List.map (encInt .i64) vs1.Merge.At), .psl 2 (List.map TApiLsKey.enc vs1.Merge.Tree.Keys), .psl 1 (List.map (encInt .i64) vs1.Merge.Tree.Lose), .int .i64 vs1.Merge.Tree.Win, .bool vs1.Shadow.Some, .str vs1.Shadow.Last, .bool vs1.Shadow.Bottom, .psl 4 (List.map TApiEntry.enc vs1.Out), .int .i64 vs1.Steps]]⟩)], 144, []⟩) (fun p => p.1.1) ⟨(fu, 0, 0), hxx10⟩ ⟨rF, rE, rfl, rfl, trivial, trivial⟩ (fun _ => Nat.le_refl _) ?_
   rintro ⟨⟨fu, n11, v12⟩, h1⟩
   cases fu with
   | zero =>
   replace h1 : slices_Check_l1 vs1 0 n11 v12 = some x10 := h1
   rw [slices_Check_l1] at h1; cases h1
   | succ fu =>
    replace h1 : slices_Check_l1 vs1 (fu + 1) n11 v12 = some x10 := h1
    rw [slices_Check_l1] at h1
    refine (show AWP _ _ _ _ ⟨[(1, .ref 0 0 0 0), (5, .int .i64 n11), (25, .psl 1 (List.map (encInt .i64) vs1.Merge.At)), (26, .int .i64 (vs1.Merge.At.length : Int)), (27, .int .i64 v12)], [(0, ⟨0, true, true, 10, [[.psl 1 (List.map (encSl 4 TApiEntry.enc) vs1.Merge.Runs), .psl 1 (List.map (encInt .i64) vs1.Merge.At), .psl 2 (List.map TApiLsKey.enc vs1.Merge.Tree.Keys), .psl 1 (List.map (encInt .i64) vs1.Merge.Tree.Lose), .int .i64 vs1.Merge.Tree.Win, .bool vs1.Shadow.Some, .str vs1.Shadow.Last, .bool vs1.Shadow.Bottom, .psl 4 (List.map TApiEntry.enc vs1.Out), .int .i64 vs1.Steps]]⟩)], 144, []⟩ from ?_)
    refine awp_sr2 152 [1, 5, 25, 26, 27, 28] (fun _ => none) rfl (fun _ _ => rT) ?_
    refine awp_seq ?_
    refine awp_if rfl (fun hb13 => ?_) (fun hb13 => ?_)
    ·
     replace h1 := iteT h1 hb13
     refine awp_skip ?_
     refine kn_then ?_
     refine awp_seq ?_
     refine awp_block ?_
     obtain ⟨e14, he14, h1⟩ := bindS h1
     obtain ⟨he14a, he14b, he14c⟩ := idxS he14
     refine awp_sr2 176 [1, 5, 7, 25, 26, 27] (fun _ => none) rfl (fun _ _ => rS (rA he14a (rA he14b he14c))) ?_
     refine awp_r2 208 [1, 5, 25, 26, 27] (fun _ => none) rfl (fun _ _ => rS (rA he14a (rA he14b he14c))) ?_
     refine kn_block ?_
     refine kn_then ?_
     refine awp_r2 224 [1, 5, 25, 26, 27] (fun _ => none) rfl (fun _ _ => rS (rA he14a (rA he14b he14c))) ?_
     refine kn_then ?_
     exact ⟨⟨(fu, (IntKind.i64.wrap (n11 + e14)), (IntKind.i64.wrap (v12 + 1))), h1⟩, ⟨rF, rE, rfl, rfl, trivial, trivial⟩, Nat.lt_succ_self _⟩
    ·
     replace h1 := iteF h1 hb13
     refine awp_exit ?_
     refine kx_then ?_
     refine kx_then ?_
     refine kx_done ?_
     obtain rfl := Option.some.inj h1
     exact ⟨Nat.le_of_ble_eq_true rfl, ⟨rF, rE, rfl, rfl, trivial, trivial⟩⟩
end Go.T
end
section
namespace Go.T
open Go Go.AM Go.Proofs
set_option maxRecDepth 100000
set_option maxHeartbeats 4000000
set_option linter.unusedVariables false
theorem c_merge_Left {fu : Nat} {vs1 : TApiMgState} {r : Int × Int} (h0 : merge_Left fu vs1 = some r) : PCall Try.prog 42 [.agg (TApiMgState.enc vs1)] (.tup [.int .i64 r.1, .int .i64 r.2]) [] := by
 refine awp_pcall Try.func42 rfl (by decide) (Nat.le_of_ble_eq_true rfl) ?_
 dsimp only [Try.f42]
 rw [merge_Left] at h0
 refine (show AWP _ _ _ _ ⟨enumFr 0 _, [], 0, []⟩ from ?_)
 refine awp_sr2 24 [1] (fun _ => none) rfl (fun _ _ => rT) ?_
 refine awp_seq ?_
 obtain ⟨vr2, hvr2, h0⟩ := bindS h0
 refine awp_sr2 80 [1, 5] (fun | 1 => some (.tup [.int .i64 vr2.1, .int .i64 vr2.2], []) | _ => none) rfl (fun _ _ => rC (c_merge_Check hvr2)) ?_
 refine awp_sr2 96 [1, 5, 15] (fun _ => none) rfl (fun _ _ => rT) ?_
 refine awp_if rfl (fun hb3 => ?_) (fun hb3 => ?_)
 ·
  replace h0 := iteT h0 hb3
  refine awp_sr2 120 [2, 3] (fun _ => none) rfl (fun _ _ => rT) ?_
  refine awp_ret ?_
  refine kr_then ?_
  obtain rfl := Option.some.inj h0
  refine leave_retG [] ?_
  exact rG
 ·
  replace h0 := iteF h0 hb3
  refine awp_skip ?_
  refine kn_then ?_
  refine awp_sr2 104 [1, 6] (fun _ => none) rfl (fun _ _ => rT) ?_
  refine awp_seq ?_
  refine awp_sr2 136 [1, 6, 18, 19, 20] (fun _ => none) rfl (fun _ _ => rT) ?_
  obtain ⟨x12, hxx12, h0⟩ := bindS h0
  refine awp_bloop (fun s' => s'.nx ≤ 144 ∧ LeN [] s' ⟨[(6, .int .i64 x12)], [(0, ⟨0, true, true, 5, [[.psl 1 (List.map (encSl 4 TApiEntry.enc) vs1.Runs), .psl 1 (List.map (encInt .i64) vs1.At), .psl 2 (List.map TApiLsKey.enc vs1.Tree.Keys), .psl 1 (List.map (encInt .i64) vs1.Tree.Lose), .int .i64 vs1.Tree.Win]]⟩)], 144, []⟩) ?_ ?_
  ·
   intro s' hs
   obtain ⟨hn, hs⟩ := hs
   refine kn_then ?_
   refine awp_re [] hn hs ?_
   refine awp_sr2 168 [2, 3] (fun _ => none) rfl (fun _ _ => rT) ?_
   refine awp_ret ?_
   obtain rfl := Option.some.inj h0
   refine leave_retG [] ?_
   exact rG
  ·
   refine awp_loopF (ι := { p : Nat × Int × Int // merge_Left_l1 vs1 p.1 p.2.1 p.2.2 = some x12 }) (fun p => ⟨[(1, .ref 0 0 0 0), (6, .int .i64 p.1.2.1), (18, .psl 1 (List.map (encSl 4 TApiEntry.enc) vs1.Runs)), (19, .int .i64 (vs1.Runs.length : Int)), (20, .int .i64 p.1.2.2)], [(0, ⟨0, true, true, 5, [[.psl 1 (List.map (encSl 4 TApiEntry.enc) vs1.Runs), .psl 1 (List.map (encInt .i64) vs1.At), .psl 2 (List.map TApiLsKey.enc vs1.Tree.Keys), .psl 1 (List.map (encInt .i64) vs1.Tree.Lose), .int .i64 vs1.Tree.Win]]⟩)], 136, []⟩) (fun p => p.1.1) ⟨(fu, 0, 0), hxx12⟩ ⟨rF, rE, rfl, rfl, trivial, trivial⟩ (fun _ => Nat.le_refl _) ?_
   rintro ⟨⟨fu, n13, v14⟩, h1⟩
   cases fu with
   | zero =>
   replace h1 : merge_Left_l1 vs1 0 n13 v14 = some x12 := h1
   rw [merge_Left_l1] at h1; cases h1
   | succ fu =>
    replace h1 : merge_Left_l1 vs1 (fu + 1) n13 v14 = some x12 := h1
    rw [merge_Left_l1] at h1
    refine (show AWP _ _ _ _ ⟨[(1, .ref 0 0 0 0), (6, .int .i64 n13), (18, .psl 1 (List.map (encSl 4 TApiEntry.enc) vs1.Runs)), (19, .int .i64 (vs1.Runs.length : Int)), (20, .int .i64 v14)], [(0, ⟨0, true, true, 5, [[.psl 1 (List.map (encSl 4 TApiEntry.enc) vs1.Runs), .psl 1 (List.map (encInt .i64) vs1.At), .psl 2 (List.map TApiLsKey.enc vs1.Tree.Keys), .psl 1 (List.map (encInt .i64) vs1.Tree.Lose), .int .i64 vs1.Tree.Win]]⟩)], 136, []⟩ from ?_)
    refine awp_sr2 144 [1, 6, 18, 19, 20, 21] (fun _ => none) rfl (fun _ _ => rT) ?_
    refine awp_seq ?_
    refine awp_if rfl (fun hb15 => ?_) (fun hb15 => ?_)
    ·
     replace h1 := iteT h1 hb15
     refine awp_skip ?_
     refine kn_then ?_
     refine awp_seq ?_
     refine awp_block ?_
     obtain ⟨e16, he16, h1⟩ := bindS h1
     obtain ⟨he16a, he16b, he16c⟩ := idxS he16
     refine awp_sr2 184 [1, 6, 7, 8, 18, 19, 20] (fun _ => none) rfl (fun _ _ => rS (rA he16a (rA he16b he16c))) ?_
     obtain ⟨e17, he17, h1⟩ := bindS h1
     obtain ⟨he17a, he17b, he17c⟩ := idxS he17
     refine awp_r2 272 [1, 6, 18, 19, 20] (fun _ => none) rfl (fun _ _ => rS (rA he16a (rA he16b (rA he16c (rA he17a (rA he17b he17c)))))) ?_
     refine kn_block ?_
     refine kn_then ?_
     refine awp_r2 288 [1, 6, 18, 19, 20] (fun _ => none) rfl (fun _ _ => rS (rA he16a (rA he16b (rA he16c (rA he17a (rA he17b he17c)))))) ?_
     refine kn_then ?_
     exact ⟨⟨(fu, (IntKind.i64.wrap (n13 + (IntKind.i64.wrap ((e16.length : Int) - e17)))), (IntKind.i64.wrap (v14 + 1))), h1⟩, ⟨rF, rE, rfl, rfl, trivial, trivial⟩, Nat.lt_succ_self _⟩
    ·
     replace h1 := iteF h1 hb15
     refine awp_exit ?_
     refine kx_then ?_
     refine kx_then ?_
     refine kx_done ?_
     obtain rfl := Option.some.inj h1
     exact ⟨Nat.le_of_ble_eq_true rfl, ⟨rF, rE, rfl, rfl, trivial, trivial⟩⟩
end Go.T
end
section
namespace Go.T
open Go Go.AM Go.Proofs
set_option maxRecDepth 100000
set_option maxHeartbeats 4000000
set_option linter.unusedVariables false
theorem c_slices_Left {fu : Nat} {vs1 : TApiSlState} {r : Int × Int} (h0 : slices_Left fu vs1 = some r) : PCall Try.prog 20 [.agg (TApiSlState.enc vs1)] (.tup [.int .i64 r.1, .int .i64 r.2]) [] := by
 refine awp_pcall Try.func20 rfl (by decide) (Nat.le_of_ble_eq_true rfl) ?_
 dsimp only [Try.f20]
 rw [slices_Left] at h0
 refine (show AWP _ _ _ _ ⟨enumFr 0 _, [], 0, []⟩ from ?_)
 refine awp_sr2 24 [1] (fun _ => none) rfl (fun _ _ => rT) ?_
 refine awp_seq ?_
 obtain ⟨vr2, hvr2, h0⟩ := bindS h0
 refine awp_sr2 48 [1, 4] (fun | 1 => some (.int .i64 vr2, []) | _ => none) rfl (fun _ _ => rC (c_slices_Check hvr2)) ?_
 refine awp_sr2 64 [1, 4, 8] (fun _ => none) rfl (fun _ _ => rT) ?_
 refine awp_if rfl (fun hb3 => ?_) (fun hb3 => ?_)
 ·
  replace h0 := iteT h0 hb3
  refine awp_sr2 88 [2, 3] (fun _ => none) rfl (fun _ _ => rT) ?_
  refine awp_ret ?_
  refine kr_then ?_
  obtain rfl := Option.some.inj h0
  refine leave_retG [] ?_
  exact rG
 ·
  replace h0 := iteF h0 hb3
  refine awp_skip ?_
  refine kn_then ?_
  obtain ⟨vr4, hvr4, h0⟩ := bindS h0
  refine awp_sr2 120 [2, 3] (fun | 2 => some (.tup [.int .i64 vr4.1, .int .i64 vr4.2], []) | _ => none) rfl (fun _ _ => rC (c_merge_Left hvr4)) ?_
  refine awp_ret ?_
  obtain rfl := Option.some.inj h0
  refine leave_retG [] ?_
  exact rG
end Go.T
end
section
namespace Go.T
open Go Go.AM Go.Proofs
set_option maxRecDepth 100000
set_option maxHeartbeats 4000000
set_option linter.unusedVariables false
theorem c_merge_Next {fu : Nat} {vs1 : TApiMgState} {r : TApiEntry × Int × TApiMgState × Int} (h0 : merge_Next fu vs1 = some r) : PCall Try.prog 61 [.agg (TApiMgState.enc vs1)] (.tup [.agg (TApiEntry.enc r.1), .int .i64 r.2.1, .agg (TApiMgState.enc r.2.2.1), .int .i64 r.2.2.2]) [] := by
 refine awp_pcall Try.func61 rfl (by decide) (Nat.le_of_ble_eq_true rfl) ?_
 dsimp only [Try.f61]
 rw [merge_Next] at h0
 refine (show AWP _ _ _ _ ⟨enumFr 0 _, [], 0, []⟩ from ?_)
 refine awp_sr2 40 [1, 2, 4] (fun _ => none) rfl (fun _ _ => rT) ?_
 refine awp_sops2 7 rfl ?_
 refine awpo_cut (l' := List.range' 0 1 ++ (1 :: (List.range' 2 5 ++ []))) rfl ?_
 refine awpo_seg 0 1 48 (1 :: (List.range' 2 5 ++ [])) (fun _ => none) rfl rfl rfl (fun _ _ => rT) ?_
 refine awpo_in rfl rfl rfl rfl rfl Try.func78 rfl (by decide) rfl (Nat.le_of_ble_eq_true rfl) ?_
 dsimp only [Try.f78]
 refine awp_re (s2 := ⟨[(0, .agg [.psl 1 (List.map (encSl 4 TApiEntry.enc) vs1.Runs), .psl 1 (List.map (encInt .i64) vs1.At), .psl 2 (List.map TApiLsKey.enc vs1.Tree.Keys), .psl 1 (List.map (encInt .i64) vs1.Tree.Lose), .int .i64 vs1.Tree.Win])], [(0, ⟨0, true, true, 5, [[.psl 1 (List.map (encSl 4 TApiEntry.enc) vs1.Runs), .psl 1 (List.map (encInt .i64) vs1.At), .psl 2 (List.map TApiLsKey.enc vs1.Tree.Keys), .psl 1 (List.map (encInt .i64) vs1.Tree.Lose), .int .i64 vs1.Tree.Win]]⟩), (8, ⟨0, true, true, 4, [[.str [], .str [], .bool false, .int .i64 0]]⟩), (24, ⟨0, true, true, 5, [[.nils, .nils, .nils, .nils, .int .i64 0]]⟩)], 48, []⟩) [] (Nat.le_of_ble_eq_true rfl) ⟨rF, rE, rfl, rfl, trivial, trivial⟩ ?_
 refine awp_sr2 72 [1] (fun _ => none) rfl (fun _ _ => rT) ?_
 refine awp_seq ?_
 obtain ⟨vr2, hvr2, h0⟩ := bindS h0
 refine awp_sr2 128 [1, 5] (fun | 1 => some (.tup [.int .i64 vr2.1, .int .i64 vr2.2], []) | _ => none) rfl (fun _ _ => rC (c_merge_Check hvr2)) ?_
 refine awp_sr2 144 [1, 5, 12] (fun _ => none) rfl (fun _ _ => rT) ?_
 refine awp_if rfl (fun hb3 => ?_) (fun hb3 => ?_)
 ·
  replace h0 := iteT h0 hb3
  refine awp_sr2 168 [2, 3] (fun _ => none) rfl (fun _ _ => rT) ?_
  refine awp_ret ?_
  refine kr_then ?_
  refine leave_retK (fun _ _ => rT) ?_
  refine awpo_re (s2 := ⟨[(1, .ref 0 0 0 0), (2, .ref 8 0 0 0), (4, .ref 24 0 0 0), (8, .agg [.psl 1 (List.map (encSl 4 TApiEntry.enc) vs1.Runs), .psl 1 (List.map (encInt .i64) vs1.At), .psl 2 (List.map TApiLsKey.enc vs1.Tree.Keys), .psl 1 (List.map (encInt .i64) vs1.Tree.Lose), .int .i64 vs1.Tree.Win]), (9, .tup [.nilp, .int .i64 vr2.2])], [(0, ⟨0, true, true, 5, [[.psl 1 (List.map (encSl 4 TApiEntry.enc) vs1.Runs), .psl 1 (List.map (encInt .i64) vs1.At), .psl 2 (List.map TApiLsKey.enc vs1.Tree.Keys), .psl 1 (List.map (encInt .i64) vs1.Tree.Lose), .int .i64 vs1.Tree.Win]]⟩), (8, ⟨0, true, true, 4, [[.str [], .str [], .bool false, .int .i64 0]]⟩), (24, ⟨0, true, true, 5, [[.nils, .nils, .nils, .nils, .int .i64 0]]⟩)], 168, []⟩) [] (Nat.le_of_ble_eq_true rfl) ⟨rF, rE, rfl, rfl, trivial, trivial⟩ ?_
  refine awpo_cut (l' := List.range' 2 5 ++ []) rfl ?_
  refine awpo_seg 2 5 208 [] (fun _ => none) rfl rfl rfl (fun _ _ => rT) ?_
  refine awpo_nil ?_
  refine kn_then ?_
  refine awp_re (s2 := ⟨[(2, .ref 8 0 0 0), (4, .ref 24 0 0 0), (5, .int .i64 vr2.2), (6, .nilp)], [(0, ⟨0, true, true, 5, [[.psl 1 (List.map (encSl 4 TApiEntry.enc) vs1.Runs), .psl 1 (List.map (encInt .i64) vs1.At), .psl 2 (List.map TApiLsKey.enc vs1.Tree.Keys), .psl 1 (List.map (encInt .i64) vs1.Tree.Lose), .int .i64 vs1.Tree.Win]]⟩), (8, ⟨0, true, true, 4, [[.str [], .str [], .bool false, .int .i64 0]]⟩), (24, ⟨0, true, true, 5, [[.nils, .nils, .nils, .nils, .int .i64 0]]⟩)], 208, []⟩) [] (Nat.le_of_ble_eq_true rfl) ⟨rF, rE, rfl, rfl, trivial, trivial⟩ ?_
  refine awp_seq ?_
  refine awp_sr2 224 [2, 4, 5, 6, 13] (fun _ => none) rfl (fun _ _ => rT) ?_
  refine awp_condKT rfl hb3 ?_
  refine awp_sr2 280 [2, 3, 4, 5] (fun _ => none) rfl (fun _ _ => rT) ?_
  refine awp_ret ?_
  refine kr_then ?_
  obtain rfl := Option.some.inj h0
  refine leave_retG [] ?_
  exact rG
 ·
  replace h0 := iteF h0 hb3
  refine awp_skip ?_
  refine kn_then ?_
  obtain ⟨vr4, hvr4, h0⟩ := bindS h0
  obtain ⟨vr5, hvr5, h0⟩ := bindS h0
  refine awp_sd2 248 [2, 3] (fun | 2 => some (.psl 1 (vr4.map (encSl 4 TApiEntry.enc)), []) | 5 => some (.sl 0 0 1 0 vr5.length, [⟨0, true, true, 1, vr5.map (encInt .i64)⟩]) | _ => none) rfl rfl rfl (fun Kt hK => by
    try have q0 := c_slices_Clone_apiEntry hvr4
    try have q1 := c_slices_Clone_int_2 hvr5
    exact rTd) ?_
  refine awp_ret ?_
  refine leave_retK (fun _ _ => rT) ?_
  refine awpo_re (s2 := ⟨[(1, .ref 0 0 0 0), (2, .ref 8 0 0 0), (4, .ref 24 0 0 0), (8, .agg [.psl 1 (List.map (encSl 4 TApiEntry.enc) vs1.Runs), .psl 1 (List.map (encInt .i64) vs1.At), .psl 2 (List.map TApiLsKey.enc vs1.Tree.Keys), .psl 1 (List.map (encInt .i64) vs1.Tree.Lose), .int .i64 vs1.Tree.Win]), (9, .tup [.ref 224 0 0 0, .int .i64 0])], [(0, ⟨0, true, true, 5, [[.psl 1 (List.map (encSl 4 TApiEntry.enc) vs1.Runs), .psl 1 (List.map (encInt .i64) vs1.At), .psl 2 (List.map TApiLsKey.enc vs1.Tree.Keys), .psl 1 (List.map (encInt .i64) vs1.Tree.Lose), .int .i64 vs1.Tree.Win]]⟩), (8, ⟨0, true, true, 4, [[.str [], .str [], .bool false, .int .i64 0]]⟩), (24, ⟨0, true, true, 5, [[.nils, .nils, .nils, .nils, .int .i64 0]]⟩), (184, ⟨0, true, true, 1, List.map (encInt .i64) vr5⟩), (224, ⟨0, true, false, 5, [[.psl 1 (List.map (encSl 4 TApiEntry.enc) vr4), .sl 184 0 1 0 vr5.length, .psl 2 (List.map TApiLsKey.enc vs1.Tree.Keys), .psl 1 (List.map (encInt .i64) vs1.Tree.Lose), .int .i64 vs1.Tree.Win]]⟩)], 248, []⟩) [] (Nat.le_of_ble_eq_true rfl) ⟨rF, rE, rfl, rfl, trivial, trivial⟩ ?_
  refine awpo_cut (l' := List.range' 2 5 ++ []) rfl ?_
  refine awpo_seg 2 5 288 [] (fun _ => none) rfl rfl rfl (fun _ _ => rT) ?_
  refine awpo_nil ?_
  refine kn_then ?_
  refine awp_re (s2 := ⟨[(2, .ref 8 0 0 0), (4, .ref 24 0 0 0), (5, .int .i64 0), (6, .ref 224 0 0 0)], [(0, ⟨0, true, true, 5, [[.psl 1 (List.map (encSl 4 TApiEntry.enc) vs1.Runs), .psl 1 (List.map (encInt .i64) vs1.At), .psl 2 (List.map TApiLsKey.enc vs1.Tree.Keys), .psl 1 (List.map (encInt .i64) vs1.Tree.Lose), .int .i64 vs1.Tree.Win]]⟩), (8, ⟨0, true, true, 4, [[.str [], .str [], .bool false, .int .i64 0]]⟩), (24, ⟨0, true, true, 5, [[.nils, .nils, .nils, .nils, .int .i64 0]]⟩), (184, ⟨0, true, true, 1, List.map (encInt .i64) vr5⟩), (224, ⟨0, true, false, 5, [[.psl 1 (List.map (encSl 4 TApiEntry.enc) vr4), .sl 184 0 1 0 vr5.length, .psl 2 (List.map TApiLsKey.enc vs1.Tree.Keys), .psl 1 (List.map (encInt .i64) vs1.Tree.Lose), .int .i64 vs1.Tree.Win]]⟩)], 288, []⟩) [] (Nat.le_of_ble_eq_true rfl) ⟨rF, rE, rfl, rfl, trivial, trivial⟩ ?_
  refine awp_seq ?_
  refine awp_sr2 304 [2, 4, 5, 6, 13] (fun _ => none) rfl (fun _ _ => rT) ?_
  refine awp_condF rfl ?_
  refine awp_skip ?_
  refine kn_then ?_
  obtain ⟨vr6, hvr6, h0⟩ := bindS h0
  refine awp_sr2 376 [2, 3, 4, 5, 6] (fun | 1 => some (.tup [.agg (TApiEntry.enc vr6.1), .int .i64 vr6.2.1, .int .i64 vr6.2.2], []) | _ => none) rfl (fun _ _ => rC (c_merge_reader_peek hvr6)) ?_
  refine awp_seq ?_
  refine awp_sr2 392 [2, 3, 4, 5, 6, 24] (fun _ => none) rfl (fun _ _ => rT) ?_
  refine awp_if rfl (fun hb7 => ?_) (fun hb7 => ?_)
  ·
   replace h0 := iteT h0 hb7
   refine awp_sr2 448 [2, 3, 4, 5] (fun _ => none) rfl (fun _ _ => rT) ?_
   refine awp_ret ?_
   refine kr_then ?_
   obtain rfl := Option.some.inj h0
   refine leave_retG [] ?_
   exact rG
  ·
   replace h0 := iteF h0 hb7
   refine awp_skip ?_
   refine kn_then ?_
   refine awp_sops2 3 rfl ?_
   refine awpo_cut (l' := List.range' 0 2 ++ (2 :: (List.range' 3 0 ++ []))) rfl ?_
   refine awpo_seg 0 2 408 (2 :: (List.range' 3 0 ++ [])) (fun _ => none) rfl rfl rfl (fun _ _ => rT) ?_
   refine awpo_in rfl rfl rfl rfl rfl Try.func76 rfl (by decide) rfl (Nat.le_of_ble_eq_true rfl) ?_
   dsimp only [Try.f76]
   refine awp_re (s2 := ⟨[(0, .ref 224 0 0 0), (1, .int .i64 vr6.2.1)], [(0, ⟨0, true, true, 5, [[.psl 1 (List.map (encSl 4 TApiEntry.enc) vs1.Runs), .psl 1 (List.map (encInt .i64) vs1.At), .psl 2 (List.map TApiLsKey.enc vs1.Tree.Keys), .psl 1 (List.map (encInt .i64) vs1.Tree.Lose), .int .i64 vs1.Tree.Win]]⟩), (8, ⟨0, true, true, 4, [[.str vr6.1.Key, .str vr6.1.Val, .bool vr6.1.Dead, .int .i64 vr6.1.Seq]]⟩), (24, ⟨0, true, true, 5, [[.nils, .nils, .nils, .nils, .int .i64 0]]⟩), (184, ⟨0, true, true, 1, List.map (encInt .i64) vr5⟩), (224, ⟨0, true, false, 5, [[.psl 1 (List.map (encSl 4 TApiEntry.enc) vr4), .sl 184 0 1 0 vr5.length, .psl 2 (List.map TApiLsKey.enc vs1.Tree.Keys), .psl 1 (List.map (encInt .i64) vs1.Tree.Lose), .int .i64 vs1.Tree.Win]]⟩)], 408, []⟩) [] (Nat.le_of_ble_eq_true rfl) ⟨rF, rE, rfl, rfl, trivial, trivial⟩ ?_
   obtain ⟨e8, he8, h0⟩ := bindS h0
   obtain ⟨he8a, he8b, he8c⟩ := idxS he8
   refine awp_sr2 496 [0, 1] (fun _ => none) rfl (fun _ _ => rS (rA he8a (rA he8b he8c))) ?_
   refine awp_re (s2 := ⟨[(0, .ref 224 0 0 0), (1, .int .i64 vr6.2.1)], [(0, ⟨0, true, true, 5, [[.psl 1 (List.map (encSl 4 TApiEntry.enc) vs1.Runs), .psl 1 (List.map (encInt .i64) vs1.At), .psl 2 (List.map TApiLsKey.enc vs1.Tree.Keys), .psl 1 (List.map (encInt .i64) vs1.Tree.Lose), .int .i64 vs1.Tree.Win]]⟩), (8, ⟨0, true, true, 4, [[.str vr6.1.Key, .str vr6.1.Val, .bool vr6.1.Dead, .int .i64 vr6.1.Seq]]⟩), (24, ⟨0, true, true, 5, [[.nils, .nils, .nils, .nils, .int .i64 0]]⟩), (184, ⟨0, true, true, 1, List.map (encInt .i64) (vr5.set vr6.2.1.toNat (IntKind.i64.wrap (e8 + 1)))⟩), (224, ⟨0, true, false, 5, [[.psl 1 (List.map (encSl 4 TApiEntry.enc) vr4), .sl 184 0 1 0 ((vr5.set vr6.2.1.toNat (IntKind.i64.wrap (e8 + 1))).length), .psl 2 (List.map TApiLsKey.enc vs1.Tree.Keys), .psl 1 (List.map (encInt .i64) vs1.Tree.Lose), .int .i64 vs1.Tree.Win]]⟩)], 496, []⟩) [] (Nat.le_of_ble_eq_true rfl) ⟨rF, rE, rfl, rfl, trivial, trivial⟩ ?_
   obtain ⟨e9, he9, h0⟩ := bindS h0
   obtain ⟨he9a, he9b, he9c⟩ := idxS he9
   obtain ⟨e10, he10, h0⟩ := bindS h0
   obtain ⟨he10a, he10b, he10c⟩ := idxS he10
   obtain ⟨vr11, hvr11, h0⟩ := bindS h0
   obtain ⟨vr12, hvr12, h0⟩ := bindS h0
   refine awp_d2 752 [] (fun | 22 => some (.agg (TApiLsKey.enc vr11), []) | 23 => some (.tup [.agg (TApiLsTree.enc vr12.1), .int .i64 vr12.2.1, .int .i64 vr12.2.2], []) | _ => none) rfl rfl rfl (fun Kt hK => by
     try have q0 := c_merge_next hvr11
     try have q1 := c_loser_Replace hvr12
     exact rSd (rA he8a (rA he8b (rA he8c (rA he9a (rA he9b (rA he9c (rA he10a (rA he10b he10c))))))))) ?_
   refine leave_endK (fun _ _ => rS (rA he8a (rA he8b (rA he8c (rA he9a (rA he9b (rA he9c (rA he10a (rA he10b he10c))))))))) ?_
   refine awpo_re (s2 := ⟨[(2, .ref 8 0 0 0), (3, .int .i64 vr6.2.1), (4, .ref 24 0 0 0), (5, .int .i64 vr6.2.2), (6, .ref 224 0 0 0), (24, .bool (!(decide (vr6.2.2 = 0)))), (28, .ref 224 0 0 0), (29, .int .i64 vr6.2.1), (30, .tup [])], [(0, ⟨0, true, true, 5, [[.psl 1 (List.map (encSl 4 TApiEntry.enc) vs1.Runs), .psl 1 (List.map (encInt .i64) vs1.At), .psl 2 (List.map TApiLsKey.enc vs1.Tree.Keys), .psl 1 (List.map (encInt .i64) vs1.Tree.Lose), .int .i64 vs1.Tree.Win]]⟩), (8, ⟨0, true, true, 4, [[.str vr6.1.Key, .str vr6.1.Val, .bool vr6.1.Dead, .int .i64 vr6.1.Seq]]⟩), (24, ⟨0, true, true, 5, [[.nils, .nils, .nils, .nils, .int .i64 0]]⟩), (184, ⟨0, true, true, 1, List.map (encInt .i64) (vr5.set vr6.2.1.toNat (IntKind.i64.wrap (e8 + 1)))⟩), (224, ⟨0, true, false, 5, [[.psl 1 (List.map (encSl 4 TApiEntry.enc) vr4), .sl 184 0 1 0 ((vr5.set vr6.2.1.toNat (IntKind.i64.wrap (e8 + 1))).length), .psl 2 (List.map TApiLsKey.enc vr12.1.Keys), .psl 1 (List.map (encInt .i64) vr12.1.Lose), .int .i64 vr12.1.Win]]⟩)], 752, []⟩) [] (Nat.le_of_ble_eq_true rfl) ⟨rF, rE, rfl, rfl, trivial, trivial⟩ ?_
   refine awpo_cut (l' := []) rfl ?_
   refine awpo_nil ?_
   refine kn_then ?_
   refine awp_re (s2 := ⟨[(2, .ref 8 0 0 0), (3, .int .i64 vr6.2.1), (4, .ref 24 0 0 0), (6, .ref 224 0 0 0)], [(0, ⟨0, true, true, 5, [[.psl 1 (List.map (encSl 4 TApiEntry.enc) vs1.Runs), .psl 1 (List.map (encInt .i64) vs1.At), .psl 2 (List.map TApiLsKey.enc vs1.Tree.Keys), .psl 1 (List.map (encInt .i64) vs1.Tree.Lose), .int .i64 vs1.Tree.Win]]⟩), (8, ⟨0, true, true, 4, [[.str vr6.1.Key, .str vr6.1.Val, .bool vr6.1.Dead, .int .i64 vr6.1.Seq]]⟩), (24, ⟨0, true, true, 5, [[.nils, .nils, .nils, .nils, .int .i64 0]]⟩), (184, ⟨0, true, true, 1, List.map (encInt .i64) (vr5.set vr6.2.1.toNat (IntKind.i64.wrap (e8 + 1)))⟩), (224, ⟨0, true, false, 5, [[.psl 1 (List.map (encSl 4 TApiEntry.enc) vr4), .sl 184 0 1 0 ((vr5.set vr6.2.1.toNat (IntKind.i64.wrap (e8 + 1))).length), .psl 2 (List.map TApiLsKey.enc vr12.1.Keys), .psl 1 (List.map (encInt .i64) vr12.1.Lose), .int .i64 vr12.1.Win]]⟩)], 752, []⟩) [] (Nat.le_of_ble_eq_true rfl) ⟨rF, rE, rfl, rfl, trivial, trivial⟩ ?_
   refine awp_sd2 832 [2, 3, 4, 5] (fun _ => none) rfl rfl rfl (fun _ _ => rSd (rA he8a (rA he8b (rA he8c (rA he9a (rA he9b (rA he9c (rA he10a (rA he10b he10c))))))))) ?_
   refine awp_ret ?_
   obtain rfl := Option.some.inj h0
   refine leave_retG [] ?_
   simp (maxSteps := 1000000) only [↓reduceIte, reduceCtorEq, Nat.reduceEqDiff, Nat.reduceLT, Nat.reduceLeDiff, Nat.reduceAdd, Nat.reduceMul, Int.reduceToNat, push_cast, Gives, he8a, he8b, he8c, he9a, he9b, he9c, he10a, he10b, he10c]
   all_goals exact rH
end Go.T
end
