/- New, Of and Begin return what the document says, of levels that are not long; no other condition. -/
import Derived.Test.YtnlggkiekcpahaaGreatCGt
import Derived.Test.YtnlggkiekcpahaaGreatC1
set_option linter.unusedSimpArgs false
set_option linter.unusedVariables false
section
namespace Go.T
open Go Go.AM Go.Proofs
set_option maxRecDepth 100000
set_option maxHeartbeats 4000000
set_option linter.unusedVariables false
theorem zaI {fu : Nat} {vs1 : List (List aA)} {r : List (List aA)} (h0 : cN fu vs1 = some r) : bB Tryz.prog 125 [.psl 1 (vs1.map (vA 4 aA.enc))] (.psl 1 (r.map (vA 4 aA.enc))) [] := by
 refine gB Tryz.func125 rfl (by decide) rL ?_
 dsimp only [Tryz.f125]
 rw [cN] at h0
 refine (show pA _ _ _ _ ⟨aB 0 _, [], 0, []⟩ from ?_)
 refine xS 8 [0] ?_
 refine kA ?_
 cases hb2 : vs1.isEmpty with
 | true =>
  replace h0 := jB h0 hb2
  obtain rfl : vs1 = [] := List.isEmpty_iff.1 hb2
  refine xS 24 [0, 4] ?_
  refine xU rfl ?_ ?_
  ·
   skip
   refine xS 32 [2] ?_
   refine jA (mA ?_)
   obtain rfl := Option.some.inj h0
   refine lA [] ?_
   exact rG
  ·
   skip
   refine qA (dA ?_)
   refine xS 56 [2] ?_
   refine xE ⟨[(2, .sl 24 1 1 0 0)], [(24, ⟨1, true, true, 1, List.map (vA 4 aA.enc) []⟩)], 56, []⟩ ?_
   refine jA ?_
   obtain rfl := Option.some.inj h0
   refine lA [] ?_
   exact rG
 | false =>
  replace h0 := wA h0 hb2
  refine nA 24 [0, 4] (fun _ => none) rfl (fun _ _ => rS hb2) ?_
  refine eF rfl ?_
  refine qA (dA ?_)
  obtain ⟨hc3, h0⟩ := mD h0
  refine nA 56 [2] (fun _ => none) rfl (fun _ _ => rS hb2) ?_
  refine xE ⟨[(2, .sl 24 1 1 0 vs1.length)], [(24, ⟨1, true, true, 1, List.map (vA 4 aA.enc) vs1⟩)], 56, []⟩ ?_
  refine jA ?_
  obtain rfl := Option.some.inj h0
  refine lA [] ?_
  simp (maxSteps := 1000000) only [↓reduceIte, reduceCtorEq, Nat.reduceEqDiff, Nat.reduceLT, Nat.reduceLeDiff, Nat.reduceAdd, Nat.reduceMul, Int.reduceToNat, push_cast, bC, hb2]
  all_goals exact rH
theorem dX {fu : Nat} {l1 : List aA} {vat2 : Int} {r : eA} (h0 : jK fu l1 vat2 = some r) : bB Tryz.prog 126 [.psl 4 (l1.map aA.enc), .int .i64 vat2] (.agg (eA.enc r)) [] := by
 refine gB Tryz.func126 rfl (by decide) rL ?_
 dsimp only [Tryz.f126]
 rw [jK] at h0
 refine (show pA _ _ _ _ ⟨aB 0 _, [], 0, []⟩ from ?_)
 refine xS 8 [0, 1, 4] ?_
 refine kA ?_
 refine xS 40 [0, 1, 4, 8] ?_
 refine xI h0 rfl (fun h0 hb3 => ?_) (fun h0 hb3 => ?_)
 ·
  refine xS 56 [4] ?_
  refine jA (mA ?_)
  obtain rfl := Option.some.inj h0
  refine lA [] ?_
  exact rG
 ·
  refine qA (dA ?_)
  obtain ⟨e4, he4, h0⟩ := cA h0
  obtain ⟨he4a, he4b, he4c⟩ := cB he4
  refine nA 96 [4] (fun _ => none) rfl (fun _ _ => rS (rA he4a (rA he4b he4c))) ?_
  refine jA ?_
  obtain rfl := Option.some.inj h0
  refine lA [] ?_
  simp (maxSteps := 1000000) only [↓reduceIte, reduceCtorEq, Nat.reduceEqDiff, Nat.reduceLT, Nat.reduceLeDiff, Nat.reduceAdd, Nat.reduceMul, Int.reduceToNat, push_cast, bC, he4a, he4b, he4c]
  all_goals exact rH
theorem zlH {fu : Nat} {k1 : eA} {r : Bool} (h0 : kQ fu k1 = some r) : bB Tryz.prog 150 [.agg (eA.enc k1)] (.bool r) [] := by
 refine gB Tryz.func150 rfl (by decide) rL ?_
 dsimp only [Tryz.f150]
 rw [kQ] at h0
 refine (show pA _ _ _ _ ⟨aB 0 _, [], 0, []⟩ from ?_)
 refine xS 16 [1] ?_
 obtain ⟨b2, hb2, h0⟩ := cA h0
 refine nC (fr' := [(2, .bool b2)]) (hp' := [(0, ⟨0, true, true, 2, [[.str k1.Key, .bool k1.Done]]⟩)]) [0] 80 [2] (fun _ => none) rfl (fun Kt hK => by
   cases hg3 : k1.Done with
   | false =>
    replace hb2 := wA hb2 hg3
    have hqb2 := Option.some.inj hb2
    subst hqb2
    simp (maxSteps := 1000000) only [↓reduceIte, reduceCtorEq, Nat.reduceEqDiff, Nat.reduceLT, Nat.reduceLeDiff, Nat.reduceAdd, Nat.reduceMul, Int.reduceToNat, push_cast, ↓hg3]
    try simp only [↓hg3] at hK
    all_goals exact rU
   | true =>
    replace hb2 := jB hb2 hg3
    have hqb2 := Option.some.inj hb2
    subst hqb2
    simp (maxSteps := 1000000) only [↓reduceIte, reduceCtorEq, Nat.reduceEqDiff, Nat.reduceLT, Nat.reduceLeDiff, Nat.reduceAdd, Nat.reduceMul, Int.reduceToNat, push_cast, ↓hg3]
    try simp only [↓hg3] at hK
    all_goals exact rU) ?_
 refine jA ?_
 obtain rfl := Option.some.inj h0
 refine lA [] ?_
 exact rG
theorem ziP {fu : Nat} {vs1 : List eA} {r : Int} (h0 : wP fu vs1 = some r) : bB Tryz.prog 153 [.psl 2 (vs1.map eA.enc), .fn 150 [] []] (.int .i64 r) [] := by
 refine gB Tryz.func153 rfl (by decide) rL ?_
 dsimp only [Tryz.f153]
 rw [wP] at h0
 refine (show pA _ _ _ _ ⟨aB 0 _, [], 0, []⟩ from ?_)
 refine xS 8 [0, 1] ?_
 refine kA ?_
 refine xS 32 [0, 1, 7, 8] ?_
 obtain ⟨x11, hxx11, h0⟩ := cA h0
 refine pC (fun s' => ∃ o17 : Unit, x11 = .inl o17 ∧ s'.nx ≤ 40 ∧ LeN [] s' ⟨[], [], 40, []⟩) ?_ ?_
 ·
  intro s' hs
  obtain ⟨o17, rfl, hn, hs⟩ := hs
  refine dA ?_
  refine pB [] hn hs ?_
  refine xS 48 [4] ?_
  refine jA ?_
  obtain rfl := Option.some.inj h0
  refine lA [] ?_
  exact rG
 ·
  refine mC (ι := { p : Nat × Int // aH vs1 p.1 p.2 = some x11 }) (fun p => ⟨[(0, .psl 2 (List.map eA.enc vs1)), (1, .fn 150 [] []), (7, .int .i64 (vs1.length : Int)), (8, .int .i64 p.1.2)], [], 32, []⟩) (fun p => p.1.1) ⟨(fu, 0), hxx11⟩ ⟨rF, rE, rfl, rfl, trivial, trivial⟩ (fun _ => Nat.le_refl _) ?_
  rintro ⟨⟨fu, v12⟩, h1⟩
  cases fu with
  | zero =>
   replace h1 : aH vs1 0 v12 = some x11 := h1
   rw [aH] at h1; cases h1
  | succ fu =>
   replace h1 : aH vs1 (fu + 1) v12 = some x11 := h1
   rw [aH] at h1
   refine (show pA _ _ _ _ ⟨[(0, .psl 2 (List.map eA.enc vs1)), (1, .fn 150 [] []), (7, .int .i64 (vs1.length : Int)), (8, .int .i64 v12)], [], 32, []⟩ from ?_)
   refine xS 40 [0, 1, 7, 8, 9] ?_
   refine kA ?_
   refine xI h1 rfl (fun h1 hb13 => ?_) (fun h1 hb13 => ?_)
   ·
    refine qA (dA (kA (aC ?_)))
    refine xS 56 [0, 1, 5, 7, 8] ?_
    obtain ⟨e14, he14, h1⟩ := cA h1
    obtain ⟨he14a, he14b, he14c⟩ := cB he14
    obtain ⟨vr15, hvr15, h1⟩ := cA h1
    refine nA 104 [0, 1, 5, 7, 8, 16] (fun | 5 => some (.bool vr15, []) | _ => none) rfl (fun _ _ => rB (rA he14a (rA he14b he14c)) (zlH hvr15)) ?_
    refine xI h1 rfl (fun h1 hb16 => ?_) (fun h1 hb16 => ?_)
    ·
     refine nA 120 [4] (fun _ => none) rfl (fun _ _ => rS (rA he14a (rA he14b he14c))) ?_
     refine jA ?_
     obtain rfl := Option.some.inj h1
     refine eC (mA (mA (aD (mA ?_))))
     obtain rfl := Option.some.inj h0
     refine lA [] ?_
     simp (maxSteps := 1000000) only [↓reduceIte, reduceCtorEq, Nat.reduceEqDiff, Nat.reduceLT, Nat.reduceLeDiff, Nat.reduceAdd, Nat.reduceMul, Int.reduceToNat, push_cast, bC, he14a, he14b, he14c]
     all_goals exact rH
    ·
     refine qA (sB (dA ?_))
     refine uB 120 [0, 1, 7, 8] (fun _ => none) rfl (fun _ _ => rS (rA he14a (rA he14b he14c))) ?_
     refine dA ?_
     exact ⟨⟨(fu, (IntKind.i64.wrap (v12 + 1))), h1⟩, ⟨rF, rE, rfl, rfl, trivial, trivial⟩, Nat.lt_succ_self _⟩
   ·
    refine iC (dB (dB (jC ?_)))
    obtain rfl := Option.some.inj h1
    exact ⟨_, rfl, rL, ⟨rF, rE, rfl, rfl, trivial, trivial⟩⟩
theorem zk1 {fu : Nat} {vs1 : List eA} {r : Bool} (h0 : iQ fu vs1 = some r) : bB Tryz.prog 149 [.psl 2 (vs1.map eA.enc), .fn 150 [] []] (.bool r) [] := by
 refine gB Tryz.func149 rfl (by decide) rL ?_
 dsimp only [Tryz.f149]
 rw [iQ] at h0
 refine (show pA _ _ _ _ ⟨aB 0 _, [], 0, []⟩ from ?_)
 refine xS 8 [0, 1] ?_
 obtain ⟨vr2, hvr2, h0⟩ := cA h0
 refine nA 48 [4] (fun | 2 => some (.int .i64 vr2, []) | _ => none) rfl (fun _ _ => rC (ziP hvr2)) ?_
 refine jA ?_
 obtain rfl := Option.some.inj h0
 refine lA [] ?_
 exact rG
theorem eX {fu : Nat} {keys1 : List eA} {r : Int} (h0 : tK fu keys1 = some r) : bB Tryz.prog 141 [.psl 2 (keys1.map eA.enc)] (.int .i64 r) [] := by
 refine gB Tryz.func141 rfl (by decide) rL ?_
 dsimp only [Tryz.f141]
 rw [tK] at h0
 refine (show pA _ _ _ _ ⟨aB 0 _, [], 0, []⟩ from ?_)
 refine xS 8 [0] ?_
 refine kA (aC ?_)
 refine xS 40 [0, 3] ?_
 refine xI h0 rfl (fun h0 hb2 => ?_) (fun h0 hb2 => ?_)
 ·
  refine xS 48 [2] ?_
  refine jA (eC (mA ?_))
  obtain rfl := Option.some.inj h0
  refine lA [] ?_
  exact rG
 ·
  refine xS 72 [0, 7] ?_
  refine xI h0 rfl (fun h0 hb3 => ?_) (fun h0 hb3 => ?_)
  ·
   refine xS 80 [2] ?_
   refine jA (eC (mA ?_))
   obtain rfl := Option.some.inj h0
   refine lA [] ?_
   exact rG
  ·
   obtain ⟨vr4, hvr4, h0⟩ := cA h0
   refine nA 96 [11] (fun | 1 => some (.bool vr4, []) | _ => none) rfl (fun _ _ => rC (zk1 hvr4)) ?_
   refine xI h0 rfl (fun h0 hb5 => ?_) (fun h0 hb5 => ?_)
   ·
    refine xS 104 [2] ?_
    refine jA (eC (mA ?_))
    obtain rfl := Option.some.inj h0
    refine lA [] ?_
    exact rG
   ·
    refine qA (sB (dA ?_))
    refine xS 104 [2] ?_
    refine jA ?_
    obtain rfl := Option.some.inj h0
    refine lA [] ?_
    exact rG
theorem zaa {fu : Nat} {keys1 : List eA} {r : List eA} (h0 : kM fu keys1 = some r) : bB Tryz.prog 145 [.psl 2 (keys1.map eA.enc)] (.fn 151 [] [.pp [.psl 2 (r.map eA.enc)]]) [] := by
 refine gB Tryz.func145 rfl (by decide) rL ?_
 dsimp only [Tryz.f145]
 rw [kM] at h0
 refine (show pA _ _ _ _ ⟨aB 0 _, [], 0, []⟩ from ?_)
 refine xS 16 [1] ?_
 refine xS 32 [2] ?_
 refine jA ?_
 obtain rfl := Option.some.inj h0
 refine lA [] ?_
 exact rG
theorem zlo {fu : Nat} {vs1 : List eA} {r : List eA} (h0 : jQ fu vs1 = some r) : bB Tryz.prog 144 [.psl 2 (vs1.map eA.enc)] (.psl 2 (r.map eA.enc)) [] := by
 refine gB Tryz.func144 rfl (by decide) rL ?_
 dsimp only [Tryz.f144]
 rw [jQ] at h0
 refine (show pA _ _ _ _ ⟨aB 0 _, [], 0, []⟩ from ?_)
 refine xS 8 [0] ?_
 refine kA ?_
 cases hb2 : vs1.isEmpty with
 | true =>
  replace h0 := jB h0 hb2
  obtain rfl : vs1 = [] := List.isEmpty_iff.1 hb2
  refine xS 24 [0, 4] ?_
  refine xU rfl ?_ ?_
  ·
   skip
   refine xS 32 [2] ?_
   refine jA (mA ?_)
   obtain rfl := Option.some.inj h0
   refine lA [] ?_
   exact rG
  ·
   skip
   refine qA (dA ?_)
   refine xS 56 [2] ?_
   refine xE ⟨[(2, .sl 24 1 2 0 0)], [(24, ⟨1, true, true, 2, List.map eA.enc []⟩)], 56, []⟩ ?_
   refine jA ?_
   obtain rfl := Option.some.inj h0
   refine lA [] ?_
   exact rG
 | false =>
  replace h0 := wA h0 hb2
  refine nA 24 [0, 4] (fun _ => none) rfl (fun _ _ => rS hb2) ?_
  refine eF rfl ?_
  refine qA (dA ?_)
  obtain ⟨hc3, h0⟩ := mD h0
  refine nA 56 [2] (fun _ => none) rfl (fun _ _ => rS hb2) ?_
  refine xE ⟨[(2, .sl 24 1 2 0 vs1.length)], [(24, ⟨1, true, true, 2, List.map eA.enc vs1⟩)], 56, []⟩ ?_
  refine jA ?_
  obtain rfl := Option.some.inj h0
  refine lA [] ?_
  simp (maxSteps := 1000000) only [↓reduceIte, reduceCtorEq, Nat.reduceEqDiff, Nat.reduceLT, Nat.reduceLeDiff, Nat.reduceAdd, Nat.reduceMul, Int.reduceToNat, push_cast, bC, hb2]
  all_goals exact rH
theorem zaD {fu : Nat} {p1 : Int} {q2 : Int} {p3 : List eA} {r : Bool} (h0 : fM fu p1 q2 p3 = some r) : bB Tryz.prog 151 [.int .i64 p1, .int .i64 q2, .pp [.psl 2 (p3.map eA.enc)]] (.bool r) [] := by
 refine gB Tryz.func151 rfl (by decide) rL ?_
 dsimp only [Tryz.f151]
 rw [fM] at h0
 refine (show pA _ _ _ _ ⟨aB 0 _, [], 0, []⟩ from ?_)
 refine xS 8 [0, 1, 2] ?_
 obtain ⟨e4, he4, h0⟩ := cA h0
 obtain ⟨he4a, he4b, he4c⟩ := cB he4
 obtain ⟨e5, he5, h0⟩ := cA h0
 obtain ⟨he5a, he5b, he5c⟩ := cB he5
 refine oC 104 [0, 1, 6, 7] (fun _ => none) rfl rfl rfl (fun _ _ => xD (rA he4a (rA he4b (rA he4c (rA he5a (rA he5b he5c)))))) ?_
 refine kA (aC ?_)
 refine nA 152 [0, 1, 6, 7, 16] (fun _ => none) rfl (fun _ _ => rS (rA he4a (rA he4b (rA he4c (rA he5a (rA he5b he5c)))))) ?_
 refine xI h0 rfl (fun h0 hb6 => ?_) (fun h0 hb6 => ?_)
 ·
  refine nA 176 [5] (fun _ => none) rfl (fun _ _ => rS (rA he4a (rA he4b (rA he4c (rA he5a (rA he5b he5c)))))) ?_
  refine jA (eC (mA ?_))
  obtain rfl := Option.some.inj h0
  refine lA [] ?_
  simp (maxSteps := 1000000) only [↓reduceIte, reduceCtorEq, Nat.reduceEqDiff, Nat.reduceLT, Nat.reduceLeDiff, Nat.reduceAdd, Nat.reduceMul, Int.reduceToNat, push_cast, bC, he4a, he4b, he4c, he5a, he5b, he5c]
  all_goals exact rH
 ·
  refine nA 200 [0, 1, 6, 7, 24] (fun _ => none) rfl (fun _ _ => rS (rA he4a (rA he4b (rA he4c (rA he5a (rA he5b he5c)))))) ?_
  refine xI h0 rfl (fun h0 hb7 => ?_) (fun h0 hb7 => ?_)
  ·
   refine nA 248 [5] (fun _ => none) rfl (fun _ _ => rS (rA he4a (rA he4b (rA he4c (rA he5a (rA he5b he5c)))))) ?_
   refine jA (eC (mA ?_))
   obtain rfl := Option.some.inj h0
   refine lA [] ?_
   simp (maxSteps := 1000000) only [↓reduceIte, reduceCtorEq, Nat.reduceEqDiff, Nat.reduceLT, Nat.reduceLeDiff, Nat.reduceAdd, Nat.reduceMul, Int.reduceToNat, push_cast, bC, he4a, he4b, he4c, he5a, he5b, he5c]
   all_goals exact rH
  ·
   refine qA (sB (dA ?_))
   refine nA 232 [5] (fun _ => none) rfl (fun _ _ => rS (rA he4a (rA he4b (rA he4c (rA he5a (rA he5b he5c)))))) ?_
   refine jA ?_
   obtain rfl := Option.some.inj h0
   refine lA [] ?_
   simp (maxSteps := 1000000) only [↓reduceIte, reduceCtorEq, Nat.reduceEqDiff, Nat.reduceLT, Nat.reduceLeDiff, Nat.reduceAdd, Nat.reduceMul, Int.reduceToNat, push_cast, bC, he4a, he4b, he4c, he5a, he5b, he5c]
   all_goals exact rH
theorem zbn {fu : Nat} {keys1 : List eA} {r : eB} (h0 : lN fu keys1 = some r) : bB Tryz.prog 142 [.psl 2 (keys1.map eA.enc)] (.agg (eB.enc r)) [] := by
 refine gB Tryz.func142 rfl (by decide) rL ?_
 dsimp only [Tryz.f142]
 rw [lN] at h0
 refine (show pA _ _ _ _ ⟨aB 0 _, [], 0, []⟩ from ?_)
 refine xS 8 [0, 2] ?_
 refine xS 32 [0, 2, 3] ?_
 obtain ⟨vr2, hvr2, h0⟩ := cA h0
 refine nA 56 [0, 2, 3, 4] (fun | 1 => some (.fn 151 [] [.pp [.psl 2 (vr2.map eA.enc)]], []) | _ => none) rfl (fun _ _ => rC (zaa hvr2)) ?_
 obtain ⟨hc3, h0⟩ := mD h0
 refine xS 88 [0, 2, 3, 4, 5] ?_
 refine xE ⟨[(0, .psl 2 (List.map eA.enc keys1)), (2, .ref 0 0 0 0), (3, .int .i64 (keys1.length : Int)), (4, .fn 151 [] [.pp [.psl 2 (List.map eA.enc vr2)]]), (5, .sl 72 0 1 0 ((List.replicate (IntKind.i64.wrap (2 * (keys1.length : Int))).toNat 0 : List Int).length))], [(0, ⟨0, true, true, 3, [[.nils, .nils, .int .i64 0]]⟩), (72, ⟨0, true, true, 1, List.map (gA .i64) (List.replicate (IntKind.i64.wrap (2 * (keys1.length : Int))).toNat 0 : List Int)⟩)], 88, []⟩ ?_
 obtain ⟨vr4, hvr4, h0⟩ := cA h0
 obtain ⟨hc5, h0⟩ := mD h0
 refine oC 144 [2, 3, 4, 5, 6] (fun | 1 => some (.psl 2 (vr4.map eA.enc), []) | _ => none) rfl rfl rfl (fun _ _ => oM (zlo hvr4)) ?_
 refine xE ⟨[(2, .ref 0 0 0 0), (3, .int .i64 (keys1.length : Int)), (4, .fn 151 [] [.pp [.psl 2 (List.map eA.enc vr2)]]), (5, .sl 72 0 1 0 ((List.replicate (IntKind.i64.wrap (2 * (keys1.length : Int))).toNat 0 : List Int).length)), (6, .ref 128 0 0 0)], [(0, ⟨0, true, true, 3, [[.nils, .nils, .int .i64 0]]⟩), (72, ⟨0, true, true, 1, List.map (gA .i64) (List.replicate (IntKind.i64.wrap (2 * (keys1.length : Int))).toNat 0 : List Int)⟩), (112, ⟨0, true, true, 1, List.map (gA .i64) (List.replicate keys1.length 0 : List Int)⟩), (128, ⟨0, true, false, 3, [[.psl 2 (List.map eA.enc vr4), .sl 112 0 1 0 ((List.replicate keys1.length 0 : List Int).length), .int .i64 0]]⟩)], 144, []⟩ ?_
 refine kA ?_
 refine xS 176 [2, 3, 4, 5, 6, 7] ?_
 obtain ⟨x33, hxx33, h0⟩ := cA h0
 refine pC (fun s' => ∃ g50 : Nat, ∃ g51 : Nat, s'.nx ≤ 192 ∧ LeN [] s' ⟨[(2, .ref 0 0 0 0), (5, .sl 72 g50 1 0 x33.1.length), (6, .ref 128 0 0 0)], [(0, ⟨0, true, true, 3, [[.nils, .nils, .int .i64 0]]⟩), (72, ⟨g50, true, true, 1, List.map (gA .i64) x33.1⟩), (112, ⟨g51, true, true, 1, List.map (gA .i64) x33.2⟩), (128, ⟨0, true, false, 3, [[.psl 2 (List.map eA.enc vr4), .sl 112 g51 1 0 x33.2.length, .int .i64 0]]⟩)], 192, []⟩) ?_ ?_
 ·
  intro s' hs
  obtain ⟨g50, g51, hn, hs⟩ := hs
  refine dA ?_
  refine pB [] hn hs ?_
  obtain ⟨e52, he52, h0⟩ := cA h0
  have he52b := (cB he52).2.1
  have he52c := (oF 1 he52 rfl).1
  have he52a := (oF 1 he52 rfl).2
  refine nA 232 [2, 6] (fun _ => none) rfl (fun _ _ => rS (rA he52a (rA he52b he52c))) ?_
  refine nA 248 [2] (fun _ => none) rfl (fun _ _ => rS (rA he52a (rA he52b he52c))) ?_
  refine jA ?_
  obtain rfl := Option.some.inj h0
  refine lA [] ?_
  simp (maxSteps := 1000000) only [↓reduceIte, reduceCtorEq, Nat.reduceEqDiff, Nat.reduceLT, Nat.reduceLeDiff, Nat.reduceAdd, Nat.reduceMul, Int.reduceToNat, push_cast, bC, he52a, he52b, he52c]
  all_goals exact rH
 ·
  refine mC (ι := { p : Nat × Int × List Int × List Int × Nat × Nat // oG keys1 vr2 p.1 p.2.1 p.2.2.1 p.2.2.2.1 = some x33 }) (fun p => ⟨[(2, .ref 0 0 0 0), (3, .int .i64 (keys1.length : Int)), (4, .fn 151 [] [.pp [.psl 2 (List.map eA.enc vr2)]]), (5, .sl 72 p.1.2.2.2.2.1 1 0 p.1.2.2.1.length), (6, .ref 128 0 0 0), (7, .int .i64 p.1.2.1)], [(0, ⟨0, true, true, 3, [[.nils, .nils, .int .i64 0]]⟩), (72, ⟨p.1.2.2.2.2.1, true, true, 1, List.map (gA .i64) p.1.2.2.1⟩), (112, ⟨p.1.2.2.2.2.2, true, true, 1, List.map (gA .i64) p.1.2.2.2.1⟩), (128, ⟨0, true, false, 3, [[.psl 2 (List.map eA.enc vr4), .sl 112 p.1.2.2.2.2.2 1 0 p.1.2.2.2.1.length, .int .i64 0]]⟩)], 176, []⟩) (fun p => p.1.1) ⟨(fu, (IntKind.i64.wrap ((IntKind.i64.wrap (2 * (keys1.length : Int))) - 1)), (List.replicate (IntKind.i64.wrap (2 * (keys1.length : Int))).toNat 0 : List Int), (List.replicate keys1.length 0 : List Int), 0, 0), hxx33⟩ ⟨rF, rE, rfl, rfl, trivial, trivial⟩ (fun _ => Nat.le_refl _) ?_
  rintro ⟨⟨fu, i34, players35, v36, g37, g38⟩, h1⟩
  cases fu with
  | zero =>
   replace h1 : oG keys1 vr2 0 i34 players35 v36 = some x33 := h1
   rw [oG] at h1; cases h1
  | succ fu =>
   replace h1 : oG keys1 vr2 (fu + 1) i34 players35 v36 = some x33 := h1
   rw [oG] at h1
   refine (show pA _ _ _ _ ⟨[(2, .ref 0 0 0 0), (3, .int .i64 (keys1.length : Int)), (4, .fn 151 [] [.pp [.psl 2 (List.map eA.enc vr2)]]), (5, .sl 72 g37 1 0 players35.length), (6, .ref 128 0 0 0), (7, .int .i64 i34)], [(0, ⟨0, true, true, 3, [[.nils, .nils, .int .i64 0]]⟩), (72, ⟨g37, true, true, 1, List.map (gA .i64) players35⟩), (112, ⟨g38, true, true, 1, List.map (gA .i64) v36⟩), (128, ⟨0, true, false, 3, [[.psl 2 (List.map eA.enc vr4), .sl 112 g38 1 0 v36.length, .int .i64 0]]⟩)], 176, []⟩ from ?_)
   refine kA ?_
   refine xS 192 [2, 3, 4, 5, 6, 7, 26] ?_
   refine xI h1 rfl (fun h1 hb39 => ?_) (fun h1 hb39 => ?_)
   ·
    refine qA (dA (kA (aC (kA ?_))))
    refine xS 216 [2, 3, 4, 5, 6, 7, 31] ?_
    refine xI h1 rfl (fun h1 hb40 => ?_) (fun h1 hb40 => ?_)
    ·
     obtain ⟨e41, he41, h1⟩ := cA h1
     obtain ⟨he41a, he41b, he41c⟩ := cB he41
     refine nA 272 [2, 3, 4, 5, 6, 7] (fun _ => none) rfl (fun _ _ => rS (rA he41a (rA he41b he41c))) ?_
     refine xE ⟨[(2, .ref 0 0 0 0), (3, .int .i64 (keys1.length : Int)), (4, .fn 151 [] [.pp [.psl 2 (List.map eA.enc vr2)]]), (5, .sl 72 g37 1 0 ((players35.set i34.toNat (IntKind.i64.wrap (i34 - (keys1.length : Int)))).length)), (6, .ref 128 0 0 0), (7, .int .i64 i34)], [(0, ⟨0, true, true, 3, [[.nils, .nils, .int .i64 0]]⟩), (72, ⟨g37, true, true, 1, List.map (gA .i64) (players35.set i34.toNat (IntKind.i64.wrap (i34 - (keys1.length : Int))))⟩), (112, ⟨g38, true, true, 1, List.map (gA .i64) v36⟩), (128, ⟨0, true, false, 3, [[.psl 2 (List.map eA.enc vr4), .sl 112 g38 1 0 v36.length, .int .i64 0]]⟩)], 272, []⟩ ?_
     refine iC (dB (zbE (dA ?_)))
     refine uB 296 [2, 3, 4, 5, 6, 7] (fun _ => none) rfl (fun _ _ => rS (rA he41a (rA he41b he41c))) ?_
     refine dA ?_
     exact ⟨⟨(fu, (IntKind.i64.wrap (i34 - 1)), (players35.set i34.toNat (IntKind.i64.wrap (i34 - (keys1.length : Int)))), v36, g37, g38), h1⟩, ⟨rF, rE, rfl, rfl, trivial, trivial⟩, Nat.lt_succ_self _⟩
    ·
     refine qA (dA ?_)
     obtain ⟨e42, he42, h1⟩ := cA h1
     obtain ⟨he42a, he42b, he42c⟩ := cB he42
     obtain ⟨e43, he43, h1⟩ := cA h1
     obtain ⟨he43a, he43b, he43c⟩ := cB he43
     refine oC 320 [2, 3, 4, 5, 6, 7, 8, 9] (fun _ => none) rfl rfl rfl (fun _ _ => xD (rA he42a (rA he42b (rA he42c (rA he43a (rA he43b he43c)))))) ?_
     refine kA ?_
     obtain ⟨vr44, hvr44, h1⟩ := cA h1
     refine nA 360 [2, 3, 4, 5, 6, 7, 8, 9, 53] (fun | 3 => some (.bool vr44, []) | _ => none) rfl (fun _ _ => rB (rA he42a (rA he42b (rA he42c (rA he43a (rA he43b he43c))))) (zaD hvr44)) ?_
     refine xI h1 rfl (fun h1 hb45 => ?_) (fun h1 hb45 => ?_)
     ·
      refine uB 392 [2, 3, 4, 5, 6, 7, 8, 9] (fun _ => none) rfl (fun _ _ => rS (rA he42a (rA he42b (rA he42c (rA he43a (rA he43b he43c)))))) ?_
      refine dA ?_
      obtain ⟨e46, he46, h1⟩ := cA h1
      obtain ⟨he46a, he46b, he46c⟩ := cB he46
      obtain ⟨e47, he47, h1⟩ := cA h1
      obtain ⟨he47a, he47b, he47c⟩ := cB he47
      refine fG 480 [2, 3, 4, 5, 6, 7] (fun _ => none) rfl rfl rfl (fun _ _ => xD (rA he42a (rA he42b (rA he42c (rA he43a (rA he43b (rA he43c (rA he46a (rA he46b (rA he46c (rA he47a (rA he47b he47c)))))))))))) ?_
      refine sB (dA ?_)
      refine xE ⟨[(2, .ref 0 0 0 0), (3, .int .i64 (keys1.length : Int)), (4, .fn 151 [] [.pp [.psl 2 (List.map eA.enc vr2)]]), (5, .sl 72 g37 1 0 ((players35.set i34.toNat e43).length)), (6, .ref 128 0 0 0), (7, .int .i64 i34)], [(0, ⟨0, true, true, 3, [[.nils, .nils, .int .i64 0]]⟩), (72, ⟨g37, true, true, 1, List.map (gA .i64) (players35.set i34.toNat e43)⟩), (112, ⟨g38, true, true, 1, List.map (gA .i64) (v36.set i34.toNat e42)⟩), (128, ⟨0, true, false, 3, [[.psl 2 (List.map eA.enc vr4), .sl 112 g38 1 0 ((v36.set i34.toNat e42).length), .int .i64 0]]⟩)], 480, []⟩ ?_
      refine uB 504 [2, 3, 4, 5, 6, 7] (fun _ => none) rfl (fun _ _ => rS (rA he42a (rA he42b (rA he42c (rA he43a (rA he43b (rA he43c (rA he46a (rA he46b (rA he46c (rA he47a (rA he47b he47c)))))))))))) ?_
      refine dA ?_
      exact ⟨⟨(fu, (IntKind.i64.wrap (i34 - 1)), (players35.set i34.toNat e43), (v36.set i34.toNat e42), g37, g38), h1⟩, ⟨rF, rE, rfl, rfl, trivial, trivial⟩, Nat.lt_succ_self _⟩
     ·
      refine qA (dA ?_)
      obtain ⟨e48, he48, h1⟩ := cA h1
      obtain ⟨he48a, he48b, he48c⟩ := cB he48
      obtain ⟨e49, he49, h1⟩ := cA h1
      obtain ⟨he49a, he49b, he49c⟩ := cB he49
      refine fG 448 [2, 3, 4, 5, 6, 7] (fun _ => none) rfl rfl rfl (fun _ _ => xD (rA he42a (rA he42b (rA he42c (rA he43a (rA he43b (rA he43c (rA he48a (rA he48b (rA he48c (rA he49a (rA he49b he49c)))))))))))) ?_
      refine sB (dA ?_)
      refine xE ⟨[(2, .ref 0 0 0 0), (3, .int .i64 (keys1.length : Int)), (4, .fn 151 [] [.pp [.psl 2 (List.map eA.enc vr2)]]), (5, .sl 72 g37 1 0 ((players35.set i34.toNat e42).length)), (6, .ref 128 0 0 0), (7, .int .i64 i34)], [(0, ⟨0, true, true, 3, [[.nils, .nils, .int .i64 0]]⟩), (72, ⟨g37, true, true, 1, List.map (gA .i64) (players35.set i34.toNat e42)⟩), (112, ⟨g38, true, true, 1, List.map (gA .i64) (v36.set i34.toNat e43)⟩), (128, ⟨0, true, false, 3, [[.psl 2 (List.map eA.enc vr4), .sl 112 g38 1 0 ((v36.set i34.toNat e43).length), .int .i64 0]]⟩)], 448, []⟩ ?_
      refine uB 472 [2, 3, 4, 5, 6, 7] (fun _ => none) rfl (fun _ _ => rS (rA he42a (rA he42b (rA he42c (rA he43a (rA he43b (rA he43c (rA he48a (rA he48b (rA he48c (rA he49a (rA he49b he49c)))))))))))) ?_
      refine dA ?_
      exact ⟨⟨(fu, (IntKind.i64.wrap (i34 - 1)), (players35.set i34.toNat e42), (v36.set i34.toNat e43), g37, g38), h1⟩, ⟨rF, rE, rfl, rfl, trivial, trivial⟩, Nat.lt_succ_self _⟩
   ·
    refine iC (dB (dB (jC ?_)))
    obtain rfl := Option.some.inj h1
    exact ⟨g37, g38, rL, ⟨rF, rE, rfl, rfl, trivial, trivial⟩⟩
theorem zlI {fu : Nat} {keys1 : List eA} {r : eB × Int} (h0 : fO fu keys1 = some r) : bB Tryz.prog 127 [.psl 2 (keys1.map eA.enc)] (.tup [.agg (eB.enc r.1), .int .i64 r.2]) [] := by
 refine gB Tryz.func127 rfl (by decide) rL ?_
 dsimp only [Tryz.f127]
 rw [fO] at h0
 refine (show pA _ _ _ _ ⟨aB 0 _, [], 0, []⟩ from ?_)
 refine xS 16 [0, 2] ?_
 refine kA ?_
 obtain ⟨vr2, hvr2, h0⟩ := cA h0
 refine nA 40 [0, 2, 4] (fun | 1 => some (.int .i64 vr2, []) | _ => none) rfl (fun _ _ => rC (eX hvr2)) ?_
 refine xS 56 [0, 2, 4, 8] ?_
 refine xI h0 rfl (fun h0 hb3 => ?_) (fun h0 hb3 => ?_)
 ·
  refine xS 88 [2, 3] ?_
  refine jA (mA ?_)
  obtain rfl := Option.some.inj h0
  refine lA [] ?_
  exact rG
 ·
  refine qA (dA ?_)
  obtain ⟨vr4, hvr4, h0⟩ := cA h0
  refine nA 88 [2, 3] (fun | 1 => some (.agg (eB.enc vr4), []) | _ => none) rfl (fun _ _ => rC (zbn hvr4)) ?_
  refine jA ?_
  obtain rfl := Option.some.inj h0
  refine lA [] ?_
  exact rG
theorem zcJ {fu : Nat} {runs1 : List (List aA)} {vat2 : List Int} {r : eB} (h0 : xM fu runs1 vat2 = some r) : bB Tryz.prog 108 [.psl 1 (runs1.map (vA 4 aA.enc)), .psl 1 (vat2.map (gA .i64))] (.agg (eB.enc r)) [] := by
 refine gB Tryz.func108 rfl (by decide) rL ?_
 dsimp only [Tryz.f108]
 rw [xM] at h0
 refine (show pA _ _ _ _ ⟨aB 0 _, [], 0, []⟩ from ?_)
 refine xS 8 [0, 1, 4] ?_
 obtain ⟨hc3, h0⟩ := mD h0
 refine xS 40 [0, 1, 4, 5] ?_
 refine xE ⟨[(0, .psl 1 (List.map (vA 4 aA.enc) runs1)), (1, .psl 1 (List.map (gA .i64) vat2)), (4, .ref 0 0 0 0), (5, .sl 24 0 2 0 ((List.replicate runs1.length (eA.mk [] false) : List eA).length))], [(0, ⟨0, true, true, 3, [[.nils, .nils, .int .i64 0]]⟩), (24, ⟨0, true, true, 2, List.map eA.enc (List.replicate runs1.length (eA.mk [] false) : List eA)⟩)], 40, []⟩ ?_
 refine kA ?_
 refine xS 64 [1, 4, 5, 13, 14, 15] ?_
 obtain ⟨x17, hxx17, h0⟩ := cA h0
 refine pC (fun s' => ∃ g26 : Nat, s'.nx ≤ 72 ∧ LeN [] s' ⟨[(4, .ref 0 0 0 0), (5, .sl 24 g26 2 0 x17.length)], [(0, ⟨0, true, true, 3, [[.nils, .nils, .int .i64 0]]⟩), (24, ⟨g26, true, true, 2, List.map eA.enc x17⟩)], 72, []⟩) ?_ ?_
 ·
  intro s' hs
  obtain ⟨g26, hn, hs⟩ := hs
  refine dA ?_
  refine pB [] hn hs ?_
  obtain ⟨vr27, hvr27, h0⟩ := cA h0
  refine nA 136 [4, 8] (fun | 1 => some (.tup [.agg (eB.enc vr27.1), .int .i64 vr27.2], []) | _ => none) rfl (fun _ _ => rC (zlI hvr27)) ?_
  refine xS 152 [4] ?_
  refine jA ?_
  obtain rfl := Option.some.inj h0
  refine lA [] ?_
  exact rG
 ·
  refine mC (ι := { p : Nat × Int × List eA × Nat // qH runs1 vat2 p.1 p.2.1 p.2.2.1 = some x17 }) (fun p => ⟨[(1, .psl 1 (List.map (gA .i64) vat2)), (4, .ref 0 0 0 0), (5, .sl 24 p.1.2.2.2 2 0 p.1.2.2.1.length), (13, .psl 1 (List.map (vA 4 aA.enc) runs1)), (14, .int .i64 (runs1.length : Int)), (15, .int .i64 p.1.2.1)], [(0, ⟨0, true, true, 3, [[.nils, .nils, .int .i64 0]]⟩), (24, ⟨p.1.2.2.2, true, true, 2, List.map eA.enc p.1.2.2.1⟩)], 64, []⟩) (fun p => p.1.1) ⟨(fu, 0, (List.replicate runs1.length (eA.mk [] false) : List eA), 0), hxx17⟩ ⟨rF, rE, rfl, rfl, trivial, trivial⟩ (fun _ => Nat.le_refl _) ?_
  rintro ⟨⟨fu, v18, keys19, g20⟩, h1⟩
  cases fu with
  | zero =>
   replace h1 : qH runs1 vat2 0 v18 keys19 = some x17 := h1
   rw [qH] at h1; cases h1
  | succ fu =>
   replace h1 : qH runs1 vat2 (fu + 1) v18 keys19 = some x17 := h1
   rw [qH] at h1
   refine (show pA _ _ _ _ ⟨[(1, .psl 1 (List.map (gA .i64) vat2)), (4, .ref 0 0 0 0), (5, .sl 24 g20 2 0 keys19.length), (13, .psl 1 (List.map (vA 4 aA.enc) runs1)), (14, .int .i64 (runs1.length : Int)), (15, .int .i64 v18)], [(0, ⟨0, true, true, 3, [[.nils, .nils, .int .i64 0]]⟩), (24, ⟨g20, true, true, 2, List.map eA.enc keys19⟩)], 64, []⟩ from ?_)
   refine xS 72 [1, 4, 5, 13, 14, 15, 16] ?_
   refine kA ?_
   refine xI h1 rfl (fun h1 hb21 => ?_) (fun h1 hb21 => ?_)
   ·
    refine qA (dA (kA (aC ?_)))
    obtain ⟨e22, he22, h1⟩ := cA h1
    obtain ⟨he22a, he22b, he22c⟩ := cB he22
    refine nA 112 [1, 4, 5, 6, 7, 13, 14, 15] (fun _ => none) rfl (fun _ _ => rS (rA he22a (rA he22b he22c))) ?_
    obtain ⟨e23, he23, h1⟩ := cA h1
    obtain ⟨he23a, he23b, he23c⟩ := cB he23
    obtain ⟨vr24, hvr24, h1⟩ := cA h1
    obtain ⟨e25, he25, h1⟩ := cA h1
    obtain ⟨he25a, he25b, he25c⟩ := cB he25
    refine uB 192 [1, 4, 5, 13, 14, 15] (fun | 7 => some (.agg (eA.enc vr24), []) | _ => none) rfl (fun _ _ => rB (rA he22a (rA he22b (rA he22c (rA he23a (rA he23b (rA he23c (rA he25a (rA he25b he25c)))))))) (dX hvr24)) ?_
    refine sB (dA ?_)
    refine xE ⟨[(1, .psl 1 (List.map (gA .i64) vat2)), (4, .ref 0 0 0 0), (5, .sl 24 g20 2 0 ((keys19.set v18.toNat vr24).length)), (13, .psl 1 (List.map (vA 4 aA.enc) runs1)), (14, .int .i64 (runs1.length : Int)), (15, .int .i64 v18)], [(0, ⟨0, true, true, 3, [[.nils, .nils, .int .i64 0]]⟩), (24, ⟨g20, true, true, 2, List.map eA.enc (keys19.set v18.toNat vr24)⟩)], 192, []⟩ ?_
    refine uB 208 [1, 4, 5, 13, 14, 15] (fun _ => none) rfl (fun _ _ => rS (rA he22a (rA he22b (rA he22c (rA he23a (rA he23b (rA he23c (rA he25a (rA he25b he25c))))))))) ?_
    refine dA ?_
    exact ⟨⟨(fu, (IntKind.i64.wrap (v18 + 1)), (keys19.set v18.toNat vr24), g20), h1⟩, ⟨rF, rE, rfl, rfl, trivial, trivial⟩, Nat.lt_succ_self _⟩
   ·
    refine iC (dB (dB (jC ?_)))
    obtain rfl := Option.some.inj h1
    exact ⟨g20, rL, ⟨rF, rE, rfl, rfl, trivial, trivial⟩⟩
theorem zmI {fu : Nat} {runs1 : List (List aA)} {r : kB × Int × Int} (h0 : jL fu runs1 = some r) : bB Tryz.prog 99 [.psl 1 (runs1.map (vA 4 aA.enc))] (.tup [.agg (kB.enc r.1), .int .i64 r.2.1, .int .i64 r.2.2]) [] := by
 refine gB Tryz.func99 rfl (by decide) rL ?_
 dsimp only [Tryz.f99]
 rw [jL] at h0
 refine (show pA _ _ _ _ ⟨aB 0 _, [], 0, []⟩ from ?_)
 refine xS 24 [0, 2] ?_
 refine kA ?_
 obtain ⟨vr2, hvr2, h0⟩ := cA h0
 refine nA 80 [0, 2, 5, 6] (fun | 1 => some (.tup [.int .i64 vr2.1, .int .i64 vr2.2], []) | _ => none) rfl (fun _ _ => rC (zaQ hvr2)) ?_
 refine xS 96 [0, 2, 5, 6, 14] ?_
 refine xI h0 rfl (fun h0 hb3 => ?_) (fun h0 hb3 => ?_)
 ·
  refine xS 144 [2, 3, 4] ?_
  refine jA (mA ?_)
  obtain rfl := Option.some.inj h0
  refine lA [] ?_
  exact rG
 ·
  refine qA (dA ?_)
  obtain ⟨hc4, h0⟩ := mD h0
  refine xS 128 [0, 2, 7] ?_
  refine xE ⟨[(0, .psl 1 (List.map (vA 4 aA.enc) runs1)), (2, .ref 0 0 0 0), (7, .sl 112 0 1 0 ((List.replicate runs1.length 0 : List Int).length))], [(0, ⟨0, true, true, 5, [[.nils, .nils, .nils, .nils, .int .i64 0]]⟩), (112, ⟨0, true, true, 1, List.map (gA .i64) (List.replicate runs1.length 0 : List Int)⟩)], 128, []⟩ ?_
  obtain ⟨vr5, hvr5, h0⟩ := cA h0
  obtain ⟨vr6, hvr6, h0⟩ := cA h0
  refine nA 208 [2, 3, 4] (fun | 1 => some (.psl 1 (vr5.map (vA 4 aA.enc)), []) | 5 => some (.agg (eB.enc vr6), []) | _ => none) rfl (fun Kt hK => by
    try have q0 := zaI hvr5
    try have q1 := zcJ hvr6
    exact rT) ?_
  refine jA ?_
  obtain rfl := Option.some.inj h0
  refine lA [] ?_
  exact rG
theorem zaf {fu : Nat} {bottom1 : Bool} {r : tB} (h0 : kN fu bottom1 = some r) : bB Tryz.prog 87 [.bool bottom1] (.agg (tB.enc r)) [] := by
 refine gB Tryz.func87 rfl (by decide) rL ?_
 dsimp only [Tryz.f87]
 rw [kN] at h0
 refine (show pA _ _ _ _ ⟨aB 0 _, [], 0, []⟩ from ?_)
 refine xS 8 [0, 2] ?_
 refine xS 32 [2] ?_
 refine jA ?_
 obtain rfl := Option.some.inj h0
 refine lA [] ?_
 exact rG
theorem zh7 {fu : Nat} {runs1 : List (List aA)} {bottom2 : Bool} {r : wB × Int × Int} (h0 : sN fu runs1 bottom2 = some r) : bB Tryz.prog 68 [.psl 1 (runs1.map (vA 4 aA.enc)), .bool bottom2] (.tup [.agg (wB.enc r.1), .int .i64 r.2.1, .int .i64 r.2.2]) [] := by
 refine gB Tryz.func68 rfl (by decide) rL ?_
 dsimp only [Tryz.f68]
 rw [sN] at h0
 refine (show pA _ _ _ _ ⟨aB 0 _, [], 0, []⟩ from ?_)
 refine xS 24 [0, 1, 4] ?_
 obtain ⟨vr3, hvr3, h0⟩ := cA h0
 refine nA 104 [1, 4, 5, 6, 7] (fun | 1 => some (.tup [.agg (kB.enc vr3.1), .int .i64 vr3.2.1, .int .i64 vr3.2.2], []) | _ => none) rfl (fun _ _ => rC (zmI hvr3)) ?_
 refine kA ?_
 refine xS 120 [1, 4, 5, 6, 7, 15] ?_
 refine xI h0 rfl (fun h0 hb4 => ?_) (fun h0 hb4 => ?_)
 ·
  refine xS 168 [4, 5, 6] ?_
  refine jA (mA ?_)
  obtain rfl := Option.some.inj h0
  refine lA [] ?_
  exact rG
 ·
  refine qA (dA ?_)
  obtain ⟨vr5, hvr5, h0⟩ := cA h0
  refine oC 176 [4, 5, 6] (fun | 2 => some (.agg (tB.enc vr5), []) | _ => none) rfl rfl rfl (fun _ _ => oM (zaf hvr5)) ?_
  refine jA ?_
  obtain rfl := Option.some.inj h0
  refine lA [] ?_
  exact rG
theorem dY {fu : Nat} {l1 : uA} {level2 : Int} {bottom3 : Bool} {r : yA} (h0 : zL fu l1 level2 bottom3 = some r) : bB Tryz.prog 40 [.agg (uA.enc l1), .int .i64 level2, .bool bottom3] (.agg (yA.enc r)) [] := by
 refine gB Tryz.func40 rfl (by decide) rL ?_
 dsimp only [Tryz.f40]
 rw [zL] at h0
 refine (show pA _ _ _ _ ⟨aB 0 _, [], 0, []⟩ from ?_)
 refine xS 16 [1, 2, 3, 6] ?_
 obtain ⟨e4, he4, h0⟩ := cA h0
 obtain ⟨he4a, he4b, he4c⟩ := cB he4
 refine nA 72 [1, 2, 6, 7] (fun _ => none) rfl (fun _ _ => rS (rA he4a (rA he4b he4c))) ?_
 obtain ⟨e5, he5, h0⟩ := cA h0
 have he5b := (cB he5).2.1
 have he5c := (oF 1 he5 rfl).1
 have he5a := (oF 1 he5 rfl).2
 obtain ⟨e6, he6, h0⟩ := cA h0
 have he6b := (cB he6).2.1
 have he6c := (oF 0 he6 rfl).1
 have he6a := (oF 0 he6 rfl).2
 obtain ⟨vr7, hvr7, h0⟩ := cA h0
 refine oC 224 [1, 6, 8] (fun | 10 => some (.tup [.agg (wB.enc vr7.1), .int .i64 vr7.2.1, .int .i64 vr7.2.2], []) | _ => none) rfl rfl rfl (fun _ _ => oL (rA he4a (rA he4b (rA he4c (rA he5a (rA he5b (rA he5c (rA he6a (rA he6b he6c)))))))) (zh7 hvr7)) ?_
 refine xE ⟨[(1, .int .i64 level2), (6, .ref 8 0 0 0), (8, .ref 192 0 0 0)], [(8, ⟨0, true, true, 11, [[.int .i64 0, .nils, .nils, .nils, .nils, .int .i64 0, .bool false, .str [], .bool false, .nils, .int .i64 0]]⟩), (192, ⟨0, true, true, 10, [[.psl 1 (List.map (vA 4 aA.enc) vr7.1.Merge.Runs), .psl 1 (List.map (gA .i64) vr7.1.Merge.At), .psl 2 (List.map eA.enc vr7.1.Merge.Tree.Keys), .psl 1 (List.map (gA .i64) vr7.1.Merge.Tree.Lose), .int .i64 vr7.1.Merge.Tree.Win, .bool vr7.1.Shadow.Some, .str vr7.1.Shadow.Last, .bool vr7.1.Shadow.Bottom, .psl 4 (List.map aA.enc vr7.1.Out), .int .i64 vr7.1.Steps]]⟩)], 224, []⟩ ?_
 refine nA 256 [6] (fun _ => none) rfl (fun _ _ => rS (rA he4a (rA he4b (rA he4c (rA he5a (rA he5b (rA he5c (rA he6a (rA he6b he6c))))))))) ?_
 refine jA ?_
 obtain rfl := Option.some.inj h0
 refine lA [] ?_
 simp (maxSteps := 1000000) only [↓reduceIte, reduceCtorEq, Nat.reduceEqDiff, Nat.reduceLT, Nat.reduceLeDiff, Nat.reduceAdd, Nat.reduceMul, Int.reduceToNat, push_cast, bC, he4a, he4b, he4c, he5a, he5b, he5c, he6a, he6b, he6c]
 all_goals exact rH
theorem zbZ {fu : Nat} {l1 : uA} {r : oB × Int} (h0 : wJ fu l1 = some r) : bB Tryz.prog 23 [.agg (uA.enc l1)] (.tup [.agg (oB.enc r.1), .int .i64 r.2]) [] := by
 refine gB Tryz.func23 rfl (by decide) rL ?_
 dsimp only [Tryz.f23]
 rw [wJ] at h0
 refine (show pA _ _ _ _ ⟨aB 0 _, [], 0, []⟩ from ?_)
 refine xS 24 [1, 2, 3] ?_
 refine kA ?_
 obtain ⟨vr2, hvr2, h0⟩ := cA h0
 refine nA 96 [1, 2, 3, 6] (fun | 1 => some (.tup [.int .i64 vr2.1, .int .i64 vr2.2.1, .int .i64 vr2.2.2], []) | _ => none) rfl (fun _ _ => rC (jY hvr2)) ?_
 refine xS 112 [1, 2, 3, 6, 16] ?_
 refine xI h0 rfl (fun h0 hb3 => ?_) (fun h0 hb3 => ?_)
 ·
  refine xS 144 [2, 3] ?_
  refine jA (mA ?_)
  obtain rfl := Option.some.inj h0
  refine lA [] ?_
  exact rG
 ·
  refine qA (dA ?_)
  obtain ⟨vr4, hvr4, h0⟩ := cA h0
  refine oC 168 [1, 2, 3, 7] (fun | 2 => some (.int .i64 vr4, []) | _ => none) rfl rfl rfl (fun _ _ => oM (zbV hvr4)) ?_
  refine kA ?_
  obtain ⟨vr5, hvr5, h0⟩ := cA h0
  refine nA 184 [1, 2, 3, 7, 25] (fun | 1 => some (.fn 67 [] [.pp [.int .i64 vr5.1, .psl 1 (vr5.2.map sA.enc)]], []) | _ => none) rfl (fun _ _ => rC (zbx hvr5)) ?_
  refine aC ?_
  refine zaj rfl Tryz.func67 rfl (by decide) rL ?_
  intro RC6 hRC6
  have stRC6 : RC6.st = .ready ∧ RC6.pend = none := by rw [hRC6]; exact ⟨rfl, rfl⟩
  have okRC6 : gW 184 RC6 := by rw [hRC6]; exact And.intro (rR) rfl
  dsimp only [Tryz.f67]
  refine pB (s2 := ⟨[(0, .yld 184), (1, .pp [.int .i64 vr5.1, .psl 1 (List.map sA.enc vr5.2)])], [(0, ⟨0, true, true, 2, [[.int .i64 l1.B, .psl 1 (List.map sA.enc l1.Levels)]]⟩), (8, ⟨0, true, true, 4, [[.int .i64 0, .nils, .nils, .int .i64 0]]⟩), (152, ⟨0, true, true, 4, [[.int .i64 l1.B, .psl 1 (List.map sA.enc l1.Levels), .nils, .int .i64 (IntKind.i64.wrap (vr4 + 1))]]⟩)], 185, [(184, RC6)]⟩) [] rL ⟨rF, rE, rfl, rfl, (dC.consR rL rfl okRC6 rL trivial), trivial⟩ ?_
  refine xS 217 [0, 6, 7, 8] ?_
  refine zas ?_
  refine pB (s2 := ⟨[(0, .yld 184), (6, .psl 1 (List.map sA.enc vr5.2)), (7, .int .i64 (vr5.2.length : Int)), (8, .int .i64 0)], [(0, ⟨0, true, true, 2, [[.int .i64 l1.B, .psl 1 (List.map sA.enc l1.Levels)]]⟩), (8, ⟨0, true, true, 4, [[.int .i64 0, .nils, .nils, .int .i64 0]]⟩), (152, ⟨0, true, false, 4, [[.int .i64 l1.B, .psl 1 (List.map sA.enc l1.Levels), .sl 217 0 11 0 0, .int .i64 (IntKind.i64.wrap (vr4 + 1))]]⟩), (217, ⟨0, true, true, 11, List.map yA.enc []⟩)], 218, [(184, RC6)]⟩) [(217, 11)] rL ⟨rF, rE, rfl, rfl, (dC.consR rL rfl okRC6 rL trivial), rN⟩ ?_
  obtain ⟨x26, hxx26, h0⟩ := cA h0
  refine pC (fun s' => ∃ g36 : Nat, s'.nx ≤ 226 ∧ LeN [] s' ⟨[], [(0, ⟨0, true, true, 2, [[.int .i64 l1.B, .psl 1 (List.map sA.enc l1.Levels)]]⟩), (8, ⟨0, true, true, 4, [[.int .i64 0, .nils, .nils, .int .i64 0]]⟩), (152, ⟨0, true, false, 4, [[.int .i64 l1.B, .psl 1 (List.map sA.enc l1.Levels), .sl 217 g36 11 0 x26.length, .int .i64 (IntKind.i64.wrap (vr4 + 1))]]⟩), (217, ⟨g36, true, true, 11, List.map yA.enc x26⟩)], 226, [(184, RC6)]⟩) ?_ ?_
  ·
   intro s' hs
   obtain ⟨g36, hn, hs⟩ := hs
   refine ⟨_, hn, hs, ?_⟩
   refine zO (fun _ _ => rT) ?_
   refine zaA stRC6 rfl ?_
   refine sB (dA ?_)
   refine xE ⟨[(1, .ref 0 0 0 0), (2, .ref 8 0 0 0), (3, .int .i64 0), (7, .ref 152 0 0 0), (25, .fn 67 [] [.pp [.int .i64 vr5.1, .psl 1 (List.map sA.enc vr5.2)]])], [(0, ⟨0, true, true, 2, [[.int .i64 l1.B, .psl 1 (List.map sA.enc l1.Levels)]]⟩), (8, ⟨0, true, true, 4, [[.int .i64 0, .nils, .nils, .int .i64 0]]⟩), (152, ⟨0, true, false, 4, [[.int .i64 l1.B, .psl 1 (List.map sA.enc l1.Levels), .sl 217 g36 11 0 x26.length, .int .i64 (IntKind.i64.wrap (vr4 + 1))]]⟩), (217, ⟨g36, true, true, 11, List.map yA.enc x26⟩)], 226, []⟩ ?_
   refine xS 250 [2, 3] ?_
   refine jA ?_
   obtain rfl := Option.some.inj h0
   refine lA [] ?_
   exact rG
  ·
   refine mC (ι := { p : Nat × Int × List yA × Nat // dG vr5 l1 p.1 p.2.1 p.2.2.1 = some x26 }) (fun p => ⟨[(0, .yld 184), (6, .psl 1 (List.map sA.enc vr5.2)), (7, .int .i64 (vr5.2.length : Int)), (8, .int .i64 p.1.2.1)], [(0, ⟨0, true, true, 2, [[.int .i64 l1.B, .psl 1 (List.map sA.enc l1.Levels)]]⟩), (8, ⟨0, true, true, 4, [[.int .i64 0, .nils, .nils, .int .i64 0]]⟩), (152, ⟨0, true, false, 4, [[.int .i64 l1.B, .psl 1 (List.map sA.enc l1.Levels), .sl 217 p.1.2.2.2 11 0 p.1.2.2.1.length, .int .i64 (IntKind.i64.wrap (vr4 + 1))]]⟩), (217, ⟨p.1.2.2.2, true, true, 11, List.map yA.enc p.1.2.2.1⟩)], 218, [(184, RC6)]⟩) (fun p => p.1.1) ⟨(fu, 0, [], 0), hxx26⟩ ⟨rF, rE, rfl, rfl, (dC.consR rL rfl okRC6 rL trivial), trivial⟩ (fun _ => Nat.le_refl _) ?_
   rintro ⟨⟨fu, level27, v28, g29⟩, h1⟩
   cases fu with
   | zero =>
   replace h1 : dG vr5 l1 0 level27 v28 = some x26 := h1
   rw [dG] at h1; cases h1
   | succ fu =>
    replace h1 : dG vr5 l1 (fu + 1) level27 v28 = some x26 := h1
    rw [dG] at h1
    refine (show pA _ _ _ _ ⟨[(0, .yld 184), (6, .psl 1 (List.map sA.enc vr5.2)), (7, .int .i64 (vr5.2.length : Int)), (8, .int .i64 level27)], [(0, ⟨0, true, true, 2, [[.int .i64 l1.B, .psl 1 (List.map sA.enc l1.Levels)]]⟩), (8, ⟨0, true, true, 4, [[.int .i64 0, .nils, .nils, .int .i64 0]]⟩), (152, ⟨0, true, false, 4, [[.int .i64 l1.B, .psl 1 (List.map sA.enc l1.Levels), .sl 217 g29 11 0 v28.length, .int .i64 (IntKind.i64.wrap (vr4 + 1))]]⟩), (217, ⟨g29, true, true, 11, List.map yA.enc v28⟩)], 218, [(184, RC6)]⟩ from ?_)
    refine xS 226 [0, 6, 7, 8, 9] ?_
    refine kA ?_
    refine xI h1 rfl (fun h1 hb30 => ?_) (fun h1 hb30 => ?_)
    ·
     refine qA (dA (kA (aC ?_)))
     obtain ⟨e31, he31, h1⟩ := cA h1
     obtain ⟨he31a, he31b, he31c⟩ := cB he31
     refine nA 274 [0, 3, 4, 6, 7, 8] (fun _ => none) rfl (fun _ _ => rS (rA he31a (rA he31b he31c))) ?_
     refine uG 10 rfl ?_
     refine gC (l' := List.range' 0 5 ++ (List.range' 5 5 ++ [])) rfl ?_
     refine kC 0 5 314 (List.range' 5 5 ++ []) (fun _ => none) rfl rfl rfl (fun _ _ => rS (rA he31a (rA he31b he31c))) ?_
     refine iI (s2 := ⟨[(0, .yld 184), (3, .int .i64 level27), (4, .ref 250 0 0 0), (6, .psl 1 (List.map sA.enc vr5.2)), (7, .int .i64 (vr5.2.length : Int)), (8, .int .i64 level27), (13, .ref 250 0 0 0), (14, .psl 2 (List.map zA.enc e31.Runs)), (15, .int .i64 (e31.Runs.length : Int)), (16, .bool (decide ((e31.Runs.length : Int) = 2))), (17, .bool (decide ((e31.Runs.length : Int) = 2)))], [(0, ⟨0, true, true, 2, [[.int .i64 l1.B, .psl 1 (List.map sA.enc l1.Levels)]]⟩), (8, ⟨0, true, true, 4, [[.int .i64 0, .nils, .nils, .int .i64 0]]⟩), (152, ⟨0, true, false, 4, [[.int .i64 l1.B, .psl 1 (List.map sA.enc l1.Levels), .sl 217 g29 11 0 v28.length, .int .i64 (IntKind.i64.wrap (vr4 + 1))]]⟩), (217, ⟨g29, true, true, 11, List.map yA.enc v28⟩), (250, ⟨0, true, true, 1, [[.psl 2 (List.map zA.enc e31.Runs)]]⟩)], 314, [(184, RC6)]⟩) [] rL ⟨rF, rE, rfl, rfl, (dC.consR rL rfl okRC6 rL trivial), trivial⟩ ?_
     generalize hg32 : (decide ((e31.Runs.length : Int) = 2)) = b32
     cases b32 with
     | true =>
      replace h1 := jB h1 hg32
      refine gC (l' := List.range' 5 2 ++ (7 :: (List.range' 8 2 ++ []))) rfl ?_
      refine kC 5 2 330 (7 :: (List.range' 8 2 ++ [])) (fun _ => none) rfl rfl rfl (fun _ _ => rS (rA he31a (rA he31b he31c))) ?_
      refine tY hRC6 rfl rfl rfl rfl rfl rfl rfl rfl rfl ?_
      refine pB (s2 := ⟨[(1, .ref 0 0 0 0), (2, .ref 8 0 0 0), (3, .int .i64 0), (7, .ref 152 0 0 0), (25, .fn 67 [] [.pp [.int .i64 vr5.1, .psl 1 (List.map sA.enc vr5.2)]]), (26, .int .i64 level27)], [(0, ⟨0, true, true, 2, [[.int .i64 l1.B, .psl 1 (List.map sA.enc l1.Levels)]]⟩), (8, ⟨0, true, true, 4, [[.int .i64 0, .nils, .nils, .int .i64 0]]⟩), (152, ⟨0, true, false, 4, [[.int .i64 l1.B, .psl 1 (List.map sA.enc l1.Levels), .sl 217 g29 11 0 v28.length, .int .i64 (IntKind.i64.wrap (vr4 + 1))]]⟩), (217, ⟨g29, true, true, 11, List.map yA.enc v28⟩), (250, ⟨0, true, true, 1, [[.psl 2 (List.map zA.enc e31.Runs)]]⟩)], 330, [(184, RC6)]⟩) [] rL ⟨rF, rE, rfl, rfl, (dC.consR rL rfl okRC6 rL trivial), trivial⟩ ?_
      refine uB 338 [1, 2, 3, 7, 8] (fun _ => none) rfl (fun _ _ => rS (rA he31a (rA he31b he31c))) ?_
      refine dA ?_
      refine ⟨RC6, rfl, stRC6.1, ?_⟩
      refine pB (s2 := ⟨[(1, .ref 0 0 0 0), (2, .ref 8 0 0 0), (3, .int .i64 0), (7, .ref 152 0 0 0), (8, .int .i64 level27)], [(0, ⟨0, true, true, 2, [[.int .i64 l1.B, .psl 1 (List.map sA.enc l1.Levels)]]⟩), (8, ⟨0, true, true, 4, [[.int .i64 0, .nils, .nils, .int .i64 0]]⟩), (152, ⟨0, true, false, 4, [[.int .i64 l1.B, .psl 1 (List.map sA.enc l1.Levels), .sl 217 g29 11 0 v28.length, .int .i64 (IntKind.i64.wrap (vr4 + 1))]]⟩), (217, ⟨g29, true, true, 11, List.map yA.enc v28⟩), (250, ⟨0, true, true, 1, [[.psl 2 (List.map zA.enc e31.Runs)]]⟩)], 338, [(184, { RC6 with st := .busy, pend := RC6.pend })]⟩) [] rL ⟨rF, rE, rfl, rfl, (dC.consR rL rfl okRC6 rL trivial), trivial⟩ ?_
      refine aC ?_
      obtain ⟨vr33, hvr33, h1⟩ := cA h1
      obtain ⟨vr34, hvr34, h1⟩ := cA h1
      obtain ⟨hc35, h1⟩ := mD h1
      refine fG 434 [2, 3, 7] (fun | 6 => some (.bool vr33, []) | 7 => some (.agg (yA.enc vr34), []) | _ => none) rfl rfl rfl (fun Kt hK => by
        try have q0 := wV hvr33
        try have q1 := dY hvr34
        exact xD (rA he31a (rA he31b he31c))) ?_
      refine sB ?_
      refine zaK stRC6 rfl ?_
      refine iI (s2 := ⟨[(0, .yld 184), (3, .int .i64 level27), (4, .ref 250 0 0 0), (6, .psl 1 (List.map sA.enc vr5.2)), (7, .int .i64 (vr5.2.length : Int)), (8, .int .i64 level27), (13, .ref 250 0 0 0), (14, .psl 2 (List.map zA.enc e31.Runs)), (15, .int .i64 (e31.Runs.length : Int)), (16, .bool true), (17, .bool true), (18, .yld 184), (19, .int .i64 level27), (20, .bool true)], [(0, ⟨0, true, true, 2, [[.int .i64 l1.B, .psl 1 (List.map sA.enc l1.Levels)]]⟩), (8, ⟨0, true, true, 4, [[.int .i64 0, .nils, .nils, .int .i64 0]]⟩), (152, ⟨0, true, false, 4, [[.int .i64 l1.B, .psl 1 (List.map sA.enc l1.Levels), .sl 217 (g29 + 1) 11 0 ((v28 ++ [vr34]).length), .int .i64 (IntKind.i64.wrap (vr4 + 1))]]⟩), (217, ⟨(g29 + 1), true, true, 11, List.map yA.enc (v28 ++ [vr34])⟩), (250, ⟨0, true, true, 1, [[.psl 2 (List.map zA.enc e31.Runs)]]⟩)], 434, [(184, RC6)]⟩) [] rL ⟨rF, rE, rfl, rfl, (dC.consR rL rfl okRC6 rL trivial), trivial⟩ ?_
      refine gC (l' := List.range' 8 2 ++ []) rfl ?_
      refine kC 8 2 450 [] (fun _ => none) rfl rfl rfl (fun _ _ => rS (rA he31a (rA he31b he31c))) ?_
      refine zC ?_
      refine dA ?_
      refine pB (s2 := ⟨[(0, .yld 184), (6, .psl 1 (List.map sA.enc vr5.2)), (7, .int .i64 (vr5.2.length : Int)), (8, .int .i64 level27), (18, .yld 184), (19, .int .i64 level27), (20, .bool true), (21, .bool false), (22, .bool false)], [(0, ⟨0, true, true, 2, [[.int .i64 l1.B, .psl 1 (List.map sA.enc l1.Levels)]]⟩), (8, ⟨0, true, true, 4, [[.int .i64 0, .nils, .nils, .int .i64 0]]⟩), (152, ⟨0, true, false, 4, [[.int .i64 l1.B, .psl 1 (List.map sA.enc l1.Levels), .sl 217 (g29 + 1) 11 0 ((v28 ++ [vr34]).length), .int .i64 (IntKind.i64.wrap (vr4 + 1))]]⟩), (217, ⟨(g29 + 1), true, true, 11, List.map yA.enc (v28 ++ [vr34])⟩)], 450, [(184, RC6)]⟩) [] rL ⟨rF, rE, rfl, rfl, (dC.consR rL rfl okRC6 rL trivial), trivial⟩ ?_
      refine eF rfl ?_
      refine qA (sB (dA ?_))
      refine uB 466 [0, 6, 7, 8, 18, 19, 20, 21] (fun _ => none) rfl (fun _ _ => rS (rA he31a (rA he31b he31c))) ?_
      refine dA ?_
      exact ⟨⟨(fu, (IntKind.i64.wrap (level27 + 1)), (v28 ++ [vr34]), (g29 + 1)), h1⟩, ⟨rF, rE, rfl, rfl, (dC.consR rL rfl okRC6 rL trivial), trivial⟩, Nat.lt_succ_self _⟩
     | false =>
      replace h1 := wA h1 hg32
      refine gC (l' := List.range' 5 5 ++ []) rfl ?_
      refine kC 5 5 354 [] (fun _ => none) rfl rfl rfl (fun _ _ => rS (rA he31a (rA he31b he31c))) ?_
      refine zC ?_
      refine dA ?_
      refine pB (s2 := ⟨[(0, .yld 184), (6, .psl 1 (List.map sA.enc vr5.2)), (7, .int .i64 (vr5.2.length : Int)), (8, .int .i64 level27), (22, .bool false)], [(0, ⟨0, true, true, 2, [[.int .i64 l1.B, .psl 1 (List.map sA.enc l1.Levels)]]⟩), (8, ⟨0, true, true, 4, [[.int .i64 0, .nils, .nils, .int .i64 0]]⟩), (152, ⟨0, true, false, 4, [[.int .i64 l1.B, .psl 1 (List.map sA.enc l1.Levels), .sl 217 g29 11 0 v28.length, .int .i64 (IntKind.i64.wrap (vr4 + 1))]]⟩), (217, ⟨g29, true, true, 11, List.map yA.enc v28⟩)], 354, [(184, RC6)]⟩) [] rL ⟨rF, rE, rfl, rfl, (dC.consR rL rfl okRC6 rL trivial), trivial⟩ ?_
      refine eF rfl ?_
      refine qA (sB (dA ?_))
      refine uB 370 [0, 6, 7, 8] (fun _ => none) rfl (fun _ _ => rS (rA he31a (rA he31b he31c))) ?_
      refine dA ?_
      exact ⟨⟨(fu, (IntKind.i64.wrap (level27 + 1)), v28, g29), h1⟩, ⟨rF, rE, rfl, rfl, (dC.consR rL rfl okRC6 rL trivial), trivial⟩, Nat.lt_succ_self _⟩
    ·
     refine iC (dB (dB (jC ?_)))
     obtain rfl := Option.some.inj h1
     exact ⟨g29, rL, ⟨rF, rE, rfl, rfl, (dC.consR rL rfl okRC6 rL trivial), trivial⟩⟩
theorem zcP {fu : Nat} {id1 : Int} {dead2 : Bool} {keys3 : List UInt8} {r : zA} (h0 : mP fu id1 dead2 keys3 = some r) : bB Tryz.prog 55 [.int .i64 id1, .bool dead2, .str keys3] (.agg (zA.enc r)) [] := by
 refine gB Tryz.func55 rfl (by decide) rL ?_
 dsimp only [Tryz.f55]
 rw [mP] at h0
 refine (show pA _ _ _ _ ⟨aB 0 _, [], 0, []⟩ from ?_)
 refine xS 8 [0, 1, 2, 6] ?_
 refine xS 40 [0, 1, 2, 6, 7] ?_
 refine kA ?_
 refine xS 48 [0, 1, 2, 6, 7, 8] ?_
 refine pB (s2 := ⟨[(0, .int .i64 id1), (1, .bool dead2), (2, .str keys3), (6, .ref 0 0 0 0), (7, .ref 24 0 0 0), (8, .int .i64 0)], [(0, ⟨0, true, true, 2, [[.int .i64 0, .nils]]⟩), (24, ⟨0, true, false, 2, [[.int .i64 id1, .sl 48 0 4 0 0]]⟩), (48, ⟨0, true, true, 4, List.map aA.enc []⟩)], 49, []⟩) [(48, 4)] rL ⟨rF, rE, rfl, rfl, trivial, rN⟩ ?_
 obtain ⟨x14, hxx14, h0⟩ := cA h0
 refine pC (fun s' => ∃ g21 : Nat, s'.nx ≤ 81 ∧ LeN [] s' ⟨[(6, .ref 0 0 0 0), (7, .ref 24 0 0 0)], [(0, ⟨0, true, true, 2, [[.int .i64 0, .nils]]⟩), (24, ⟨0, true, false, 2, [[.int .i64 id1, .sl 48 g21 4 0 x14.length]]⟩), (48, ⟨g21, true, true, 4, List.map aA.enc x14⟩)], 81, []⟩) ?_ ?_
 ·
  intro s' hs
  obtain ⟨g21, hn, hs⟩ := hs
  refine dA ?_
  refine pB [] hn hs ?_
  refine xS 97 [6] ?_
  refine jA ?_
  obtain rfl := Option.some.inj h0
  refine lA [] ?_
  exact rG
 ·
  refine mC (ι := { p : Nat × Int × List aA × Nat // rJ keys3 dead2 id1 p.1 p.2.1 p.2.2.1 = some x14 }) (fun p => ⟨[(0, .int .i64 id1), (1, .bool dead2), (2, .str keys3), (6, .ref 0 0 0 0), (7, .ref 24 0 0 0), (8, .int .i64 p.1.2.1)], [(0, ⟨0, true, true, 2, [[.int .i64 0, .nils]]⟩), (24, ⟨0, true, false, 2, [[.int .i64 id1, .sl 48 p.1.2.2.2 4 0 p.1.2.2.1.length]]⟩), (48, ⟨p.1.2.2.2, true, true, 4, List.map aA.enc p.1.2.2.1⟩)], 49, []⟩) (fun p => p.1.1) ⟨(fu, 0, [], 0), hxx14⟩ ⟨rF, rE, rfl, rfl, trivial, trivial⟩ (fun _ => Nat.le_refl _) ?_
  rintro ⟨⟨fu, i15, v16, g17⟩, h1⟩
  cases fu with
  | zero =>
   replace h1 : rJ keys3 dead2 id1 0 i15 v16 = some x14 := h1
   rw [rJ] at h1; cases h1
  | succ fu =>
   replace h1 : rJ keys3 dead2 id1 (fu + 1) i15 v16 = some x14 := h1
   rw [rJ] at h1
   refine (show pA _ _ _ _ ⟨[(0, .int .i64 id1), (1, .bool dead2), (2, .str keys3), (6, .ref 0 0 0 0), (7, .ref 24 0 0 0), (8, .int .i64 i15)], [(0, ⟨0, true, true, 2, [[.int .i64 0, .nils]]⟩), (24, ⟨0, true, false, 2, [[.int .i64 id1, .sl 48 g17 4 0 v16.length]]⟩), (48, ⟨g17, true, true, 4, List.map aA.enc v16⟩)], 49, []⟩ from ?_)
   refine kA ?_
   refine xS 81 [0, 1, 2, 6, 7, 8, 14] ?_
   refine xI h1 rfl (fun h1 hb18 => ?_) (fun h1 hb18 => ?_)
   ·
    refine qA (dA (kA (aC ?_)))
    obtain ⟨hc19, h1⟩ := mD h1
    obtain ⟨hc20, h1⟩ := mD h1
    refine fG 225 [0, 1, 2, 6, 7, 8] (fun _ => none) rfl rfl rfl (fun _ _ => jF) ?_
    refine sB (dA ?_)
    refine xE ⟨[(0, .int .i64 id1), (1, .bool dead2), (2, .str keys3), (6, .ref 0 0 0 0), (7, .ref 24 0 0 0), (8, .int .i64 i15)], [(0, ⟨0, true, true, 2, [[.int .i64 0, .nils]]⟩), (24, ⟨0, true, false, 2, [[.int .i64 id1, .sl 48 (g17 + 1) 4 0 ((v16 ++ [(aA.mk ((keys3.drop i15.toNat).take ((IntKind.i64.wrap (i15 + 1)).toNat - i15.toNat)) [] dead2 (IntKind.i64.wrap ((IntKind.i64.wrap ((IntKind.i64.wrap (10 * id1)) + i15)) + 1)))]).length)]]⟩), (48, ⟨(g17 + 1), true, true, 4, List.map aA.enc (v16 ++ [(aA.mk ((keys3.drop i15.toNat).take ((IntKind.i64.wrap (i15 + 1)).toNat - i15.toNat)) [] dead2 (IntKind.i64.wrap ((IntKind.i64.wrap ((IntKind.i64.wrap (10 * id1)) + i15)) + 1)))])⟩)], 225, []⟩ ?_
    refine xR 249 [0, 1, 2, 6, 7, 8] ?_
    refine dA ?_
    exact ⟨⟨(fu, (IntKind.i64.wrap (i15 + 1)), (v16 ++ [(aA.mk ((keys3.drop i15.toNat).take ((IntKind.i64.wrap (i15 + 1)).toNat - i15.toNat)) [] dead2 (IntKind.i64.wrap ((IntKind.i64.wrap ((IntKind.i64.wrap (10 * id1)) + i15)) + 1)))]), (g17 + 1)), h1⟩, ⟨rF, rE, rfl, rfl, trivial, trivial⟩, Nat.lt_succ_self _⟩
   ·
    refine iC (dB (dB (jC ?_)))
    obtain rfl := Option.some.inj h1
    exact ⟨g17, rL, ⟨rF, rE, rfl, rfl, trivial, trivial⟩⟩
theorem zgO {fu : Nat} {r : uA} (h0 : zS fu = some r) : bB Tryz.prog 29 [] (.agg (uA.enc r)) [] := by
 refine gB Tryz.func29 rfl (by decide) rL ?_
 dsimp only [Tryz.f29]
 rw [zS] at h0
 refine (show pA _ _ _ _ ⟨aB 0 _, [], 0, []⟩ from ?_)
 refine xS 8 [0] ?_
 obtain ⟨vr1, hvr1, h0⟩ := cA h0
 obtain ⟨vr2, hvr2, h0⟩ := cA h0
 refine nA 64 [0] (fun | 0 => some (.agg (zA.enc vr1), []) | 1 => some (.agg (zA.enc vr2), []) | _ => none) rfl (fun Kt hK => by
   try have q0 := zcP hvr1
   try have q1 := zcP hvr2
   exact rT) ?_
 refine zdg [24] (fun Kt hK => by simp only [↓reduceIte, reduceCtorEq, Nat.reduceEqDiff, Nat.reduceLT, Nat.reduceLeDiff, Nat.reduceAdd, Nat.reduceMul, Int.reduceToNat, Nat.reduceBEq, push_cast]; exact hK) ?_
 refine xE ⟨[(0, .ref 0 0 0 0)], [(0, ⟨0, true, false, 2, [[.int .i64 2, .sl 40 0 1 0 1]]⟩), (40, ⟨0, true, true, 1, List.map sA.enc [(sA.mk [vr1, vr2])]⟩)], 64, []⟩ ?_
 refine jA ?_
 obtain rfl := Option.some.inj h0
 refine lA [] ?_
 exact rG
theorem bK {fu : Nat} {s11 : List eA} {s22 : List eA} {r : Bool} (h0 : fK fu s11 s22 = some r) : bB Tryz.prog 72 [.psl 2 (s11.map eA.enc), .psl 2 (s22.map eA.enc)] (.bool r) [] := by
 refine gB Tryz.func72 rfl (by decide) rL ?_
 dsimp only [Tryz.f72]
 rw [fK] at h0
 refine (show pA _ _ _ _ ⟨aB 0 _, [], 0, []⟩ from ?_)
 refine xS 8 [0, 1] ?_
 refine kA ?_
 refine xS 48 [0, 1, 10] ?_
 refine xI h0 rfl (fun h0 hb3 => ?_) (fun h0 hb3 => ?_)
 ·
  refine xS 56 [4] ?_
  refine jA (mA ?_)
  obtain rfl := Option.some.inj h0
  refine lA [] ?_
  exact rG
 ·
  refine qA (dA (kA ?_))
  refine xS 72 [0, 1, 12, 13] ?_
  obtain ⟨x13, hxx13, h0⟩ := cA h0
  refine pC (fun s' => ∃ o19 : Unit, x13 = .inl o19 ∧ s'.nx ≤ 80 ∧ LeN [] s' ⟨[], [], 80, []⟩) ?_ ?_
  ·
   intro s' hs
   obtain ⟨o19, rfl, hn, hs⟩ := hs
   refine dA ?_
   refine pB [] hn hs ?_
   refine xS 88 [4] ?_
   refine jA ?_
   obtain rfl := Option.some.inj h0
   refine lA [] ?_
   exact rG
  ·
   refine mC (ι := { p : Nat × Int // gH s11 s22 p.1 p.2 = some x13 }) (fun p => ⟨[(0, .psl 2 (List.map eA.enc s11)), (1, .psl 2 (List.map eA.enc s22)), (12, .int .i64 (s11.length : Int)), (13, .int .i64 p.1.2)], [], 72, []⟩) (fun p => p.1.1) ⟨(fu, 0), hxx13⟩ ⟨rF, rE, rfl, rfl, trivial, trivial⟩ (fun _ => Nat.le_refl _) ?_
   rintro ⟨⟨fu, v14⟩, h1⟩
   cases fu with
   | zero =>
   replace h1 : gH s11 s22 0 v14 = some x13 := h1
   rw [gH] at h1; cases h1
   | succ fu =>
    replace h1 : gH s11 s22 (fu + 1) v14 = some x13 := h1
    rw [gH] at h1
    refine (show pA _ _ _ _ ⟨[(0, .psl 2 (List.map eA.enc s11)), (1, .psl 2 (List.map eA.enc s22)), (12, .int .i64 (s11.length : Int)), (13, .int .i64 v14)], [], 72, []⟩ from ?_)
    refine xS 80 [0, 1, 12, 13, 14] ?_
    refine kA ?_
    refine xI h1 rfl (fun h1 hb15 => ?_) (fun h1 hb15 => ?_)
    ·
     refine qA (dA (kA (aC ?_)))
     refine xS 96 [0, 1, 5, 12, 13] ?_
     obtain ⟨e16, he16, h1⟩ := cA h1
     obtain ⟨he16a, he16b, he16c⟩ := cB he16
     obtain ⟨e17, he17, h1⟩ := cA h1
     obtain ⟨he17a, he17b, he17c⟩ := cB he17
     refine oC 168 [0, 1, 12, 13, 24] (fun _ => none) rfl rfl rfl (fun _ _ => xD (rA he16a (rA he16b (rA he16c (rA he17a (rA he17b he17c)))))) ?_
     refine xI h1 rfl (fun h1 hb18 => ?_) (fun h1 hb18 => ?_)
     ·
      refine nA 176 [4] (fun _ => none) rfl (fun _ _ => rS (rA he16a (rA he16b (rA he16c (rA he17a (rA he17b he17c)))))) ?_
      refine jA ?_
      obtain rfl := Option.some.inj h1
      refine eC (mA (mA (aD (mA ?_))))
      obtain rfl := Option.some.inj h0
      refine lA [] ?_
      simp (maxSteps := 1000000) only [↓reduceIte, reduceCtorEq, Nat.reduceEqDiff, Nat.reduceLT, Nat.reduceLeDiff, Nat.reduceAdd, Nat.reduceMul, Int.reduceToNat, push_cast, bC, he16a, he16b, he16c, he17a, he17b, he17c]
      all_goals exact rH
     ·
      refine qA (sB (dA ?_))
      refine uB 184 [0, 1, 12, 13] (fun _ => none) rfl (fun _ _ => rS (rA he16a (rA he16b (rA he16c (rA he17a (rA he17b he17c)))))) ?_
      refine dA ?_
      exact ⟨⟨(fu, (IntKind.i64.wrap (v14 + 1))), h1⟩, ⟨rF, rE, rfl, rfl, trivial, trivial⟩, Nat.lt_succ_self _⟩
    ·
     refine iC (dB (dB (jC ?_)))
     obtain rfl := Option.some.inj h1
     exact ⟨_, rfl, rL, ⟨rF, rE, rfl, rfl, trivial, trivial⟩⟩
theorem sF {fu : Nat} {s11 : List Int} {s22 : List Int} {r : Bool} (h0 : yI fu s11 s22 = some r) : bB Tryz.prog 71 [.psl 1 (s11.map (gA .i64)), .psl 1 (s22.map (gA .i64))] (.bool r) [] := by
 refine gB Tryz.func71 rfl (by decide) rL ?_
 dsimp only [Tryz.f71]
 rw [yI] at h0
 refine (show pA _ _ _ _ ⟨aB 0 _, [], 0, []⟩ from ?_)
 refine xS 8 [0, 1] ?_
 refine kA ?_
 refine xS 48 [0, 1, 10] ?_
 refine xI h0 rfl (fun h0 hb3 => ?_) (fun h0 hb3 => ?_)
 ·
  refine xS 56 [4] ?_
  refine jA (mA ?_)
  obtain rfl := Option.some.inj h0
  refine lA [] ?_
  exact rG
 ·
  refine qA (dA (kA ?_))
  refine xS 72 [0, 1, 12, 13] ?_
  obtain ⟨x13, hxx13, h0⟩ := cA h0
  refine pC (fun s' => ∃ o19 : Unit, x13 = .inl o19 ∧ s'.nx ≤ 80 ∧ LeN [] s' ⟨[], [], 80, []⟩) ?_ ?_
  ·
   intro s' hs
   obtain ⟨o19, rfl, hn, hs⟩ := hs
   refine dA ?_
   refine pB [] hn hs ?_
   refine xS 88 [4] ?_
   refine jA ?_
   obtain rfl := Option.some.inj h0
   refine lA [] ?_
   exact rG
  ·
   refine mC (ι := { p : Nat × Int // dH s11 s22 p.1 p.2 = some x13 }) (fun p => ⟨[(0, .psl 1 (List.map (gA .i64) s11)), (1, .psl 1 (List.map (gA .i64) s22)), (12, .int .i64 (s11.length : Int)), (13, .int .i64 p.1.2)], [], 72, []⟩) (fun p => p.1.1) ⟨(fu, 0), hxx13⟩ ⟨rF, rE, rfl, rfl, trivial, trivial⟩ (fun _ => Nat.le_refl _) ?_
   rintro ⟨⟨fu, v14⟩, h1⟩
   cases fu with
   | zero =>
   replace h1 : dH s11 s22 0 v14 = some x13 := h1
   rw [dH] at h1; cases h1
   | succ fu =>
    replace h1 : dH s11 s22 (fu + 1) v14 = some x13 := h1
    rw [dH] at h1
    refine (show pA _ _ _ _ ⟨[(0, .psl 1 (List.map (gA .i64) s11)), (1, .psl 1 (List.map (gA .i64) s22)), (12, .int .i64 (s11.length : Int)), (13, .int .i64 v14)], [], 72, []⟩ from ?_)
    refine xS 80 [0, 1, 12, 13, 14] ?_
    refine kA ?_
    refine xI h1 rfl (fun h1 hb15 => ?_) (fun h1 hb15 => ?_)
    ·
     refine qA (dA (kA (aC ?_)))
     refine xS 96 [0, 1, 5, 12, 13] ?_
     obtain ⟨e16, he16, h1⟩ := cA h1
     obtain ⟨he16a, he16b, he16c⟩ := cB he16
     obtain ⟨e17, he17, h1⟩ := cA h1
     obtain ⟨he17a, he17b, he17c⟩ := cB he17
     refine oC 168 [0, 1, 12, 13, 24] (fun _ => none) rfl rfl rfl (fun _ _ => xD (rA he16a (rA he16b (rA he16c (rA he17a (rA he17b he17c)))))) ?_
     refine xI h1 rfl (fun h1 hb18 => ?_) (fun h1 hb18 => ?_)
     ·
      refine nA 176 [4] (fun _ => none) rfl (fun _ _ => rS (rA he16a (rA he16b (rA he16c (rA he17a (rA he17b he17c)))))) ?_
      refine jA ?_
      obtain rfl := Option.some.inj h1
      refine eC (mA (mA (aD (mA ?_))))
      obtain rfl := Option.some.inj h0
      refine lA [] ?_
      simp (maxSteps := 1000000) only [↓reduceIte, reduceCtorEq, Nat.reduceEqDiff, Nat.reduceLT, Nat.reduceLeDiff, Nat.reduceAdd, Nat.reduceMul, Int.reduceToNat, push_cast, bC, he16a, he16b, he16c, he17a, he17b, he17c]
      all_goals exact rH
     ·
      refine qA (sB (dA ?_))
      refine uB 184 [0, 1, 12, 13] (fun _ => none) rfl (fun _ _ => rS (rA he16a (rA he16b (rA he16c (rA he17a (rA he17b he17c)))))) ?_
      refine dA ?_
      exact ⟨⟨(fu, (IntKind.i64.wrap (v14 + 1))), h1⟩, ⟨rF, rE, rfl, rfl, trivial, trivial⟩, Nat.lt_succ_self _⟩
    ·
     refine iC (dB (dB (jC ?_)))
     obtain rfl := Option.some.inj h1
     exact ⟨_, rfl, rL, ⟨rF, rE, rfl, rfl, trivial, trivial⟩⟩
theorem zkR {fu : Nat} {a1 : eB} {b2 : eB} {r : Bool} (h0 : tO fu a1 b2 = some r) : bB Tryz.prog 107 [.agg (eB.enc a1), .agg (eB.enc b2)] (.bool r) [] := by
 refine gB Tryz.func107 rfl (by decide) rL ?_
 dsimp only [Tryz.f107]
 rw [tO] at h0
 refine (show pA _ _ _ _ ⟨aB 0 _, [], 0, []⟩ from ?_)
 refine xS 24 [2, 3] ?_
 obtain ⟨b4, hb4, h0⟩ := cA h0
 obtain ⟨b6, hb6, h0⟩ := cA h0
 refine nC (fr' := [(4, .bool b6)]) (hp' := [(0, ⟨0, true, true, 3, [[.psl 2 (List.map eA.enc a1.Keys), .psl 1 (List.map (gA .i64) a1.Lose), .int .i64 a1.Win]]⟩), (8, ⟨0, true, true, 3, [[.psl 2 (List.map eA.enc b2.Keys), .psl 1 (List.map (gA .i64) b2.Lose), .int .i64 b2.Win]]⟩)]) [0, 8] 184 [4] (fun | 10 => (fK fu a1.Keys b2.Keys).bind fun vr3 => some (.bool vr3, []) | 17 => (yI fu a1.Lose b2.Lose).bind fun vr5 => some (.bool vr5, []) | _ => none) rfl (fun Kt hK => by
   cases hg7 : (decide (a1.Win = b2.Win)) with
   | false =>
    replace hb4 := wA hb4 hg7
    have hqb4 := Option.some.inj hb4
    cases b4 with
    | false =>
     replace hb6 := wA hb6 rfl
     have hqb6 := Option.some.inj hb6
     subst hqb6
     simp (maxSteps := 1000000) only [↓reduceIte, reduceCtorEq, Nat.reduceEqDiff, Nat.reduceLT, Nat.reduceLeDiff, Nat.reduceAdd, Nat.reduceMul, Int.reduceToNat, push_cast, ↓hg7]
     try simp only [↓hg7] at hK
     try have q0 := bK hvr3
     try have q1 := sF hvr5
     all_goals exact rU
    | true =>
     cases hqb4
   | true =>
    replace hb4 := jB hb4 hg7
    obtain ⟨vr3, hvr3, hb4⟩ := cA hb4
    have hqb4 := Option.some.inj hb4
    cases b4 with
    | false =>
     subst hqb4
     replace hb6 := wA hb6 rfl
     have hqb6 := Option.some.inj hb6
     subst hqb6
     simp (maxSteps := 1000000) only [↓reduceIte, reduceCtorEq, Nat.reduceEqDiff, Nat.reduceLT, Nat.reduceLeDiff, Nat.reduceAdd, Nat.reduceMul, Int.reduceToNat, push_cast, ↓hg7, hvr3]
     try simp only [↓hg7] at hK
     try have q0 := bK hvr3
     try have q1 := sF hvr5
     all_goals exact rU
    | true =>
     subst hqb4
     replace hb6 := jB hb6 rfl
     obtain ⟨vr5, hvr5, hb6⟩ := cA hb6
     have hqb6 := Option.some.inj hb6
     subst hqb6
     simp (maxSteps := 1000000) only [↓reduceIte, reduceCtorEq, Nat.reduceEqDiff, Nat.reduceLT, Nat.reduceLeDiff, Nat.reduceAdd, Nat.reduceMul, Int.reduceToNat, push_cast, ↓hg7, hvr3, hvr5]
     try simp only [↓hg7] at hK
     try have q0 := bK hvr3
     try have q1 := sF hvr5
     all_goals exact rU) ?_
 refine jA ?_
 obtain rfl := Option.some.inj h0
 refine lA [] ?_
 exact rG
theorem zeF {fu : Nat} {t1 : eB} {r : Int × Int} (h0 : uO fu t1 = some r) : bB Tryz.prog 143 [.agg (eB.enc t1)] (.tup [.int .i64 r.1, .int .i64 r.2]) [] := by
 refine gB Tryz.func143 rfl (by decide) rL ?_
 dsimp only [Tryz.f143]
 rw [uO] at h0
 refine (show pA _ _ _ _ ⟨aB 0 _, [], 0, []⟩ from ?_)
 refine xS 24 [1] ?_
 refine kA ?_
 obtain ⟨vr2, hvr2, h0⟩ := cA h0
 refine nA 56 [1, 4] (fun | 2 => some (.int .i64 vr2, []) | _ => none) rfl (fun _ _ => rC (eX hvr2)) ?_
 refine xS 72 [1, 4, 12] ?_
 refine xI h0 rfl (fun h0 hb3 => ?_) (fun h0 hb3 => ?_)
 ·
  refine xS 96 [2, 3] ?_
  refine jA (mA ?_)
  obtain rfl := Option.some.inj h0
  refine lA [] ?_
  exact rG
 ·
  refine qA (dA (kA ?_))
  refine xS 128 [1, 20] ?_
  refine xI h0 rfl (fun h0 hb4 => ?_) (fun h0 hb4 => ?_)
  ·
   refine xS 144 [2, 3] ?_
   refine jA (mA ?_)
   obtain rfl := Option.some.inj h0
   refine lA [] ?_
   exact rG
  ·
   refine qA (dA ?_)
   obtain ⟨vr5, hvr5, h0⟩ := cA h0
   refine nA 168 [1, 5] (fun | 2 => some (.agg (eB.enc vr5), []) | _ => none) rfl (fun _ _ => rC (zbn hvr5)) ?_
   refine kA ?_
   refine xS 200 [1, 5, 25, 26, 27] ?_
   obtain ⟨x15, hxx15, h0⟩ := cA h0
   refine pC (fun s' => ∃ o21 : Unit, x15 = .inl o21 ∧ s'.nx ≤ 208 ∧ LeN [] s' ⟨[(1, .ref 0 0 0 0), (5, .ref 152 0 0 0)], [(0, ⟨0, true, true, 3, [[.psl 2 (List.map eA.enc t1.Keys), .psl 1 (List.map (gA .i64) t1.Lose), .int .i64 t1.Win]]⟩), (152, ⟨0, true, true, 3, [[.psl 2 (List.map eA.enc vr5.Keys), .psl 1 (List.map (gA .i64) vr5.Lose), .int .i64 vr5.Win]]⟩)], 208, []⟩) ?_ ?_
   ·
    intro s' hs
    obtain ⟨o21, rfl, hn, hs⟩ := hs
    refine dA ?_
    refine pB [] hn hs ?_
    refine kA ?_
    refine xS 248 [45] ?_
    refine xI h0 rfl (fun h0 hb22 => ?_) (fun h0 hb22 => ?_)
    ·
     refine xS 264 [2, 3] ?_
     refine jA (mA ?_)
     obtain rfl := Option.some.inj h0
     refine lA [] ?_
     exact rG
    ·
     refine qA (dA ?_)
     refine xS 264 [2, 3] ?_
     refine jA ?_
     obtain rfl := Option.some.inj h0
     refine lA [] ?_
     exact rG
   ·
    refine mC (ι := { p : Nat × Int // jH vr5 t1 p.1 p.2 = some x15 }) (fun p => ⟨[(1, .ref 0 0 0 0), (5, .ref 152 0 0 0), (25, .psl 1 (List.map (gA .i64) vr5.Lose)), (26, .int .i64 (vr5.Lose.length : Int)), (27, .int .i64 p.1.2)], [(0, ⟨0, true, true, 3, [[.psl 2 (List.map eA.enc t1.Keys), .psl 1 (List.map (gA .i64) t1.Lose), .int .i64 t1.Win]]⟩), (152, ⟨0, true, true, 3, [[.psl 2 (List.map eA.enc vr5.Keys), .psl 1 (List.map (gA .i64) vr5.Lose), .int .i64 vr5.Win]]⟩)], 200, []⟩) (fun p => p.1.1) ⟨(fu, 0), hxx15⟩ ⟨rF, rE, rfl, rfl, trivial, trivial⟩ (fun _ => Nat.le_refl _) ?_
    rintro ⟨⟨fu, v16⟩, h1⟩
    cases fu with
    | zero =>
   replace h1 : jH vr5 t1 0 v16 = some x15 := h1
   rw [jH] at h1; cases h1
    | succ fu =>
     replace h1 : jH vr5 t1 (fu + 1) v16 = some x15 := h1
     rw [jH] at h1
     refine (show pA _ _ _ _ ⟨[(1, .ref 0 0 0 0), (5, .ref 152 0 0 0), (25, .psl 1 (List.map (gA .i64) vr5.Lose)), (26, .int .i64 (vr5.Lose.length : Int)), (27, .int .i64 v16)], [(0, ⟨0, true, true, 3, [[.psl 2 (List.map eA.enc t1.Keys), .psl 1 (List.map (gA .i64) t1.Lose), .int .i64 t1.Win]]⟩), (152, ⟨0, true, true, 3, [[.psl 2 (List.map eA.enc vr5.Keys), .psl 1 (List.map (gA .i64) vr5.Lose), .int .i64 vr5.Win]]⟩)], 200, []⟩ from ?_)
     refine xS 208 [1, 5, 25, 26, 27, 28] ?_
     refine kA ?_
     refine xI h1 rfl (fun h1 hb17 => ?_) (fun h1 hb17 => ?_)
     ·
      refine qA (dA (kA (aC ?_)))
      obtain ⟨e18, he18, h1⟩ := cA h1
      obtain ⟨he18a, he18b, he18c⟩ := cB he18
      refine nA 248 [1, 5, 6, 7, 25, 26, 27] (fun _ => none) rfl (fun _ _ => rS (rA he18a (rA he18b he18c))) ?_
      obtain ⟨e19, he19, h1⟩ := cA h1
      obtain ⟨he19a, he19b, he19c⟩ := cB he19
      refine nA 304 [1, 5, 6, 25, 26, 27, 38] (fun _ => none) rfl (fun _ _ => rS (rA he18a (rA he18b (rA he18c (rA he19a (rA he19b he19c)))))) ?_
      refine xI h1 rfl (fun h1 hb20 => ?_) (fun h1 hb20 => ?_)
      ·
       refine nA 328 [2, 3] (fun _ => none) rfl (fun _ _ => rS (rA he18a (rA he18b (rA he18c (rA he19a (rA he19b he19c)))))) ?_
       refine jA ?_
       obtain rfl := Option.some.inj h1
       refine eC (mA (mA (aD (mA ?_))))
       obtain rfl := Option.some.inj h0
       refine lA [] ?_
       simp (maxSteps := 1000000) only [↓reduceIte, reduceCtorEq, Nat.reduceEqDiff, Nat.reduceLT, Nat.reduceLeDiff, Nat.reduceAdd, Nat.reduceMul, Int.reduceToNat, push_cast, bC, he18a, he18b, he18c, he19a, he19b, he19c]
       all_goals exact rH
      ·
       refine qA (sB (dA ?_))
       refine uB 320 [1, 5, 25, 26, 27] (fun _ => none) rfl (fun _ _ => rS (rA he18a (rA he18b (rA he18c (rA he19a (rA he19b he19c)))))) ?_
       refine dA ?_
       exact ⟨⟨(fu, (IntKind.i64.wrap (v16 + 1))), h1⟩, ⟨rF, rE, rfl, rfl, trivial, trivial⟩, Nat.lt_succ_self _⟩
     ·
      refine iC (dB (dB (jC ?_)))
      obtain rfl := Option.some.inj h1
      exact ⟨_, rfl, rL, ⟨rF, rE, rfl, rfl, trivial, trivial⟩⟩
theorem zbX {fu : Nat} {t1 : eB} {r : Int} (h0 : nM fu t1 = some r) : bB Tryz.prog 128 [.agg (eB.enc t1)] (.int .i64 r) [] := by
 refine gB Tryz.func128 rfl (by decide) rL ?_
 dsimp only [Tryz.f128]
 rw [nM] at h0
 refine (show pA _ _ _ _ ⟨aB 0 _, [], 0, []⟩ from ?_)
 refine xS 16 [1] ?_
 refine kA ?_
 obtain ⟨vr2, hvr2, h0⟩ := cA h0
 refine nA 72 [1, 4] (fun | 1 => some (.tup [.int .i64 vr2.1, .int .i64 vr2.2], []) | _ => none) rfl (fun _ _ => rC (zeF hvr2)) ?_
 refine xS 88 [1, 4, 11] ?_
 refine xI h0 rfl (fun h0 hb3 => ?_) (fun h0 hb3 => ?_)
 ·
  refine xS 104 [2] ?_
  refine jA (mA ?_)
  obtain rfl := Option.some.inj h0
  refine lA [] ?_
  exact rG
 ·
  refine qA (dA (kA ?_))
  obtain ⟨e4, he4, h0⟩ := cA h0
  obtain ⟨he4a, he4b, he4c⟩ := cB he4
  refine nA 144 [19] (fun _ => none) rfl (fun _ _ => rS (rA he4a (rA he4b he4c))) ?_
  refine xI h0 rfl (fun h0 hb5 => ?_) (fun h0 hb5 => ?_)
  ·
   refine nA 152 [2] (fun _ => none) rfl (fun _ _ => rS (rA he4a (rA he4b he4c))) ?_
   refine jA (mA ?_)
   obtain rfl := Option.some.inj h0
   refine lA [] ?_
   simp (maxSteps := 1000000) only [↓reduceIte, reduceCtorEq, Nat.reduceEqDiff, Nat.reduceLT, Nat.reduceLeDiff, Nat.reduceAdd, Nat.reduceMul, Int.reduceToNat, push_cast, bC, he4a, he4b, he4c]
   all_goals exact rH
  ·
   refine qA (dA ?_)
   refine nA 152 [2] (fun _ => none) rfl (fun _ _ => rS (rA he4a (rA he4b he4c))) ?_
   refine jA ?_
   obtain rfl := Option.some.inj h0
   refine lA [] ?_
   simp (maxSteps := 1000000) only [↓reduceIte, reduceCtorEq, Nat.reduceEqDiff, Nat.reduceLT, Nat.reduceLeDiff, Nat.reduceAdd, Nat.reduceMul, Int.reduceToNat, push_cast, bC, he4a, he4b, he4c]
   all_goals exact rH
theorem zc7 {fu : Nat} {t1 : eB} {r : Int × List UInt8 × Int} (h0 : tM fu t1 = some r) : bB Tryz.prog 109 [.agg (eB.enc t1)] (.tup [.int .i64 r.1, .str r.2.1, .int .i64 r.2.2]) [] := by
 refine gB Tryz.func109 rfl (by decide) rL ?_
 dsimp only [Tryz.f109]
 rw [tM] at h0
 refine (show pA _ _ _ _ ⟨aB 0 _, [], 0, []⟩ from ?_)
 refine xS 32 [1] ?_
 refine kA ?_
 obtain ⟨vr2, hvr2, h0⟩ := cA h0
 refine nA 56 [1, 5] (fun | 1 => some (.int .i64 vr2, []) | _ => none) rfl (fun _ _ => rC (zbX hvr2)) ?_
 refine xS 72 [1, 5, 9] ?_
 refine xI h0 rfl (fun h0 hb3 => ?_) (fun h0 hb3 => ?_)
 ·
  refine xS 104 [2, 3, 4] ?_
  refine jA (mA ?_)
  obtain rfl := Option.some.inj h0
  refine lA [] ?_
  exact rG
 ·
  refine qA (dA ?_)
  obtain ⟨e4, he4, h0⟩ := cA h0
  obtain ⟨he4a, he4b, he4c⟩ := cB he4
  refine oC 168 [2, 3, 4] (fun _ => none) rfl rfl rfl (fun _ _ => xD (rA he4a (rA he4b he4c))) ?_
  refine jA ?_
  obtain rfl := Option.some.inj h0
  refine lA [] ?_
  simp (maxSteps := 1000000) only [↓reduceIte, reduceCtorEq, Nat.reduceEqDiff, Nat.reduceLT, Nat.reduceLeDiff, Nat.reduceAdd, Nat.reduceMul, Int.reduceToNat, push_cast, bC, he4a, he4b, he4c]
  all_goals exact rH
theorem zbk {fu : Nat} {vx1 : List UInt8} {r : Bool} (h0 : jO fu vx1 = some r) : bB Tryz.prog 129 [.str vx1] (.bool r) [] := by
 refine gB Tryz.func129 rfl (by decide) rL ?_
 dsimp only [Tryz.f129]
 rw [jO] at h0
 refine (show pA _ _ _ _ ⟨aB 0 _, [], 0, []⟩ from ?_)
 refine xS 8 [0] ?_
 refine xS 40 [2] ?_
 refine jA ?_
 obtain rfl := Option.some.inj h0
 refine lA [] ?_
 exact rG
theorem zbW {fu : Nat} {vx1 : List UInt8} {y2 : List UInt8} {r : Int} (h0 : iK fu vx1 y2 = some r) : bB Tryz.prog 111 [.str vx1, .str y2] (.int .i64 r) [] := by
 refine gB Tryz.func111 rfl (by decide) rL ?_
 dsimp only [Tryz.f111]
 rw [iK] at h0
 refine (show pA _ _ _ _ ⟨aB 0 _, [], 0, []⟩ from ?_)
 refine xS 8 [0, 1] ?_
 obtain ⟨vr3, hvr3, h0⟩ := cA h0
 refine nA 32 [0, 1, 5] (fun | 1 => some (.bool vr3, []) | _ => none) rfl (fun _ _ => rC (zbk hvr3)) ?_
 obtain ⟨vr4, hvr4, h0⟩ := cA h0
 refine nA 56 [0, 1, 5, 6] (fun | 1 => some (.bool vr4, []) | _ => none) rfl (fun _ _ => rC (zbk hvr4)) ?_
 refine kA ?_
 refine xS 64 [0, 1, 6, 11] ?_
 refine xI h0 rfl (fun h0 hb5 => ?_) (fun h0 hb5 => ?_)
 ·
  refine kA ?_
  refine xS 72 [12] ?_
  refine xI h0 rfl (fun h0 hb6 => ?_) (fun h0 hb6 => ?_)
  ·
   refine xS 80 [4] ?_
   refine jA (mA (mA ?_))
   obtain rfl := Option.some.inj h0
   refine lA [] ?_
   exact rG
  ·
   refine qA (dA ?_)
   refine xS 80 [4] ?_
   refine jA (mA ?_)
   obtain rfl := Option.some.inj h0
   refine lA [] ?_
   exact rG
 ·
  refine qA (dA (kA ?_))
  refine xS 72 [0, 1, 13] ?_
  refine xI h0 rfl (fun h0 hb7 => ?_) (fun h0 hb7 => ?_)
  ·
   refine xS 80 [4] ?_
   refine jA (mA ?_)
   obtain rfl := Option.some.inj h0
   refine lA [] ?_
   exact rG
  ·
   refine qA (dA (kA ?_))
   refine xS 96 [0, 1, 16] ?_
   refine xI h0 rfl (fun h0 hb8 => ?_) (fun h0 hb8 => ?_)
   ·
    refine xS 104 [4] ?_
    refine jA (mA ?_)
    obtain rfl := Option.some.inj h0
    refine lA [] ?_
    exact rG
   ·
    refine qA (dA (kA ?_))
    refine xS 120 [19] ?_
    refine xI h0 rfl (fun h0 hb9 => ?_) (fun h0 hb9 => ?_)
    ·
     refine xS 128 [4] ?_
     refine jA (mA ?_)
     obtain rfl := Option.some.inj h0
     refine lA [] ?_
     exact rG
    ·
     refine qA (dA ?_)
     refine xS 128 [4] ?_
     refine jA ?_
     obtain rfl := Option.some.inj h0
     refine lA [] ?_
     exact rG
theorem zaV {fu : Nat} {vx1 : Int} {r : Bool} (h0 : qN fu vx1 = some r) : bB Tryz.prog 130 [.int .i64 vx1] (.bool r) [] := by
 refine gB Tryz.func130 rfl (by decide) rL ?_
 dsimp only [Tryz.f130]
 rw [qN] at h0
 refine (show pA _ _ _ _ ⟨aB 0 _, [], 0, []⟩ from ?_)
 refine xS 8 [0] ?_
 refine xS 40 [2] ?_
 refine jA ?_
 obtain rfl := Option.some.inj h0
 refine lA [] ?_
 exact rG
theorem zbP {fu : Nat} {vx1 : Int} {y2 : Int} {r : Int} (h0 : cM fu vx1 y2 = some r) : bB Tryz.prog 112 [.int .i64 vx1, .int .i64 y2] (.int .i64 r) [] := by
 refine gB Tryz.func112 rfl (by decide) rL ?_
 dsimp only [Tryz.f112]
 rw [cM] at h0
 refine (show pA _ _ _ _ ⟨aB 0 _, [], 0, []⟩ from ?_)
 refine xS 8 [0, 1] ?_
 obtain ⟨vr3, hvr3, h0⟩ := cA h0
 refine nA 32 [0, 1, 5] (fun | 1 => some (.bool vr3, []) | _ => none) rfl (fun _ _ => rC (zaV hvr3)) ?_
 obtain ⟨vr4, hvr4, h0⟩ := cA h0
 refine nA 56 [0, 1, 5, 6] (fun | 1 => some (.bool vr4, []) | _ => none) rfl (fun _ _ => rC (zaV hvr4)) ?_
 refine kA ?_
 refine xS 64 [0, 1, 6, 11] ?_
 refine xI h0 rfl (fun h0 hb5 => ?_) (fun h0 hb5 => ?_)
 ·
  refine kA ?_
  refine xS 72 [12] ?_
  refine xI h0 rfl (fun h0 hb6 => ?_) (fun h0 hb6 => ?_)
  ·
   refine xS 80 [4] ?_
   refine jA (mA (mA ?_))
   obtain rfl := Option.some.inj h0
   refine lA [] ?_
   exact rG
  ·
   refine qA (dA ?_)
   refine xS 80 [4] ?_
   refine jA (mA ?_)
   obtain rfl := Option.some.inj h0
   refine lA [] ?_
   exact rG
 ·
  refine qA (dA (kA ?_))
  refine xS 72 [0, 1, 13] ?_
  refine xI h0 rfl (fun h0 hb7 => ?_) (fun h0 hb7 => ?_)
  ·
   refine xS 80 [4] ?_
   refine jA (mA ?_)
   obtain rfl := Option.some.inj h0
   refine lA [] ?_
   exact rG
  ·
   refine qA (dA (kA ?_))
   refine xS 96 [0, 1, 16] ?_
   refine xI h0 rfl (fun h0 hb8 => ?_) (fun h0 hb8 => ?_)
   ·
    refine xS 104 [4] ?_
    refine jA (mA ?_)
    obtain rfl := Option.some.inj h0
    refine lA [] ?_
    exact rG
   ·
    refine qA (dA (kA ?_))
    refine xS 120 [19] ?_
    refine xI h0 rfl (fun h0 hb9 => ?_) (fun h0 hb9 => ?_)
    ·
     refine xS 128 [4] ?_
     refine jA (mA ?_)
     obtain rfl := Option.some.inj h0
     refine lA [] ?_
     exact rG
    ·
     refine qA (dA ?_)
     refine xS 128 [4] ?_
     refine jA ?_
     obtain rfl := Option.some.inj h0
     refine lA [] ?_
     exact rG
theorem zdj {fu : Nat} {vals1 : List Int} {r : Int} (h0 : wK fu vals1 = some r) : bB Tryz.prog 110 [.psl 1 (vals1.map (gA .i64))] (.int .i64 r) [] := by
 refine gB Tryz.func110 rfl (by decide) rL ?_
 dsimp only [Tryz.f110]
 rw [wK] at h0
 refine (show pA _ _ _ _ ⟨aB 0 _, [], 0, []⟩ from ?_)
 refine xS 8 [0] ?_
 refine xS 16 [0, 3] ?_
 refine kA ?_
 refine xS 40 [3, 6, 7, 8] ?_
 obtain ⟨x9, hxx9, h0⟩ := cA h0
 refine pC (fun s' => ∃ o14 : Unit, x9 = .inl o14 ∧ s'.nx ≤ 48 ∧ LeN [] s' ⟨[(3, .int .i64 0)], [], 48, []⟩) ?_ ?_
 ·
  intro s' hs
  obtain ⟨o14, rfl, hn, hs⟩ := hs
  refine dA ?_
  refine pB [] hn hs ?_
  refine xS 64 [2] ?_
  refine jA ?_
  obtain rfl := Option.some.inj h0
  refine lA [] ?_
  exact rG
 ·
  refine mC (ι := { p : Nat × Int // iH vals1 p.1 p.2 = some x9 }) (fun p => ⟨[(3, .int .i64 0), (6, .psl 1 (List.map (gA .i64) vals1)), (7, .int .i64 (vals1.length : Int)), (8, .int .i64 p.1.2)], [], 40, []⟩) (fun p => p.1.1) ⟨(fu, 0), hxx9⟩ ⟨rF, rE, rfl, rfl, trivial, trivial⟩ (fun _ => Nat.le_refl _) ?_
  rintro ⟨⟨fu, v10⟩, h1⟩
  cases fu with
  | zero =>
   replace h1 : iH vals1 0 v10 = some x9 := h1
   rw [iH] at h1; cases h1
  | succ fu =>
   replace h1 : iH vals1 (fu + 1) v10 = some x9 := h1
   rw [iH] at h1
   refine (show pA _ _ _ _ ⟨[(3, .int .i64 0), (6, .psl 1 (List.map (gA .i64) vals1)), (7, .int .i64 (vals1.length : Int)), (8, .int .i64 v10)], [], 40, []⟩ from ?_)
   refine xS 48 [3, 6, 7, 8, 9] ?_
   refine kA ?_
   refine xI h1 rfl (fun h1 hb11 => ?_) (fun h1 hb11 => ?_)
   ·
    refine qA (dA (kA (aC ?_)))
    obtain ⟨e12, he12, h1⟩ := cA h1
    obtain ⟨he12a, he12b, he12c⟩ := cB he12
    refine nA 72 [3, 5, 6, 7, 8] (fun _ => none) rfl (fun _ _ => rS (rA he12a (rA he12b he12c))) ?_
    refine nA 96 [3, 5, 6, 7, 8, 14] (fun _ => none) rfl (fun _ _ => rS (rA he12a (rA he12b he12c))) ?_
    refine xI h1 rfl (fun h1 hb13 => ?_) (fun h1 hb13 => ?_)
    ·
     refine nA 112 [2] (fun _ => none) rfl (fun _ _ => rS (rA he12a (rA he12b he12c))) ?_
     refine jA ?_
     obtain rfl := Option.some.inj h1
     refine eC (mA (mA (aD (mA ?_))))
     obtain rfl := Option.some.inj h0
     refine lA [] ?_
     simp (maxSteps := 1000000) only [↓reduceIte, reduceCtorEq, Nat.reduceEqDiff, Nat.reduceLT, Nat.reduceLeDiff, Nat.reduceAdd, Nat.reduceMul, Int.reduceToNat, push_cast, bC, he12a, he12b, he12c]
     all_goals exact rH
    ·
     refine qA (sB (dA ?_))
     refine uB 112 [3, 6, 7, 8] (fun _ => none) rfl (fun _ _ => rS (rA he12a (rA he12b he12c))) ?_
     refine dA ?_
     exact ⟨⟨(fu, (IntKind.i64.wrap (v10 + 1))), h1⟩, ⟨rF, rE, rfl, rfl, trivial, trivial⟩, Nat.lt_succ_self _⟩
   ·
    refine iC (dB (dB (jC ?_)))
    obtain rfl := Option.some.inj h1
    exact ⟨_, rfl, rL, ⟨rF, rE, rfl, rfl, trivial, trivial⟩⟩
theorem hZ {fu : Nat} {vs1 : kB} {r : Int × Int} (h0 : pH fu vs1 = some r) : bB Tryz.prog 84 [.agg (kB.enc vs1)] (.tup [.int .i64 r.1, .int .i64 r.2]) [] := by
 refine gB Tryz.func84 rfl (by decide) rL ?_
 dsimp only [Tryz.f84]
 rw [pH] at h0
 refine (show pA _ _ _ _ ⟨aB 0 _, [], 0, []⟩ from ?_)
 refine xS 24 [1] ?_
 refine kA ?_
 obtain ⟨vr2, hvr2, h0⟩ := cA h0
 refine nA 88 [1, 4, 5] (fun | 2 => some (.tup [.int .i64 vr2.1, .int .i64 vr2.2], []) | _ => none) rfl (fun _ _ => rC (zaQ hvr2)) ?_
 refine xS 104 [1, 4, 5, 19] ?_
 refine xI h0 rfl (fun h0 hb3 => ?_) (fun h0 hb3 => ?_)
 ·
  refine xS 136 [2, 3] ?_
  refine jA (mA ?_)
  obtain rfl := Option.some.inj h0
  refine lA [] ?_
  exact rG
 ·
  refine qA (dA (kA ?_))
  refine xS 160 [1, 28] ?_
  refine xI h0 rfl (fun h0 hb4 => ?_) (fun h0 hb4 => ?_)
  ·
   refine xS 176 [2, 3] ?_
   refine jA (mA ?_)
   obtain rfl := Option.some.inj h0
   refine lA [] ?_
   exact rG
  ·
   refine qA (dA (kA ?_))
   refine xS 192 [1, 30, 31, 32] ?_
   obtain ⟨x18, hxx18, h0⟩ := cA h0
   refine pC (fun s' => ∃ o26 : Unit, x18 = .inl o26 ∧ s'.nx ≤ 200 ∧ LeN [] s' ⟨[(1, .ref 0 0 0 0)], [(0, ⟨0, true, true, 5, [[.psl 1 (List.map (vA 4 aA.enc) vs1.Runs), .psl 1 (List.map (gA .i64) vs1.At), .psl 2 (List.map eA.enc vs1.Tree.Keys), .psl 1 (List.map (gA .i64) vs1.Tree.Lose), .int .i64 vs1.Tree.Win]]⟩)], 200, []⟩) ?_ ?_
   ·
    intro s' hs
    obtain ⟨o26, rfl, hn, hs⟩ := hs
    refine dA ?_
    refine pB [] hn hs ?_
    refine kA ?_
    obtain ⟨vr27, hvr27, h0⟩ := cA h0
    obtain ⟨vr28, hvr28, h0⟩ := cA h0
    refine oC 272 [1, 59] (fun | 6 => some (.agg (eB.enc vr27), []) | 7 => some (.bool vr28, []) | _ => none) rfl rfl rfl (fun Kt hK => by
      try have q0 := zcJ hvr27
      try have q1 := zkR hvr28
      exact jF) ?_
    refine xI h0 rfl (fun h0 hb29 => ?_) (fun h0 hb29 => ?_)
    ·
     refine xS 288 [2, 3] ?_
     refine jA (mA ?_)
     obtain rfl := Option.some.inj h0
     refine lA [] ?_
     exact rG
    ·
     refine qA (dA ?_)
     obtain ⟨vr30, hvr30, h0⟩ := cA h0
     refine nA 352 [1, 3, 8, 9] (fun | 2 => some (.tup [.int .i64 vr30.1, .str vr30.2.1, .int .i64 vr30.2.2], []) | _ => none) rfl (fun _ _ => rC (zc7 hvr30)) ?_
     refine kA ?_
     refine xS 368 [1, 8, 9, 68] ?_
     refine xI h0 rfl (fun h0 hb31 => ?_) (fun h0 hb31 => ?_)
     ·
      refine xS 384 [2, 3] ?_
      refine jA (mA ?_)
      obtain rfl := Option.some.inj h0
      refine lA [] ?_
      exact rG
     ·
      refine qA (dA (kA ?_))
      refine xS 400 [1, 8, 9, 70, 71, 72] ?_
      obtain ⟨x53, hxx53, h0⟩ := cA h0
      refine pC (fun s' => ∃ o65 : Unit, x53 = .inl o65 ∧ s'.nx ≤ 408 ∧ LeN [] s' ⟨[], [(0, ⟨0, true, true, 5, [[.psl 1 (List.map (vA 4 aA.enc) vs1.Runs), .psl 1 (List.map (gA .i64) vs1.At), .psl 2 (List.map eA.enc vs1.Tree.Keys), .psl 1 (List.map (gA .i64) vs1.Tree.Lose), .int .i64 vs1.Tree.Win]]⟩)], 408, []⟩) ?_ ?_
      ·
       intro s' hs
       obtain ⟨o65, rfl, hn, hs⟩ := hs
       refine dA ?_
       refine pB [] hn hs ?_
       refine xS 424 [2, 3] ?_
       refine jA ?_
       obtain rfl := Option.some.inj h0
       refine lA [] ?_
       exact rG
      ·
       refine mC (ι := { p : Nat × Int // gF vs1 vr30 p.1 p.2 = some x53 }) (fun p => ⟨[(1, .ref 0 0 0 0), (8, .int .i64 vr30.1), (9, .str vr30.2.1), (70, .psl 1 (List.map (gA .i64) vs1.At)), (71, .int .i64 (vs1.At.length : Int)), (72, .int .i64 p.1.2)], [(0, ⟨0, true, true, 5, [[.psl 1 (List.map (vA 4 aA.enc) vs1.Runs), .psl 1 (List.map (gA .i64) vs1.At), .psl 2 (List.map eA.enc vs1.Tree.Keys), .psl 1 (List.map (gA .i64) vs1.Tree.Lose), .int .i64 vs1.Tree.Win]]⟩)], 400, []⟩) (fun p => p.1.1) ⟨(fu, 0), hxx53⟩ ⟨rF, rE, rfl, rfl, trivial, trivial⟩ (fun _ => Nat.le_refl _) ?_
       rintro ⟨⟨fu, v54⟩, h1⟩
       cases fu with
       | zero =>
   replace h1 : gF vs1 vr30 0 v54 = some x53 := h1
   rw [gF] at h1; cases h1
       | succ fu =>
        replace h1 : gF vs1 vr30 (fu + 1) v54 = some x53 := h1
        rw [gF] at h1
        refine (show pA _ _ _ _ ⟨[(1, .ref 0 0 0 0), (8, .int .i64 vr30.1), (9, .str vr30.2.1), (70, .psl 1 (List.map (gA .i64) vs1.At)), (71, .int .i64 (vs1.At.length : Int)), (72, .int .i64 v54)], [(0, ⟨0, true, true, 5, [[.psl 1 (List.map (vA 4 aA.enc) vs1.Runs), .psl 1 (List.map (gA .i64) vs1.At), .psl 2 (List.map eA.enc vs1.Tree.Keys), .psl 1 (List.map (gA .i64) vs1.Tree.Lose), .int .i64 vs1.Tree.Win]]⟩)], 400, []⟩ from ?_)
        refine xS 408 [1, 8, 9, 70, 71, 72, 73] ?_
        refine kA ?_
        refine xI h1 rfl (fun h1 hb55 => ?_) (fun h1 hb55 => ?_)
        ·
         refine qA (dA (kA (aC ?_)))
         obtain ⟨e56, he56, h1⟩ := cA h1
         obtain ⟨he56a, he56b, he56c⟩ := cB he56
         refine nA 448 [1, 8, 9, 10, 11, 70, 71, 72] (fun _ => none) rfl (fun _ _ => rS (rA he56a (rA he56b he56c))) ?_
         obtain ⟨b62, hb62, h1⟩ := cA h1
         refine nC (fr' := [(1, .ref 0 0 0 0), (8, .int .i64 vr30.1), (9, .str vr30.2.1), (70, .psl 1 (List.map (gA .i64) vs1.At)), (71, .int .i64 (vs1.At.length : Int)), (72, .int .i64 v54), (98, .bool b62)]) (hp' := [(0, ⟨0, true, true, 5, [[.psl 1 (List.map (vA 4 aA.enc) vs1.Runs), .psl 1 (List.map (gA .i64) vs1.At), .psl 2 (List.map eA.enc vs1.Tree.Keys), .psl 1 (List.map (gA .i64) vs1.Tree.Lose), .int .i64 vs1.Tree.Win]]⟩)]) [0] 624 [1, 8, 9, 70, 71, 72, 98] (fun | 14 => (ix vs1.Runs v54).bind fun e57 => (ix e57 (IntKind.i64.wrap (e56 - 1))).bind fun e58 => (iK fu e58.Key vr30.2.1).bind fun vr59 => some (.int .i64 vr59, []) | 17 => (ix vs1.Runs v54).bind fun e57 => (ix e57 (IntKind.i64.wrap (e56 - 1))).bind fun e58 => (iK fu e58.Key vr30.2.1).bind fun vr59 => (cM fu v54 vr30.1).bind fun vr60 => some (.int .i64 vr60, []) | 19 => (ix vs1.Runs v54).bind fun e57 => (ix e57 (IntKind.i64.wrap (e56 - 1))).bind fun e58 => (iK fu e58.Key vr30.2.1).bind fun vr59 => (cM fu v54 vr30.1).bind fun vr60 => (wK fu [vr59, vr60]).bind fun vr61 => some (.int .i64 vr61, []) | _ => none) rfl (fun Kt hK => by
           cases hg63 : (decide (0 < e56)) with
           | false =>
            replace hb62 := wA hb62 hg63
            have hqb62 := Option.some.inj hb62
            subst hqb62
            simp (maxSteps := 1000000) only [↓reduceIte, reduceCtorEq, Nat.reduceEqDiff, Nat.reduceLT, Nat.reduceLeDiff, Nat.reduceAdd, Nat.reduceMul, Int.reduceToNat, push_cast, he56a, he56b, he56c, ↓hg63]
            try simp only [↓hg63] at hK
            try have q0 := zbW hvr59
            try have q1 := zbP hvr60
            try have q2 := zdj hvr61
            all_goals exact rU
           | true =>
            replace hb62 := jB hb62 hg63
            obtain ⟨e57, he57, hb62⟩ := cA hb62
            obtain ⟨he57a, he57b, he57c⟩ := cB he57
            obtain ⟨e58, he58, hb62⟩ := cA hb62
            obtain ⟨he58a, he58b, he58c⟩ := cB he58
            obtain ⟨vr59, hvr59, hb62⟩ := cA hb62
            obtain ⟨vr60, hvr60, hb62⟩ := cA hb62
            obtain ⟨vr61, hvr61, hb62⟩ := cA hb62
            have hqb62 := Option.some.inj hb62
            subst hqb62
            simp (maxSteps := 1000000) only [↓reduceIte, reduceCtorEq, Nat.reduceEqDiff, Nat.reduceLT, Nat.reduceLeDiff, Nat.reduceAdd, Nat.reduceMul, Int.reduceToNat, push_cast, he56a, he56b, he56c, ↓hg63, he57a, he57b, he57c, he57, he58a, he58b, he58c, he58, hvr59, hvr60, hvr61]
            try simp only [↓hg63] at hK
            try have q0 := zbW hvr59
            try have q1 := zbP hvr60
            try have q2 := zdj hvr61
            all_goals exact rU) ?_
         refine xE ⟨[(1, .ref 0 0 0 0), (8, .int .i64 vr30.1), (9, .str vr30.2.1), (70, .psl 1 (List.map (gA .i64) vs1.At)), (71, .int .i64 (vs1.At.length : Int)), (72, .int .i64 v54), (98, .bool b62)], [(0, ⟨0, true, true, 5, [[.psl 1 (List.map (vA 4 aA.enc) vs1.Runs), .psl 1 (List.map (gA .i64) vs1.At), .psl 2 (List.map eA.enc vs1.Tree.Keys), .psl 1 (List.map (gA .i64) vs1.Tree.Lose), .int .i64 vs1.Tree.Win]]⟩)], 624, []⟩ ?_
         refine xI h1 rfl (fun h1 hb64 => ?_) (fun h1 hb64 => ?_)
         ·
          refine nA 648 [2, 3] (fun _ => none) rfl (fun _ _ => rS (rA he56a (rA he56b he56c))) ?_
          refine jA ?_
          obtain rfl := Option.some.inj h1
          refine eC (mA (mA (aD (mA ?_))))
          obtain rfl := Option.some.inj h0
          refine lA [] ?_
          simp (maxSteps := 1000000) only [↓reduceIte, reduceCtorEq, Nat.reduceEqDiff, Nat.reduceLT, Nat.reduceLeDiff, Nat.reduceAdd, Nat.reduceMul, Int.reduceToNat, push_cast, bC, he56a, he56b, he56c]
          all_goals exact rH
         ·
          refine qA (sB (dA ?_))
          refine uB 640 [1, 8, 9, 70, 71, 72] (fun _ => none) rfl (fun _ _ => rS (rA he56a (rA he56b he56c))) ?_
          refine dA ?_
          exact ⟨⟨(fu, (IntKind.i64.wrap (v54 + 1))), h1⟩, ⟨rF, rE, rfl, rfl, trivial, trivial⟩, Nat.lt_succ_self _⟩
        ·
         refine iC (dB (dB (jC ?_)))
         obtain rfl := Option.some.inj h1
         exact ⟨_, rfl, rL, ⟨rF, rE, rfl, rfl, trivial, trivial⟩⟩
   ·
    refine mC (ι := { p : Nat × Int // vF vs1 p.1 p.2 = some x18 }) (fun p => ⟨[(1, .ref 0 0 0 0), (30, .psl 1 (List.map (gA .i64) vs1.At)), (31, .int .i64 (vs1.At.length : Int)), (32, .int .i64 p.1.2)], [(0, ⟨0, true, true, 5, [[.psl 1 (List.map (vA 4 aA.enc) vs1.Runs), .psl 1 (List.map (gA .i64) vs1.At), .psl 2 (List.map eA.enc vs1.Tree.Keys), .psl 1 (List.map (gA .i64) vs1.Tree.Lose), .int .i64 vs1.Tree.Win]]⟩)], 192, []⟩) (fun p => p.1.1) ⟨(fu, 0), hxx18⟩ ⟨rF, rE, rfl, rfl, trivial, trivial⟩ (fun _ => Nat.le_refl _) ?_
    rintro ⟨⟨fu, v19⟩, h1⟩
    cases fu with
    | zero =>
   replace h1 : vF vs1 0 v19 = some x18 := h1
   rw [vF] at h1; cases h1
    | succ fu =>
     replace h1 : vF vs1 (fu + 1) v19 = some x18 := h1
     rw [vF] at h1
     refine (show pA _ _ _ _ ⟨[(1, .ref 0 0 0 0), (30, .psl 1 (List.map (gA .i64) vs1.At)), (31, .int .i64 (vs1.At.length : Int)), (32, .int .i64 v19)], [(0, ⟨0, true, true, 5, [[.psl 1 (List.map (vA 4 aA.enc) vs1.Runs), .psl 1 (List.map (gA .i64) vs1.At), .psl 2 (List.map eA.enc vs1.Tree.Keys), .psl 1 (List.map (gA .i64) vs1.Tree.Lose), .int .i64 vs1.Tree.Win]]⟩)], 192, []⟩ from ?_)
     refine xS 200 [1, 30, 31, 32, 33] ?_
     refine kA ?_
     refine xI h1 rfl (fun h1 hb20 => ?_) (fun h1 hb20 => ?_)
     ·
      refine qA (dA (kA (aC ?_)))
      obtain ⟨e21, he21, h1⟩ := cA h1
      obtain ⟨he21a, he21b, he21c⟩ := cB he21
      refine nA 240 [1, 6, 7, 30, 31, 32] (fun _ => none) rfl (fun _ _ => rS (rA he21a (rA he21b he21c))) ?_
      obtain ⟨b23, hb23, h1⟩ := cA h1
      refine nC (fr' := [(1, .ref 0 0 0 0), (6, .int .i64 v19), (30, .psl 1 (List.map (gA .i64) vs1.At)), (31, .int .i64 (vs1.At.length : Int)), (32, .int .i64 v19), (48, .bool b23)]) (hp' := [(0, ⟨0, true, true, 5, [[.psl 1 (List.map (vA 4 aA.enc) vs1.Runs), .psl 1 (List.map (gA .i64) vs1.At), .psl 2 (List.map eA.enc vs1.Tree.Keys), .psl 1 (List.map (gA .i64) vs1.Tree.Lose), .int .i64 vs1.Tree.Win]]⟩)]) [0] 336 [1, 6, 30, 31, 32, 48] (fun _ => none) rfl (fun Kt hK => by
        cases hg24 : (decide (e21 < 0)) with
        | false =>
         replace hb23 := wA hb23 hg24
         obtain ⟨e22, he22, hb23⟩ := cA hb23
         obtain ⟨he22a, he22b, he22c⟩ := cB he22
         have hqb23 := Option.some.inj hb23
         subst hqb23
         simp (maxSteps := 1000000) only [↓reduceIte, reduceCtorEq, Nat.reduceEqDiff, Nat.reduceLT, Nat.reduceLeDiff, Nat.reduceAdd, Nat.reduceMul, Int.reduceToNat, push_cast, he21a, he21b, he21c, ↓hg24, he22a, he22b, he22c, he22]
         try simp only [↓hg24] at hK
         all_goals exact rU
        | true =>
         replace hb23 := jB hb23 hg24
         have hqb23 := Option.some.inj hb23
         subst hqb23
         simp (maxSteps := 1000000) only [↓reduceIte, reduceCtorEq, Nat.reduceEqDiff, Nat.reduceLT, Nat.reduceLeDiff, Nat.reduceAdd, Nat.reduceMul, Int.reduceToNat, push_cast, he21a, he21b, he21c, ↓hg24]
         try simp only [↓hg24] at hK
         all_goals exact rU) ?_
      refine xI h1 rfl (fun h1 hb25 => ?_) (fun h1 hb25 => ?_)
      ·
       refine nA 360 [2, 3] (fun _ => none) rfl (fun _ _ => rS (rA he21a (rA he21b he21c))) ?_
       refine jA ?_
       obtain rfl := Option.some.inj h1
       refine eC (mA (mA (aD (mA ?_))))
       obtain rfl := Option.some.inj h0
       refine lA [] ?_
       simp (maxSteps := 1000000) only [↓reduceIte, reduceCtorEq, Nat.reduceEqDiff, Nat.reduceLT, Nat.reduceLeDiff, Nat.reduceAdd, Nat.reduceMul, Int.reduceToNat, push_cast, bC, he21a, he21b, he21c]
       all_goals exact rH
      ·
       refine qA (sB (dA ?_))
       refine uB 352 [1, 30, 31, 32] (fun _ => none) rfl (fun _ _ => rS (rA he21a (rA he21b he21c))) ?_
       refine dA ?_
       exact ⟨⟨(fu, (IntKind.i64.wrap (v19 + 1))), h1⟩, ⟨rF, rE, rfl, rfl, trivial, trivial⟩, Nat.lt_succ_self _⟩
     ·
      refine iC (dB (dB (jC ?_)))
      obtain rfl := Option.some.inj h1
      exact ⟨_, rfl, rL, ⟨rF, rE, rfl, rfl, trivial, trivial⟩⟩
theorem zbo {fu : Nat} {vr1 : List (List aA)} {vr2 : List Int} {vr3 : List eA} {vr4 : List Int} {vr5 : Int} {r : aA × Int × Int} (h0 : tP fu vr1 vr2 vr3 vr4 vr5 = some r) : bB Tryz.prog 117 [.pp [.psl 1 (vr1.map (vA 4 aA.enc)), .psl 1 (vr2.map (gA .i64)), .psl 2 (vr3.map eA.enc), .psl 1 (vr4.map (gA .i64)), .int .i64 vr5]] (.tup [.agg (aA.enc r.1), .int .i64 r.2.1, .int .i64 r.2.2]) [] := by
 refine gB Tryz.func117 rfl (by decide) rL ?_
 dsimp only [Tryz.f117]
 rw [tP] at h0
 refine (show pA _ _ _ _ ⟨aB 0 _, [], 0, []⟩ from ?_)
 refine xS 24 [0, 2] ?_
 obtain ⟨vr6, hvr6, h0⟩ := cA h0
 refine nA 128 [0, 2, 5, 7] (fun | 5 => some (.tup [.int .i64 vr6.1, .str vr6.2.1, .int .i64 vr6.2.2], []) | _ => none) rfl (fun _ _ => rC (zc7 hvr6)) ?_
 refine kA ?_
 refine xS 144 [0, 2, 5, 7, 19] ?_
 refine xI h0 rfl (fun h0 hb7 => ?_) (fun h0 hb7 => ?_)
 ·
  refine xS 184 [2, 3, 4] ?_
  refine jA (mA ?_)
  obtain rfl := Option.some.inj h0
  refine lA [] ?_
  exact rG
 ·
  refine qA (dA ?_)
  obtain ⟨e8, he8, h0⟩ := cA h0
  obtain ⟨he8a, he8b, he8c⟩ := cB he8
  obtain ⟨e9, he9, h0⟩ := cA h0
  obtain ⟨he9a, he9b, he9c⟩ := cB he9
  obtain ⟨e10, he10, h0⟩ := cA h0
  obtain ⟨he10a, he10b, he10c⟩ := cB he10
  refine oC 320 [2, 3, 4] (fun _ => none) rfl rfl rfl (fun _ _ => xD (rA he8a (rA he8b (rA he8c (rA he9a (rA he9b (rA he9c (rA he10a (rA he10b he10c))))))))) ?_
  refine jA ?_
  obtain rfl := Option.some.inj h0
  refine lA [] ?_
  simp (maxSteps := 1000000) only [↓reduceIte, reduceCtorEq, Nat.reduceEqDiff, Nat.reduceLT, Nat.reduceLeDiff, Nat.reduceAdd, Nat.reduceMul, Int.reduceToNat, push_cast, bC, he8a, he8b, he8c, he9a, he9b, he9c, he10a, he10b, he10c]
  all_goals exact rH
theorem zb9 {fu : Nat} {vs1 : List eA} {r : List eA} (h0 : kP fu vs1 = some r) : bB Tryz.prog 144 [.psl 2 (vs1.map eA.enc)] (.sl 0 0 2 0 r.length) [⟨0, true, true, 2, r.map eA.enc⟩] := by
 refine gB Tryz.func144 rfl (by decide) rL ?_
 dsimp only [Tryz.f144]
 rw [kP] at h0
 refine (show pA _ _ _ _ ⟨aB 0 _, [], 0, []⟩ from ?_)
 refine xS 8 [0] ?_
 refine kA ?_
 cases hb2 : vs1.isEmpty with
 | true =>
  replace h0 := jB h0 hb2
  obtain rfl : vs1 = [] := List.isEmpty_iff.1 hb2
  refine xS 24 [0, 4] ?_
  refine xU rfl ?_ ?_
  ·
   skip
   refine xS 32 [2] ?_
   refine pB (s2 := ⟨[(2, .sl 32 0 2 0 0)], [(32, ⟨0, true, true, 2, List.map eA.enc []⟩)], 33, []⟩) [(32, 2)] rL ⟨rF, rE, rfl, rfl, trivial, rN⟩ ?_
   refine jA (mA ?_)
   obtain rfl := Option.some.inj h0
   refine lA [32] ?_
   exact rG
  ·
   skip
   refine qA (dA ?_)
   refine xS 56 [2] ?_
   refine xE ⟨[(2, .sl 24 1 2 0 0)], [(24, ⟨1, true, true, 2, List.map eA.enc []⟩)], 56, []⟩ ?_
   refine jA ?_
   obtain rfl := Option.some.inj h0
   refine lA [24] ?_
   exact rG
 | false =>
  replace h0 := wA h0 hb2
  refine nA 24 [0, 4] (fun _ => none) rfl (fun _ _ => rS hb2) ?_
  refine eF rfl ?_
  refine qA (dA ?_)
  obtain ⟨hc3, h0⟩ := mD h0
  refine nA 56 [2] (fun _ => none) rfl (fun _ _ => rS hb2) ?_
  refine xE ⟨[(2, .sl 24 1 2 0 vs1.length)], [(24, ⟨1, true, true, 2, List.map eA.enc vs1⟩)], 56, []⟩ ?_
  refine jA ?_
  obtain rfl := Option.some.inj h0
  refine lA [24] ?_
  simp (maxSteps := 1000000) only [↓reduceIte, reduceCtorEq, Nat.reduceEqDiff, Nat.reduceLT, Nat.reduceLeDiff, Nat.reduceAdd, Nat.reduceMul, Int.reduceToNat, push_cast, bC, hb2]
  all_goals exact rH
theorem zlc {fu : Nat} {keys1 : List eA} {r : eB} (h0 : eS fu keys1 = some r) : bB Tryz.prog 142 [.psl 2 (keys1.map eA.enc)] (.agg [.sl 0 0 2 0 r.Keys.length, .sl 1 0 1 0 r.Lose.length, .int .i64 r.Win]) [⟨0, true, true, 2, r.Keys.map eA.enc⟩, ⟨0, true, true, 1, r.Lose.map (gA .i64)⟩] := by
 refine gB Tryz.func142 rfl (by decide) rL ?_
 dsimp only [Tryz.f142]
 rw [eS] at h0
 refine (show pA _ _ _ _ ⟨aB 0 _, [], 0, []⟩ from ?_)
 refine xS 8 [0, 2] ?_
 refine xS 32 [0, 2, 3] ?_
 obtain ⟨vr2, hvr2, h0⟩ := cA h0
 refine nA 56 [0, 2, 3, 4] (fun | 1 => some (.fn 151 [] [.pp [.psl 2 (vr2.map eA.enc)]], []) | _ => none) rfl (fun _ _ => rC (zaa hvr2)) ?_
 obtain ⟨hc3, h0⟩ := mD h0
 refine xS 88 [0, 2, 3, 4, 5] ?_
 refine xE ⟨[(0, .psl 2 (List.map eA.enc keys1)), (2, .ref 0 0 0 0), (3, .int .i64 (keys1.length : Int)), (4, .fn 151 [] [.pp [.psl 2 (List.map eA.enc vr2)]]), (5, .sl 72 0 1 0 ((List.replicate (IntKind.i64.wrap (2 * (keys1.length : Int))).toNat 0 : List Int).length))], [(0, ⟨0, true, true, 3, [[.nils, .nils, .int .i64 0]]⟩), (72, ⟨0, true, true, 1, List.map (gA .i64) (List.replicate (IntKind.i64.wrap (2 * (keys1.length : Int))).toNat 0 : List Int)⟩)], 88, []⟩ ?_
 obtain ⟨vr4, hvr4, h0⟩ := cA h0
 obtain ⟨hc5, h0⟩ := mD h0
 refine oC 144 [2, 3, 4, 5, 6] (fun | 1 => some (.sl 0 0 2 0 vr4.length, [⟨0, true, true, 2, vr4.map eA.enc⟩]) | _ => none) rfl rfl rfl (fun _ _ => oM (zb9 hvr4)) ?_
 refine xE ⟨[(2, .ref 0 0 0 0), (3, .int .i64 (keys1.length : Int)), (4, .fn 151 [] [.pp [.psl 2 (List.map eA.enc vr2)]]), (5, .sl 72 0 1 0 ((List.replicate (IntKind.i64.wrap (2 * (keys1.length : Int))).toNat 0 : List Int).length)), (6, .ref 128 0 0 0)], [(0, ⟨0, true, true, 3, [[.nils, .nils, .int .i64 0]]⟩), (72, ⟨0, true, true, 1, List.map (gA .i64) (List.replicate (IntKind.i64.wrap (2 * (keys1.length : Int))).toNat 0 : List Int)⟩), (96, ⟨0, true, true, 2, List.map eA.enc vr4⟩), (112, ⟨0, true, true, 1, List.map (gA .i64) (List.replicate keys1.length 0 : List Int)⟩), (128, ⟨0, true, false, 3, [[.sl 96 0 2 0 vr4.length, .sl 112 0 1 0 ((List.replicate keys1.length 0 : List Int).length), .int .i64 0]]⟩)], 144, []⟩ ?_
 refine kA ?_
 refine xS 176 [2, 3, 4, 5, 6, 7] ?_
 obtain ⟨x33, hxx33, h0⟩ := cA h0
 refine pC (fun s' => ∃ g50 : Nat, ∃ g51 : Nat, s'.nx ≤ 192 ∧ LeN [] s' ⟨[(2, .ref 0 0 0 0), (5, .sl 72 g50 1 0 x33.1.length), (6, .ref 128 0 0 0)], [(0, ⟨0, true, true, 3, [[.nils, .nils, .int .i64 0]]⟩), (72, ⟨g50, true, true, 1, List.map (gA .i64) x33.1⟩), (96, ⟨0, true, true, 2, List.map eA.enc vr4⟩), (112, ⟨g51, true, true, 1, List.map (gA .i64) x33.2⟩), (128, ⟨0, true, false, 3, [[.sl 96 0 2 0 vr4.length, .sl 112 g51 1 0 x33.2.length, .int .i64 0]]⟩)], 192, []⟩) ?_ ?_
 ·
  intro s' hs
  obtain ⟨g50, g51, hn, hs⟩ := hs
  refine dA ?_
  refine pB [] hn hs ?_
  obtain ⟨e52, he52, h0⟩ := cA h0
  have he52b := (cB he52).2.1
  have he52c := (oF 1 he52 rfl).1
  have he52a := (oF 1 he52 rfl).2
  refine nA 232 [2, 6] (fun _ => none) rfl (fun _ _ => rS (rA he52a (rA he52b he52c))) ?_
  refine nA 248 [2] (fun _ => none) rfl (fun _ _ => rS (rA he52a (rA he52b he52c))) ?_
  refine jA ?_
  obtain rfl := Option.some.inj h0
  refine lA [96, 112] ?_
  simp (maxSteps := 1000000) only [↓reduceIte, reduceCtorEq, Nat.reduceEqDiff, Nat.reduceLT, Nat.reduceLeDiff, Nat.reduceAdd, Nat.reduceMul, Int.reduceToNat, push_cast, bC, he52a, he52b, he52c]
  all_goals exact rH
 ·
  refine mC (ι := { p : Nat × Int × List Int × List Int × Nat × Nat // fI keys1 vr2 p.1 p.2.1 p.2.2.1 p.2.2.2.1 = some x33 }) (fun p => ⟨[(2, .ref 0 0 0 0), (3, .int .i64 (keys1.length : Int)), (4, .fn 151 [] [.pp [.psl 2 (List.map eA.enc vr2)]]), (5, .sl 72 p.1.2.2.2.2.1 1 0 p.1.2.2.1.length), (6, .ref 128 0 0 0), (7, .int .i64 p.1.2.1)], [(0, ⟨0, true, true, 3, [[.nils, .nils, .int .i64 0]]⟩), (72, ⟨p.1.2.2.2.2.1, true, true, 1, List.map (gA .i64) p.1.2.2.1⟩), (96, ⟨0, true, true, 2, List.map eA.enc vr4⟩), (112, ⟨p.1.2.2.2.2.2, true, true, 1, List.map (gA .i64) p.1.2.2.2.1⟩), (128, ⟨0, true, false, 3, [[.sl 96 0 2 0 vr4.length, .sl 112 p.1.2.2.2.2.2 1 0 p.1.2.2.2.1.length, .int .i64 0]]⟩)], 176, []⟩) (fun p => p.1.1) ⟨(fu, (IntKind.i64.wrap ((IntKind.i64.wrap (2 * (keys1.length : Int))) - 1)), (List.replicate (IntKind.i64.wrap (2 * (keys1.length : Int))).toNat 0 : List Int), (List.replicate keys1.length 0 : List Int), 0, 0), hxx33⟩ ⟨rF, rE, rfl, rfl, trivial, trivial⟩ (fun _ => Nat.le_refl _) ?_
  rintro ⟨⟨fu, i34, players35, v36, g37, g38⟩, h1⟩
  cases fu with
  | zero =>
   replace h1 : fI keys1 vr2 0 i34 players35 v36 = some x33 := h1
   rw [fI] at h1; cases h1
  | succ fu =>
   replace h1 : fI keys1 vr2 (fu + 1) i34 players35 v36 = some x33 := h1
   rw [fI] at h1
   refine (show pA _ _ _ _ ⟨[(2, .ref 0 0 0 0), (3, .int .i64 (keys1.length : Int)), (4, .fn 151 [] [.pp [.psl 2 (List.map eA.enc vr2)]]), (5, .sl 72 g37 1 0 players35.length), (6, .ref 128 0 0 0), (7, .int .i64 i34)], [(0, ⟨0, true, true, 3, [[.nils, .nils, .int .i64 0]]⟩), (72, ⟨g37, true, true, 1, List.map (gA .i64) players35⟩), (96, ⟨0, true, true, 2, List.map eA.enc vr4⟩), (112, ⟨g38, true, true, 1, List.map (gA .i64) v36⟩), (128, ⟨0, true, false, 3, [[.sl 96 0 2 0 vr4.length, .sl 112 g38 1 0 v36.length, .int .i64 0]]⟩)], 176, []⟩ from ?_)
   refine kA ?_
   refine xS 192 [2, 3, 4, 5, 6, 7, 26] ?_
   refine xI h1 rfl (fun h1 hb39 => ?_) (fun h1 hb39 => ?_)
   ·
    refine qA (dA (kA (aC (kA ?_))))
    refine xS 216 [2, 3, 4, 5, 6, 7, 31] ?_
    refine xI h1 rfl (fun h1 hb40 => ?_) (fun h1 hb40 => ?_)
    ·
     obtain ⟨e41, he41, h1⟩ := cA h1
     obtain ⟨he41a, he41b, he41c⟩ := cB he41
     refine nA 272 [2, 3, 4, 5, 6, 7] (fun _ => none) rfl (fun _ _ => rS (rA he41a (rA he41b he41c))) ?_
     refine xE ⟨[(2, .ref 0 0 0 0), (3, .int .i64 (keys1.length : Int)), (4, .fn 151 [] [.pp [.psl 2 (List.map eA.enc vr2)]]), (5, .sl 72 g37 1 0 ((players35.set i34.toNat (IntKind.i64.wrap (i34 - (keys1.length : Int)))).length)), (6, .ref 128 0 0 0), (7, .int .i64 i34)], [(0, ⟨0, true, true, 3, [[.nils, .nils, .int .i64 0]]⟩), (72, ⟨g37, true, true, 1, List.map (gA .i64) (players35.set i34.toNat (IntKind.i64.wrap (i34 - (keys1.length : Int))))⟩), (96, ⟨0, true, true, 2, List.map eA.enc vr4⟩), (112, ⟨g38, true, true, 1, List.map (gA .i64) v36⟩), (128, ⟨0, true, false, 3, [[.sl 96 0 2 0 vr4.length, .sl 112 g38 1 0 v36.length, .int .i64 0]]⟩)], 272, []⟩ ?_
     refine iC (dB (zbE (dA ?_)))
     refine uB 296 [2, 3, 4, 5, 6, 7] (fun _ => none) rfl (fun _ _ => rS (rA he41a (rA he41b he41c))) ?_
     refine dA ?_
     exact ⟨⟨(fu, (IntKind.i64.wrap (i34 - 1)), (players35.set i34.toNat (IntKind.i64.wrap (i34 - (keys1.length : Int)))), v36, g37, g38), h1⟩, ⟨rF, rE, rfl, rfl, trivial, trivial⟩, Nat.lt_succ_self _⟩
    ·
     refine qA (dA ?_)
     obtain ⟨e42, he42, h1⟩ := cA h1
     obtain ⟨he42a, he42b, he42c⟩ := cB he42
     obtain ⟨e43, he43, h1⟩ := cA h1
     obtain ⟨he43a, he43b, he43c⟩ := cB he43
     refine oC 320 [2, 3, 4, 5, 6, 7, 8, 9] (fun _ => none) rfl rfl rfl (fun _ _ => xD (rA he42a (rA he42b (rA he42c (rA he43a (rA he43b he43c)))))) ?_
     refine kA ?_
     obtain ⟨vr44, hvr44, h1⟩ := cA h1
     refine nA 360 [2, 3, 4, 5, 6, 7, 8, 9, 53] (fun | 3 => some (.bool vr44, []) | _ => none) rfl (fun _ _ => rB (rA he42a (rA he42b (rA he42c (rA he43a (rA he43b he43c))))) (zaD hvr44)) ?_
     refine xI h1 rfl (fun h1 hb45 => ?_) (fun h1 hb45 => ?_)
     ·
      refine uB 392 [2, 3, 4, 5, 6, 7, 8, 9] (fun _ => none) rfl (fun _ _ => rS (rA he42a (rA he42b (rA he42c (rA he43a (rA he43b he43c)))))) ?_
      refine dA ?_
      obtain ⟨e46, he46, h1⟩ := cA h1
      obtain ⟨he46a, he46b, he46c⟩ := cB he46
      obtain ⟨e47, he47, h1⟩ := cA h1
      obtain ⟨he47a, he47b, he47c⟩ := cB he47
      refine fG 480 [2, 3, 4, 5, 6, 7] (fun _ => none) rfl rfl rfl (fun _ _ => xD (rA he42a (rA he42b (rA he42c (rA he43a (rA he43b (rA he43c (rA he46a (rA he46b (rA he46c (rA he47a (rA he47b he47c)))))))))))) ?_
      refine sB (dA ?_)
      refine xE ⟨[(2, .ref 0 0 0 0), (3, .int .i64 (keys1.length : Int)), (4, .fn 151 [] [.pp [.psl 2 (List.map eA.enc vr2)]]), (5, .sl 72 g37 1 0 ((players35.set i34.toNat e43).length)), (6, .ref 128 0 0 0), (7, .int .i64 i34)], [(0, ⟨0, true, true, 3, [[.nils, .nils, .int .i64 0]]⟩), (72, ⟨g37, true, true, 1, List.map (gA .i64) (players35.set i34.toNat e43)⟩), (96, ⟨0, true, true, 2, List.map eA.enc vr4⟩), (112, ⟨g38, true, true, 1, List.map (gA .i64) (v36.set i34.toNat e42)⟩), (128, ⟨0, true, false, 3, [[.sl 96 0 2 0 vr4.length, .sl 112 g38 1 0 ((v36.set i34.toNat e42).length), .int .i64 0]]⟩)], 480, []⟩ ?_
      refine uB 504 [2, 3, 4, 5, 6, 7] (fun _ => none) rfl (fun _ _ => rS (rA he42a (rA he42b (rA he42c (rA he43a (rA he43b (rA he43c (rA he46a (rA he46b (rA he46c (rA he47a (rA he47b he47c)))))))))))) ?_
      refine dA ?_
      exact ⟨⟨(fu, (IntKind.i64.wrap (i34 - 1)), (players35.set i34.toNat e43), (v36.set i34.toNat e42), g37, g38), h1⟩, ⟨rF, rE, rfl, rfl, trivial, trivial⟩, Nat.lt_succ_self _⟩
     ·
      refine qA (dA ?_)
      obtain ⟨e48, he48, h1⟩ := cA h1
      obtain ⟨he48a, he48b, he48c⟩ := cB he48
      obtain ⟨e49, he49, h1⟩ := cA h1
      obtain ⟨he49a, he49b, he49c⟩ := cB he49
      refine fG 448 [2, 3, 4, 5, 6, 7] (fun _ => none) rfl rfl rfl (fun _ _ => xD (rA he42a (rA he42b (rA he42c (rA he43a (rA he43b (rA he43c (rA he48a (rA he48b (rA he48c (rA he49a (rA he49b he49c)))))))))))) ?_
      refine sB (dA ?_)
      refine xE ⟨[(2, .ref 0 0 0 0), (3, .int .i64 (keys1.length : Int)), (4, .fn 151 [] [.pp [.psl 2 (List.map eA.enc vr2)]]), (5, .sl 72 g37 1 0 ((players35.set i34.toNat e42).length)), (6, .ref 128 0 0 0), (7, .int .i64 i34)], [(0, ⟨0, true, true, 3, [[.nils, .nils, .int .i64 0]]⟩), (72, ⟨g37, true, true, 1, List.map (gA .i64) (players35.set i34.toNat e42)⟩), (96, ⟨0, true, true, 2, List.map eA.enc vr4⟩), (112, ⟨g38, true, true, 1, List.map (gA .i64) (v36.set i34.toNat e43)⟩), (128, ⟨0, true, false, 3, [[.sl 96 0 2 0 vr4.length, .sl 112 g38 1 0 ((v36.set i34.toNat e43).length), .int .i64 0]]⟩)], 448, []⟩ ?_
      refine uB 472 [2, 3, 4, 5, 6, 7] (fun _ => none) rfl (fun _ _ => rS (rA he42a (rA he42b (rA he42c (rA he43a (rA he43b (rA he43c (rA he48a (rA he48b (rA he48c (rA he49a (rA he49b he49c)))))))))))) ?_
      refine dA ?_
      exact ⟨⟨(fu, (IntKind.i64.wrap (i34 - 1)), (players35.set i34.toNat e42), (v36.set i34.toNat e43), g37, g38), h1⟩, ⟨rF, rE, rfl, rfl, trivial, trivial⟩, Nat.lt_succ_self _⟩
   ·
    refine iC (dB (dB (jC ?_)))
    obtain rfl := Option.some.inj h1
    exact ⟨g37, g38, rL, ⟨rF, rE, rfl, rfl, trivial, trivial⟩⟩
theorem zhQ {fu : Nat} {keys1 : List eA} {r : eB × Int} (h0 : zR fu keys1 = some r) : bB Tryz.prog 127 [.psl 2 (keys1.map eA.enc)] (.tup [.agg [.sl 0 0 2 0 r.1.Keys.length, .sl 1 0 1 0 r.1.Lose.length, .int .i64 r.1.Win], .int .i64 r.2]) [⟨0, true, true, 2, r.1.Keys.map eA.enc⟩, ⟨0, true, true, 1, r.1.Lose.map (gA .i64)⟩] := by
 refine gB Tryz.func127 rfl (by decide) rL ?_
 dsimp only [Tryz.f127]
 rw [zR] at h0
 refine (show pA _ _ _ _ ⟨aB 0 _, [], 0, []⟩ from ?_)
 refine xS 16 [0, 2] ?_
 refine kA ?_
 obtain ⟨vr2, hvr2, h0⟩ := cA h0
 refine nA 40 [0, 2, 4] (fun | 1 => some (.int .i64 vr2, []) | _ => none) rfl (fun _ _ => rC (eX hvr2)) ?_
 refine xS 56 [0, 2, 4, 8] ?_
 refine xI h0 rfl (fun h0 hb3 => ?_) (fun h0 hb3 => ?_)
 ·
  refine xS 88 [2, 3] ?_
  refine pB (s2 := ⟨[(2, .ref 0 0 0 0), (3, .int .i64 vr2)], [(0, ⟨0, true, false, 3, [[.sl 88 0 2 0 0, .sl 89 0 1 0 0, .int .i64 0]]⟩), (88, ⟨0, true, true, 2, List.map eA.enc []⟩), (89, ⟨0, true, true, 1, List.map (gA .i64) []⟩)], 90, []⟩) [(88, 2), (89, 1)] rL ⟨rF, rE, rfl, rfl, trivial, rN⟩ ?_
  refine jA (mA ?_)
  obtain rfl := Option.some.inj h0
  refine lA [88, 89] ?_
  exact rG
 ·
  refine qA (dA ?_)
  obtain ⟨vr4, hvr4, h0⟩ := cA h0
  refine nA 88 [2, 3] (fun | 1 => some (.agg [.sl 0 0 2 0 vr4.Keys.length, .sl 1 0 1 0 vr4.Lose.length, .int .i64 vr4.Win], [⟨0, true, true, 2, vr4.Keys.map eA.enc⟩, ⟨0, true, true, 1, vr4.Lose.map (gA .i64)⟩]) | _ => none) rfl (fun _ _ => rC (zlc hvr4)) ?_
  refine jA ?_
  obtain rfl := Option.some.inj h0
  refine lA [64, 65] ?_
  exact rG
theorem zjF {fu : Nat} {runs1 : List (List aA)} {vat2 : List Int} {r : eB} (h0 : fR fu runs1 vat2 = some r) : bB Tryz.prog 108 [.psl 1 (runs1.map (vA 4 aA.enc)), .psl 1 (vat2.map (gA .i64))] (.agg [.sl 0 0 2 0 r.Keys.length, .sl 1 0 1 0 r.Lose.length, .int .i64 r.Win]) [⟨0, true, true, 2, r.Keys.map eA.enc⟩, ⟨0, true, true, 1, r.Lose.map (gA .i64)⟩] := by
 refine gB Tryz.func108 rfl (by decide) rL ?_
 dsimp only [Tryz.f108]
 rw [fR] at h0
 refine (show pA _ _ _ _ ⟨aB 0 _, [], 0, []⟩ from ?_)
 refine xS 8 [0, 1, 4] ?_
 obtain ⟨hc3, h0⟩ := mD h0
 refine xS 40 [0, 1, 4, 5] ?_
 refine xE ⟨[(0, .psl 1 (List.map (vA 4 aA.enc) runs1)), (1, .psl 1 (List.map (gA .i64) vat2)), (4, .ref 0 0 0 0), (5, .sl 24 0 2 0 ((List.replicate runs1.length (eA.mk [] false) : List eA).length))], [(0, ⟨0, true, true, 3, [[.nils, .nils, .int .i64 0]]⟩), (24, ⟨0, true, true, 2, List.map eA.enc (List.replicate runs1.length (eA.mk [] false) : List eA)⟩)], 40, []⟩ ?_
 refine kA ?_
 refine xS 64 [1, 4, 5, 13, 14, 15] ?_
 obtain ⟨x17, hxx17, h0⟩ := cA h0
 refine pC (fun s' => ∃ g26 : Nat, s'.nx ≤ 72 ∧ LeN [] s' ⟨[(4, .ref 0 0 0 0), (5, .sl 24 g26 2 0 x17.length)], [(0, ⟨0, true, true, 3, [[.nils, .nils, .int .i64 0]]⟩), (24, ⟨g26, true, true, 2, List.map eA.enc x17⟩)], 72, []⟩) ?_ ?_
 ·
  intro s' hs
  obtain ⟨g26, hn, hs⟩ := hs
  refine dA ?_
  refine pB [] hn hs ?_
  obtain ⟨vr27, hvr27, h0⟩ := cA h0
  refine nA 136 [4, 8] (fun | 1 => some (.tup [.agg [.sl 0 0 2 0 vr27.1.Keys.length, .sl 1 0 1 0 vr27.1.Lose.length, .int .i64 vr27.1.Win], .int .i64 vr27.2], [⟨0, true, true, 2, vr27.1.Keys.map eA.enc⟩, ⟨0, true, true, 1, vr27.1.Lose.map (gA .i64)⟩]) | _ => none) rfl (fun _ _ => rC (zhQ hvr27)) ?_
  refine xS 152 [4] ?_
  refine jA ?_
  obtain rfl := Option.some.inj h0
  refine lA [80, 81] ?_
  exact rG
 ·
  refine mC (ι := { p : Nat × Int × List eA × Nat // pJ runs1 vat2 p.1 p.2.1 p.2.2.1 = some x17 }) (fun p => ⟨[(1, .psl 1 (List.map (gA .i64) vat2)), (4, .ref 0 0 0 0), (5, .sl 24 p.1.2.2.2 2 0 p.1.2.2.1.length), (13, .psl 1 (List.map (vA 4 aA.enc) runs1)), (14, .int .i64 (runs1.length : Int)), (15, .int .i64 p.1.2.1)], [(0, ⟨0, true, true, 3, [[.nils, .nils, .int .i64 0]]⟩), (24, ⟨p.1.2.2.2, true, true, 2, List.map eA.enc p.1.2.2.1⟩)], 64, []⟩) (fun p => p.1.1) ⟨(fu, 0, (List.replicate runs1.length (eA.mk [] false) : List eA), 0), hxx17⟩ ⟨rF, rE, rfl, rfl, trivial, trivial⟩ (fun _ => Nat.le_refl _) ?_
  rintro ⟨⟨fu, v18, keys19, g20⟩, h1⟩
  cases fu with
  | zero =>
   replace h1 : pJ runs1 vat2 0 v18 keys19 = some x17 := h1
   rw [pJ] at h1; cases h1
  | succ fu =>
   replace h1 : pJ runs1 vat2 (fu + 1) v18 keys19 = some x17 := h1
   rw [pJ] at h1
   refine (show pA _ _ _ _ ⟨[(1, .psl 1 (List.map (gA .i64) vat2)), (4, .ref 0 0 0 0), (5, .sl 24 g20 2 0 keys19.length), (13, .psl 1 (List.map (vA 4 aA.enc) runs1)), (14, .int .i64 (runs1.length : Int)), (15, .int .i64 v18)], [(0, ⟨0, true, true, 3, [[.nils, .nils, .int .i64 0]]⟩), (24, ⟨g20, true, true, 2, List.map eA.enc keys19⟩)], 64, []⟩ from ?_)
   refine xS 72 [1, 4, 5, 13, 14, 15, 16] ?_
   refine kA ?_
   refine xI h1 rfl (fun h1 hb21 => ?_) (fun h1 hb21 => ?_)
   ·
    refine qA (dA (kA (aC ?_)))
    obtain ⟨e22, he22, h1⟩ := cA h1
    obtain ⟨he22a, he22b, he22c⟩ := cB he22
    refine nA 112 [1, 4, 5, 6, 7, 13, 14, 15] (fun _ => none) rfl (fun _ _ => rS (rA he22a (rA he22b he22c))) ?_
    obtain ⟨e23, he23, h1⟩ := cA h1
    obtain ⟨he23a, he23b, he23c⟩ := cB he23
    obtain ⟨vr24, hvr24, h1⟩ := cA h1
    obtain ⟨e25, he25, h1⟩ := cA h1
    obtain ⟨he25a, he25b, he25c⟩ := cB he25
    refine uB 192 [1, 4, 5, 13, 14, 15] (fun | 7 => some (.agg (eA.enc vr24), []) | _ => none) rfl (fun _ _ => rB (rA he22a (rA he22b (rA he22c (rA he23a (rA he23b (rA he23c (rA he25a (rA he25b he25c)))))))) (dX hvr24)) ?_
    refine sB (dA ?_)
    refine xE ⟨[(1, .psl 1 (List.map (gA .i64) vat2)), (4, .ref 0 0 0 0), (5, .sl 24 g20 2 0 ((keys19.set v18.toNat vr24).length)), (13, .psl 1 (List.map (vA 4 aA.enc) runs1)), (14, .int .i64 (runs1.length : Int)), (15, .int .i64 v18)], [(0, ⟨0, true, true, 3, [[.nils, .nils, .int .i64 0]]⟩), (24, ⟨g20, true, true, 2, List.map eA.enc (keys19.set v18.toNat vr24)⟩)], 192, []⟩ ?_
    refine uB 208 [1, 4, 5, 13, 14, 15] (fun _ => none) rfl (fun _ _ => rS (rA he22a (rA he22b (rA he22c (rA he23a (rA he23b (rA he23c (rA he25a (rA he25b he25c))))))))) ?_
    refine dA ?_
    exact ⟨⟨(fu, (IntKind.i64.wrap (v18 + 1)), (keys19.set v18.toNat vr24), g20), h1⟩, ⟨rF, rE, rfl, rfl, trivial, trivial⟩, Nat.lt_succ_self _⟩
   ·
    refine iC (dB (dB (jC ?_)))
    obtain rfl := Option.some.inj h1
    exact ⟨g20, rL, ⟨rF, rE, rfl, rfl, trivial, trivial⟩⟩
theorem zmE {fu : Nat} {runs1 : List (List aA)} {r : kB × Int × Int} (h0 : sR fu runs1 = some r) : bB Tryz.prog 99 [.psl 1 (runs1.map (vA 4 aA.enc))] (.tup [.agg [.psl 1 (List.map (vA 4 aA.enc) r.1.Runs), .sl 0 0 1 0 r.1.At.length, .psl 2 (List.map eA.enc r.1.Tree.Keys), .psl 1 (List.map (gA .i64) r.1.Tree.Lose), .int .i64 r.1.Tree.Win], .int .i64 r.2.1, .int .i64 r.2.2]) [⟨0, true, true, 1, r.1.At.map (gA .i64)⟩] := by
 refine gB Tryz.func99 rfl (by decide) rL ?_
 dsimp only [Tryz.f99]
 rw [sR] at h0
 refine (show pA _ _ _ _ ⟨aB 0 _, [], 0, []⟩ from ?_)
 refine xS 24 [0, 2] ?_
 refine kA ?_
 obtain ⟨vr2, hvr2, h0⟩ := cA h0
 refine nA 80 [0, 2, 5, 6] (fun | 1 => some (.tup [.int .i64 vr2.1, .int .i64 vr2.2], []) | _ => none) rfl (fun _ _ => rC (zaQ hvr2)) ?_
 refine xS 96 [0, 2, 5, 6, 14] ?_
 refine xI h0 rfl (fun h0 hb3 => ?_) (fun h0 hb3 => ?_)
 ·
  refine xS 144 [2, 3, 4] ?_
  refine pB (s2 := ⟨[(2, .ref 0 0 0 0), (3, .int .i64 vr2.1), (4, .int .i64 vr2.2)], [(0, ⟨0, true, false, 5, [[.nils, .sl 144 0 1 0 0, .nils, .nils, .int .i64 0]]⟩), (144, ⟨0, true, true, 1, List.map (gA .i64) []⟩)], 145, []⟩) [(144, 1)] rL ⟨rF, rE, rfl, rfl, trivial, rN⟩ ?_
  refine jA (mA ?_)
  obtain rfl := Option.some.inj h0
  refine lA [144] ?_
  exact rG
 ·
  refine qA (dA ?_)
  obtain ⟨hc4, h0⟩ := mD h0
  refine xS 128 [0, 2, 7] ?_
  refine xE ⟨[(0, .psl 1 (List.map (vA 4 aA.enc) runs1)), (2, .ref 0 0 0 0), (7, .sl 112 0 1 0 ((List.replicate runs1.length 0 : List Int).length))], [(0, ⟨0, true, true, 5, [[.nils, .nils, .nils, .nils, .int .i64 0]]⟩), (112, ⟨0, true, true, 1, List.map (gA .i64) (List.replicate runs1.length 0 : List Int)⟩)], 128, []⟩ ?_
  obtain ⟨vr5, hvr5, h0⟩ := cA h0
  obtain ⟨vr6, hvr6, h0⟩ := cA h0
  refine nA 208 [2, 3, 4] (fun | 1 => some (.psl 1 (vr5.map (vA 4 aA.enc)), []) | 5 => some (.agg [.sl 0 0 2 0 vr6.Keys.length, .sl 1 0 1 0 vr6.Lose.length, .int .i64 vr6.Win], [⟨0, true, true, 2, vr6.Keys.map eA.enc⟩, ⟨0, true, true, 1, vr6.Lose.map (gA .i64)⟩]) | _ => none) rfl (fun Kt hK => by
    try have q0 := zaI hvr5
    try have q1 := zjF hvr6
    exact rT) ?_
  refine jA ?_
  obtain rfl := Option.some.inj h0
  refine lA [112] ?_
  exact rG
theorem zdq {fu : Nat} {vs1 : List Int} {r : List Int} (h0 : aQ fu vs1 = some r) : bB Tryz.prog 132 [.psl 1 (vs1.map (gA .i64))] (.sl 0 0 1 0 r.length) [⟨0, true, true, 1, r.map (gA .i64)⟩] := by
 refine gB Tryz.func132 rfl (by decide) rL ?_
 dsimp only [Tryz.f132]
 rw [aQ] at h0
 refine (show pA _ _ _ _ ⟨aB 0 _, [], 0, []⟩ from ?_)
 refine xS 8 [0] ?_
 refine kA ?_
 cases hb2 : vs1.isEmpty with
 | true =>
  replace h0 := jB h0 hb2
  obtain rfl : vs1 = [] := List.isEmpty_iff.1 hb2
  refine xS 24 [0, 4] ?_
  refine xU rfl ?_ ?_
  ·
   skip
   refine xS 32 [2] ?_
   refine pB (s2 := ⟨[(2, .sl 32 0 1 0 0)], [(32, ⟨0, true, true, 1, List.map (gA .i64) []⟩)], 33, []⟩) [(32, 1)] rL ⟨rF, rE, rfl, rfl, trivial, rN⟩ ?_
   refine jA (mA ?_)
   obtain rfl := Option.some.inj h0
   refine lA [32] ?_
   exact rG
  ·
   skip
   refine qA (dA ?_)
   refine xS 56 [2] ?_
   refine xE ⟨[(2, .sl 24 1 1 0 0)], [(24, ⟨1, true, true, 1, List.map (gA .i64) []⟩)], 56, []⟩ ?_
   refine jA ?_
   obtain rfl := Option.some.inj h0
   refine lA [24] ?_
   exact rG
 | false =>
  replace h0 := wA h0 hb2
  refine nA 24 [0, 4] (fun _ => none) rfl (fun _ _ => rS hb2) ?_
  refine eF rfl ?_
  refine qA (dA ?_)
  obtain ⟨hc3, h0⟩ := mD h0
  refine nA 56 [2] (fun _ => none) rfl (fun _ _ => rS hb2) ?_
  refine xE ⟨[(2, .sl 24 1 1 0 vs1.length)], [(24, ⟨1, true, true, 1, List.map (gA .i64) vs1⟩)], 56, []⟩ ?_
  refine jA ?_
  obtain rfl := Option.some.inj h0
  refine lA [24] ?_
  simp (maxSteps := 1000000) only [↓reduceIte, reduceCtorEq, Nat.reduceEqDiff, Nat.reduceLT, Nat.reduceLeDiff, Nat.reduceAdd, Nat.reduceMul, Int.reduceToNat, push_cast, bC, hb2]
  all_goals exact rH
theorem zcq {fu : Nat} {t1 : eB} {k2 : eA} {r : eB × Int × Int} (h0 : xP fu t1 k2 = some r) : bB Tryz.prog 133 [.agg (eB.enc t1), .agg (eA.enc k2)] (.tup [.agg (eB.enc r.1), .int .i64 r.2.1, .int .i64 r.2.2]) [] := by
 refine gB Tryz.func133 rfl (by decide) rL ?_
 dsimp only [Tryz.f133]
 rw [xP] at h0
 refine (show pA _ _ _ _ ⟨aB 0 _, [], 0, []⟩ from ?_)
 refine xS 40 [2, 3, 4, 5] ?_
 refine zg9 (kA ?_)
 obtain ⟨vr3, hvr3, h0⟩ := cA h0
 refine nA 64 [2, 3, 4, 5, 7] (fun | 1 => some (.int .i64 vr3, []) | _ => none) rfl (fun _ _ => rC (zbX hvr3)) ?_
 refine xS 80 [2, 3, 4, 5, 7, 14] ?_
 refine xI h0 rfl (fun h0 hb4 => ?_) (fun h0 hb4 => ?_)
 ·
  refine xS 120 [4, 5, 6] ?_
  refine jA (mA (dW ?_))
  obtain rfl := Option.some.inj h0
  refine lA [] ?_
  exact rG
 ·
  refine qA (dA (kA ?_))
  obtain ⟨vr5, hvr5, h0⟩ := cA h0
  refine nA 112 [2, 3, 4, 5, 8] (fun | 2 => some (.int .i64 vr5, []) | _ => none) rfl (fun _ _ => rC (eX hvr5)) ?_
  refine xE ⟨[(2, .ref 0 0 0 0), (3, .ref 8 0 0 0), (4, .ref 16 0 0 0), (5, .int .i64 0), (8, .int .i64 vr5)], [(0, ⟨0, true, true, 3, [[.psl 2 (List.map eA.enc t1.Keys), .psl 1 (List.map (gA .i64) t1.Lose), .int .i64 t1.Win]]⟩), (8, ⟨0, true, true, 2, [[.str k2.Key, .bool k2.Done]]⟩), (16, ⟨0, true, true, 3, [[.nils, .nils, .int .i64 0]]⟩)], 112, []⟩ ?_
  refine xS 128 [2, 3, 4, 5, 8, 21] ?_
  refine xI h0 rfl (fun h0 hb6 => ?_) (fun h0 hb6 => ?_)
  ·
   refine xS 168 [4, 5, 6] ?_
   refine jA (mA (dW ?_))
   obtain rfl := Option.some.inj h0
   refine lA [] ?_
   exact rG
  ·
   refine qA (dA (kA ?_))
   obtain ⟨b8, hb8, h0⟩ := cA h0
   refine yR (fr' := [(2, .ref 0 0 0 0), (3, .ref 8 0 0 0), (4, .ref 16 0 0 0), (5, .int .i64 0), (38, .bool b8)]) (hp' := [(0, ⟨0, true, true, 3, [[.psl 2 (List.map eA.enc t1.Keys), .psl 1 (List.map (gA .i64) t1.Lose), .int .i64 t1.Win]]⟩), (8, ⟨0, true, true, 2, [[.str k2.Key, .bool k2.Done]]⟩), (16, ⟨0, true, true, 3, [[.nils, .nils, .int .i64 0]]⟩)]) [0, 8, 16] 248 [2, 3, 4, 5, 38] (fun _ => none) rfl rfl rfl (fun Kt hK => by
     cases hg9 : (!k2.Done) with
     | false =>
      replace hb8 := wA hb8 hg9
      have hqb8 := Option.some.inj hb8
      subst hqb8
      simp (maxSteps := 1000000) only [↓reduceIte, reduceCtorEq, Nat.reduceEqDiff, Nat.reduceLT, Nat.reduceLeDiff, Nat.reduceAdd, Nat.reduceMul, Int.reduceToNat, push_cast, ↓hg9]
      try simp only [↓hg9] at hK
      all_goals exact nH
     | true =>
      replace hb8 := jB hb8 hg9
      obtain ⟨e7, he7, hb8⟩ := cA hb8
      obtain ⟨he7a, he7b, he7c⟩ := cB he7
      have hqb8 := Option.some.inj hb8
      subst hqb8
      simp (maxSteps := 1000000) only [↓reduceIte, reduceCtorEq, Nat.reduceEqDiff, Nat.reduceLT, Nat.reduceLeDiff, Nat.reduceAdd, Nat.reduceMul, Int.reduceToNat, push_cast, ↓hg9, he7a, he7b, he7c, he7]
      try simp only [↓hg9] at hK
      all_goals exact nH) ?_
   refine xI h0 rfl (fun h0 hb10 => ?_) (fun h0 hb10 => ?_)
   ·
    refine xS 280 [4, 5, 6] ?_
    refine jA (mA (dW ?_))
    obtain rfl := Option.some.inj h0
    refine lA [] ?_
    exact rG
   ·
    refine qA (dA ?_)
    obtain ⟨vr11, hvr11, h0⟩ := cA h0
    obtain ⟨vr12, hvr12, h0⟩ := cA h0
    refine oC 328 [3, 4, 5] (fun | 2 => some (.sl 0 0 2 0 vr11.length, [⟨0, true, true, 2, vr11.map eA.enc⟩]) | 5 => some (.sl 0 0 1 0 vr12.length, [⟨0, true, true, 1, vr12.map (gA .i64)⟩]) | _ => none) rfl rfl rfl (fun Kt hK => by
      try have q0 := zb9 hvr11
      try have q1 := zdq hvr12
      exact jF) ?_
    obtain ⟨e13, he13, h0⟩ := cA h0
    obtain ⟨he13a, he13b, he13c⟩ := cB he13
    refine nA 384 [4, 5] (fun _ => none) rfl (fun _ _ => rS (rA he13a (rA he13b he13c))) ?_
    refine xE ⟨[(4, .ref 16 0 0 0), (5, .int .i64 0)], [(16, ⟨0, true, false, 3, [[.sl 264 0 2 0 ((vr11.set t1.Win.toNat k2).length), .sl 288 0 1 0 vr12.length, .int .i64 t1.Win]]⟩), (264, ⟨0, true, true, 2, List.map eA.enc (vr11.set t1.Win.toNat k2)⟩), (288, ⟨0, true, true, 1, List.map (gA .i64) vr12⟩)], 384, []⟩ ?_
    obtain ⟨vr14, hvr14, h0⟩ := cA h0
    refine nA 416 [4, 5, 9] (fun | 2 => some (.fn 151 [] [.pp [.psl 2 (vr14.map eA.enc)]], []) | _ => none) rfl (fun _ _ => rB (rA he13a (rA he13b he13c)) (zaa hvr14)) ?_
    refine nA 472 [4, 5, 9, 10] (fun _ => none) rfl (fun _ _ => rS (rA he13a (rA he13b he13c))) ?_
    refine kA ?_
    refine zdk ?_
    refine dA ?_
    obtain ⟨x28, hxx28, h0⟩ := cA h0
    refine zcO (fun s' => ∃ g38 : Nat, s'.nx ≤ 512 ∧ LeN [] s' ⟨[(4, .ref 16 0 0 0), (5, .int .i64 x28.1)], [(16, ⟨0, true, false, 3, [[.sl 264 0 2 0 ((vr11.set t1.Win.toNat k2).length), .sl 288 g38 1 0 x28.2.2.length, .int .i64 x28.2.1]]⟩), (264, ⟨0, false, true, 2, List.map eA.enc (vr11.set t1.Win.toNat k2)⟩), (288, ⟨g38, true, true, 1, List.map (gA .i64) x28.2.2⟩)], 512, []⟩) ?_ ?_
    ·
     intro s' hs
     obtain ⟨g38, hn, hs⟩ := hs
     refine pB [] hn hs ?_
     refine nA 552 [4, 5, 6] (fun _ => none) rfl (fun _ _ => rS (rA he13a (rA he13b he13c))) ?_
     refine jA (dW ?_)
     obtain rfl := Option.some.inj h0
     refine lA [] ?_
     simp (maxSteps := 1000000) only [↓reduceIte, reduceCtorEq, Nat.reduceEqDiff, Nat.reduceLT, Nat.reduceLeDiff, Nat.reduceAdd, Nat.reduceMul, Int.reduceToNat, push_cast, bC, he13a, he13b, he13c]
     all_goals exact rH
    ·
     refine mC (ι := { p : Nat × Int × Int × Int × List Int × Nat // hI vr14 p.1 p.2.1 p.2.2.1 p.2.2.2.1 p.2.2.2.2.1 = some x28 }) (fun p => ⟨[(4, .ref 16 0 0 0), (5, .int .i64 p.1.2.1), (9, .fn 151 [] [.pp [.psl 2 (List.map eA.enc vr14)]]), (10, .int .i64 p.1.2.2.1)], [(16, ⟨0, true, false, 3, [[.sl 264 0 2 0 ((vr11.set t1.Win.toNat k2).length), .sl 288 p.1.2.2.2.2.2 1 0 p.1.2.2.2.2.1.length, .int .i64 p.1.2.2.2.1]]⟩), (264, ⟨0, false, true, 2, List.map eA.enc (vr11.set t1.Win.toNat k2)⟩), (288, ⟨p.1.2.2.2.2.2, true, true, 1, List.map (gA .i64) p.1.2.2.2.2.1⟩)], 472, []⟩) (fun p => p.1.1) ⟨(fu, 0, (IntKind.i64.wrap (((vr11.set t1.Win.toNat k2).length : Int) + t1.Win)), t1.Win, vr12, 0), hxx28⟩ ⟨rF, rE, rfl, rfl, trivial, trivial⟩ (fun _ => Nat.le_refl _) ?_
     rintro ⟨⟨fu, games29, node30, u31, v32, g33⟩, h1⟩
     cases fu with
     | zero =>
   replace h1 : hI vr14 0 games29 node30 u31 v32 = some x28 := h1
   rw [hI] at h1; cases h1
     | succ fu =>
      replace h1 : hI vr14 (fu + 1) games29 node30 u31 v32 = some x28 := h1
      rw [hI] at h1
      refine (show pA _ _ _ _ ⟨[(4, .ref 16 0 0 0), (5, .int .i64 games29), (9, .fn 151 [] [.pp [.psl 2 (List.map eA.enc vr14)]]), (10, .int .i64 node30)], [(16, ⟨0, true, false, 3, [[.sl 264 0 2 0 ((vr11.set t1.Win.toNat k2).length), .sl 288 g33 1 0 v32.length, .int .i64 u31]]⟩), (264, ⟨0, false, true, 2, List.map eA.enc (vr11.set t1.Win.toNat k2)⟩), (288, ⟨g33, true, true, 1, List.map (gA .i64) v32⟩)], 472, []⟩ from ?_)
      refine aC ?_
      refine nA 496 [4, 5, 9, 10] (fun _ => none) rfl (fun _ _ => rS (rA he13a (rA he13b he13c))) ?_
      refine kA ?_
      refine nA 512 [4, 5, 9, 10, 67] (fun _ => none) rfl (fun _ _ => rS (rA he13a (rA he13b he13c))) ?_
      refine xI h1 rfl (fun h1 hb34 => ?_) (fun h1 hb34 => ?_)
      ·
       refine iC (dB (vO (by decide) (dB (jC ?_))))
       obtain rfl := Option.some.inj h1
       exact ⟨g33, rL, ⟨rF, rE, rfl, rfl, trivial, trivial⟩⟩
      ·
       refine qA (dA ?_)
       refine nA 536 [4, 5, 9, 10] (fun _ => none) rfl (fun _ _ => rS (rA he13a (rA he13b he13c))) ?_
       obtain ⟨e35, he35, h1⟩ := cA h1
       obtain ⟨he35a, he35b, he35c⟩ := cB he35
       obtain ⟨vr36, hvr36, h1⟩ := cA h1
       refine oC 608 [4, 5, 9, 10, 78] (fun | 8 => some (.bool vr36, []) | _ => none) rfl rfl rfl (fun _ _ => oL (rA he13a (rA he13b (rA he13c (rA he35a (rA he35b he35c))))) (zaD hvr36)) ?_
       refine xI h1 rfl (fun h1 hb37 => ?_) (fun h1 hb37 => ?_)
       ·
        refine fG 720 [4, 5, 9, 10] (fun _ => none) rfl rfl rfl (fun _ _ => xD (rA he13a (rA he13b (rA he13c (rA he35a (rA he35b he35c)))))) ?_
        refine sB (dA ?_)
        exact ⟨⟨(fu, (IntKind.i64.wrap (games29 + 1)), (IntKind.i64.wrap (node30.tdiv 2)), e35, (v32.set ((IntKind.i64.wrap (node30.tdiv 2)).toNat) u31), g33), h1⟩, ⟨rF, rE, rfl, rfl, trivial, trivial⟩, Nat.lt_succ_self _⟩
       ·
        refine qA (sB (dA ?_))
        exact ⟨⟨(fu, (IntKind.i64.wrap (games29 + 1)), (IntKind.i64.wrap (node30.tdiv 2)), u31, v32, g33), h1⟩, ⟨rF, rE, rfl, rfl, trivial, trivial⟩, Nat.lt_succ_self _⟩
theorem zmJ {fu : Nat} {runs1 : List (List aA)} {r : List aA × List Int × Int} (h0 : cR fu runs1 = some r) : bB Tryz.prog 85 [.psl 1 (runs1.map (vA 4 aA.enc))] (.tup [.psl 4 (r.1.map aA.enc), .psl 1 (r.2.1.map (gA .i64)), .int .i64 r.2.2]) [] := by
 refine gB Tryz.func85 rfl (by decide) rL ?_
 dsimp only [Tryz.f85]
 rw [cR] at h0
 refine (show pA _ _ _ _ ⟨aB 0 _, [], 0, []⟩ from ?_)
 refine xS 24 [0, 2, 3] ?_
 obtain ⟨vr2, hvr2, h0⟩ := cA h0
 refine nA 104 [2, 3, 4, 5] (fun | 1 => some (.tup [.agg [.psl 1 (List.map (vA 4 aA.enc) vr2.1.Runs), .sl 0 0 1 0 vr2.1.At.length, .psl 2 (List.map eA.enc vr2.1.Tree.Keys), .psl 1 (List.map (gA .i64) vr2.1.Tree.Lose), .int .i64 vr2.1.Tree.Win], .int .i64 vr2.2.1, .int .i64 vr2.2.2], [⟨0, true, true, 1, vr2.1.At.map (gA .i64)⟩]) | _ => none) rfl (fun _ _ => rC (zmE hvr2)) ?_
 refine kA ?_
 refine xS 120 [2, 3, 4, 5, 17] ?_
 refine xI h0 rfl (fun h0 hb3 => ?_) (fun h0 hb3 => ?_)
 ·
  refine xS 152 [2, 3, 4] ?_
  refine jA (mA ?_)
  obtain rfl := Option.some.inj h0
  refine lA [] ?_
  exact rG
 ·
  refine qA (dA ?_)
  refine xS 152 [2, 3, 4, 7] ?_
  refine kA ?_
  refine uG 2 rfl ?_
  refine gC (l' := List.range' 0 1 ++ (1 :: (List.range' 2 0 ++ []))) rfl ?_
  refine kC 0 1 160 (1 :: (List.range' 2 0 ++ [])) (fun _ => none) rfl rfl rfl (fun _ _ => rT) ?_
  refine sI rfl rfl rfl rfl rfl Tryz.func113 rfl (by decide) rfl rL ?_
  dsimp only [Tryz.f113]
  refine xE ⟨[(0, .ref 136 0 0 0)], [(0, ⟨0, true, true, 1, [[.nils]]⟩), (8, ⟨0, true, true, 1, [[.nils]]⟩), (32, ⟨0, true, true, 1, List.map (gA .i64) vr2.1.At⟩), (72, ⟨0, true, false, 5, [[.psl 1 (List.map (vA 4 aA.enc) vr2.1.Runs), .sl 32 0 1 0 vr2.1.At.length, .psl 2 (List.map eA.enc vr2.1.Tree.Keys), .psl 1 (List.map (gA .i64) vr2.1.Tree.Lose), .int .i64 vr2.1.Tree.Win]]⟩), (136, ⟨0, true, false, 5, [[.psl 1 (List.map (vA 4 aA.enc) vr2.1.Runs), .sl 32 0 1 0 vr2.1.At.length, .psl 2 (List.map eA.enc vr2.1.Tree.Keys), .psl 1 (List.map (gA .i64) vr2.1.Tree.Lose), .int .i64 vr2.1.Tree.Win]]⟩)], 160, []⟩ ?_
  refine xS 176 [1] ?_
  refine xS 192 [2] ?_
  refine jA ?_
  refine cE (fun _ _ => rT) ?_
  refine xF ⟨[(2, .ref 0 0 0 0), (3, .ref 8 0 0 0), (4, .int .i64 vr2.2.2), (7, .ref 136 0 0 0), (22, .ref 136 0 0 0), (23, .fn 131 [] [.ref 160 0 0 0])], [(0, ⟨0, true, true, 1, [[.nils]]⟩), (8, ⟨0, true, true, 1, [[.nils]]⟩), (32, ⟨0, true, true, 1, List.map (gA .i64) vr2.1.At⟩), (136, ⟨0, true, false, 5, [[.psl 1 (List.map (vA 4 aA.enc) vr2.1.Runs), .sl 32 0 1 0 vr2.1.At.length, .psl 2 (List.map eA.enc vr2.1.Tree.Keys), .psl 1 (List.map (gA .i64) vr2.1.Tree.Lose), .int .i64 vr2.1.Tree.Win]]⟩), (160, ⟨0, true, false, 1, [[.ref 136 0 0 0]]⟩)], 192, []⟩ ?_
  refine gC (l' := []) rfl ?_
  refine zC ?_
  refine dA ?_
  refine xE ⟨[(2, .ref 0 0 0 0), (3, .ref 8 0 0 0), (4, .int .i64 vr2.2.2), (23, .fn 131 [] [.ref 160 0 0 0])], [(0, ⟨0, true, true, 1, [[.nils]]⟩), (8, ⟨0, true, true, 1, [[.nils]]⟩), (32, ⟨0, true, true, 1, List.map (gA .i64) vr2.1.At⟩), (136, ⟨0, true, false, 5, [[.psl 1 (List.map (vA 4 aA.enc) vr2.1.Runs), .sl 32 0 1 0 vr2.1.At.length, .psl 2 (List.map eA.enc vr2.1.Tree.Keys), .psl 1 (List.map (gA .i64) vr2.1.Tree.Lose), .int .i64 vr2.1.Tree.Win]]⟩), (160, ⟨0, true, false, 1, [[.ref 136 0 0 0]]⟩)], 192, []⟩ ?_
  refine aC ?_
  refine zaj rfl Tryz.func131 rfl (by decide) rL ?_
  intro RC4 hRC4
  have stRC4 : RC4.st = .ready ∧ RC4.pend = none := by rw [hRC4]; exact ⟨rfl, rfl⟩
  have okRC4 : gW 192 RC4 := by rw [hRC4]; exact And.intro (rR) rfl
  dsimp only [Tryz.f131]
  refine pB (s2 := ⟨[(0, .yld 192), (1, .ref 160 0 0 0)], [(0, ⟨0, true, true, 1, [[.nils]]⟩), (8, ⟨0, true, true, 1, [[.nils]]⟩), (32, ⟨0, true, true, 1, List.map (gA .i64) vr2.1.At⟩), (136, ⟨0, true, false, 5, [[.psl 1 (List.map (vA 4 aA.enc) vr2.1.Runs), .sl 32 0 1 0 vr2.1.At.length, .psl 2 (List.map eA.enc vr2.1.Tree.Keys), .psl 1 (List.map (gA .i64) vr2.1.Tree.Lose), .int .i64 vr2.1.Tree.Win]]⟩), (160, ⟨0, true, false, 1, [[.ref 136 0 0 0]]⟩)], 193, [(192, RC4)]⟩) [] rL ⟨rF, rE, rfl, rfl, (dC.consR rL rfl okRC4 rL trivial), trivial⟩ ?_
  refine zas ?_
  refine pB (s2 := ⟨[(0, .yld 192), (1, .ref 160 0 0 0)], [(0, ⟨0, true, false, 1, [[.sl 193 0 4 0 0]]⟩), (8, ⟨0, true, false, 1, [[.sl 194 0 1 0 0]]⟩), (32, ⟨0, true, true, 1, List.map (gA .i64) vr2.1.At⟩), (136, ⟨0, true, false, 5, [[.psl 1 (List.map (vA 4 aA.enc) vr2.1.Runs), .sl 32 0 1 0 vr2.1.At.length, .psl 2 (List.map eA.enc vr2.1.Tree.Keys), .psl 1 (List.map (gA .i64) vr2.1.Tree.Lose), .int .i64 vr2.1.Tree.Win]]⟩), (160, ⟨0, true, false, 1, [[.ref 136 0 0 0]]⟩), (193, ⟨0, true, true, 4, List.map aA.enc []⟩), (194, ⟨0, true, true, 1, List.map (gA .i64) []⟩)], 195, [(192, RC4)]⟩) [(193, 4), (194, 1)] rL ⟨rF, rE, rfl, rfl, (dC.consR rL rfl okRC4 rL trivial), rN⟩ ?_
  obtain ⟨x37, hxx37, h0⟩ := cA h0
  refine pC (fun _ => False) ?_ ?_
  ·
   intro _ h; exact h.elim
  ·
   refine mC (ι := { p : Nat × List Int × List eA × List Int × Int × List aA × List Int × Nat × Nat × Nat // dJ vr2 p.1 p.2.1 p.2.2.1 p.2.2.2.1 p.2.2.2.2.1 p.2.2.2.2.2.1 p.2.2.2.2.2.2.1 = some x37 }) (fun p => ⟨[(0, .yld 192), (1, .ref 160 0 0 0)], [(0, ⟨0, true, false, 1, [[.sl 193 p.1.2.2.2.2.2.2.2.2.1 4 0 p.1.2.2.2.2.2.1.length]]⟩), (8, ⟨0, true, false, 1, [[.sl 194 p.1.2.2.2.2.2.2.2.2.2 1 0 p.1.2.2.2.2.2.2.1.length]]⟩), (32, ⟨p.1.2.2.2.2.2.2.2.1, true, true, 1, List.map (gA .i64) p.1.2.1⟩), (136, ⟨0, true, false, 5, [[.psl 1 (List.map (vA 4 aA.enc) vr2.1.Runs), .sl 32 p.1.2.2.2.2.2.2.2.1 1 0 p.1.2.1.length, .psl 2 (List.map eA.enc p.1.2.2.1), .psl 1 (List.map (gA .i64) p.1.2.2.2.1), .int .i64 p.1.2.2.2.2.1]]⟩), (160, ⟨0, true, false, 1, [[.ref 136 0 0 0]]⟩), (193, ⟨p.1.2.2.2.2.2.2.2.2.1, true, true, 4, List.map aA.enc p.1.2.2.2.2.2.1⟩), (194, ⟨p.1.2.2.2.2.2.2.2.2.2, true, true, 1, List.map (gA .i64) p.1.2.2.2.2.2.2.1⟩)], 195, [(192, RC4)]⟩) (fun p => p.1.1) ⟨(fu, vr2.1.At, vr2.1.Tree.Keys, vr2.1.Tree.Lose, vr2.1.Tree.Win, [], [], 0, 0, 0), hxx37⟩ ⟨rF, rE, rfl, rfl, (dC.consR rL rfl okRC4 rL trivial), trivial⟩ (fun _ => Nat.le_refl _) ?_
   rintro ⟨⟨fu, v38, v39, v40, v41, v42, v43, g44, g45, g46⟩, h1⟩
   cases fu with
   | zero =>
   replace h1 : dJ vr2 0 v38 v39 v40 v41 v42 v43 = some x37 := h1
   rw [dJ] at h1; cases h1
   | succ fu =>
    replace h1 : dJ vr2 (fu + 1) v38 v39 v40 v41 v42 v43 = some x37 := h1
    rw [dJ] at h1
    refine (show pA _ _ _ _ ⟨[(0, .yld 192), (1, .ref 160 0 0 0)], [(0, ⟨0, true, false, 1, [[.sl 193 g45 4 0 v42.length]]⟩), (8, ⟨0, true, false, 1, [[.sl 194 g46 1 0 v43.length]]⟩), (32, ⟨g44, true, true, 1, List.map (gA .i64) v38⟩), (136, ⟨0, true, false, 5, [[.psl 1 (List.map (vA 4 aA.enc) vr2.1.Runs), .sl 32 g44 1 0 v38.length, .psl 2 (List.map eA.enc v39), .psl 1 (List.map (gA .i64) v40), .int .i64 v41]]⟩), (160, ⟨0, true, false, 1, [[.ref 136 0 0 0]]⟩), (193, ⟨g45, true, true, 4, List.map aA.enc v42⟩), (194, ⟨g46, true, true, 1, List.map (gA .i64) v43⟩)], 195, [(192, RC4)]⟩ from ?_)
    refine aC ?_
    obtain ⟨vr47, hvr47, h1⟩ := cA h1
    refine nA 275 [0, 1, 3, 4, 5] (fun | 1 => some (.tup [.agg (aA.enc vr47.1), .int .i64 vr47.2.1, .int .i64 vr47.2.2], []) | _ => none) rfl (fun _ _ => rC (zbo hvr47)) ?_
    refine kA ?_
    refine uG 9 rfl ?_
    refine gC (l' := List.range' 0 3 ++ (List.range' 3 6 ++ [])) rfl ?_
    refine kC 0 3 299 (List.range' 3 6 ++ []) (fun _ => none) rfl rfl rfl (fun _ _ => rT) ?_
    refine iI (s2 := ⟨[(0, .yld 192), (1, .ref 160 0 0 0), (3, .ref 243 0 0 0), (4, .int .i64 vr47.2.1), (5, .int .i64 vr47.2.2), (12, .int .i64 vr47.2.2), (13, .bool (!(decide (vr47.2.2 = 0)))), (14, .bool (!(decide (vr47.2.2 = 0))))], [(0, ⟨0, true, false, 1, [[.sl 193 g45 4 0 v42.length]]⟩), (8, ⟨0, true, false, 1, [[.sl 194 g46 1 0 v43.length]]⟩), (32, ⟨g44, true, true, 1, List.map (gA .i64) v38⟩), (136, ⟨0, true, false, 5, [[.psl 1 (List.map (vA 4 aA.enc) vr2.1.Runs), .sl 32 g44 1 0 v38.length, .psl 2 (List.map eA.enc v39), .psl 1 (List.map (gA .i64) v40), .int .i64 v41]]⟩), (160, ⟨0, true, false, 1, [[.ref 136 0 0 0]]⟩), (193, ⟨g45, true, true, 4, List.map aA.enc v42⟩), (194, ⟨g46, true, true, 1, List.map (gA .i64) v43⟩), (243, ⟨0, true, true, 4, [[.str vr47.1.Key, .str vr47.1.Val, .bool vr47.1.Dead, .int .i64 vr47.1.Seq]]⟩)], 299, [(192, RC4)]⟩) [] rL ⟨rF, rE, rfl, rfl, (dC.consR rL rfl okRC4 rL trivial), trivial⟩ ?_
    generalize hg48 : (!(decide (vr47.2.2 = 0))) = b48
    cases b48 with
    | true =>
     replace h1 := jB h1 hg48
     refine gC (l' := List.range' 3 6 ++ []) rfl ?_
     refine kC 3 6 347 [] (fun _ => none) rfl rfl rfl (fun _ _ => rT) ?_
     refine zC ?_
     refine dA ?_
     refine pB (s2 := ⟨[(0, .yld 192), (1, .ref 160 0 0 0), (4, .int .i64 vr47.2.1), (20, .bool true)], [(0, ⟨0, true, false, 1, [[.sl 193 g45 4 0 v42.length]]⟩), (8, ⟨0, true, false, 1, [[.sl 194 g46 1 0 v43.length]]⟩), (32, ⟨g44, true, true, 1, List.map (gA .i64) v38⟩), (136, ⟨0, true, false, 5, [[.psl 1 (List.map (vA 4 aA.enc) vr2.1.Runs), .sl 32 g44 1 0 v38.length, .psl 2 (List.map eA.enc v39), .psl 1 (List.map (gA .i64) v40), .int .i64 v41]]⟩), (160, ⟨0, true, false, 1, [[.ref 136 0 0 0]]⟩), (193, ⟨g45, true, true, 4, List.map aA.enc v42⟩), (194, ⟨g46, true, true, 1, List.map (gA .i64) v43⟩)], 347, [(192, RC4)]⟩) [] rL ⟨rF, rE, rfl, rfl, (dC.consR rL rfl okRC4 rL trivial), trivial⟩ ?_
     refine zK rfl ?_
     refine jA ?_
     obtain rfl := Option.some.inj h1
     refine mA (eC (mA (aD (zlX ?_))))
     refine cE (fun _ _ => rT) ?_
     refine zaA stRC4 rfl ?_
     refine sB (dA ?_)
     refine xE ⟨[(2, .ref 0 0 0 0), (3, .ref 8 0 0 0), (4, .int .i64 vr2.2.2), (23, .fn 131 [] [.ref 160 0 0 0])], [(0, ⟨0, true, false, 1, [[.sl 193 g45 4 0 v42.length]]⟩), (8, ⟨0, true, false, 1, [[.sl 194 g46 1 0 v43.length]]⟩), (32, ⟨g44, true, true, 1, List.map (gA .i64) v38⟩), (136, ⟨0, true, false, 5, [[.psl 1 (List.map (vA 4 aA.enc) vr2.1.Runs), .sl 32 g44 1 0 v38.length, .psl 2 (List.map eA.enc v39), .psl 1 (List.map (gA .i64) v40), .int .i64 v41]]⟩), (160, ⟨0, true, false, 1, [[.ref 136 0 0 0]]⟩), (193, ⟨g45, true, true, 4, List.map aA.enc v42⟩), (194, ⟨g46, true, true, 1, List.map (gA .i64) v43⟩)], 347, []⟩ ?_
     refine oC 387 [2, 3, 4] (fun _ => none) rfl rfl rfl (fun _ _ => jF) ?_
     refine jA ?_
     obtain rfl := Option.some.inj h0
     refine lA [] ?_
     exact rG
    | false =>
     replace h1 := wA h1 hg48
     refine gC (l' := List.range' 3 3 ++ (6 :: (List.range' 7 2 ++ []))) rfl ?_
     refine kC 3 3 323 (6 :: (List.range' 7 2 ++ [])) (fun _ => none) rfl rfl rfl (fun _ _ => rT) ?_
     refine tY hRC4 rfl rfl rfl rfl rfl rfl rfl rfl rfl ?_
     refine pB (s2 := ⟨[(2, .ref 0 0 0 0), (3, .ref 8 0 0 0), (4, .int .i64 vr2.2.2), (23, .fn 131 [] [.ref 160 0 0 0]), (24, .int .i64 vr47.2.1), (25, .agg [.str vr47.1.Key, .str vr47.1.Val, .bool vr47.1.Dead, .int .i64 vr47.1.Seq])], [(0, ⟨0, true, false, 1, [[.sl 193 g45 4 0 v42.length]]⟩), (8, ⟨0, true, false, 1, [[.sl 194 g46 1 0 v43.length]]⟩), (32, ⟨g44, true, true, 1, List.map (gA .i64) v38⟩), (136, ⟨0, true, false, 5, [[.psl 1 (List.map (vA 4 aA.enc) vr2.1.Runs), .sl 32 g44 1 0 v38.length, .psl 2 (List.map eA.enc v39), .psl 1 (List.map (gA .i64) v40), .int .i64 v41]]⟩), (160, ⟨0, true, false, 1, [[.ref 136 0 0 0]]⟩), (193, ⟨g45, true, true, 4, List.map aA.enc v42⟩), (194, ⟨g46, true, true, 1, List.map (gA .i64) v43⟩), (243, ⟨0, true, true, 4, [[.str vr47.1.Key, .str vr47.1.Val, .bool vr47.1.Dead, .int .i64 vr47.1.Seq]]⟩)], 323, [(192, RC4)]⟩) [] rL ⟨rF, rE, rfl, rfl, (dC.consR rL rfl okRC4 rL trivial), trivial⟩ ?_
     refine xS 331 [2, 3, 4, 8, 25] ?_
     refine xR 347 [2, 3, 4, 8, 9] ?_
     refine dA ?_
     refine ⟨RC4, rfl, stRC4.1, ?_⟩
     refine pB (s2 := ⟨[(2, .ref 0 0 0 0), (3, .ref 8 0 0 0), (4, .int .i64 vr2.2.2), (8, .int .i64 vr47.2.1), (9, .ref 331 0 0 0)], [(0, ⟨0, true, false, 1, [[.sl 193 g45 4 0 v42.length]]⟩), (8, ⟨0, true, false, 1, [[.sl 194 g46 1 0 v43.length]]⟩), (32, ⟨g44, true, true, 1, List.map (gA .i64) v38⟩), (136, ⟨0, true, false, 5, [[.psl 1 (List.map (vA 4 aA.enc) vr2.1.Runs), .sl 32 g44 1 0 v38.length, .psl 2 (List.map eA.enc v39), .psl 1 (List.map (gA .i64) v40), .int .i64 v41]]⟩), (160, ⟨0, true, false, 1, [[.ref 136 0 0 0]]⟩), (193, ⟨g45, true, true, 4, List.map aA.enc v42⟩), (194, ⟨g46, true, true, 1, List.map (gA .i64) v43⟩), (243, ⟨0, true, true, 4, [[.str vr47.1.Key, .str vr47.1.Val, .bool vr47.1.Dead, .int .i64 vr47.1.Seq]]⟩), (331, ⟨0, true, true, 4, [[.str vr47.1.Key, .str vr47.1.Val, .bool vr47.1.Dead, .int .i64 vr47.1.Seq]]⟩)], 347, [(192, { RC4 with st := .busy, pend := RC4.pend })]⟩) [] rL ⟨rF, rE, rfl, rfl, (dC.consR rL rfl okRC4 rL trivial), trivial⟩ ?_
     refine aC ?_
     obtain ⟨hc49, h1⟩ := mD h1
     obtain ⟨hc50, h1⟩ := mD h1
     refine fG 427 [2, 3, 4] (fun _ => none) rfl rfl rfl (fun _ _ => jF) ?_
     refine sB ?_
     refine zaK stRC4 rfl ?_
     refine iI (s2 := ⟨[(0, .yld 192), (1, .ref 160 0 0 0), (3, .ref 243 0 0 0), (4, .int .i64 vr47.2.1), (5, .int .i64 vr47.2.2), (12, .int .i64 vr47.2.2), (13, .bool false), (14, .bool false), (15, .yld 192), (16, .int .i64 vr47.2.1), (17, .agg [.str vr47.1.Key, .str vr47.1.Val, .bool vr47.1.Dead, .int .i64 vr47.1.Seq]), (18, .bool true)], [(0, ⟨0, true, false, 1, [[.sl 193 (g45 + 1) 4 0 ((v42 ++ [vr47.1]).length)]]⟩), (8, ⟨0, true, false, 1, [[.sl 194 (g46 + 1) 1 0 ((v43 ++ [vr47.2.1]).length)]]⟩), (32, ⟨g44, true, true, 1, List.map (gA .i64) v38⟩), (136, ⟨0, true, false, 5, [[.psl 1 (List.map (vA 4 aA.enc) vr2.1.Runs), .sl 32 g44 1 0 v38.length, .psl 2 (List.map eA.enc v39), .psl 1 (List.map (gA .i64) v40), .int .i64 v41]]⟩), (160, ⟨0, true, false, 1, [[.ref 136 0 0 0]]⟩), (193, ⟨(g45 + 1), true, true, 4, List.map aA.enc (v42 ++ [vr47.1])⟩), (194, ⟨(g46 + 1), true, true, 1, List.map (gA .i64) (v43 ++ [vr47.2.1])⟩), (243, ⟨0, true, true, 4, [[.str vr47.1.Key, .str vr47.1.Val, .bool vr47.1.Dead, .int .i64 vr47.1.Seq]]⟩)], 427, [(192, RC4)]⟩) [] rL ⟨rF, rE, rfl, rfl, (dC.consR rL rfl okRC4 rL trivial), trivial⟩ ?_
     refine gC (l' := List.range' 7 2 ++ []) rfl ?_
     refine kC 7 2 443 [] (fun _ => none) rfl rfl rfl (fun _ _ => rT) ?_
     refine zC ?_
     refine dA ?_
     refine pB (s2 := ⟨[(0, .yld 192), (1, .ref 160 0 0 0), (4, .int .i64 vr47.2.1), (15, .yld 192), (16, .int .i64 vr47.2.1), (17, .agg [.str vr47.1.Key, .str vr47.1.Val, .bool vr47.1.Dead, .int .i64 vr47.1.Seq]), (18, .bool true), (19, .bool false), (20, .bool false)], [(0, ⟨0, true, false, 1, [[.sl 193 (g45 + 1) 4 0 ((v42 ++ [vr47.1]).length)]]⟩), (8, ⟨0, true, false, 1, [[.sl 194 (g46 + 1) 1 0 ((v43 ++ [vr47.2.1]).length)]]⟩), (32, ⟨g44, true, true, 1, List.map (gA .i64) v38⟩), (136, ⟨0, true, false, 5, [[.psl 1 (List.map (vA 4 aA.enc) vr2.1.Runs), .sl 32 g44 1 0 v38.length, .psl 2 (List.map eA.enc v39), .psl 1 (List.map (gA .i64) v40), .int .i64 v41]]⟩), (160, ⟨0, true, false, 1, [[.ref 136 0 0 0]]⟩), (193, ⟨(g45 + 1), true, true, 4, List.map aA.enc (v42 ++ [vr47.1])⟩), (194, ⟨(g46 + 1), true, true, 1, List.map (gA .i64) (v43 ++ [vr47.2.1])⟩)], 443, [(192, RC4)]⟩) [] rL ⟨rF, rE, rfl, rfl, (dC.consR rL rfl okRC4 rL trivial), trivial⟩ ?_
     refine eF rfl ?_
     refine qA (dA ?_)
     refine dV 3 rfl ?_
     refine gC (l' := List.range' 0 2 ++ (2 :: (List.range' 3 0 ++ []))) rfl ?_
     refine kC 0 2 459 (2 :: (List.range' 3 0 ++ [])) (fun _ => none) rfl rfl rfl (fun _ _ => rT) ?_
     refine sI rfl rfl rfl rfl rfl Tryz.func118 rfl (by decide) rfl rL ?_
     dsimp only [Tryz.f118]
     refine pB (s2 := ⟨[(0, .ref 136 0 0 0), (1, .int .i64 vr47.2.1)], [(0, ⟨0, true, false, 1, [[.sl 193 (g45 + 1) 4 0 ((v42 ++ [vr47.1]).length)]]⟩), (8, ⟨0, true, false, 1, [[.sl 194 (g46 + 1) 1 0 ((v43 ++ [vr47.2.1]).length)]]⟩), (32, ⟨g44, true, true, 1, List.map (gA .i64) v38⟩), (136, ⟨0, true, false, 5, [[.psl 1 (List.map (vA 4 aA.enc) vr2.1.Runs), .sl 32 g44 1 0 v38.length, .psl 2 (List.map eA.enc v39), .psl 1 (List.map (gA .i64) v40), .int .i64 v41]]⟩), (160, ⟨0, true, false, 1, [[.ref 136 0 0 0]]⟩), (193, ⟨(g45 + 1), true, true, 4, List.map aA.enc (v42 ++ [vr47.1])⟩), (194, ⟨(g46 + 1), true, true, 1, List.map (gA .i64) (v43 ++ [vr47.2.1])⟩)], 459, [(192, RC4)]⟩) [] rL ⟨rF, rE, rfl, rfl, (dC.consR rL rfl okRC4 rL trivial), trivial⟩ ?_
     obtain ⟨e51, he51, h1⟩ := cA h1
     obtain ⟨he51a, he51b, he51c⟩ := cB he51
     refine nA 547 [0, 1] (fun _ => none) rfl (fun _ _ => rS (rA he51a (rA he51b he51c))) ?_
     refine pB (s2 := ⟨[(0, .ref 136 0 0 0), (1, .int .i64 vr47.2.1)], [(0, ⟨0, true, false, 1, [[.sl 193 (g45 + 1) 4 0 ((v42 ++ [vr47.1]).length)]]⟩), (8, ⟨0, true, false, 1, [[.sl 194 (g46 + 1) 1 0 ((v43 ++ [vr47.2.1]).length)]]⟩), (32, ⟨g44, true, true, 1, List.map (gA .i64) (v38.set vr47.2.1.toNat (IntKind.i64.wrap (e51 + 1)))⟩), (136, ⟨0, true, false, 5, [[.psl 1 (List.map (vA 4 aA.enc) vr2.1.Runs), .sl 32 g44 1 0 ((v38.set vr47.2.1.toNat (IntKind.i64.wrap (e51 + 1))).length), .psl 2 (List.map eA.enc v39), .psl 1 (List.map (gA .i64) v40), .int .i64 v41]]⟩), (160, ⟨0, true, false, 1, [[.ref 136 0 0 0]]⟩), (193, ⟨(g45 + 1), true, true, 4, List.map aA.enc (v42 ++ [vr47.1])⟩), (194, ⟨(g46 + 1), true, true, 1, List.map (gA .i64) (v43 ++ [vr47.2.1])⟩)], 547, [(192, RC4)]⟩) [] rL ⟨rF, rE, rfl, rfl, (dC.consR rL rfl okRC4 rL trivial), trivial⟩ ?_
     obtain ⟨e52, he52, h1⟩ := cA h1
     obtain ⟨he52a, he52b, he52c⟩ := cB he52
     obtain ⟨e53, he53, h1⟩ := cA h1
     obtain ⟨he53a, he53b, he53c⟩ := cB he53
     obtain ⟨vr54, hvr54, h1⟩ := cA h1
     obtain ⟨vr55, hvr55, h1⟩ := cA h1
     refine fG 803 [] (fun | 22 => some (.agg (eA.enc vr54), []) | 23 => some (.tup [.agg (eB.enc vr55.1), .int .i64 vr55.2.1, .int .i64 vr55.2.2], []) | _ => none) rfl rfl rfl (fun Kt hK => by
       try have q0 := dX hvr54
       try have q1 := zcq hvr55
       exact xD (rA he51a (rA he51b (rA he51c (rA he52a (rA he52b (rA he52c (rA he53a (rA he53b he53c))))))))) ?_
     refine zO (fun _ _ => rS (rA he51a (rA he51b (rA he51c (rA he52a (rA he52b (rA he52c (rA he53a (rA he53b he53c))))))))) ?_
     refine iI (s2 := ⟨[(0, .yld 192), (1, .ref 160 0 0 0), (4, .int .i64 vr47.2.1), (15, .yld 192), (16, .int .i64 vr47.2.1), (17, .agg [.str vr47.1.Key, .str vr47.1.Val, .bool vr47.1.Dead, .int .i64 vr47.1.Seq]), (18, .bool true), (19, .bool false), (20, .bool false), (21, .ref 136 0 0 0), (22, .int .i64 vr47.2.1), (23, .tup [])], [(0, ⟨0, true, false, 1, [[.sl 193 (g45 + 1) 4 0 ((v42 ++ [vr47.1]).length)]]⟩), (8, ⟨0, true, false, 1, [[.sl 194 (g46 + 1) 1 0 ((v43 ++ [vr47.2.1]).length)]]⟩), (32, ⟨g44, true, true, 1, List.map (gA .i64) (v38.set vr47.2.1.toNat (IntKind.i64.wrap (e51 + 1)))⟩), (136, ⟨0, true, false, 5, [[.psl 1 (List.map (vA 4 aA.enc) vr2.1.Runs), .sl 32 g44 1 0 ((v38.set vr47.2.1.toNat (IntKind.i64.wrap (e51 + 1))).length), .psl 2 (List.map eA.enc vr55.1.Keys), .psl 1 (List.map (gA .i64) vr55.1.Lose), .int .i64 vr55.1.Win]]⟩), (160, ⟨0, true, false, 1, [[.ref 136 0 0 0]]⟩), (193, ⟨(g45 + 1), true, true, 4, List.map aA.enc (v42 ++ [vr47.1])⟩), (194, ⟨(g46 + 1), true, true, 1, List.map (gA .i64) (v43 ++ [vr47.2.1])⟩)], 803, [(192, RC4)]⟩) [] rL ⟨rF, rE, rfl, rfl, (dC.consR rL rfl okRC4 rL trivial), trivial⟩ ?_
     refine gC (l' := []) rfl ?_
     refine zC ?_
     refine sB (dA ?_)
     exact ⟨⟨(fu, (v38.set vr47.2.1.toNat (IntKind.i64.wrap (e51 + 1))), vr55.1.Keys, vr55.1.Lose, vr55.1.Win, (v42 ++ [vr47.1]), (v43 ++ [vr47.2.1]), g44, (g45 + 1), (g46 + 1)), h1⟩, ⟨rF, rE, rfl, rfl, (dC.consR rL rfl okRC4 rL trivial), trivial⟩, Nat.lt_succ_self _⟩
theorem zcS {fu : Nat} {vs1 : tB} {r : Int} (h0 : jP fu vs1 = some r) : bB Tryz.prog 134 [.agg (tB.enc vs1)] (.int .i64 r) [] := by
 refine gB Tryz.func134 rfl (by decide) rL ?_
 dsimp only [Tryz.f134]
 rw [jP] at h0
 refine (show pA _ _ _ _ ⟨aB 0 _, [], 0, []⟩ from ?_)
 refine xS 16 [1] ?_
 refine kA ?_
 obtain ⟨vr2, hvr2, h0⟩ := cA h0
 refine nA 48 [1, 3] (fun | 2 => some (.int .i64 vr2, []) | _ => none) rfl (fun _ _ => rC (zaB hvr2)) ?_
 refine xS 64 [1, 3, 8] ?_
 refine xI h0 rfl (fun h0 hb3 => ?_) (fun h0 hb3 => ?_)
 ·
  refine xS 80 [2] ?_
  refine jA (mA ?_)
  obtain rfl := Option.some.inj h0
  refine lA [] ?_
  exact rG
 ·
  refine qA (dA (kA ?_))
  obtain ⟨b4, hb4, h0⟩ := cA h0
  refine nC (fr' := [(17, .bool b4)]) (hp' := [(0, ⟨0, true, true, 3, [[.bool vs1.Some, .str vs1.Last, .bool vs1.Bottom]]⟩)]) [0] 128 [17] (fun _ => none) rfl (fun Kt hK => by
    cases hg5 : (!vs1.Some) with
    | false =>
     replace hb4 := wA hb4 hg5
     have hqb4 := Option.some.inj hb4
     subst hqb4
     simp (maxSteps := 1000000) only [↓reduceIte, reduceCtorEq, Nat.reduceEqDiff, Nat.reduceLT, Nat.reduceLeDiff, Nat.reduceAdd, Nat.reduceMul, Int.reduceToNat, push_cast, ↓hg5]
     try simp only [↓hg5] at hK
     all_goals exact rU
    | true =>
     replace hb4 := jB hb4 hg5
     have hqb4 := Option.some.inj hb4
     subst hqb4
     simp (maxSteps := 1000000) only [↓reduceIte, reduceCtorEq, Nat.reduceEqDiff, Nat.reduceLT, Nat.reduceLeDiff, Nat.reduceAdd, Nat.reduceMul, Int.reduceToNat, push_cast, ↓hg5]
     try simp only [↓hg5] at hK
     all_goals exact rU) ?_
  refine xI h0 rfl (fun h0 hb6 => ?_) (fun h0 hb6 => ?_)
  ·
   refine xS 136 [2] ?_
   refine jA (mA ?_)
   obtain rfl := Option.some.inj h0
   refine lA [] ?_
   exact rG
  ·
   refine qA (dA ?_)
   refine xS 136 [2] ?_
   refine jA ?_
   obtain rfl := Option.some.inj h0
   refine lA [] ?_
   exact rG
theorem zjT {fu : Nat} {vx1 : pE} {r : aA} (h0 : uS fu vx1 = some r) : bB Tryz.prog 169 [.agg (pE.enc vx1)] (.agg (aA.enc r)) [] := by
 refine gB Tryz.func169 rfl (by decide) rL ?_
 dsimp only [Tryz.f169]
 rw [uS] at h0
 refine (show pA _ _ _ _ ⟨aB 0 _, [], 0, []⟩ from ?_)
 refine xS 16 [1, 2] ?_
 refine xS 32 [2] ?_
 refine jA ?_
 obtain rfl := Option.some.inj h0
 refine lA [] ?_
 exact rG
theorem zmH {fu : Nat} {l1 : List aA} {bottom2 : Bool} {r : List aA × Int × Int} (h0 : pS fu l1 bottom2 = some r) : bB Tryz.prog 86 [.psl 4 (l1.map aA.enc), .bool bottom2] (.tup [.psl 4 (r.1.map aA.enc), .int .i64 r.2.1, .int .i64 r.2.2]) [] := by
 refine gB Tryz.func86 rfl (by decide) rL ?_
 dsimp only [Tryz.f86]
 rw [pS] at h0
 refine (show pA _ _ _ _ ⟨aB 0 _, [], 0, []⟩ from ?_)
 refine xS 24 [0, 1, 4] ?_
 refine uG 9 rfl ?_
 refine gC (l' := List.range' 0 3 ++ (3 :: (List.range' 4 5 ++ []))) rfl ?_
 refine kC 0 3 48 (3 :: (List.range' 4 5 ++ [])) (fun _ => none) rfl rfl rfl (fun _ _ => rT) ?_
 refine sI rfl rfl rfl rfl rfl Tryz.func114 rfl (by decide) rfl rL ?_
 dsimp only [Tryz.f114]
 refine xE ⟨[(0, .psl 4 (List.map aA.enc l1)), (1, .bool bottom2), (2, .fn 115 [] [.ref 0 0 0 0])], [(0, ⟨0, true, true, 1, [[.nils]]⟩)], 48, []⟩ ?_
 refine xS 64 [0, 1, 2] ?_
 refine kA ?_
 refine xS 88 [0, 1, 2, 16] ?_
 refine xI h0 rfl (fun h0 hb3 => ?_) (fun h0 hb3 => ?_)
 ·
  refine xS 104 [6, 7] ?_
  refine jA (mA ?_)
  refine cE (fun _ _ => rT) ?_
  refine xF ⟨[(0, .psl 4 (List.map aA.enc l1)), (1, .bool bottom2), (4, .ref 0 0 0 0), (8, .psl 4 (List.map aA.enc l1)), (9, .bool bottom2), (10, .fn 115 [] [.ref 0 0 0 0]), (11, .tup [.int .i64 (-1), .int .i64 3])], [(0, ⟨0, true, true, 1, [[.nils]]⟩)], 104, []⟩ ?_
  refine gC (l' := List.range' 4 5 ++ []) rfl ?_
  refine kC 4 5 144 [] (fun _ => none) rfl rfl rfl (fun _ _ => rT) ?_
  refine zC ?_
  refine dA ?_
  refine xE ⟨[(4, .ref 0 0 0 0), (5, .int .i64 (-1)), (6, .int .i64 3)], [(0, ⟨0, true, true, 1, [[.nils]]⟩)], 144, []⟩ ?_
  refine kA ?_
  refine xS 160 [4, 5, 6, 15] ?_
  refine zK rfl ?_
  refine xS 200 [4, 5, 6] ?_
  refine jA (mA ?_)
  obtain rfl := Option.some.inj h0
  refine lA [] ?_
  exact rG
 ·
  refine qA (dA ?_)
  obtain ⟨vr4, hvr4, h0⟩ := cA h0
  refine nA 120 [0, 2, 8] (fun | 1 => some (.agg (tB.enc vr4), []) | _ => none) rfl (fun _ _ => rC (zaf hvr4)) ?_
  refine kA ?_
  refine xS 144 [2, 8, 19, 20, 21] ?_
  refine pB (s2 := ⟨[(2, .fn 115 [] [.ref 0 0 0 0]), (8, .ref 104 0 0 0), (19, .psl 4 (List.map aA.enc l1)), (20, .int .i64 (l1.length : Int)), (21, .int .i64 0)], [(0, ⟨0, true, false, 1, [[.sl 144 0 4 0 0]]⟩), (104, ⟨0, true, true, 3, [[.bool vr4.Some, .str vr4.Last, .bool vr4.Bottom]]⟩), (144, ⟨0, true, true, 4, List.map aA.enc []⟩)], 145, []⟩) [(144, 4)] rL ⟨rF, rE, rfl, rfl, trivial, rN⟩ ?_
  obtain ⟨x59, hxx59, h0⟩ := cA h0
  refine pC (fun s' => ∃ o82 : Bool × List UInt8 × List aA, ∃ g83 : Nat, x59 = .inl o82 ∧ s'.nx ≤ 153 ∧ LeN [] s' ⟨[], [(0, ⟨0, true, false, 1, [[.sl 144 g83 4 0 o82.2.2.length]]⟩), (104, ⟨0, true, true, 3, [[.bool o82.1, .str o82.2.1, .bool vr4.Bottom]]⟩), (144, ⟨g83, true, true, 4, List.map aA.enc o82.2.2⟩)], 153, []⟩) ?_ ?_
  ·
   intro s' hs
   obtain ⟨o82, g83, rfl, hn, hs⟩ := hs
   refine dA ?_
   refine pB [] hn hs ?_
   refine xS 169 [6, 7] ?_
   refine jA ?_
   refine cE (fun _ _ => rT) ?_
   refine xF ⟨[(0, .psl 4 (List.map aA.enc l1)), (1, .bool bottom2), (4, .ref 0 0 0 0), (8, .psl 4 (List.map aA.enc l1)), (9, .bool bottom2), (10, .fn 115 [] [.ref 0 0 0 0]), (11, .tup [.int .i64 0, .int .i64 0])], [(0, ⟨0, true, false, 1, [[.sl 144 g83 4 0 o82.2.2.length]]⟩), (144, ⟨g83, true, true, 4, List.map aA.enc o82.2.2⟩)], 169, []⟩ ?_
   refine gC (l' := List.range' 4 5 ++ []) rfl ?_
   refine kC 4 5 209 [] (fun _ => none) rfl rfl rfl (fun _ _ => rT) ?_
   refine zC ?_
   refine dA ?_
   refine xE ⟨[(4, .ref 0 0 0 0), (5, .int .i64 0), (6, .int .i64 0)], [(0, ⟨0, true, false, 1, [[.sl 144 g83 4 0 o82.2.2.length]]⟩), (144, ⟨g83, true, true, 4, List.map aA.enc o82.2.2⟩)], 209, []⟩ ?_
   refine kA ?_
   refine xS 225 [4, 5, 6, 15] ?_
   refine eF rfl ?_
   refine qA (dA ?_)
   refine xS 257 [4, 5, 6] ?_
   refine jA ?_
   obtain rfl := Option.some.inj h0
   refine lA [] ?_
   exact rG
  ·
   refine mC (ι := { p : Nat × Int × Bool × List UInt8 × List aA × Nat // aI l1 vr4 p.1 p.2.1 p.2.2.1 p.2.2.2.1 p.2.2.2.2.1 = some x59 }) (fun p => ⟨[(2, .fn 115 [] [.ref 0 0 0 0]), (8, .ref 104 0 0 0), (19, .psl 4 (List.map aA.enc l1)), (20, .int .i64 (l1.length : Int)), (21, .int .i64 p.1.2.1)], [(0, ⟨0, true, false, 1, [[.sl 144 p.1.2.2.2.2.2 4 0 p.1.2.2.2.2.1.length]]⟩), (104, ⟨0, true, true, 3, [[.bool p.1.2.2.1, .str p.1.2.2.2.1, .bool vr4.Bottom]]⟩), (144, ⟨p.1.2.2.2.2.2, true, true, 4, List.map aA.enc p.1.2.2.2.2.1⟩)], 145, []⟩) (fun p => p.1.1) ⟨(fu, 0, vr4.Some, vr4.Last, [], 0), hxx59⟩ ⟨rF, rE, rfl, rfl, trivial, trivial⟩ (fun _ => Nat.le_refl _) ?_
   rintro ⟨⟨fu, v60, v61, v62, v63, g64⟩, h1⟩
   cases fu with
   | zero =>
   replace h1 : aI l1 vr4 0 v60 v61 v62 v63 = some x59 := h1
   rw [aI] at h1; cases h1
   | succ fu =>
    replace h1 : aI l1 vr4 (fu + 1) v60 v61 v62 v63 = some x59 := h1
    rw [aI] at h1
    refine (show pA _ _ _ _ ⟨[(2, .fn 115 [] [.ref 0 0 0 0]), (8, .ref 104 0 0 0), (19, .psl 4 (List.map aA.enc l1)), (20, .int .i64 (l1.length : Int)), (21, .int .i64 v60)], [(0, ⟨0, true, false, 1, [[.sl 144 g64 4 0 v63.length]]⟩), (104, ⟨0, true, true, 3, [[.bool v61, .str v62, .bool vr4.Bottom]]⟩), (144, ⟨g64, true, true, 4, List.map aA.enc v63⟩)], 145, []⟩ from ?_)
    refine xS 153 [2, 8, 19, 20, 21, 22] ?_
    refine kA ?_
    refine xI h1 rfl (fun h1 hb65 => ?_) (fun h1 hb65 => ?_)
    ·
     refine qA (dA (kA (aC ?_)))
     obtain ⟨e66, he66, h1⟩ := cA h1
     obtain ⟨he66a, he66b, he66c⟩ := cB he66
     refine nA 201 [2, 8, 9, 10, 19, 20, 21] (fun _ => none) rfl (fun _ _ => rS (rA he66a (rA he66b he66c))) ?_
     refine uG 11 rfl ?_
     refine gC (l' := List.range' 0 2 ++ (2 :: (List.range' 3 8 ++ []))) rfl ?_
     refine kC 0 2 217 (2 :: (List.range' 3 8 ++ [])) (fun _ => none) rfl rfl rfl (fun _ _ => rS (rA he66a (rA he66b he66c))) ?_
     refine sI rfl rfl rfl rfl rfl Tryz.func119 rfl (by decide) rfl rL ?_
     dsimp only [Tryz.f119]
     refine xE ⟨[(0, .agg [.bool v61, .str v62, .bool vr4.Bottom]), (1, .agg [.str e66.Key, .str e66.Val, .bool e66.Dead, .int .i64 e66.Seq])], [(0, ⟨0, true, false, 1, [[.sl 144 g64 4 0 v63.length]]⟩), (104, ⟨0, true, true, 3, [[.bool v61, .str v62, .bool vr4.Bottom]]⟩), (144, ⟨g64, true, true, 4, List.map aA.enc v63⟩), (177, ⟨0, true, true, 4, [[.str e66.Key, .str e66.Val, .bool e66.Dead, .int .i64 e66.Seq]]⟩)], 217, []⟩ ?_
     refine nA 257 [2, 3, 5] (fun _ => none) rfl (fun _ _ => rS (rA he66a (rA he66b he66c))) ?_
     refine kA ?_
     obtain ⟨vr67, hvr67, h1⟩ := cA h1
     refine nA 281 [2, 3, 5, 7] (fun | 1 => some (.int .i64 vr67, []) | _ => none) rfl (fun _ _ => rB (rA he66a (rA he66b he66c)) (zcS hvr67)) ?_
     refine nA 297 [2, 3, 5, 7, 13] (fun _ => none) rfl (fun _ _ => rS (rA he66a (rA he66b he66c))) ?_
     refine xI h1 rfl (fun h1 hb68 => ?_) (fun h1 hb68 => ?_)
     ·
      refine nA 337 [4, 5, 6] (fun _ => none) rfl (fun _ _ => rS (rA he66a (rA he66b he66c))) ?_
      refine jA (mA ?_)
      refine cE (fun _ _ => rS (rA he66a (rA he66b he66c))) ?_
      refine xF ⟨[(2, .fn 115 [] [.ref 0 0 0 0]), (8, .ref 104 0 0 0), (9, .int .i64 v60), (10, .ref 177 0 0 0), (19, .psl 4 (List.map aA.enc l1)), (20, .int .i64 (l1.length : Int)), (21, .int .i64 v60), (27, .agg [.bool v61, .str v62, .bool vr4.Bottom]), (28, .agg [.str e66.Key, .str e66.Val, .bool e66.Dead, .int .i64 e66.Seq]), (29, .tup [.nili, .agg [.bool false, .str [], .bool false], .int .i64 vr67])], [(0, ⟨0, true, false, 1, [[.sl 144 g64 4 0 v63.length]]⟩), (104, ⟨0, true, true, 3, [[.bool v61, .str v62, .bool vr4.Bottom]]⟩), (144, ⟨g64, true, true, 4, List.map aA.enc v63⟩), (177, ⟨0, true, true, 4, [[.str e66.Key, .str e66.Val, .bool e66.Dead, .int .i64 e66.Seq]]⟩)], 337, []⟩ ?_
      refine gC (l' := List.range' 3 8 ++ []) rfl ?_
      refine kC 3 8 401 [] (fun _ => none) rfl rfl rfl (fun _ _ => rS (rA he66a (rA he66b he66c))) ?_
      refine zC ?_
      refine dA ?_
      refine xE ⟨[(2, .fn 115 [] [.ref 0 0 0 0]), (8, .ref 104 0 0 0), (9, .int .i64 v60), (11, .nili), (12, .ref 369 0 0 0), (13, .int .i64 vr67), (19, .psl 4 (List.map aA.enc l1)), (20, .int .i64 (l1.length : Int)), (21, .int .i64 v60)], [(0, ⟨0, true, false, 1, [[.sl 144 g64 4 0 v63.length]]⟩), (104, ⟨0, true, true, 3, [[.bool v61, .str v62, .bool vr4.Bottom]]⟩), (144, ⟨g64, true, true, 4, List.map aA.enc v63⟩), (369, ⟨0, true, true, 3, [[.bool false, .str [], .bool false]]⟩)], 401, []⟩ ?_
      refine kA ?_
      refine nA 417 [2, 8, 9, 11, 12, 13, 19, 20, 21, 34] (fun _ => none) rfl (fun _ _ => rS (rA he66a (rA he66b he66c))) ?_
      refine jM rfl hb68 ?_
      refine nA 449 [6, 7] (fun _ => none) rfl (fun _ _ => rS (rA he66a (rA he66b he66c))) ?_
      refine jA ?_
      obtain rfl := Option.some.inj h1
      refine mA (eC (mA (mA (aD (mA ?_)))))
      refine cE (fun _ _ => rS (rA he66a (rA he66b he66c))) ?_
      refine xF ⟨[(0, .psl 4 (List.map aA.enc l1)), (1, .bool bottom2), (4, .ref 0 0 0 0), (8, .psl 4 (List.map aA.enc l1)), (9, .bool bottom2), (10, .fn 115 [] [.ref 0 0 0 0]), (11, .tup [.int .i64 v60, .int .i64 vr67])], [(0, ⟨0, true, false, 1, [[.sl 144 g64 4 0 v63.length]]⟩), (144, ⟨g64, true, true, 4, List.map aA.enc v63⟩)], 449, []⟩ ?_
      refine gC (l' := List.range' 4 5 ++ []) rfl ?_
      refine kC 4 5 489 [] (fun _ => none) rfl rfl rfl (fun _ _ => rS (rA he66a (rA he66b he66c))) ?_
      refine zC ?_
      refine dA ?_
      refine xE ⟨[(4, .ref 0 0 0 0), (5, .int .i64 v60), (6, .int .i64 vr67)], [(0, ⟨0, true, false, 1, [[.sl 144 g64 4 0 v63.length]]⟩), (144, ⟨g64, true, true, 4, List.map aA.enc v63⟩)], 489, []⟩ ?_
      refine kA ?_
      refine nA 505 [4, 5, 6, 15] (fun _ => none) rfl (fun _ _ => rS (rA he66a (rA he66b he66c))) ?_
      refine jM rfl hb68 ?_
      refine nA 545 [4, 5, 6] (fun _ => none) rfl (fun _ _ => rS (rA he66a (rA he66b he66c))) ?_
      refine jA (mA ?_)
      obtain rfl := Option.some.inj h0
      refine lA [] ?_
      simp (maxSteps := 1000000) only [↓reduceIte, reduceCtorEq, Nat.reduceEqDiff, Nat.reduceLT, Nat.reduceLeDiff, Nat.reduceAdd, Nat.reduceMul, Int.reduceToNat, push_cast, bC, he66a, he66b, he66c]
      all_goals exact rH
     ·
      refine qA (dA (kA ?_))
      obtain ⟨vr69, hvr69, h1⟩ := cA h1
      refine nA 321 [2, 3, 5, 8] (fun | 1 => some (.int .i64 vr69, []) | _ => none) rfl (fun _ _ => rB (rA he66a (rA he66b he66c)) (pY hvr69)) ?_
      refine nA 337 [2, 3, 5, 8, 19] (fun _ => none) rfl (fun _ _ => rS (rA he66a (rA he66b he66c))) ?_
      refine xI h1 rfl (fun h1 hb70 => ?_) (fun h1 hb70 => ?_)
      ·
       refine nA 377 [4, 5, 6] (fun _ => none) rfl (fun _ _ => rS (rA he66a (rA he66b he66c))) ?_
       refine jA (mA ?_)
       refine cE (fun _ _ => rS (rA he66a (rA he66b he66c))) ?_
       refine xF ⟨[(2, .fn 115 [] [.ref 0 0 0 0]), (8, .ref 104 0 0 0), (9, .int .i64 v60), (10, .ref 177 0 0 0), (19, .psl 4 (List.map aA.enc l1)), (20, .int .i64 (l1.length : Int)), (21, .int .i64 v60), (27, .agg [.bool v61, .str v62, .bool vr4.Bottom]), (28, .agg [.str e66.Key, .str e66.Val, .bool e66.Dead, .int .i64 e66.Seq]), (29, .tup [.nili, .agg [.bool false, .str [], .bool false], .int .i64 vr69])], [(0, ⟨0, true, false, 1, [[.sl 144 g64 4 0 v63.length]]⟩), (104, ⟨0, true, true, 3, [[.bool v61, .str v62, .bool vr4.Bottom]]⟩), (144, ⟨g64, true, true, 4, List.map aA.enc v63⟩), (177, ⟨0, true, true, 4, [[.str e66.Key, .str e66.Val, .bool e66.Dead, .int .i64 e66.Seq]]⟩)], 377, []⟩ ?_
       refine gC (l' := List.range' 3 8 ++ []) rfl ?_
       refine kC 3 8 441 [] (fun _ => none) rfl rfl rfl (fun _ _ => rS (rA he66a (rA he66b he66c))) ?_
       refine zC ?_
       refine dA ?_
       refine xE ⟨[(2, .fn 115 [] [.ref 0 0 0 0]), (8, .ref 104 0 0 0), (9, .int .i64 v60), (11, .nili), (12, .ref 409 0 0 0), (13, .int .i64 vr69), (19, .psl 4 (List.map aA.enc l1)), (20, .int .i64 (l1.length : Int)), (21, .int .i64 v60)], [(0, ⟨0, true, false, 1, [[.sl 144 g64 4 0 v63.length]]⟩), (104, ⟨0, true, true, 3, [[.bool v61, .str v62, .bool vr4.Bottom]]⟩), (144, ⟨g64, true, true, 4, List.map aA.enc v63⟩), (409, ⟨0, true, true, 3, [[.bool false, .str [], .bool false]]⟩)], 441, []⟩ ?_
       refine kA ?_
       refine nA 457 [2, 8, 9, 11, 12, 13, 19, 20, 21, 34] (fun _ => none) rfl (fun _ _ => rS (rA he66a (rA he66b he66c))) ?_
       refine jM rfl hb70 ?_
       refine nA 489 [6, 7] (fun _ => none) rfl (fun _ _ => rS (rA he66a (rA he66b he66c))) ?_
       refine jA ?_
       obtain rfl := Option.some.inj h1
       refine mA (eC (mA (mA (aD (mA ?_)))))
       refine cE (fun _ _ => rS (rA he66a (rA he66b he66c))) ?_
       refine xF ⟨[(0, .psl 4 (List.map aA.enc l1)), (1, .bool bottom2), (4, .ref 0 0 0 0), (8, .psl 4 (List.map aA.enc l1)), (9, .bool bottom2), (10, .fn 115 [] [.ref 0 0 0 0]), (11, .tup [.int .i64 v60, .int .i64 vr69])], [(0, ⟨0, true, false, 1, [[.sl 144 g64 4 0 v63.length]]⟩), (144, ⟨g64, true, true, 4, List.map aA.enc v63⟩)], 489, []⟩ ?_
       refine gC (l' := List.range' 4 5 ++ []) rfl ?_
       refine kC 4 5 529 [] (fun _ => none) rfl rfl rfl (fun _ _ => rS (rA he66a (rA he66b he66c))) ?_
       refine zC ?_
       refine dA ?_
       refine xE ⟨[(4, .ref 0 0 0 0), (5, .int .i64 v60), (6, .int .i64 vr69)], [(0, ⟨0, true, false, 1, [[.sl 144 g64 4 0 v63.length]]⟩), (144, ⟨g64, true, true, 4, List.map aA.enc v63⟩)], 529, []⟩ ?_
       refine kA ?_
       refine nA 545 [4, 5, 6, 15] (fun _ => none) rfl (fun _ _ => rS (rA he66a (rA he66b he66c))) ?_
       refine jM rfl hb70 ?_
       refine nA 585 [4, 5, 6] (fun _ => none) rfl (fun _ _ => rS (rA he66a (rA he66b he66c))) ?_
       refine jA (mA ?_)
       obtain rfl := Option.some.inj h0
       refine lA [] ?_
       simp (maxSteps := 1000000) only [↓reduceIte, reduceCtorEq, Nat.reduceEqDiff, Nat.reduceLT, Nat.reduceLeDiff, Nat.reduceAdd, Nat.reduceMul, Int.reduceToNat, push_cast, bC, he66a, he66b, he66c]
       all_goals exact rH
      ·
       refine qA (dA (kA ?_))
       obtain ⟨b71, hb71, h1⟩ := cA h1
       refine nC (fr' := [(2, .ref 217 0 0 0), (3, .ref 225 0 0 0), (5, .ref 241 0 0 0), (30, .bool b71)]) (hp' := [(0, ⟨0, true, false, 1, [[.sl 144 g64 4 0 v63.length]]⟩), (104, ⟨0, true, true, 3, [[.bool v61, .str v62, .bool vr4.Bottom]]⟩), (144, ⟨g64, true, true, 4, List.map aA.enc v63⟩), (177, ⟨0, true, true, 4, [[.str e66.Key, .str e66.Val, .bool e66.Dead, .int .i64 e66.Seq]]⟩), (217, ⟨0, true, true, 3, [[.bool v61, .str v62, .bool vr4.Bottom]]⟩), (225, ⟨0, true, true, 4, [[.str e66.Key, .str e66.Val, .bool e66.Dead, .int .i64 e66.Seq]]⟩), (241, ⟨0, true, true, 3, [[.bool false, .str [], .bool false]]⟩)]) [0, 104, 144, 177, 217, 225, 241] 409 [2, 3, 5, 30] (fun _ => none) rfl (fun Kt hK => by
         cases v61 with
         | false =>
          replace hb71 := wA hb71 rfl
          have hqb71 := Option.some.inj hb71
          subst hqb71
          exact rS (rA he66a (rA he66b he66c))
         | true =>
          replace hb71 := jB hb71 rfl
          have hqb71 := Option.some.inj hb71
          subst hqb71
          exact rS (rA he66a (rA he66b he66c))) ?_
       refine xI h1 rfl (fun h1 hb73 => ?_) (fun h1 hb73 => ?_)
       ·
        refine nA 441 [4, 5, 6] (fun _ => none) rfl (fun _ _ => rS (rA he66a (rA he66b he66c))) ?_
        refine jA (mA ?_)
        refine cE (fun _ _ => rS (rA he66a (rA he66b he66c))) ?_
        refine xF ⟨[(2, .fn 115 [] [.ref 0 0 0 0]), (8, .ref 104 0 0 0), (9, .int .i64 v60), (10, .ref 177 0 0 0), (19, .psl 4 (List.map aA.enc l1)), (20, .int .i64 (l1.length : Int)), (21, .int .i64 v60), (27, .agg [.bool v61, .str v62, .bool vr4.Bottom]), (28, .agg [.str e66.Key, .str e66.Val, .bool e66.Dead, .int .i64 e66.Seq]), (29, .tup [.nili, .agg [.bool false, .str [], .bool false], .int .i64 6])], [(0, ⟨0, true, false, 1, [[.sl 144 g64 4 0 v63.length]]⟩), (104, ⟨0, true, true, 3, [[.bool v61, .str v62, .bool vr4.Bottom]]⟩), (144, ⟨g64, true, true, 4, List.map aA.enc v63⟩), (177, ⟨0, true, true, 4, [[.str e66.Key, .str e66.Val, .bool e66.Dead, .int .i64 e66.Seq]]⟩)], 441, []⟩ ?_
        refine gC (l' := List.range' 3 8 ++ []) rfl ?_
        refine kC 3 8 505 [] (fun _ => none) rfl rfl rfl (fun _ _ => rS (rA he66a (rA he66b he66c))) ?_
        refine zC ?_
        refine dA ?_
        refine xE ⟨[(2, .fn 115 [] [.ref 0 0 0 0]), (8, .ref 104 0 0 0), (9, .int .i64 v60), (11, .nili), (12, .ref 473 0 0 0), (13, .int .i64 6), (19, .psl 4 (List.map aA.enc l1)), (20, .int .i64 (l1.length : Int)), (21, .int .i64 v60)], [(0, ⟨0, true, false, 1, [[.sl 144 g64 4 0 v63.length]]⟩), (104, ⟨0, true, true, 3, [[.bool v61, .str v62, .bool vr4.Bottom]]⟩), (144, ⟨g64, true, true, 4, List.map aA.enc v63⟩), (473, ⟨0, true, true, 3, [[.bool false, .str [], .bool false]]⟩)], 505, []⟩ ?_
        refine kA ?_
        refine nA 521 [2, 8, 9, 11, 12, 13, 19, 20, 21, 34] (fun _ => none) rfl (fun _ _ => rS (rA he66a (rA he66b he66c))) ?_
        refine zK rfl ?_
        refine nA 553 [6, 7] (fun _ => none) rfl (fun _ _ => rS (rA he66a (rA he66b he66c))) ?_
        refine jA ?_
        obtain rfl := Option.some.inj h1
        refine mA (eC (mA (mA (aD (mA ?_)))))
        refine cE (fun _ _ => rS (rA he66a (rA he66b he66c))) ?_
        refine xF ⟨[(0, .psl 4 (List.map aA.enc l1)), (1, .bool bottom2), (4, .ref 0 0 0 0), (8, .psl 4 (List.map aA.enc l1)), (9, .bool bottom2), (10, .fn 115 [] [.ref 0 0 0 0]), (11, .tup [.int .i64 v60, .int .i64 6])], [(0, ⟨0, true, false, 1, [[.sl 144 g64 4 0 v63.length]]⟩), (144, ⟨g64, true, true, 4, List.map aA.enc v63⟩)], 553, []⟩ ?_
        refine gC (l' := List.range' 4 5 ++ []) rfl ?_
        refine kC 4 5 593 [] (fun _ => none) rfl rfl rfl (fun _ _ => rS (rA he66a (rA he66b he66c))) ?_
        refine zC ?_
        refine dA ?_
        refine xE ⟨[(4, .ref 0 0 0 0), (5, .int .i64 v60), (6, .int .i64 6)], [(0, ⟨0, true, false, 1, [[.sl 144 g64 4 0 v63.length]]⟩), (144, ⟨g64, true, true, 4, List.map aA.enc v63⟩)], 593, []⟩ ?_
        refine kA ?_
        refine nA 609 [4, 5, 6, 15] (fun _ => none) rfl (fun _ _ => rS (rA he66a (rA he66b he66c))) ?_
        refine zK rfl ?_
        refine nA 649 [4, 5, 6] (fun _ => none) rfl (fun _ _ => rS (rA he66a (rA he66b he66c))) ?_
        refine jA (mA ?_)
        obtain rfl := Option.some.inj h0
        refine lA [] ?_
        simp (maxSteps := 1000000) only [↓reduceIte, reduceCtorEq, Nat.reduceEqDiff, Nat.reduceLT, Nat.reduceLeDiff, Nat.reduceAdd, Nat.reduceMul, Int.reduceToNat, push_cast, bC, he66a, he66b, he66c]
        all_goals exact rH
       ·
        refine qA (dA ?_)
        refine nA 465 [2, 3, 5, 9] (fun _ => none) rfl (fun _ _ => rS (rA he66a (rA he66b he66c))) ?_
        refine kA (aC ?_)
        obtain ⟨b74, hb74, h1⟩ := cA h1
        refine nC (fr' := [(2, .ref 217 0 0 0), (3, .ref 225 0 0 0), (5, .ref 241 0 0 0), (9, .ref 449 0 0 0), (37, .bool b74)]) (hp' := [(0, ⟨0, true, false, 1, [[.sl 144 g64 4 0 v63.length]]⟩), (104, ⟨0, true, true, 3, [[.bool v61, .str v62, .bool vr4.Bottom]]⟩), (144, ⟨g64, true, true, 4, List.map aA.enc v63⟩), (177, ⟨0, true, true, 4, [[.str e66.Key, .str e66.Val, .bool e66.Dead, .int .i64 e66.Seq]]⟩), (217, ⟨0, true, true, 3, [[.bool v61, .str v62, .bool vr4.Bottom]]⟩), (225, ⟨0, true, true, 4, [[.str e66.Key, .str e66.Val, .bool e66.Dead, .int .i64 e66.Seq]]⟩), (241, ⟨0, true, true, 3, [[.bool false, .str [], .bool false]]⟩), (449, ⟨0, true, true, 3, [[.bool true, .str e66.Key, .bool vr4.Bottom]]⟩)]) [0, 104, 144, 177, 217, 225, 241, 449] 545 [2, 3, 5, 9, 37] (fun _ => none) rfl (fun Kt hK => by
          cases v61 with
          | false =>
           replace hb74 := wA hb74 rfl
           have hqb74 := Option.some.inj hb74
           subst hqb74
           exact rS (rA he66a (rA he66b he66c))
          | true =>
           replace hb74 := jB hb74 rfl
           have hqb74 := Option.some.inj hb74
           subst hqb74
           exact rS (rA he66a (rA he66b he66c))) ?_
        refine xI h1 rfl (fun h1 hb76 => ?_) (fun h1 hb76 => ?_)
        ·
         refine oC 593 [4, 5, 6] (fun _ => none) rfl rfl rfl (fun _ _ => xD (rA he66a (rA he66b he66c))) ?_
         refine jA (eC (mA ?_))
         refine cE (fun _ _ => rS (rA he66a (rA he66b he66c))) ?_
         refine xF ⟨[(2, .fn 115 [] [.ref 0 0 0 0]), (8, .ref 104 0 0 0), (9, .int .i64 v60), (10, .ref 177 0 0 0), (19, .psl 4 (List.map aA.enc l1)), (20, .int .i64 (l1.length : Int)), (21, .int .i64 v60), (27, .agg [.bool v61, .str v62, .bool vr4.Bottom]), (28, .agg [.str e66.Key, .str e66.Val, .bool e66.Dead, .int .i64 e66.Seq]), (29, .tup [.iface 181 (.agg [.str e66.Key, .str e66.Val, .bool e66.Dead, .int .i64 e66.Seq]), .agg [.bool true, .str e66.Key, .bool vr4.Bottom], .int .i64 0])], [(0, ⟨0, true, false, 1, [[.sl 144 g64 4 0 v63.length]]⟩), (104, ⟨0, true, true, 3, [[.bool v61, .str v62, .bool vr4.Bottom]]⟩), (144, ⟨g64, true, true, 4, List.map aA.enc v63⟩), (177, ⟨0, true, true, 4, [[.str e66.Key, .str e66.Val, .bool e66.Dead, .int .i64 e66.Seq]]⟩)], 593, []⟩ ?_
         refine gC (l' := List.range' 3 8 ++ []) rfl ?_
         refine kC 3 8 657 [] (fun _ => none) rfl rfl rfl (fun _ _ => rS (rA he66a (rA he66b he66c))) ?_
         refine zC ?_
         refine dA ?_
         refine xE ⟨[(2, .fn 115 [] [.ref 0 0 0 0]), (8, .ref 104 0 0 0), (9, .int .i64 v60), (11, .iface 181 (.agg [.str e66.Key, .str e66.Val, .bool e66.Dead, .int .i64 e66.Seq])), (12, .ref 625 0 0 0), (13, .int .i64 0), (19, .psl 4 (List.map aA.enc l1)), (20, .int .i64 (l1.length : Int)), (21, .int .i64 v60)], [(0, ⟨0, true, false, 1, [[.sl 144 g64 4 0 v63.length]]⟩), (104, ⟨0, true, true, 3, [[.bool v61, .str v62, .bool vr4.Bottom]]⟩), (144, ⟨g64, true, true, 4, List.map aA.enc v63⟩), (625, ⟨0, true, true, 3, [[.bool true, .str e66.Key, .bool vr4.Bottom]]⟩)], 657, []⟩ ?_
         refine kA ?_
         refine nA 673 [2, 8, 9, 11, 12, 13, 19, 20, 21, 34] (fun _ => none) rfl (fun _ _ => rS (rA he66a (rA he66b he66c))) ?_
         refine eF rfl ?_
         refine qA (dA ?_)
         refine uG 3 rfl ?_
         refine gC (l' := List.range' 0 2 ++ (2 :: (List.range' 3 0 ++ []))) rfl ?_
         refine kC 0 2 689 (2 :: (List.range' 3 0 ++ [])) (fun _ => none) rfl rfl rfl (fun _ _ => rS (rA he66a (rA he66b he66c))) ?_
         refine sI rfl rfl rfl rfl rfl Tryz.func115 rfl (by decide) rfl rL ?_
         dsimp only [Tryz.f115]
         refine xE ⟨[(0, .iface 181 (.agg [.str e66.Key, .str e66.Val, .bool e66.Dead, .int .i64 e66.Seq])), (1, .ref 0 0 0 0)], [(0, ⟨0, true, false, 1, [[.sl 144 g64 4 0 v63.length]]⟩), (104, ⟨0, true, true, 3, [[.bool v61, .str v62, .bool vr4.Bottom]]⟩), (144, ⟨g64, true, true, 4, List.map aA.enc v63⟩), (625, ⟨0, true, true, 3, [[.bool true, .str e66.Key, .bool vr4.Bottom]]⟩)], 689, []⟩ ?_
         refine nA 753 [0, 1, 4] (fun _ => none) rfl (fun _ _ => rS (rA he66a (rA he66b he66c))) ?_
         refine nA 761 [0, 1, 10] (fun _ => none) rfl (fun _ _ => rS (rA he66a (rA he66b he66c))) ?_
         refine eF rfl ?_
         refine qA ?_
         refine zO (fun _ _ => rS (rA he66a (rA he66b he66c))) ?_
         refine xF ⟨[(2, .fn 115 [] [.ref 0 0 0 0]), (8, .ref 104 0 0 0), (9, .int .i64 v60), (11, .iface 181 (.agg [.str e66.Key, .str e66.Val, .bool e66.Dead, .int .i64 e66.Seq])), (12, .ref 625 0 0 0), (13, .int .i64 0), (19, .psl 4 (List.map aA.enc l1)), (20, .int .i64 (l1.length : Int)), (21, .int .i64 v60), (34, .bool false), (37, .fn 115 [] [.ref 0 0 0 0]), (38, .iface 181 (.agg [.str e66.Key, .str e66.Val, .bool e66.Dead, .int .i64 e66.Seq])), (39, .tup [])], [(0, ⟨0, true, false, 1, [[.sl 144 g64 4 0 v63.length]]⟩), (104, ⟨0, true, true, 3, [[.bool v61, .str v62, .bool vr4.Bottom]]⟩), (144, ⟨g64, true, true, 4, List.map aA.enc v63⟩), (625, ⟨0, true, true, 3, [[.bool true, .str e66.Key, .bool vr4.Bottom]]⟩)], 761, []⟩ ?_
         refine gC (l' := []) rfl ?_
         refine zC ?_
         refine dA ?_
         refine xE ⟨[(2, .fn 115 [] [.ref 0 0 0 0]), (8, .ref 104 0 0 0), (12, .ref 625 0 0 0), (19, .psl 4 (List.map aA.enc l1)), (20, .int .i64 (l1.length : Int)), (21, .int .i64 v60)], [(0, ⟨0, true, false, 1, [[.sl 144 g64 4 0 v63.length]]⟩), (104, ⟨0, true, true, 3, [[.bool v61, .str v62, .bool vr4.Bottom]]⟩), (144, ⟨g64, true, true, 4, List.map aA.enc v63⟩), (625, ⟨0, true, true, 3, [[.bool true, .str e66.Key, .bool vr4.Bottom]]⟩)], 761, []⟩ ?_
         refine uB 777 [2, 8, 19, 20, 21] (fun _ => none) rfl (fun _ _ => rS (rA he66a (rA he66b he66c))) ?_
         refine sB (dA ?_)
         refine uB 793 [2, 8, 19, 20, 21] (fun _ => none) rfl (fun _ _ => rS (rA he66a (rA he66b he66c))) ?_
         refine dA ?_
         exact ⟨⟨(fu, (IntKind.i64.wrap (v60 + 1)), true, e66.Key, v63, g64), h1⟩, ⟨rF, rE, rfl, rfl, trivial, trivial⟩, Nat.lt_succ_self _⟩
        ·
         obtain ⟨b77, hb77, h1⟩ := cA h1
         refine nC (fr' := [(3, .ref 225 0 0 0), (5, .ref 241 0 0 0), (9, .ref 449 0 0 0), (50, .bool b77)]) (hp' := [(0, ⟨0, true, false, 1, [[.sl 144 g64 4 0 v63.length]]⟩), (104, ⟨0, true, true, 3, [[.bool v61, .str v62, .bool vr4.Bottom]]⟩), (144, ⟨g64, true, true, 4, List.map aA.enc v63⟩), (177, ⟨0, true, true, 4, [[.str e66.Key, .str e66.Val, .bool e66.Dead, .int .i64 e66.Seq]]⟩), (217, ⟨0, true, true, 3, [[.bool v61, .str v62, .bool vr4.Bottom]]⟩), (225, ⟨0, true, true, 4, [[.str e66.Key, .str e66.Val, .bool e66.Dead, .int .i64 e66.Seq]]⟩), (241, ⟨0, true, true, 3, [[.bool false, .str [], .bool false]]⟩), (449, ⟨0, true, true, 3, [[.bool true, .str e66.Key, .bool vr4.Bottom]]⟩)]) [0, 104, 144, 177, 217, 225, 241, 449] 601 [3, 5, 9, 50] (fun _ => none) rfl (fun Kt hK => by
           cases hg78 : vr4.Bottom with
           | false =>
            replace hb77 := wA hb77 hg78
            have hqb77 := Option.some.inj hb77
            subst hqb77
            simp (maxSteps := 1000000) only [↓reduceIte, reduceCtorEq, Nat.reduceEqDiff, Nat.reduceLT, Nat.reduceLeDiff, Nat.reduceAdd, Nat.reduceMul, Int.reduceToNat, push_cast, he66a, he66b, he66c, ↓hg78]
            try simp only [↓hg78] at hK
            all_goals exact rU
           | true =>
            replace hb77 := jB hb77 hg78
            have hqb77 := Option.some.inj hb77
            subst hqb77
            simp (maxSteps := 1000000) only [↓reduceIte, reduceCtorEq, Nat.reduceEqDiff, Nat.reduceLT, Nat.reduceLeDiff, Nat.reduceAdd, Nat.reduceMul, Int.reduceToNat, push_cast, he66a, he66b, he66c, ↓hg78]
            try simp only [↓hg78] at hK
            all_goals exact rU) ?_
         refine xI h1 rfl (fun h1 hb79 => ?_) (fun h1 hb79 => ?_)
         ·
          refine oC 649 [4, 5, 6] (fun _ => none) rfl rfl rfl (fun _ _ => xD (rA he66a (rA he66b he66c))) ?_
          refine jA (eC (mA ?_))
          refine cE (fun _ _ => rS (rA he66a (rA he66b he66c))) ?_
          refine xF ⟨[(2, .fn 115 [] [.ref 0 0 0 0]), (8, .ref 104 0 0 0), (9, .int .i64 v60), (10, .ref 177 0 0 0), (19, .psl 4 (List.map aA.enc l1)), (20, .int .i64 (l1.length : Int)), (21, .int .i64 v60), (27, .agg [.bool v61, .str v62, .bool vr4.Bottom]), (28, .agg [.str e66.Key, .str e66.Val, .bool e66.Dead, .int .i64 e66.Seq]), (29, .tup [.iface 182 (.agg [.str e66.Key, .str e66.Val, .bool e66.Dead, .int .i64 e66.Seq]), .agg [.bool true, .str e66.Key, .bool vr4.Bottom], .int .i64 0])], [(0, ⟨0, true, false, 1, [[.sl 144 g64 4 0 v63.length]]⟩), (104, ⟨0, true, true, 3, [[.bool v61, .str v62, .bool vr4.Bottom]]⟩), (144, ⟨g64, true, true, 4, List.map aA.enc v63⟩), (177, ⟨0, true, true, 4, [[.str e66.Key, .str e66.Val, .bool e66.Dead, .int .i64 e66.Seq]]⟩)], 649, []⟩ ?_
          refine gC (l' := List.range' 3 8 ++ []) rfl ?_
          refine kC 3 8 713 [] (fun _ => none) rfl rfl rfl (fun _ _ => rS (rA he66a (rA he66b he66c))) ?_
          refine zC ?_
          refine dA ?_
          refine xE ⟨[(2, .fn 115 [] [.ref 0 0 0 0]), (8, .ref 104 0 0 0), (9, .int .i64 v60), (11, .iface 182 (.agg [.str e66.Key, .str e66.Val, .bool e66.Dead, .int .i64 e66.Seq])), (12, .ref 681 0 0 0), (13, .int .i64 0), (19, .psl 4 (List.map aA.enc l1)), (20, .int .i64 (l1.length : Int)), (21, .int .i64 v60)], [(0, ⟨0, true, false, 1, [[.sl 144 g64 4 0 v63.length]]⟩), (104, ⟨0, true, true, 3, [[.bool v61, .str v62, .bool vr4.Bottom]]⟩), (144, ⟨g64, true, true, 4, List.map aA.enc v63⟩), (681, ⟨0, true, true, 3, [[.bool true, .str e66.Key, .bool vr4.Bottom]]⟩)], 713, []⟩ ?_
          refine kA ?_
          refine nA 729 [2, 8, 9, 11, 12, 13, 19, 20, 21, 34] (fun _ => none) rfl (fun _ _ => rS (rA he66a (rA he66b he66c))) ?_
          refine eF rfl ?_
          refine qA (dA ?_)
          refine uG 3 rfl ?_
          refine gC (l' := List.range' 0 2 ++ (2 :: (List.range' 3 0 ++ []))) rfl ?_
          refine kC 0 2 745 (2 :: (List.range' 3 0 ++ [])) (fun _ => none) rfl rfl rfl (fun _ _ => rS (rA he66a (rA he66b he66c))) ?_
          refine sI rfl rfl rfl rfl rfl Tryz.func115 rfl (by decide) rfl rL ?_
          dsimp only [Tryz.f115]
          refine xE ⟨[(0, .iface 182 (.agg [.str e66.Key, .str e66.Val, .bool e66.Dead, .int .i64 e66.Seq])), (1, .ref 0 0 0 0)], [(0, ⟨0, true, false, 1, [[.sl 144 g64 4 0 v63.length]]⟩), (104, ⟨0, true, true, 3, [[.bool v61, .str v62, .bool vr4.Bottom]]⟩), (144, ⟨g64, true, true, 4, List.map aA.enc v63⟩), (681, ⟨0, true, true, 3, [[.bool true, .str e66.Key, .bool vr4.Bottom]]⟩)], 745, []⟩ ?_
          refine nA 809 [0, 1, 4] (fun _ => none) rfl (fun _ _ => rS (rA he66a (rA he66b he66c))) ?_
          refine nA 817 [0, 1, 10] (fun _ => none) rfl (fun _ _ => rS (rA he66a (rA he66b he66c))) ?_
          refine eF rfl ?_
          refine qA ?_
          refine zO (fun _ _ => rS (rA he66a (rA he66b he66c))) ?_
          refine xF ⟨[(2, .fn 115 [] [.ref 0 0 0 0]), (8, .ref 104 0 0 0), (9, .int .i64 v60), (11, .iface 182 (.agg [.str e66.Key, .str e66.Val, .bool e66.Dead, .int .i64 e66.Seq])), (12, .ref 681 0 0 0), (13, .int .i64 0), (19, .psl 4 (List.map aA.enc l1)), (20, .int .i64 (l1.length : Int)), (21, .int .i64 v60), (34, .bool false), (37, .fn 115 [] [.ref 0 0 0 0]), (38, .iface 182 (.agg [.str e66.Key, .str e66.Val, .bool e66.Dead, .int .i64 e66.Seq])), (39, .tup [])], [(0, ⟨0, true, false, 1, [[.sl 144 g64 4 0 v63.length]]⟩), (104, ⟨0, true, true, 3, [[.bool v61, .str v62, .bool vr4.Bottom]]⟩), (144, ⟨g64, true, true, 4, List.map aA.enc v63⟩), (681, ⟨0, true, true, 3, [[.bool true, .str e66.Key, .bool vr4.Bottom]]⟩)], 817, []⟩ ?_
          refine gC (l' := []) rfl ?_
          refine zC ?_
          refine dA ?_
          refine xE ⟨[(2, .fn 115 [] [.ref 0 0 0 0]), (8, .ref 104 0 0 0), (12, .ref 681 0 0 0), (19, .psl 4 (List.map aA.enc l1)), (20, .int .i64 (l1.length : Int)), (21, .int .i64 v60)], [(0, ⟨0, true, false, 1, [[.sl 144 g64 4 0 v63.length]]⟩), (104, ⟨0, true, true, 3, [[.bool v61, .str v62, .bool vr4.Bottom]]⟩), (144, ⟨g64, true, true, 4, List.map aA.enc v63⟩), (681, ⟨0, true, true, 3, [[.bool true, .str e66.Key, .bool vr4.Bottom]]⟩)], 817, []⟩ ?_
          refine uB 833 [2, 8, 19, 20, 21] (fun _ => none) rfl (fun _ _ => rS (rA he66a (rA he66b he66c))) ?_
          refine sB (dA ?_)
          refine uB 849 [2, 8, 19, 20, 21] (fun _ => none) rfl (fun _ _ => rS (rA he66a (rA he66b he66c))) ?_
          refine dA ?_
          exact ⟨⟨(fu, (IntKind.i64.wrap (v60 + 1)), true, e66.Key, v63, g64), h1⟩, ⟨rF, rE, rfl, rfl, trivial, trivial⟩, Nat.lt_succ_self _⟩
         ·
          refine qA (sB (dA ?_))
          refine oC 649 [4, 5, 6] (fun _ => none) rfl rfl rfl (fun _ _ => xD (rA he66a (rA he66b he66c))) ?_
          refine jA ?_
          refine cE (fun _ _ => rS (rA he66a (rA he66b he66c))) ?_
          refine xF ⟨[(2, .fn 115 [] [.ref 0 0 0 0]), (8, .ref 104 0 0 0), (9, .int .i64 v60), (10, .ref 177 0 0 0), (19, .psl 4 (List.map aA.enc l1)), (20, .int .i64 (l1.length : Int)), (21, .int .i64 v60), (27, .agg [.bool v61, .str v62, .bool vr4.Bottom]), (28, .agg [.str e66.Key, .str e66.Val, .bool e66.Dead, .int .i64 e66.Seq]), (29, .tup [.iface 157 (.agg [.str e66.Key, .str e66.Val, .bool e66.Dead, .int .i64 e66.Seq]), .agg [.bool true, .str e66.Key, .bool vr4.Bottom], .int .i64 0])], [(0, ⟨0, true, false, 1, [[.sl 144 g64 4 0 v63.length]]⟩), (104, ⟨0, true, true, 3, [[.bool v61, .str v62, .bool vr4.Bottom]]⟩), (144, ⟨g64, true, true, 4, List.map aA.enc v63⟩), (177, ⟨0, true, true, 4, [[.str e66.Key, .str e66.Val, .bool e66.Dead, .int .i64 e66.Seq]]⟩)], 649, []⟩ ?_
          refine gC (l' := List.range' 3 8 ++ []) rfl ?_
          refine kC 3 8 713 [] (fun _ => none) rfl rfl rfl (fun _ _ => rS (rA he66a (rA he66b he66c))) ?_
          refine zC ?_
          refine dA ?_
          refine xE ⟨[(2, .fn 115 [] [.ref 0 0 0 0]), (8, .ref 104 0 0 0), (9, .int .i64 v60), (11, .iface 157 (.agg [.str e66.Key, .str e66.Val, .bool e66.Dead, .int .i64 e66.Seq])), (12, .ref 681 0 0 0), (13, .int .i64 0), (19, .psl 4 (List.map aA.enc l1)), (20, .int .i64 (l1.length : Int)), (21, .int .i64 v60)], [(0, ⟨0, true, false, 1, [[.sl 144 g64 4 0 v63.length]]⟩), (104, ⟨0, true, true, 3, [[.bool v61, .str v62, .bool vr4.Bottom]]⟩), (144, ⟨g64, true, true, 4, List.map aA.enc v63⟩), (681, ⟨0, true, true, 3, [[.bool true, .str e66.Key, .bool vr4.Bottom]]⟩)], 713, []⟩ ?_
          refine kA ?_
          refine nA 729 [2, 8, 9, 11, 12, 13, 19, 20, 21, 34] (fun _ => none) rfl (fun _ _ => rS (rA he66a (rA he66b he66c))) ?_
          refine eF rfl ?_
          refine qA (dA ?_)
          refine uG 3 rfl ?_
          refine gC (l' := List.range' 0 2 ++ (2 :: (List.range' 3 0 ++ []))) rfl ?_
          refine kC 0 2 745 (2 :: (List.range' 3 0 ++ [])) (fun _ => none) rfl rfl rfl (fun _ _ => rS (rA he66a (rA he66b he66c))) ?_
          refine sI rfl rfl rfl rfl rfl Tryz.func115 rfl (by decide) rfl rL ?_
          dsimp only [Tryz.f115]
          refine xE ⟨[(0, .iface 157 (.agg [.str e66.Key, .str e66.Val, .bool e66.Dead, .int .i64 e66.Seq])), (1, .ref 0 0 0 0)], [(0, ⟨0, true, false, 1, [[.sl 144 g64 4 0 v63.length]]⟩), (104, ⟨0, true, true, 3, [[.bool v61, .str v62, .bool vr4.Bottom]]⟩), (144, ⟨g64, true, true, 4, List.map aA.enc v63⟩), (681, ⟨0, true, true, 3, [[.bool true, .str e66.Key, .bool vr4.Bottom]]⟩)], 745, []⟩ ?_
          refine nA 809 [0, 1, 4] (fun _ => none) rfl (fun _ _ => rS (rA he66a (rA he66b he66c))) ?_
          refine nA 817 [0, 1, 10] (fun _ => none) rfl (fun _ _ => rS (rA he66a (rA he66b he66c))) ?_
          refine zK rfl ?_
          obtain ⟨vr80, hvr80, h1⟩ := cA h1
          obtain ⟨hc81, h1⟩ := mD h1
          refine fG 865 [] (fun | 2 => some (.agg (aA.enc vr80), []) | _ => none) rfl rfl rfl (fun _ _ => oL (rA he66a (rA he66b he66c)) (zjT hvr80)) ?_
          refine zO (fun _ _ => rS (rA he66a (rA he66b he66c))) ?_
          refine xF ⟨[(2, .fn 115 [] [.ref 0 0 0 0]), (8, .ref 104 0 0 0), (9, .int .i64 v60), (11, .iface 157 (.agg [.str e66.Key, .str e66.Val, .bool e66.Dead, .int .i64 e66.Seq])), (12, .ref 681 0 0 0), (13, .int .i64 0), (19, .psl 4 (List.map aA.enc l1)), (20, .int .i64 (l1.length : Int)), (21, .int .i64 v60), (34, .bool false), (37, .fn 115 [] [.ref 0 0 0 0]), (38, .iface 157 (.agg [.str e66.Key, .str e66.Val, .bool e66.Dead, .int .i64 e66.Seq])), (39, .tup [])], [(0, ⟨0, true, false, 1, [[.sl 144 (g64 + 1) 4 0 ((v63 ++ [vr80]).length)]]⟩), (104, ⟨0, true, true, 3, [[.bool v61, .str v62, .bool vr4.Bottom]]⟩), (144, ⟨(g64 + 1), true, true, 4, List.map aA.enc (v63 ++ [vr80])⟩), (681, ⟨0, true, true, 3, [[.bool true, .str e66.Key, .bool vr4.Bottom]]⟩)], 865, []⟩ ?_
          refine gC (l' := []) rfl ?_
          refine zC ?_
          refine dA ?_
          refine xE ⟨[(2, .fn 115 [] [.ref 0 0 0 0]), (8, .ref 104 0 0 0), (12, .ref 681 0 0 0), (19, .psl 4 (List.map aA.enc l1)), (20, .int .i64 (l1.length : Int)), (21, .int .i64 v60)], [(0, ⟨0, true, false, 1, [[.sl 144 (g64 + 1) 4 0 ((v63 ++ [vr80]).length)]]⟩), (104, ⟨0, true, true, 3, [[.bool v61, .str v62, .bool vr4.Bottom]]⟩), (144, ⟨(g64 + 1), true, true, 4, List.map aA.enc (v63 ++ [vr80])⟩), (681, ⟨0, true, true, 3, [[.bool true, .str e66.Key, .bool vr4.Bottom]]⟩)], 865, []⟩ ?_
          refine uB 881 [2, 8, 19, 20, 21] (fun _ => none) rfl (fun _ _ => rS (rA he66a (rA he66b he66c))) ?_
          refine sB (dA ?_)
          refine uB 897 [2, 8, 19, 20, 21] (fun _ => none) rfl (fun _ _ => rS (rA he66a (rA he66b he66c))) ?_
          refine dA ?_
          exact ⟨⟨(fu, (IntKind.i64.wrap (v60 + 1)), true, e66.Key, (v63 ++ [vr80]), (g64 + 1)), h1⟩, ⟨rF, rE, rfl, rfl, trivial, trivial⟩, Nat.lt_succ_self _⟩
    ·
     refine iC (dB (dB (jC ?_)))
     obtain rfl := Option.some.inj h1
     exact ⟨_, g64, rfl, rL, ⟨rF, rE, rfl, rfl, trivial, trivial⟩⟩
theorem vV {fu : Nat} {a1 : List aA} {b2 : List aA} {r : Bool} (h0 : sP fu a1 b2 = some r) : bB Tryz.prog 88 [.psl 4 (a1.map aA.enc), .psl 4 (b2.map aA.enc)] (.bool r) [] := by
 refine gB Tryz.func88 rfl (by decide) rL ?_
 dsimp only [Tryz.f88]
 rw [sP] at h0
 refine (show pA _ _ _ _ ⟨aB 0 _, [], 0, []⟩ from ?_)
 refine xS 8 [0, 1] ?_
 refine kA ?_
 refine xS 48 [0, 1, 11] ?_
 refine xI h0 rfl (fun h0 hb3 => ?_) (fun h0 hb3 => ?_)
 ·
  refine xS 56 [4] ?_
  refine jA (mA ?_)
  obtain rfl := Option.some.inj h0
  refine lA [] ?_
  exact rG
 ·
  refine qA (dA (kA ?_))
  refine xS 72 [1, 12, 13, 14] ?_
  obtain ⟨x13, hxx13, h0⟩ := cA h0
  refine pC (fun s' => ∃ o19 : Unit, x13 = .inl o19 ∧ s'.nx ≤ 80 ∧ LeN [] s' ⟨[], [], 80, []⟩) ?_ ?_
  ·
   intro s' hs
   obtain ⟨o19, rfl, hn, hs⟩ := hs
   refine dA ?_
   refine pB [] hn hs ?_
   refine xS 88 [4] ?_
   refine jA ?_
   obtain rfl := Option.some.inj h0
   refine lA [] ?_
   exact rG
  ·
   refine mC (ι := { p : Nat × Int // jJ a1 b2 p.1 p.2 = some x13 }) (fun p => ⟨[(1, .psl 4 (List.map aA.enc b2)), (12, .psl 4 (List.map aA.enc a1)), (13, .int .i64 (a1.length : Int)), (14, .int .i64 p.1.2)], [], 72, []⟩) (fun p => p.1.1) ⟨(fu, 0), hxx13⟩ ⟨rF, rE, rfl, rfl, trivial, trivial⟩ (fun _ => Nat.le_refl _) ?_
   rintro ⟨⟨fu, v14⟩, h1⟩
   cases fu with
   | zero =>
   replace h1 : jJ a1 b2 0 v14 = some x13 := h1
   rw [jJ] at h1; cases h1
   | succ fu =>
    replace h1 : jJ a1 b2 (fu + 1) v14 = some x13 := h1
    rw [jJ] at h1
    refine (show pA _ _ _ _ ⟨[(1, .psl 4 (List.map aA.enc b2)), (12, .psl 4 (List.map aA.enc a1)), (13, .int .i64 (a1.length : Int)), (14, .int .i64 v14)], [], 72, []⟩ from ?_)
    refine xS 80 [1, 12, 13, 14, 15] ?_
    refine kA ?_
    refine xI h1 rfl (fun h1 hb15 => ?_) (fun h1 hb15 => ?_)
    ·
     refine qA (dA (kA (aC ?_)))
     obtain ⟨e16, he16, h1⟩ := cA h1
     obtain ⟨he16a, he16b, he16c⟩ := cB he16
     refine nA 128 [1, 5, 6, 12, 13, 14] (fun _ => none) rfl (fun _ _ => rS (rA he16a (rA he16b he16c))) ?_
     obtain ⟨e17, he17, h1⟩ := cA h1
     obtain ⟨he17a, he17b, he17c⟩ := cB he17
     refine oC 176 [1, 12, 13, 14, 24] (fun _ => none) rfl rfl rfl (fun _ _ => xD (rA he16a (rA he16b (rA he16c (rA he17a (rA he17b he17c)))))) ?_
     refine xI h1 rfl (fun h1 hb18 => ?_) (fun h1 hb18 => ?_)
     ·
      refine nA 184 [4] (fun _ => none) rfl (fun _ _ => rS (rA he16a (rA he16b (rA he16c (rA he17a (rA he17b he17c)))))) ?_
      refine jA ?_
      obtain rfl := Option.some.inj h1
      refine eC (mA (mA (aD (mA ?_))))
      obtain rfl := Option.some.inj h0
      refine lA [] ?_
      simp (maxSteps := 1000000) only [↓reduceIte, reduceCtorEq, Nat.reduceEqDiff, Nat.reduceLT, Nat.reduceLeDiff, Nat.reduceAdd, Nat.reduceMul, Int.reduceToNat, push_cast, bC, he16a, he16b, he16c, he17a, he17b, he17c]
      all_goals exact rH
     ·
      refine qA (sB (dA ?_))
      refine uB 192 [1, 12, 13, 14] (fun _ => none) rfl (fun _ _ => rS (rA he16a (rA he16b (rA he16c (rA he17a (rA he17b he17c)))))) ?_
      refine dA ?_
      exact ⟨⟨(fu, (IntKind.i64.wrap (v14 + 1))), h1⟩, ⟨rF, rE, rfl, rfl, trivial, trivial⟩, Nat.lt_succ_self _⟩
    ·
     refine iC (dB (dB (jC ?_)))
     obtain rfl := Option.some.inj h1
     exact ⟨_, rfl, rL, ⟨rF, rE, rfl, rfl, trivial, trivial⟩⟩
theorem zfu {fu : Nat} {vs1 : wB} {r : Int} (h0 : hS fu vs1 = some r) : bB Tryz.prog 56 [.agg (wB.enc vs1)] (.int .i64 r) [] := by
 refine gB Tryz.func56 rfl (by decide) rL ?_
 dsimp only [Tryz.f56]
 rw [hS] at h0
 refine (show pA _ _ _ _ ⟨aB 0 _, [], 0, []⟩ from ?_)
 refine xS 16 [1] ?_
 refine kA ?_
 obtain ⟨vr2, hvr2, h0⟩ := cA h0
 refine nA 80 [1, 4] (fun | 2 => some (.tup [.int .i64 vr2.1, .int .i64 vr2.2], []) | _ => none) rfl (fun _ _ => rC (hZ hvr2)) ?_
 refine xS 96 [1, 4, 21] ?_
 refine xI h0 rfl (fun h0 hb3 => ?_) (fun h0 hb3 => ?_)
 ·
  refine xS 112 [2] ?_
  refine jA (mA ?_)
  obtain rfl := Option.some.inj h0
  refine lA [] ?_
  exact rG
 ·
  refine qA (dA ?_)
  refine xS 104 [1, 5] ?_
  refine kA ?_
  refine xS 144 [1, 5, 25, 26, 27] ?_
  obtain ⟨x10, hxx10, h0⟩ := cA h0
  refine pC (fun s' => s'.nx ≤ 152 ∧ LeN [] s' ⟨[(1, .ref 0 0 0 0), (5, .int .i64 x10)], [(0, ⟨0, true, true, 10, [[.psl 1 (List.map (vA 4 aA.enc) vs1.Merge.Runs), .psl 1 (List.map (gA .i64) vs1.Merge.At), .psl 2 (List.map eA.enc vs1.Merge.Tree.Keys), .psl 1 (List.map (gA .i64) vs1.Merge.Tree.Lose), .int .i64 vs1.Merge.Tree.Win, .bool vs1.Shadow.Some, .str vs1.Shadow.Last, .bool vs1.Shadow.Bottom, .psl 4 (List.map aA.enc vs1.Out), .int .i64 vs1.Steps]]⟩)], 152, []⟩) ?_ ?_
  ·
   intro s' hs
   obtain ⟨hn, hs⟩ := hs
   refine dA ?_
   refine pB [] hn hs ?_
   refine kA (aC ?_)
   obtain ⟨b15, hb15, h0⟩ := cA h0
   refine nC (fr' := [(1, .ref 0 0 0 0), (5, .int .i64 x10), (35, .bool b15)]) (hp' := [(0, ⟨0, true, true, 10, [[.psl 1 (List.map (vA 4 aA.enc) vs1.Merge.Runs), .psl 1 (List.map (gA .i64) vs1.Merge.At), .psl 2 (List.map eA.enc vs1.Merge.Tree.Keys), .psl 1 (List.map (gA .i64) vs1.Merge.Tree.Lose), .int .i64 vs1.Merge.Tree.Win, .bool vs1.Shadow.Some, .str vs1.Shadow.Last, .bool vs1.Shadow.Bottom, .psl 4 (List.map aA.enc vs1.Out), .int .i64 vs1.Steps]]⟩)]) [0] 224 [1, 5, 35] (fun _ => none) rfl (fun Kt hK => by
     cases hg16 : (decide (20000 < (vs1.Out.length : Int))) with
     | false =>
      replace hb15 := wA hb15 hg16
      have hqb15 := Option.some.inj hb15
      subst hqb15
      simp (maxSteps := 1000000) only [↓reduceIte, reduceCtorEq, Nat.reduceEqDiff, Nat.reduceLT, Nat.reduceLeDiff, Nat.reduceAdd, Nat.reduceMul, Int.reduceToNat, push_cast, ↓hg16]
      try simp only [↓hg16] at hK
      all_goals exact rU
     | true =>
      replace hb15 := jB hb15 hg16
      have hqb15 := Option.some.inj hb15
      subst hqb15
      simp (maxSteps := 1000000) only [↓reduceIte, reduceCtorEq, Nat.reduceEqDiff, Nat.reduceLT, Nat.reduceLeDiff, Nat.reduceAdd, Nat.reduceMul, Int.reduceToNat, push_cast, ↓hg16]
      try simp only [↓hg16] at hK
      all_goals exact rU) ?_
   refine xI h0 rfl (fun h0 hb17 => ?_) (fun h0 hb17 => ?_)
   ·
    refine xS 232 [2] ?_
    refine jA (eC (mA ?_))
    obtain rfl := Option.some.inj h0
    refine lA [] ?_
    exact rG
   ·
    refine xS 264 [1, 5, 44] ?_
    refine xI h0 rfl (fun h0 hb18 => ?_) (fun h0 hb18 => ?_)
    ·
     refine xS 272 [2] ?_
     refine jA (eC (mA ?_))
     obtain rfl := Option.some.inj h0
     refine lA [] ?_
     exact rG
    ·
     refine qA (sB (dA ?_))
     obtain ⟨vr19, hvr19, h0⟩ := cA h0
     refine nA 352 [1, 5, 8, 10] (fun | 3 => some (.tup [.psl 4 (vr19.1.map aA.enc), .psl 1 (vr19.2.1.map (gA .i64)), .int .i64 vr19.2.2], []) | _ => none) rfl (fun _ _ => rC (zmJ hvr19)) ?_
     refine kA ?_
     refine xS 368 [1, 5, 8, 10, 58] ?_
     refine xI h0 rfl (fun h0 hb20 => ?_) (fun h0 hb20 => ?_)
     ·
      refine xS 384 [2] ?_
      refine jA (mA ?_)
      obtain rfl := Option.some.inj h0
      refine lA [] ?_
      exact rG
     ·
      refine qA (dA ?_)
      obtain ⟨hc21, h0⟩ := mD h0
      obtain ⟨vr22, hvr22, h0⟩ := cA h0
      refine oC 480 [1, 5, 8, 10, 11] (fun | 6 => some (.tup [.psl 4 (vr22.1.map aA.enc), .int .i64 vr22.2.1, .int .i64 vr22.2.2], []) | _ => none) rfl rfl rfl (fun _ _ => oM (zmH hvr22)) ?_
      refine kA ?_
      refine xS 496 [1, 5, 8, 10, 11, 72] ?_
      refine xI h0 rfl (fun h0 hb23 => ?_) (fun h0 hb23 => ?_)
      ·
       refine xS 512 [2] ?_
       refine jA (mA ?_)
       obtain rfl := Option.some.inj h0
       refine lA [] ?_
       exact rG
      ·
       refine qA (dA ?_)
       obtain ⟨vr24, hvr24, h0⟩ := cA h0
       refine nA 544 [1, 5, 8, 11, 13] (fun | 3 => some (.agg (tB.enc vr24), []) | _ => none) rfl (fun _ _ => rC (zaf hvr24)) ?_
       refine kA ?_
       refine xS 560 [1, 5, 8, 11, 13, 79] ?_
       refine xI h0 rfl (fun h0 hb25 => ?_) (fun h0 hb25 => ?_)
       ·
        obtain ⟨e26, he26, h0⟩ := cA h0
        obtain ⟨he26a, he26b, he26c⟩ := cB he26
        refine fG 640 [1, 11, 13] (fun _ => none) rfl rfl rfl (fun _ _ => xD (rA he26a (rA he26b he26c))) ?_
        refine dA (kA ?_)
        obtain ⟨vr27, hvr27, h0⟩ := cA h0
        obtain ⟨b28, hb28, h0⟩ := cA h0
        refine nC (fr' := [(98, .bool b28)]) (hp' := [(0, ⟨0, true, true, 10, [[.psl 1 (List.map (vA 4 aA.enc) vs1.Merge.Runs), .psl 1 (List.map (gA .i64) vs1.Merge.At), .psl 2 (List.map eA.enc vs1.Merge.Tree.Keys), .psl 1 (List.map (gA .i64) vs1.Merge.Tree.Lose), .int .i64 vs1.Merge.Tree.Win, .bool vs1.Shadow.Some, .str vs1.Shadow.Last, .bool vs1.Shadow.Bottom, .psl 4 (List.map aA.enc vs1.Out), .int .i64 vs1.Steps]]⟩), (528, ⟨0, true, true, 3, [[.bool true, .str e26.Key, .bool vr24.Bottom]]⟩)]) [0, 528] 728 [98] (fun | 3 => some (.bool vr27, []) | _ => none) rfl (fun Kt hK => by
          cases hg29 : (!vr27) with
          | false =>
           replace hb28 := wA hb28 hg29
           have hqb28 := Option.some.inj hb28
           subst hqb28
           simp (maxSteps := 1000000) only [↓reduceIte, reduceCtorEq, Nat.reduceEqDiff, Nat.reduceLT, Nat.reduceLeDiff, Nat.reduceAdd, Nat.reduceMul, Int.reduceToNat, push_cast, he26a, he26b, he26c, ↓hg29]
           try simp only [↓hg29] at hK
           try have q0 := vV hvr27
           all_goals exact rU
          | true =>
           replace hb28 := jB hb28 hg29
           have hqb28 := Option.some.inj hb28
           subst hqb28
           simp (maxSteps := 1000000) only [↓reduceIte, reduceCtorEq, Nat.reduceEqDiff, Nat.reduceLT, Nat.reduceLeDiff, Nat.reduceAdd, Nat.reduceMul, Int.reduceToNat, push_cast, he26a, he26b, he26c, ↓hg29]
           try simp only [↓hg29] at hK
           try have q0 := vV hvr27
           all_goals exact rU) ?_
        refine xI h0 rfl (fun h0 hb30 => ?_) (fun h0 hb30 => ?_)
        ·
         refine nA 736 [2] (fun _ => none) rfl (fun _ _ => rS (rA he26a (rA he26b he26c))) ?_
         refine jA (mA ?_)
         obtain rfl := Option.some.inj h0
         refine lA [] ?_
         simp (maxSteps := 1000000) only [↓reduceIte, reduceCtorEq, Nat.reduceEqDiff, Nat.reduceLT, Nat.reduceLeDiff, Nat.reduceAdd, Nat.reduceMul, Int.reduceToNat, push_cast, bC, he26a, he26b, he26c]
         all_goals exact rH
        ·
         refine qA (dA ?_)
         refine nA 736 [2] (fun _ => none) rfl (fun _ _ => rS (rA he26a (rA he26b he26c))) ?_
         refine jA ?_
         obtain rfl := Option.some.inj h0
         refine lA [] ?_
         simp (maxSteps := 1000000) only [↓reduceIte, reduceCtorEq, Nat.reduceEqDiff, Nat.reduceLT, Nat.reduceLeDiff, Nat.reduceAdd, Nat.reduceMul, Int.reduceToNat, push_cast, bC, he26a, he26b, he26c]
         all_goals exact rH
       ·
        refine qA (dA (kA ?_))
        obtain ⟨vr31, hvr31, h0⟩ := cA h0
        obtain ⟨b32, hb32, h0⟩ := cA h0
        refine nC (fr' := [(98, .bool b32)]) (hp' := [(0, ⟨0, true, true, 10, [[.psl 1 (List.map (vA 4 aA.enc) vs1.Merge.Runs), .psl 1 (List.map (gA .i64) vs1.Merge.At), .psl 2 (List.map eA.enc vs1.Merge.Tree.Keys), .psl 1 (List.map (gA .i64) vs1.Merge.Tree.Lose), .int .i64 vs1.Merge.Tree.Win, .bool vs1.Shadow.Some, .str vs1.Shadow.Last, .bool vs1.Shadow.Bottom, .psl 4 (List.map aA.enc vs1.Out), .int .i64 vs1.Steps]]⟩), (528, ⟨0, true, true, 3, [[.bool vr24.Some, .str vr24.Last, .bool vr24.Bottom]]⟩)]) [0, 528] 648 [98] (fun | 3 => some (.bool vr31, []) | _ => none) rfl (fun Kt hK => by
          cases hg33 : (!vr31) with
          | false =>
           replace hb32 := wA hb32 hg33
           have hqb32 := Option.some.inj hb32
           subst hqb32
           simp (maxSteps := 1000000) only [↓reduceIte, reduceCtorEq, Nat.reduceEqDiff, Nat.reduceLT, Nat.reduceLeDiff, Nat.reduceAdd, Nat.reduceMul, Int.reduceToNat, push_cast, ↓hg33]
           try simp only [↓hg33] at hK
           try have q0 := vV hvr31
           all_goals exact rU
          | true =>
           replace hb32 := jB hb32 hg33
           have hqb32 := Option.some.inj hb32
           subst hqb32
           simp (maxSteps := 1000000) only [↓reduceIte, reduceCtorEq, Nat.reduceEqDiff, Nat.reduceLT, Nat.reduceLeDiff, Nat.reduceAdd, Nat.reduceMul, Int.reduceToNat, push_cast, ↓hg33]
           try simp only [↓hg33] at hK
           try have q0 := vV hvr31
           all_goals exact rU) ?_
        refine xI h0 rfl (fun h0 hb34 => ?_) (fun h0 hb34 => ?_)
        ·
         refine xS 656 [2] ?_
         refine jA (mA ?_)
         obtain rfl := Option.some.inj h0
         refine lA [] ?_
         exact rG
        ·
         refine qA (dA ?_)
         refine xS 656 [2] ?_
         refine jA ?_
         obtain rfl := Option.some.inj h0
         refine lA [] ?_
         exact rG
  ·
   refine mC (ι := { p : Nat × Int × Int // oJ vs1 p.1 p.2.1 p.2.2 = some x10 }) (fun p => ⟨[(1, .ref 0 0 0 0), (5, .int .i64 p.1.2.1), (25, .psl 1 (List.map (gA .i64) vs1.Merge.At)), (26, .int .i64 (vs1.Merge.At.length : Int)), (27, .int .i64 p.1.2.2)], [(0, ⟨0, true, true, 10, [[.psl 1 (List.map (vA 4 aA.enc) vs1.Merge.Runs), .psl 1 (List.map (gA .i64) vs1.Merge.At), .psl 2 (List.map eA.enc vs1.Merge.Tree.Keys), .psl 1 (List.map (gA .i64) vs1.Merge.Tree.Lose), .int .i64 vs1.Merge.Tree.Win, .bool vs1.Shadow.Some, .str vs1.Shadow.Last, .bool vs1.Shadow.Bottom, .psl 4 (List.map aA.enc vs1.Out), .int .i64 vs1.Steps]]⟩)], 144, []⟩) (fun p => p.1.1) ⟨(fu, 0, 0), hxx10⟩ ⟨rF, rE, rfl, rfl, trivial, trivial⟩ (fun _ => Nat.le_refl _) ?_
   rintro ⟨⟨fu, n11, v12⟩, h1⟩
   cases fu with
   | zero =>
   replace h1 : oJ vs1 0 n11 v12 = some x10 := h1
   rw [oJ] at h1; cases h1
   | succ fu =>
    replace h1 : oJ vs1 (fu + 1) n11 v12 = some x10 := h1
    rw [oJ] at h1
    refine (show pA _ _ _ _ ⟨[(1, .ref 0 0 0 0), (5, .int .i64 n11), (25, .psl 1 (List.map (gA .i64) vs1.Merge.At)), (26, .int .i64 (vs1.Merge.At.length : Int)), (27, .int .i64 v12)], [(0, ⟨0, true, true, 10, [[.psl 1 (List.map (vA 4 aA.enc) vs1.Merge.Runs), .psl 1 (List.map (gA .i64) vs1.Merge.At), .psl 2 (List.map eA.enc vs1.Merge.Tree.Keys), .psl 1 (List.map (gA .i64) vs1.Merge.Tree.Lose), .int .i64 vs1.Merge.Tree.Win, .bool vs1.Shadow.Some, .str vs1.Shadow.Last, .bool vs1.Shadow.Bottom, .psl 4 (List.map aA.enc vs1.Out), .int .i64 vs1.Steps]]⟩)], 144, []⟩ from ?_)
    refine xS 152 [1, 5, 25, 26, 27, 28] ?_
    refine kA ?_
    refine xI h1 rfl (fun h1 hb13 => ?_) (fun h1 hb13 => ?_)
    ·
     refine qA (dA (kA (aC ?_)))
     obtain ⟨e14, he14, h1⟩ := cA h1
     obtain ⟨he14a, he14b, he14c⟩ := cB he14
     refine nA 176 [1, 5, 7, 25, 26, 27] (fun _ => none) rfl (fun _ _ => rS (rA he14a (rA he14b he14c))) ?_
     refine uB 208 [1, 5, 25, 26, 27] (fun _ => none) rfl (fun _ _ => rS (rA he14a (rA he14b he14c))) ?_
     refine sB (dA ?_)
     refine uB 224 [1, 5, 25, 26, 27] (fun _ => none) rfl (fun _ _ => rS (rA he14a (rA he14b he14c))) ?_
     refine dA ?_
     exact ⟨⟨(fu, (IntKind.i64.wrap (n11 + e14)), (IntKind.i64.wrap (v12 + 1))), h1⟩, ⟨rF, rE, rfl, rfl, trivial, trivial⟩, Nat.lt_succ_self _⟩
    ·
     refine iC (dB (dB (jC ?_)))
     obtain rfl := Option.some.inj h1
     exact ⟨rL, ⟨rF, rE, rfl, rfl, trivial, trivial⟩⟩
theorem zev {fu : Nat} {vs1 : kB} {r : Int × Int} (h0 : bS fu vs1 = some r) : bB Tryz.prog 57 [.agg (kB.enc vs1)] (.tup [.int .i64 r.1, .int .i64 r.2]) [] := by
 refine gB Tryz.func57 rfl (by decide) rL ?_
 dsimp only [Tryz.f57]
 rw [bS] at h0
 refine (show pA _ _ _ _ ⟨aB 0 _, [], 0, []⟩ from ?_)
 refine xS 24 [1] ?_
 refine kA ?_
 obtain ⟨vr2, hvr2, h0⟩ := cA h0
 refine nA 80 [1, 5] (fun | 1 => some (.tup [.int .i64 vr2.1, .int .i64 vr2.2], []) | _ => none) rfl (fun _ _ => rC (hZ hvr2)) ?_
 refine xS 96 [1, 5, 15] ?_
 refine xI h0 rfl (fun h0 hb3 => ?_) (fun h0 hb3 => ?_)
 ·
  refine xS 120 [2, 3] ?_
  refine jA (mA ?_)
  obtain rfl := Option.some.inj h0
  refine lA [] ?_
  exact rG
 ·
  refine qA (dA ?_)
  refine xS 104 [1, 6] ?_
  refine kA ?_
  refine xS 136 [1, 6, 18, 19, 20] ?_
  obtain ⟨x12, hxx12, h0⟩ := cA h0
  refine pC (fun s' => s'.nx ≤ 144 ∧ LeN [] s' ⟨[(6, .int .i64 x12)], [(0, ⟨0, true, true, 5, [[.psl 1 (List.map (vA 4 aA.enc) vs1.Runs), .psl 1 (List.map (gA .i64) vs1.At), .psl 2 (List.map eA.enc vs1.Tree.Keys), .psl 1 (List.map (gA .i64) vs1.Tree.Lose), .int .i64 vs1.Tree.Win]]⟩)], 144, []⟩) ?_ ?_
  ·
   intro s' hs
   obtain ⟨hn, hs⟩ := hs
   refine dA ?_
   refine pB [] hn hs ?_
   refine xS 168 [2, 3] ?_
   refine jA ?_
   obtain rfl := Option.some.inj h0
   refine lA [] ?_
   exact rG
  ·
   refine mC (ι := { p : Nat × Int × Int // eJ vs1 p.1 p.2.1 p.2.2 = some x12 }) (fun p => ⟨[(1, .ref 0 0 0 0), (6, .int .i64 p.1.2.1), (18, .psl 1 (List.map (vA 4 aA.enc) vs1.Runs)), (19, .int .i64 (vs1.Runs.length : Int)), (20, .int .i64 p.1.2.2)], [(0, ⟨0, true, true, 5, [[.psl 1 (List.map (vA 4 aA.enc) vs1.Runs), .psl 1 (List.map (gA .i64) vs1.At), .psl 2 (List.map eA.enc vs1.Tree.Keys), .psl 1 (List.map (gA .i64) vs1.Tree.Lose), .int .i64 vs1.Tree.Win]]⟩)], 136, []⟩) (fun p => p.1.1) ⟨(fu, 0, 0), hxx12⟩ ⟨rF, rE, rfl, rfl, trivial, trivial⟩ (fun _ => Nat.le_refl _) ?_
   rintro ⟨⟨fu, n13, v14⟩, h1⟩
   cases fu with
   | zero =>
   replace h1 : eJ vs1 0 n13 v14 = some x12 := h1
   rw [eJ] at h1; cases h1
   | succ fu =>
    replace h1 : eJ vs1 (fu + 1) n13 v14 = some x12 := h1
    rw [eJ] at h1
    refine (show pA _ _ _ _ ⟨[(1, .ref 0 0 0 0), (6, .int .i64 n13), (18, .psl 1 (List.map (vA 4 aA.enc) vs1.Runs)), (19, .int .i64 (vs1.Runs.length : Int)), (20, .int .i64 v14)], [(0, ⟨0, true, true, 5, [[.psl 1 (List.map (vA 4 aA.enc) vs1.Runs), .psl 1 (List.map (gA .i64) vs1.At), .psl 2 (List.map eA.enc vs1.Tree.Keys), .psl 1 (List.map (gA .i64) vs1.Tree.Lose), .int .i64 vs1.Tree.Win]]⟩)], 136, []⟩ from ?_)
    refine xS 144 [1, 6, 18, 19, 20, 21] ?_
    refine kA ?_
    refine xI h1 rfl (fun h1 hb15 => ?_) (fun h1 hb15 => ?_)
    ·
     refine qA (dA (kA (aC ?_)))
     obtain ⟨e16, he16, h1⟩ := cA h1
     obtain ⟨he16a, he16b, he16c⟩ := cB he16
     refine nA 184 [1, 6, 7, 8, 18, 19, 20] (fun _ => none) rfl (fun _ _ => rS (rA he16a (rA he16b he16c))) ?_
     obtain ⟨e17, he17, h1⟩ := cA h1
     obtain ⟨he17a, he17b, he17c⟩ := cB he17
     refine uB 272 [1, 6, 18, 19, 20] (fun _ => none) rfl (fun _ _ => rS (rA he16a (rA he16b (rA he16c (rA he17a (rA he17b he17c)))))) ?_
     refine sB (dA ?_)
     refine uB 288 [1, 6, 18, 19, 20] (fun _ => none) rfl (fun _ _ => rS (rA he16a (rA he16b (rA he16c (rA he17a (rA he17b he17c)))))) ?_
     refine dA ?_
     exact ⟨⟨(fu, (IntKind.i64.wrap (n13 + (IntKind.i64.wrap ((e16.length : Int) - e17)))), (IntKind.i64.wrap (v14 + 1))), h1⟩, ⟨rF, rE, rfl, rfl, trivial, trivial⟩, Nat.lt_succ_self _⟩
    ·
     refine iC (dB (dB (jC ?_)))
     obtain rfl := Option.some.inj h1
     exact ⟨rL, ⟨rF, rE, rfl, rfl, trivial, trivial⟩⟩
theorem cW {fu : Nat} {vs1 : wB} {r : Int × Int} (h0 : eN fu vs1 = some r) : bB Tryz.prog 30 [.agg (wB.enc vs1)] (.tup [.int .i64 r.1, .int .i64 r.2]) [] := by
 refine gB Tryz.func30 rfl (by decide) rL ?_
 dsimp only [Tryz.f30]
 rw [eN] at h0
 refine (show pA _ _ _ _ ⟨aB 0 _, [], 0, []⟩ from ?_)
 refine xS 24 [1] ?_
 refine kA ?_
 obtain ⟨vr2, hvr2, h0⟩ := cA h0
 refine nA 48 [1, 4] (fun | 1 => some (.int .i64 vr2, []) | _ => none) rfl (fun _ _ => rC (zfu hvr2)) ?_
 refine xS 64 [1, 4, 8] ?_
 refine xI h0 rfl (fun h0 hb3 => ?_) (fun h0 hb3 => ?_)
 ·
  refine xS 88 [2, 3] ?_
  refine jA (mA ?_)
  obtain rfl := Option.some.inj h0
  refine lA [] ?_
  exact rG
 ·
  refine qA (dA ?_)
  obtain ⟨vr4, hvr4, h0⟩ := cA h0
  refine nA 120 [2, 3] (fun | 2 => some (.tup [.int .i64 vr4.1, .int .i64 vr4.2], []) | _ => none) rfl (fun _ _ => rC (zev hvr4)) ?_
  refine jA ?_
  obtain rfl := Option.some.inj h0
  refine lA [] ?_
  exact rG
theorem zd0 {fu : Nat} {seq1 : Int} {seq2 : List sA} {r : List Int} (h0 : uN fu seq1 seq2 = some r) : bB Tryz.prog 37 [.fn 67 [] [.pp [.int .i64 seq1, .psl 1 (seq2.map sA.enc)]]] (.psl 1 (r.map (gA .i64))) [] := by
 refine gB Tryz.func37 rfl (by decide) rL ?_
 dsimp only [Tryz.f37]
 rw [uN] at h0
 refine (show pA _ _ _ _ ⟨aB 0 _, [], 0, []⟩ from ?_)
 refine xS 8 [0] ?_
 refine uG 3 rfl ?_
 refine gC (l' := List.range' 0 1 ++ (1 :: (List.range' 2 1 ++ []))) rfl ?_
 refine kC 0 1 16 (1 :: (List.range' 2 1 ++ [])) (fun _ => none) rfl rfl rfl (fun _ _ => rT) ?_
 refine sI rfl rfl rfl rfl rfl Tryz.func66 rfl (by decide) rfl rL ?_
 dsimp only [Tryz.f66]
 refine xE ⟨[(0, .nils), (1, .fn 67 [] [.pp [.int .i64 seq1, .psl 1 (List.map sA.enc seq2)]])], [], 16, []⟩ ?_
 refine xS 32 [1, 2, 4] ?_
 refine kA ?_
 refine xS 40 [2, 4, 6] ?_
 refine aC ?_
 refine zaj rfl Tryz.func67 rfl (by decide) rL ?_
 intro RC3 hRC3
 have stRC3 : RC3.st = .ready ∧ RC3.pend = none := by rw [hRC3]; exact ⟨rfl, rfl⟩
 have okRC3 : gW 40 RC3 := by rw [hRC3]; exact And.intro (rR) rfl
 dsimp only [Tryz.f67]
 refine pB (s2 := ⟨[(0, .yld 40), (1, .pp [.int .i64 seq1, .psl 1 (List.map sA.enc seq2)])], [(16, ⟨0, true, true, 1, [[.nils]]⟩)], 41, [(40, RC3)]⟩) [] rL ⟨rF, rE, rfl, rfl, (dC.consR rL rfl okRC3 rL trivial), trivial⟩ ?_
 refine xS 73 [0, 6, 7, 8] ?_
 refine zas ?_
 refine pB (s2 := ⟨[(0, .yld 40), (6, .psl 1 (List.map sA.enc seq2)), (7, .int .i64 (seq2.length : Int)), (8, .int .i64 0)], [(16, ⟨0, true, false, 1, [[.sl 73 0 1 0 0]]⟩), (73, ⟨0, true, true, 1, List.map (gA .i64) []⟩)], 74, [(40, RC3)]⟩) [(73, 1)] rL ⟨rF, rE, rfl, rfl, (dC.consR rL rfl okRC3 rL trivial), rN⟩ ?_
 obtain ⟨x17, hxx17, h0⟩ := cA h0
 refine pC (fun s' => ∃ g25 : Nat, s'.nx ≤ 82 ∧ LeN [] s' ⟨[], [(16, ⟨0, true, false, 1, [[.sl 73 g25 1 0 x17.length]]⟩), (73, ⟨g25, true, true, 1, List.map (gA .i64) x17⟩)], 82, [(40, RC3)]⟩) ?_ ?_
 ·
  intro s' hs
  obtain ⟨g25, hn, hs⟩ := hs
  refine ⟨_, hn, hs, ?_⟩
  refine zO (fun _ _ => rT) ?_
  refine zaA stRC3 rfl ?_
  refine sB (dA ?_)
  refine xE ⟨[(2, .ref 16 0 0 0), (4, .nils), (6, .fn 67 [] [.pp [.int .i64 seq1, .psl 1 (List.map sA.enc seq2)]])], [(16, ⟨0, true, false, 1, [[.sl 73 g25 1 0 x17.length]]⟩), (73, ⟨g25, true, true, 1, List.map (gA .i64) x17⟩)], 82, []⟩ ?_
  refine xS 98 [4] ?_
  refine jA ?_
  refine cE (fun _ _ => rT) ?_
  refine xF ⟨[(0, .fn 67 [] [.pp [.int .i64 seq1, .psl 1 (List.map sA.enc seq2)]]), (3, .fn 67 [] [.pp [.int .i64 seq1, .psl 1 (List.map sA.enc seq2)]]), (4, .sl 73 g25 1 0 x17.length)], [(73, ⟨g25, true, true, 1, List.map (gA .i64) x17⟩)], 98, []⟩ ?_
  refine gC (l' := List.range' 2 1 ++ []) rfl ?_
  refine kC 2 1 106 [] (fun _ => none) rfl rfl rfl (fun _ _ => rT) ?_
  refine zC ?_
  refine dA ?_
  refine xE ⟨[(2, .sl 73 g25 1 0 x17.length)], [(73, ⟨g25, true, true, 1, List.map (gA .i64) x17⟩)], 106, []⟩ ?_
  refine jA ?_
  obtain rfl := Option.some.inj h0
  refine lA [] ?_
  exact rG
 ·
  refine mC (ι := { p : Nat × Int × List Int × Nat // gG seq2 p.1 p.2.1 p.2.2.1 = some x17 }) (fun p => ⟨[(0, .yld 40), (6, .psl 1 (List.map sA.enc seq2)), (7, .int .i64 (seq2.length : Int)), (8, .int .i64 p.1.2.1)], [(16, ⟨0, true, false, 1, [[.sl 73 p.1.2.2.2 1 0 p.1.2.2.1.length]]⟩), (73, ⟨p.1.2.2.2, true, true, 1, List.map (gA .i64) p.1.2.2.1⟩)], 74, [(40, RC3)]⟩) (fun p => p.1.1) ⟨(fu, 0, [], 0), hxx17⟩ ⟨rF, rE, rfl, rfl, (dC.consR rL rfl okRC3 rL trivial), trivial⟩ (fun _ => Nat.le_refl _) ?_
  rintro ⟨⟨fu, v18, v19, g20⟩, h1⟩
  cases fu with
  | zero =>
   replace h1 : gG seq2 0 v18 v19 = some x17 := h1
   rw [gG] at h1; cases h1
  | succ fu =>
   replace h1 : gG seq2 (fu + 1) v18 v19 = some x17 := h1
   rw [gG] at h1
   refine (show pA _ _ _ _ ⟨[(0, .yld 40), (6, .psl 1 (List.map sA.enc seq2)), (7, .int .i64 (seq2.length : Int)), (8, .int .i64 v18)], [(16, ⟨0, true, false, 1, [[.sl 73 g20 1 0 v19.length]]⟩), (73, ⟨g20, true, true, 1, List.map (gA .i64) v19⟩)], 74, [(40, RC3)]⟩ from ?_)
   refine xS 82 [0, 6, 7, 8, 9] ?_
   refine kA ?_
   refine xI h1 rfl (fun h1 hb21 => ?_) (fun h1 hb21 => ?_)
   ·
    refine qA (dA (kA (aC ?_)))
    obtain ⟨e22, he22, h1⟩ := cA h1
    obtain ⟨he22a, he22b, he22c⟩ := cB he22
    refine nA 130 [0, 3, 4, 6, 7, 8] (fun _ => none) rfl (fun _ _ => rS (rA he22a (rA he22b he22c))) ?_
    refine uG 10 rfl ?_
    refine gC (l' := List.range' 0 5 ++ (List.range' 5 5 ++ [])) rfl ?_
    refine kC 0 5 170 (List.range' 5 5 ++ []) (fun _ => none) rfl rfl rfl (fun _ _ => rS (rA he22a (rA he22b he22c))) ?_
    refine iI (s2 := ⟨[(0, .yld 40), (3, .int .i64 v18), (4, .ref 106 0 0 0), (6, .psl 1 (List.map sA.enc seq2)), (7, .int .i64 (seq2.length : Int)), (8, .int .i64 v18), (13, .ref 106 0 0 0), (14, .psl 2 (List.map zA.enc e22.Runs)), (15, .int .i64 (e22.Runs.length : Int)), (16, .bool (decide ((e22.Runs.length : Int) = 2))), (17, .bool (decide ((e22.Runs.length : Int) = 2)))], [(16, ⟨0, true, false, 1, [[.sl 73 g20 1 0 v19.length]]⟩), (73, ⟨g20, true, true, 1, List.map (gA .i64) v19⟩), (106, ⟨0, true, true, 1, [[.psl 2 (List.map zA.enc e22.Runs)]]⟩)], 170, [(40, RC3)]⟩) [] rL ⟨rF, rE, rfl, rfl, (dC.consR rL rfl okRC3 rL trivial), trivial⟩ ?_
    generalize hg23 : (decide ((e22.Runs.length : Int) = 2)) = b23
    cases b23 with
    | true =>
     replace h1 := jB h1 hg23
     refine gC (l' := List.range' 5 2 ++ (7 :: (List.range' 8 2 ++ []))) rfl ?_
     refine kC 5 2 186 (7 :: (List.range' 8 2 ++ [])) (fun _ => none) rfl rfl rfl (fun _ _ => rS (rA he22a (rA he22b he22c))) ?_
     refine tY hRC3 rfl rfl rfl rfl rfl rfl rfl rfl rfl ?_
     refine pB (s2 := ⟨[(2, .ref 16 0 0 0), (4, .nils), (6, .fn 67 [] [.pp [.int .i64 seq1, .psl 1 (List.map sA.enc seq2)]]), (7, .int .i64 v18)], [(16, ⟨0, true, false, 1, [[.sl 73 g20 1 0 v19.length]]⟩), (73, ⟨g20, true, true, 1, List.map (gA .i64) v19⟩), (106, ⟨0, true, true, 1, [[.psl 2 (List.map zA.enc e22.Runs)]]⟩)], 186, [(40, RC3)]⟩) [] rL ⟨rF, rE, rfl, rfl, (dC.consR rL rfl okRC3 rL trivial), trivial⟩ ?_
     refine uB 194 [2, 4, 5] (fun _ => none) rfl (fun _ _ => rS (rA he22a (rA he22b he22c))) ?_
     refine dA ?_
     refine ⟨RC3, rfl, stRC3.1, ?_⟩
     refine pB (s2 := ⟨[(2, .ref 16 0 0 0), (4, .nils), (5, .int .i64 v18)], [(16, ⟨0, true, false, 1, [[.sl 73 g20 1 0 v19.length]]⟩), (73, ⟨g20, true, true, 1, List.map (gA .i64) v19⟩), (106, ⟨0, true, true, 1, [[.psl 2 (List.map zA.enc e22.Runs)]]⟩)], 194, [(40, { RC3 with st := .busy, pend := RC3.pend })]⟩) [] rL ⟨rF, rE, rfl, rfl, (dC.consR rL rfl okRC3 rL trivial), trivial⟩ ?_
     refine aC ?_
     obtain ⟨hc24, h1⟩ := mD h1
     refine uB 234 [2, 4] (fun _ => none) rfl (fun _ _ => rS (rA he22a (rA he22b he22c))) ?_
     refine sB ?_
     refine zaK stRC3 rfl ?_
     refine iI (s2 := ⟨[(0, .yld 40), (3, .int .i64 v18), (4, .ref 106 0 0 0), (6, .psl 1 (List.map sA.enc seq2)), (7, .int .i64 (seq2.length : Int)), (8, .int .i64 v18), (13, .ref 106 0 0 0), (14, .psl 2 (List.map zA.enc e22.Runs)), (15, .int .i64 (e22.Runs.length : Int)), (16, .bool true), (17, .bool true), (18, .yld 40), (19, .int .i64 v18), (20, .bool true)], [(16, ⟨0, true, false, 1, [[.sl 73 (g20 + 1) 1 0 ((v19 ++ [v18]).length)]]⟩), (73, ⟨(g20 + 1), true, true, 1, List.map (gA .i64) (v19 ++ [v18])⟩), (106, ⟨0, true, true, 1, [[.psl 2 (List.map zA.enc e22.Runs)]]⟩)], 234, [(40, RC3)]⟩) [] rL ⟨rF, rE, rfl, rfl, (dC.consR rL rfl okRC3 rL trivial), trivial⟩ ?_
     refine gC (l' := List.range' 8 2 ++ []) rfl ?_
     refine kC 8 2 250 [] (fun _ => none) rfl rfl rfl (fun _ _ => rS (rA he22a (rA he22b he22c))) ?_
     refine zC ?_
     refine dA ?_
     refine pB (s2 := ⟨[(0, .yld 40), (6, .psl 1 (List.map sA.enc seq2)), (7, .int .i64 (seq2.length : Int)), (8, .int .i64 v18), (18, .yld 40), (19, .int .i64 v18), (20, .bool true), (21, .bool false), (22, .bool false)], [(16, ⟨0, true, false, 1, [[.sl 73 (g20 + 1) 1 0 ((v19 ++ [v18]).length)]]⟩), (73, ⟨(g20 + 1), true, true, 1, List.map (gA .i64) (v19 ++ [v18])⟩)], 250, [(40, RC3)]⟩) [] rL ⟨rF, rE, rfl, rfl, (dC.consR rL rfl okRC3 rL trivial), trivial⟩ ?_
     refine eF rfl ?_
     refine qA (sB (dA ?_))
     refine uB 266 [0, 6, 7, 8, 18, 19, 20, 21] (fun _ => none) rfl (fun _ _ => rS (rA he22a (rA he22b he22c))) ?_
     refine dA ?_
     exact ⟨⟨(fu, (IntKind.i64.wrap (v18 + 1)), (v19 ++ [v18]), (g20 + 1)), h1⟩, ⟨rF, rE, rfl, rfl, (dC.consR rL rfl okRC3 rL trivial), trivial⟩, Nat.lt_succ_self _⟩
    | false =>
     replace h1 := wA h1 hg23
     refine gC (l' := List.range' 5 5 ++ []) rfl ?_
     refine kC 5 5 210 [] (fun _ => none) rfl rfl rfl (fun _ _ => rS (rA he22a (rA he22b he22c))) ?_
     refine zC ?_
     refine dA ?_
     refine pB (s2 := ⟨[(0, .yld 40), (6, .psl 1 (List.map sA.enc seq2)), (7, .int .i64 (seq2.length : Int)), (8, .int .i64 v18), (22, .bool false)], [(16, ⟨0, true, false, 1, [[.sl 73 g20 1 0 v19.length]]⟩), (73, ⟨g20, true, true, 1, List.map (gA .i64) v19⟩)], 210, [(40, RC3)]⟩) [] rL ⟨rF, rE, rfl, rfl, (dC.consR rL rfl okRC3 rL trivial), trivial⟩ ?_
     refine eF rfl ?_
     refine qA (sB (dA ?_))
     refine uB 226 [0, 6, 7, 8] (fun _ => none) rfl (fun _ _ => rS (rA he22a (rA he22b he22c))) ?_
     refine dA ?_
     exact ⟨⟨(fu, (IntKind.i64.wrap (v18 + 1)), v19, g20), h1⟩, ⟨rF, rE, rfl, rfl, (dC.consR rL rfl okRC3 rL trivial), trivial⟩, Nat.lt_succ_self _⟩
   ·
    refine iC (dB (dB (jC ?_)))
    obtain rfl := Option.some.inj h1
    exact ⟨g20, rL, ⟨rF, rE, rfl, rfl, (dC.consR rL rfl okRC3 rL trivial), trivial⟩⟩
theorem zgL {fu : Nat} {vs1 : kB} {r : aA × Int × kB × Int} (h0 : vQ fu vs1 = some r) : bB Tryz.prog 89 [.agg (kB.enc vs1)] (.tup [.agg (aA.enc r.1), .int .i64 r.2.1, .agg (kB.enc r.2.2.1), .int .i64 r.2.2.2]) [] := by
 refine gB Tryz.func89 rfl (by decide) rL ?_
 dsimp only [Tryz.f89]
 rw [vQ] at h0
 refine (show pA _ _ _ _ ⟨aB 0 _, [], 0, []⟩ from ?_)
 refine xS 40 [1, 2, 4] ?_
 refine uG 7 rfl ?_
 refine gC (l' := List.range' 0 1 ++ (1 :: (List.range' 2 5 ++ []))) rfl ?_
 refine kC 0 1 48 (1 :: (List.range' 2 5 ++ [])) (fun _ => none) rfl rfl rfl (fun _ _ => rT) ?_
 refine sI rfl rfl rfl rfl rfl Tryz.func116 rfl (by decide) rfl rL ?_
 dsimp only [Tryz.f116]
 refine xE ⟨[(0, .agg [.psl 1 (List.map (vA 4 aA.enc) vs1.Runs), .psl 1 (List.map (gA .i64) vs1.At), .psl 2 (List.map eA.enc vs1.Tree.Keys), .psl 1 (List.map (gA .i64) vs1.Tree.Lose), .int .i64 vs1.Tree.Win])], [(0, ⟨0, true, true, 5, [[.psl 1 (List.map (vA 4 aA.enc) vs1.Runs), .psl 1 (List.map (gA .i64) vs1.At), .psl 2 (List.map eA.enc vs1.Tree.Keys), .psl 1 (List.map (gA .i64) vs1.Tree.Lose), .int .i64 vs1.Tree.Win]]⟩), (8, ⟨0, true, true, 4, [[.str [], .str [], .bool false, .int .i64 0]]⟩), (24, ⟨0, true, true, 5, [[.nils, .nils, .nils, .nils, .int .i64 0]]⟩)], 48, []⟩ ?_
 refine xS 72 [1] ?_
 refine kA ?_
 obtain ⟨vr2, hvr2, h0⟩ := cA h0
 refine nA 128 [1, 5] (fun | 1 => some (.tup [.int .i64 vr2.1, .int .i64 vr2.2], []) | _ => none) rfl (fun _ _ => rC (hZ hvr2)) ?_
 refine xS 144 [1, 5, 12] ?_
 refine xI h0 rfl (fun h0 hb3 => ?_) (fun h0 hb3 => ?_)
 ·
  refine xS 168 [2, 3] ?_
  refine jA (mA ?_)
  refine cE (fun _ _ => rT) ?_
  refine xF ⟨[(1, .ref 0 0 0 0), (2, .ref 8 0 0 0), (4, .ref 24 0 0 0), (8, .agg [.psl 1 (List.map (vA 4 aA.enc) vs1.Runs), .psl 1 (List.map (gA .i64) vs1.At), .psl 2 (List.map eA.enc vs1.Tree.Keys), .psl 1 (List.map (gA .i64) vs1.Tree.Lose), .int .i64 vs1.Tree.Win]), (9, .tup [.nilp, .int .i64 vr2.2])], [(0, ⟨0, true, true, 5, [[.psl 1 (List.map (vA 4 aA.enc) vs1.Runs), .psl 1 (List.map (gA .i64) vs1.At), .psl 2 (List.map eA.enc vs1.Tree.Keys), .psl 1 (List.map (gA .i64) vs1.Tree.Lose), .int .i64 vs1.Tree.Win]]⟩), (8, ⟨0, true, true, 4, [[.str [], .str [], .bool false, .int .i64 0]]⟩), (24, ⟨0, true, true, 5, [[.nils, .nils, .nils, .nils, .int .i64 0]]⟩)], 168, []⟩ ?_
  refine gC (l' := List.range' 2 5 ++ []) rfl ?_
  refine kC 2 5 208 [] (fun _ => none) rfl rfl rfl (fun _ _ => rT) ?_
  refine zC ?_
  refine dA ?_
  refine xE ⟨[(2, .ref 8 0 0 0), (4, .ref 24 0 0 0), (5, .int .i64 vr2.2), (6, .nilp)], [(8, ⟨0, true, true, 4, [[.str [], .str [], .bool false, .int .i64 0]]⟩), (24, ⟨0, true, true, 5, [[.nils, .nils, .nils, .nils, .int .i64 0]]⟩)], 208, []⟩ ?_
  refine kA ?_
  refine xS 224 [2, 4, 5, 6, 13] ?_
  refine jM rfl hb3 ?_
  refine xS 280 [2, 3, 4, 5] ?_
  refine jA (mA ?_)
  obtain rfl := Option.some.inj h0
  refine lA [] ?_
  exact rG
 ·
  refine qA (dA ?_)
  obtain ⟨vr4, hvr4, h0⟩ := cA h0
  obtain ⟨vr5, hvr5, h0⟩ := cA h0
  refine oC 248 [2, 3] (fun | 2 => some (.psl 1 (vr4.map (vA 4 aA.enc)), []) | 5 => some (.sl 0 0 1 0 vr5.length, [⟨0, true, true, 1, vr5.map (gA .i64)⟩]) | _ => none) rfl rfl rfl (fun Kt hK => by
    try have q0 := zaI hvr4
    try have q1 := zdq hvr5
    exact jF) ?_
  refine jA ?_
  refine cE (fun _ _ => rT) ?_
  refine xF ⟨[(1, .ref 0 0 0 0), (2, .ref 8 0 0 0), (4, .ref 24 0 0 0), (8, .agg [.psl 1 (List.map (vA 4 aA.enc) vs1.Runs), .psl 1 (List.map (gA .i64) vs1.At), .psl 2 (List.map eA.enc vs1.Tree.Keys), .psl 1 (List.map (gA .i64) vs1.Tree.Lose), .int .i64 vs1.Tree.Win]), (9, .tup [.ref 224 0 0 0, .int .i64 0])], [(0, ⟨0, true, true, 5, [[.psl 1 (List.map (vA 4 aA.enc) vs1.Runs), .psl 1 (List.map (gA .i64) vs1.At), .psl 2 (List.map eA.enc vs1.Tree.Keys), .psl 1 (List.map (gA .i64) vs1.Tree.Lose), .int .i64 vs1.Tree.Win]]⟩), (8, ⟨0, true, true, 4, [[.str [], .str [], .bool false, .int .i64 0]]⟩), (24, ⟨0, true, true, 5, [[.nils, .nils, .nils, .nils, .int .i64 0]]⟩), (184, ⟨0, true, true, 1, List.map (gA .i64) vr5⟩), (224, ⟨0, true, false, 5, [[.psl 1 (List.map (vA 4 aA.enc) vr4), .sl 184 0 1 0 vr5.length, .psl 2 (List.map eA.enc vs1.Tree.Keys), .psl 1 (List.map (gA .i64) vs1.Tree.Lose), .int .i64 vs1.Tree.Win]]⟩)], 248, []⟩ ?_
  refine gC (l' := List.range' 2 5 ++ []) rfl ?_
  refine kC 2 5 288 [] (fun _ => none) rfl rfl rfl (fun _ _ => rT) ?_
  refine zC ?_
  refine dA ?_
  refine xE ⟨[(2, .ref 8 0 0 0), (4, .ref 24 0 0 0), (5, .int .i64 0), (6, .ref 224 0 0 0)], [(8, ⟨0, true, true, 4, [[.str [], .str [], .bool false, .int .i64 0]]⟩), (24, ⟨0, true, true, 5, [[.nils, .nils, .nils, .nils, .int .i64 0]]⟩), (184, ⟨0, true, true, 1, List.map (gA .i64) vr5⟩), (224, ⟨0, true, false, 5, [[.psl 1 (List.map (vA 4 aA.enc) vr4), .sl 184 0 1 0 vr5.length, .psl 2 (List.map eA.enc vs1.Tree.Keys), .psl 1 (List.map (gA .i64) vs1.Tree.Lose), .int .i64 vs1.Tree.Win]]⟩)], 288, []⟩ ?_
  refine kA ?_
  refine xS 304 [2, 4, 5, 6, 13] ?_
  refine eF rfl ?_
  refine qA (dA ?_)
  obtain ⟨vr6, hvr6, h0⟩ := cA h0
  refine nA 376 [2, 3, 4, 5, 6] (fun | 1 => some (.tup [.agg (aA.enc vr6.1), .int .i64 vr6.2.1, .int .i64 vr6.2.2], []) | _ => none) rfl (fun _ _ => rC (zbo hvr6)) ?_
  refine kA ?_
  refine xS 392 [2, 3, 4, 5, 6, 24] ?_
  refine xI h0 rfl (fun h0 hb7 => ?_) (fun h0 hb7 => ?_)
  ·
   refine xS 448 [2, 3, 4, 5] ?_
   refine jA (mA ?_)
   obtain rfl := Option.some.inj h0
   refine lA [] ?_
   exact rG
  ·
   refine qA (dA ?_)
   refine uG 3 rfl ?_
   refine gC (l' := List.range' 0 2 ++ (2 :: (List.range' 3 0 ++ []))) rfl ?_
   refine kC 0 2 408 (2 :: (List.range' 3 0 ++ [])) (fun _ => none) rfl rfl rfl (fun _ _ => rT) ?_
   refine sI rfl rfl rfl rfl rfl Tryz.func118 rfl (by decide) rfl rL ?_
   dsimp only [Tryz.f118]
   refine xE ⟨[(0, .ref 224 0 0 0), (1, .int .i64 vr6.2.1)], [(8, ⟨0, true, true, 4, [[.str vr6.1.Key, .str vr6.1.Val, .bool vr6.1.Dead, .int .i64 vr6.1.Seq]]⟩), (24, ⟨0, true, true, 5, [[.nils, .nils, .nils, .nils, .int .i64 0]]⟩), (184, ⟨0, true, true, 1, List.map (gA .i64) vr5⟩), (224, ⟨0, true, false, 5, [[.psl 1 (List.map (vA 4 aA.enc) vr4), .sl 184 0 1 0 vr5.length, .psl 2 (List.map eA.enc vs1.Tree.Keys), .psl 1 (List.map (gA .i64) vs1.Tree.Lose), .int .i64 vs1.Tree.Win]]⟩)], 408, []⟩ ?_
   obtain ⟨e8, he8, h0⟩ := cA h0
   obtain ⟨he8a, he8b, he8c⟩ := cB he8
   refine nA 496 [0, 1] (fun _ => none) rfl (fun _ _ => rS (rA he8a (rA he8b he8c))) ?_
   refine xE ⟨[(0, .ref 224 0 0 0), (1, .int .i64 vr6.2.1)], [(8, ⟨0, true, true, 4, [[.str vr6.1.Key, .str vr6.1.Val, .bool vr6.1.Dead, .int .i64 vr6.1.Seq]]⟩), (24, ⟨0, true, true, 5, [[.nils, .nils, .nils, .nils, .int .i64 0]]⟩), (184, ⟨0, true, true, 1, List.map (gA .i64) (vr5.set vr6.2.1.toNat (IntKind.i64.wrap (e8 + 1)))⟩), (224, ⟨0, true, false, 5, [[.psl 1 (List.map (vA 4 aA.enc) vr4), .sl 184 0 1 0 ((vr5.set vr6.2.1.toNat (IntKind.i64.wrap (e8 + 1))).length), .psl 2 (List.map eA.enc vs1.Tree.Keys), .psl 1 (List.map (gA .i64) vs1.Tree.Lose), .int .i64 vs1.Tree.Win]]⟩)], 496, []⟩ ?_
   obtain ⟨e9, he9, h0⟩ := cA h0
   obtain ⟨he9a, he9b, he9c⟩ := cB he9
   obtain ⟨e10, he10, h0⟩ := cA h0
   obtain ⟨he10a, he10b, he10c⟩ := cB he10
   obtain ⟨vr11, hvr11, h0⟩ := cA h0
   obtain ⟨vr12, hvr12, h0⟩ := cA h0
   refine fG 752 [] (fun | 22 => some (.agg (eA.enc vr11), []) | 23 => some (.tup [.agg (eB.enc vr12.1), .int .i64 vr12.2.1, .int .i64 vr12.2.2], []) | _ => none) rfl rfl rfl (fun Kt hK => by
     try have q0 := dX hvr11
     try have q1 := zcq hvr12
     exact xD (rA he8a (rA he8b (rA he8c (rA he9a (rA he9b (rA he9c (rA he10a (rA he10b he10c))))))))) ?_
   refine zO (fun _ _ => rS (rA he8a (rA he8b (rA he8c (rA he9a (rA he9b (rA he9c (rA he10a (rA he10b he10c))))))))) ?_
   refine xF ⟨[(2, .ref 8 0 0 0), (3, .int .i64 vr6.2.1), (4, .ref 24 0 0 0), (5, .int .i64 vr6.2.2), (6, .ref 224 0 0 0), (24, .bool (!(decide (vr6.2.2 = 0)))), (28, .ref 224 0 0 0), (29, .int .i64 vr6.2.1), (30, .tup [])], [(8, ⟨0, true, true, 4, [[.str vr6.1.Key, .str vr6.1.Val, .bool vr6.1.Dead, .int .i64 vr6.1.Seq]]⟩), (24, ⟨0, true, true, 5, [[.nils, .nils, .nils, .nils, .int .i64 0]]⟩), (184, ⟨0, true, true, 1, List.map (gA .i64) (vr5.set vr6.2.1.toNat (IntKind.i64.wrap (e8 + 1)))⟩), (224, ⟨0, true, false, 5, [[.psl 1 (List.map (vA 4 aA.enc) vr4), .sl 184 0 1 0 ((vr5.set vr6.2.1.toNat (IntKind.i64.wrap (e8 + 1))).length), .psl 2 (List.map eA.enc vr12.1.Keys), .psl 1 (List.map (gA .i64) vr12.1.Lose), .int .i64 vr12.1.Win]]⟩)], 752, []⟩ ?_
   refine gC (l' := []) rfl ?_
   refine zC ?_
   refine dA ?_
   refine xE ⟨[(2, .ref 8 0 0 0), (3, .int .i64 vr6.2.1), (4, .ref 24 0 0 0), (6, .ref 224 0 0 0)], [(8, ⟨0, true, true, 4, [[.str vr6.1.Key, .str vr6.1.Val, .bool vr6.1.Dead, .int .i64 vr6.1.Seq]]⟩), (24, ⟨0, true, true, 5, [[.nils, .nils, .nils, .nils, .int .i64 0]]⟩), (184, ⟨0, true, true, 1, List.map (gA .i64) (vr5.set vr6.2.1.toNat (IntKind.i64.wrap (e8 + 1)))⟩), (224, ⟨0, true, false, 5, [[.psl 1 (List.map (vA 4 aA.enc) vr4), .sl 184 0 1 0 ((vr5.set vr6.2.1.toNat (IntKind.i64.wrap (e8 + 1))).length), .psl 2 (List.map eA.enc vr12.1.Keys), .psl 1 (List.map (gA .i64) vr12.1.Lose), .int .i64 vr12.1.Win]]⟩)], 752, []⟩ ?_
   refine oC 832 [2, 3, 4, 5] (fun _ => none) rfl rfl rfl (fun _ _ => xD (rA he8a (rA he8b (rA he8c (rA he9a (rA he9b (rA he9c (rA he10a (rA he10b he10c))))))))) ?_
   refine jA ?_
   obtain rfl := Option.some.inj h0
   refine lA [] ?_
   simp (maxSteps := 1000000) only [↓reduceIte, reduceCtorEq, Nat.reduceEqDiff, Nat.reduceLT, Nat.reduceLeDiff, Nat.reduceAdd, Nat.reduceMul, Int.reduceToNat, push_cast, bC, he8a, he8b, he8c, he9a, he9b, he9c, he10a, he10b, he10c]
   all_goals exact rH
theorem zky {fu : Nat} {vs1 : tB} {vx2 : aA} {r : Bool × tB × Int} (h0 : dS fu vs1 vx2 = some r) : bB Tryz.prog 90 [.agg (tB.enc vs1), .agg (aA.enc vx2)] (.tup [.bool r.1, .agg (tB.enc r.2.1), .int .i64 r.2.2]) [] := by
 refine gB Tryz.func90 rfl (by decide) rL ?_
 dsimp only [Tryz.f90]
 rw [dS] at h0
 refine (show pA _ _ _ _ ⟨aB 0 _, [], 0, []⟩ from ?_)
 refine xS 40 [2, 3, 5] ?_
 refine uG 10 rfl ?_
 refine gC (l' := List.range' 0 2 ++ (2 :: (List.range' 3 7 ++ []))) rfl ?_
 refine kC 0 2 56 (2 :: (List.range' 3 7 ++ [])) (fun _ => none) rfl rfl rfl (fun _ _ => rT) ?_
 refine sI rfl rfl rfl rfl rfl Tryz.func119 rfl (by decide) rfl rL ?_
 dsimp only [Tryz.f119]
 refine xE ⟨[(0, .agg [.bool vs1.Some, .str vs1.Last, .bool vs1.Bottom]), (1, .agg [.str vx2.Key, .str vx2.Val, .bool vx2.Dead, .int .i64 vx2.Seq])], [(0, ⟨0, true, true, 3, [[.bool vs1.Some, .str vs1.Last, .bool vs1.Bottom]]⟩), (8, ⟨0, true, true, 4, [[.str vx2.Key, .str vx2.Val, .bool vx2.Dead, .int .i64 vx2.Seq]]⟩), (24, ⟨0, true, true, 3, [[.bool false, .str [], .bool false]]⟩)], 56, []⟩ ?_
 refine xS 96 [2, 3, 5] ?_
 refine kA ?_
 obtain ⟨vr3, hvr3, h0⟩ := cA h0
 refine nA 120 [2, 3, 5, 7] (fun | 1 => some (.int .i64 vr3, []) | _ => none) rfl (fun _ _ => rC (zcS hvr3)) ?_
 refine xS 136 [2, 3, 5, 7, 13] ?_
 refine xI h0 rfl (fun h0 hb4 => ?_) (fun h0 hb4 => ?_)
 ·
  refine xS 176 [4, 5, 6] ?_
  refine jA (mA ?_)
  refine cE (fun _ _ => rT) ?_
  refine xF ⟨[(2, .ref 0 0 0 0), (3, .ref 8 0 0 0), (5, .ref 24 0 0 0), (9, .agg [.bool vs1.Some, .str vs1.Last, .bool vs1.Bottom]), (10, .agg [.str vx2.Key, .str vx2.Val, .bool vx2.Dead, .int .i64 vx2.Seq]), (11, .tup [.nili, .agg [.bool false, .str [], .bool false], .int .i64 vr3])], [(0, ⟨0, true, true, 3, [[.bool vs1.Some, .str vs1.Last, .bool vs1.Bottom]]⟩), (8, ⟨0, true, true, 4, [[.str vx2.Key, .str vx2.Val, .bool vx2.Dead, .int .i64 vx2.Seq]]⟩), (24, ⟨0, true, true, 3, [[.bool false, .str [], .bool false]]⟩)], 176, []⟩ ?_
  refine gC (l' := List.range' 3 7 ++ []) rfl ?_
  refine kC 3 7 232 [] (fun _ => none) rfl rfl rfl (fun _ _ => rT) ?_
  refine zC ?_
  refine dA ?_
  refine xE ⟨[(5, .ref 24 0 0 0), (6, .int .i64 vr3), (7, .nili)], [(24, ⟨0, true, true, 3, [[.bool false, .str [], .bool false]]⟩)], 232, []⟩ ?_
  refine xS 280 [4, 5, 6] ?_
  refine oC 328 [4, 5, 6] (fun _ => none) rfl rfl rfl (fun _ _ => jF) ?_
  refine jA ?_
  obtain rfl := Option.some.inj h0
  refine lA [] ?_
  exact rG
 ·
  refine qA (dA (kA ?_))
  obtain ⟨vr5, hvr5, h0⟩ := cA h0
  refine nA 160 [2, 3, 5, 8] (fun | 1 => some (.int .i64 vr5, []) | _ => none) rfl (fun _ _ => rC (pY hvr5)) ?_
  refine xS 176 [2, 3, 5, 8, 19] ?_
  refine xI h0 rfl (fun h0 hb6 => ?_) (fun h0 hb6 => ?_)
  ·
   refine xS 216 [4, 5, 6] ?_
   refine jA (mA ?_)
   refine cE (fun _ _ => rT) ?_
   refine xF ⟨[(2, .ref 0 0 0 0), (3, .ref 8 0 0 0), (5, .ref 24 0 0 0), (9, .agg [.bool vs1.Some, .str vs1.Last, .bool vs1.Bottom]), (10, .agg [.str vx2.Key, .str vx2.Val, .bool vx2.Dead, .int .i64 vx2.Seq]), (11, .tup [.nili, .agg [.bool false, .str [], .bool false], .int .i64 vr5])], [(0, ⟨0, true, true, 3, [[.bool vs1.Some, .str vs1.Last, .bool vs1.Bottom]]⟩), (8, ⟨0, true, true, 4, [[.str vx2.Key, .str vx2.Val, .bool vx2.Dead, .int .i64 vx2.Seq]]⟩), (24, ⟨0, true, true, 3, [[.bool false, .str [], .bool false]]⟩)], 216, []⟩ ?_
   refine gC (l' := List.range' 3 7 ++ []) rfl ?_
   refine kC 3 7 272 [] (fun _ => none) rfl rfl rfl (fun _ _ => rT) ?_
   refine zC ?_
   refine dA ?_
   refine xE ⟨[(5, .ref 24 0 0 0), (6, .int .i64 vr5), (7, .nili)], [(24, ⟨0, true, true, 3, [[.bool false, .str [], .bool false]]⟩)], 272, []⟩ ?_
   refine xS 320 [4, 5, 6] ?_
   refine oC 368 [4, 5, 6] (fun _ => none) rfl rfl rfl (fun _ _ => jF) ?_
   refine jA ?_
   obtain rfl := Option.some.inj h0
   refine lA [] ?_
   exact rG
  ·
   refine qA (dA (kA ?_))
   obtain ⟨b7, hb7, h0⟩ := cA h0
   refine nC (fr' := [(2, .ref 56 0 0 0), (3, .ref 64 0 0 0), (5, .ref 80 0 0 0), (30, .bool b7)]) (hp' := [(0, ⟨0, true, true, 3, [[.bool vs1.Some, .str vs1.Last, .bool vs1.Bottom]]⟩), (8, ⟨0, true, true, 4, [[.str vx2.Key, .str vx2.Val, .bool vx2.Dead, .int .i64 vx2.Seq]]⟩), (24, ⟨0, true, true, 3, [[.bool false, .str [], .bool false]]⟩), (56, ⟨0, true, true, 3, [[.bool vs1.Some, .str vs1.Last, .bool vs1.Bottom]]⟩), (64, ⟨0, true, true, 4, [[.str vx2.Key, .str vx2.Val, .bool vx2.Dead, .int .i64 vx2.Seq]]⟩), (80, ⟨0, true, true, 3, [[.bool false, .str [], .bool false]]⟩)]) [0, 8, 24, 56, 64, 80] 248 [2, 3, 5, 30] (fun _ => none) rfl (fun Kt hK => by
     cases hg8 : vs1.Some with
     | false =>
      replace hb7 := wA hb7 hg8
      have hqb7 := Option.some.inj hb7
      subst hqb7
      simp (maxSteps := 1000000) only [↓reduceIte, reduceCtorEq, Nat.reduceEqDiff, Nat.reduceLT, Nat.reduceLeDiff, Nat.reduceAdd, Nat.reduceMul, Int.reduceToNat, push_cast, ↓hg8]
      try simp only [↓hg8] at hK
      all_goals exact rU
     | true =>
      replace hb7 := jB hb7 hg8
      have hqb7 := Option.some.inj hb7
      subst hqb7
      simp (maxSteps := 1000000) only [↓reduceIte, reduceCtorEq, Nat.reduceEqDiff, Nat.reduceLT, Nat.reduceLeDiff, Nat.reduceAdd, Nat.reduceMul, Int.reduceToNat, push_cast, ↓hg8]
      try simp only [↓hg8] at hK
      all_goals exact rU) ?_
   refine xI h0 rfl (fun h0 hb9 => ?_) (fun h0 hb9 => ?_)
   ·
    refine xS 280 [4, 5, 6] ?_
    refine jA (mA ?_)
    refine cE (fun _ _ => rT) ?_
    refine xF ⟨[(2, .ref 0 0 0 0), (3, .ref 8 0 0 0), (5, .ref 24 0 0 0), (9, .agg [.bool vs1.Some, .str vs1.Last, .bool vs1.Bottom]), (10, .agg [.str vx2.Key, .str vx2.Val, .bool vx2.Dead, .int .i64 vx2.Seq]), (11, .tup [.nili, .agg [.bool false, .str [], .bool false], .int .i64 6])], [(0, ⟨0, true, true, 3, [[.bool vs1.Some, .str vs1.Last, .bool vs1.Bottom]]⟩), (8, ⟨0, true, true, 4, [[.str vx2.Key, .str vx2.Val, .bool vx2.Dead, .int .i64 vx2.Seq]]⟩), (24, ⟨0, true, true, 3, [[.bool false, .str [], .bool false]]⟩)], 280, []⟩ ?_
    refine gC (l' := List.range' 3 7 ++ []) rfl ?_
    refine kC 3 7 336 [] (fun _ => none) rfl rfl rfl (fun _ _ => rT) ?_
    refine zC ?_
    refine dA ?_
    refine xE ⟨[(5, .ref 24 0 0 0), (6, .int .i64 6), (7, .nili)], [(24, ⟨0, true, true, 3, [[.bool false, .str [], .bool false]]⟩)], 336, []⟩ ?_
    refine xS 384 [4, 5, 6] ?_
    refine oC 432 [4, 5, 6] (fun _ => none) rfl rfl rfl (fun _ _ => jF) ?_
    refine jA ?_
    obtain rfl := Option.some.inj h0
    refine lA [] ?_
    exact rG
   ·
    refine qA (dA ?_)
    refine xS 304 [2, 3, 5, 9] ?_
    refine kA (aC ?_)
    obtain ⟨b10, hb10, h0⟩ := cA h0
    refine nC (fr' := [(2, .ref 56 0 0 0), (3, .ref 64 0 0 0), (5, .ref 80 0 0 0), (9, .ref 288 0 0 0), (37, .bool b10)]) (hp' := [(0, ⟨0, true, true, 3, [[.bool vs1.Some, .str vs1.Last, .bool vs1.Bottom]]⟩), (8, ⟨0, true, true, 4, [[.str vx2.Key, .str vx2.Val, .bool vx2.Dead, .int .i64 vx2.Seq]]⟩), (24, ⟨0, true, true, 3, [[.bool false, .str [], .bool false]]⟩), (56, ⟨0, true, true, 3, [[.bool vs1.Some, .str vs1.Last, .bool vs1.Bottom]]⟩), (64, ⟨0, true, true, 4, [[.str vx2.Key, .str vx2.Val, .bool vx2.Dead, .int .i64 vx2.Seq]]⟩), (80, ⟨0, true, true, 3, [[.bool false, .str [], .bool false]]⟩), (288, ⟨0, true, true, 3, [[.bool true, .str vx2.Key, .bool vs1.Bottom]]⟩)]) [0, 8, 24, 56, 64, 80, 288] 384 [2, 3, 5, 9, 37] (fun _ => none) rfl (fun Kt hK => by
      cases hg11 : vs1.Some with
      | false =>
       replace hb10 := wA hb10 hg11
       have hqb10 := Option.some.inj hb10
       subst hqb10
       simp (maxSteps := 1000000) only [↓reduceIte, reduceCtorEq, Nat.reduceEqDiff, Nat.reduceLT, Nat.reduceLeDiff, Nat.reduceAdd, Nat.reduceMul, Int.reduceToNat, push_cast, ↓hg11]
       try simp only [↓hg11] at hK
       all_goals exact rU
      | true =>
       replace hb10 := jB hb10 hg11
       have hqb10 := Option.some.inj hb10
       subst hqb10
       simp (maxSteps := 1000000) only [↓reduceIte, reduceCtorEq, Nat.reduceEqDiff, Nat.reduceLT, Nat.reduceLeDiff, Nat.reduceAdd, Nat.reduceMul, Int.reduceToNat, push_cast, ↓hg11]
       try simp only [↓hg11] at hK
       all_goals exact rU) ?_
    refine xI h0 rfl (fun h0 hb12 => ?_) (fun h0 hb12 => ?_)
    ·
     refine oC 432 [4, 5, 6] (fun _ => none) rfl rfl rfl (fun _ _ => jF) ?_
     refine jA (eC (mA ?_))
     refine cE (fun _ _ => rT) ?_
     refine xF ⟨[(2, .ref 0 0 0 0), (3, .ref 8 0 0 0), (5, .ref 24 0 0 0), (9, .agg [.bool vs1.Some, .str vs1.Last, .bool vs1.Bottom]), (10, .agg [.str vx2.Key, .str vx2.Val, .bool vx2.Dead, .int .i64 vx2.Seq]), (11, .tup [.iface 181 (.agg [.str vx2.Key, .str vx2.Val, .bool vx2.Dead, .int .i64 vx2.Seq]), .agg [.bool true, .str vx2.Key, .bool vs1.Bottom], .int .i64 0])], [(0, ⟨0, true, true, 3, [[.bool vs1.Some, .str vs1.Last, .bool vs1.Bottom]]⟩), (8, ⟨0, true, true, 4, [[.str vx2.Key, .str vx2.Val, .bool vx2.Dead, .int .i64 vx2.Seq]]⟩), (24, ⟨0, true, true, 3, [[.bool false, .str [], .bool false]]⟩)], 432, []⟩ ?_
     refine gC (l' := List.range' 3 7 ++ []) rfl ?_
     refine kC 3 7 488 [] (fun _ => none) rfl rfl rfl (fun _ _ => rT) ?_
     refine zC ?_
     refine dA ?_
     refine xE ⟨[(5, .ref 24 0 0 0), (6, .int .i64 0), (7, .iface 181 (.agg [.str vx2.Key, .str vx2.Val, .bool vx2.Dead, .int .i64 vx2.Seq]))], [(24, ⟨0, true, true, 3, [[.bool true, .str vx2.Key, .bool vs1.Bottom]]⟩)], 488, []⟩ ?_
     refine xS 536 [4, 5, 6] ?_
     refine oC 584 [4, 5, 6] (fun _ => none) rfl rfl rfl (fun _ _ => jF) ?_
     refine jA ?_
     obtain rfl := Option.some.inj h0
     refine lA [] ?_
     exact rG
    ·
     obtain ⟨b13, hb13, h0⟩ := cA h0
     refine nC (fr' := [(3, .ref 64 0 0 0), (5, .ref 80 0 0 0), (9, .ref 288 0 0 0), (50, .bool b13)]) (hp' := [(0, ⟨0, true, true, 3, [[.bool vs1.Some, .str vs1.Last, .bool vs1.Bottom]]⟩), (8, ⟨0, true, true, 4, [[.str vx2.Key, .str vx2.Val, .bool vx2.Dead, .int .i64 vx2.Seq]]⟩), (24, ⟨0, true, true, 3, [[.bool false, .str [], .bool false]]⟩), (56, ⟨0, true, true, 3, [[.bool vs1.Some, .str vs1.Last, .bool vs1.Bottom]]⟩), (64, ⟨0, true, true, 4, [[.str vx2.Key, .str vx2.Val, .bool vx2.Dead, .int .i64 vx2.Seq]]⟩), (80, ⟨0, true, true, 3, [[.bool false, .str [], .bool false]]⟩), (288, ⟨0, true, true, 3, [[.bool true, .str vx2.Key, .bool vs1.Bottom]]⟩)]) [0, 8, 24, 56, 64, 80, 288] 440 [3, 5, 9, 50] (fun _ => none) rfl (fun Kt hK => by
       cases hg14 : vs1.Bottom with
       | false =>
        replace hb13 := wA hb13 hg14
        have hqb13 := Option.some.inj hb13
        subst hqb13
        simp (maxSteps := 1000000) only [↓reduceIte, reduceCtorEq, Nat.reduceEqDiff, Nat.reduceLT, Nat.reduceLeDiff, Nat.reduceAdd, Nat.reduceMul, Int.reduceToNat, push_cast, ↓hg14]
        try simp only [↓hg14] at hK
        all_goals exact rU
       | true =>
        replace hb13 := jB hb13 hg14
        have hqb13 := Option.some.inj hb13
        subst hqb13
        simp (maxSteps := 1000000) only [↓reduceIte, reduceCtorEq, Nat.reduceEqDiff, Nat.reduceLT, Nat.reduceLeDiff, Nat.reduceAdd, Nat.reduceMul, Int.reduceToNat, push_cast, ↓hg14]
        try simp only [↓hg14] at hK
        all_goals exact rU) ?_
     refine xI h0 rfl (fun h0 hb15 => ?_) (fun h0 hb15 => ?_)
     ·
      refine oC 488 [4, 5, 6] (fun _ => none) rfl rfl rfl (fun _ _ => jF) ?_
      refine jA (eC (mA ?_))
      refine cE (fun _ _ => rT) ?_
      refine xF ⟨[(2, .ref 0 0 0 0), (3, .ref 8 0 0 0), (5, .ref 24 0 0 0), (9, .agg [.bool vs1.Some, .str vs1.Last, .bool vs1.Bottom]), (10, .agg [.str vx2.Key, .str vx2.Val, .bool vx2.Dead, .int .i64 vx2.Seq]), (11, .tup [.iface 182 (.agg [.str vx2.Key, .str vx2.Val, .bool vx2.Dead, .int .i64 vx2.Seq]), .agg [.bool true, .str vx2.Key, .bool vs1.Bottom], .int .i64 0])], [(0, ⟨0, true, true, 3, [[.bool vs1.Some, .str vs1.Last, .bool vs1.Bottom]]⟩), (8, ⟨0, true, true, 4, [[.str vx2.Key, .str vx2.Val, .bool vx2.Dead, .int .i64 vx2.Seq]]⟩), (24, ⟨0, true, true, 3, [[.bool false, .str [], .bool false]]⟩)], 488, []⟩ ?_
      refine gC (l' := List.range' 3 7 ++ []) rfl ?_
      refine kC 3 7 544 [] (fun _ => none) rfl rfl rfl (fun _ _ => rT) ?_
      refine zC ?_
      refine dA ?_
      refine xE ⟨[(5, .ref 24 0 0 0), (6, .int .i64 0), (7, .iface 182 (.agg [.str vx2.Key, .str vx2.Val, .bool vx2.Dead, .int .i64 vx2.Seq]))], [(24, ⟨0, true, true, 3, [[.bool true, .str vx2.Key, .bool vs1.Bottom]]⟩)], 544, []⟩ ?_
      refine xS 592 [4, 5, 6] ?_
      refine oC 640 [4, 5, 6] (fun _ => none) rfl rfl rfl (fun _ _ => jF) ?_
      refine jA ?_
      obtain rfl := Option.some.inj h0
      refine lA [] ?_
      exact rG
     ·
      refine qA (sB (dA ?_))
      refine oC 488 [4, 5, 6] (fun _ => none) rfl rfl rfl (fun _ _ => jF) ?_
      refine jA ?_
      refine cE (fun _ _ => rT) ?_
      refine xF ⟨[(2, .ref 0 0 0 0), (3, .ref 8 0 0 0), (5, .ref 24 0 0 0), (9, .agg [.bool vs1.Some, .str vs1.Last, .bool vs1.Bottom]), (10, .agg [.str vx2.Key, .str vx2.Val, .bool vx2.Dead, .int .i64 vx2.Seq]), (11, .tup [.iface 157 (.agg [.str vx2.Key, .str vx2.Val, .bool vx2.Dead, .int .i64 vx2.Seq]), .agg [.bool true, .str vx2.Key, .bool vs1.Bottom], .int .i64 0])], [(0, ⟨0, true, true, 3, [[.bool vs1.Some, .str vs1.Last, .bool vs1.Bottom]]⟩), (8, ⟨0, true, true, 4, [[.str vx2.Key, .str vx2.Val, .bool vx2.Dead, .int .i64 vx2.Seq]]⟩), (24, ⟨0, true, true, 3, [[.bool false, .str [], .bool false]]⟩)], 488, []⟩ ?_
      refine gC (l' := List.range' 3 7 ++ []) rfl ?_
      refine kC 3 7 544 [] (fun _ => none) rfl rfl rfl (fun _ _ => rT) ?_
      refine zC ?_
      refine dA ?_
      refine xE ⟨[(5, .ref 24 0 0 0), (6, .int .i64 0), (7, .iface 157 (.agg [.str vx2.Key, .str vx2.Val, .bool vx2.Dead, .int .i64 vx2.Seq]))], [(24, ⟨0, true, true, 3, [[.bool true, .str vx2.Key, .bool vs1.Bottom]]⟩)], 544, []⟩ ?_
      refine xS 592 [4, 5, 6] ?_
      refine oC 640 [4, 5, 6] (fun _ => none) rfl rfl rfl (fun _ _ => jF) ?_
      refine jA ?_
      obtain rfl := Option.some.inj h0
      refine lA [] ?_
      exact rG
end Go.T
end
