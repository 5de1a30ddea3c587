/- Read returns what the document says, of states that are not long; no other condition. -/
import Derived.Test.YtnlggkiekcpahaaGreatAGt
import Derived.Test.YtnlggkiekcpahaaGreatALkJobsReads
import Derived.Test.YtnlggkiekcpahaaGreatA3
set_option linter.unusedSimpArgs false
set_option linter.unusedVariables false
section
namespace Go.T
open Go Go.AM Go.Proofs
set_option maxRecDepth 100000
set_option maxHeartbeats 4000000
set_option linter.unusedVariables false
theorem zay {fu : Nat} {vs1 : iB} {r : Int × Int} (h0 : bL fu vs1 = some r) : yA Tryz.prog 91 [.agg (iB.enc vs1)] (.tup [.int .i64 r.1,.int .i64 r.2]) []:=by
 refine dB Tryz.func91 rfl (by decide) rL ?_
 dsimp only [Tryz.f91]
 rw [bL] at h0
 refine xS 24 [1] ?_
 obtain ⟨vr2,hvr2,h0⟩:=bA h0
 refine nA 88 [1,4,5] (fun | 2=>some (.tup [.int .i64 vr2.1,.int .i64 vr2.2],[]) | _=>none) rfl (fun _ _=>rC (zaW hvr2)) ?_
 refine iA ?_
 refine xS 104 [1,4,5,18] ?_
 refine xI h0 rfl (fun h0 hb3=>?_) (fun h0 hb3=>?_)
 ·
  refine xS 136 [2,3] ?_
  refine jA (mA ?_)
  obtain rfl:=oI h0
  exact lA [] rG
 refine oA (cA (iA ?_))
 refine xS 160 [1,27] ?_
 refine xI h0 rfl (fun h0 hb4=>?_) (fun h0 hb4=>?_)
 ·
  refine xS 176 [2,3] ?_
  refine jA (mA ?_)
  obtain rfl:=oI h0
  exact lA [] rG
 refine oA (cA (iA ?_))
 refine xS 168 [1,6] ?_
 obtain ⟨x18,hxx18,h0⟩:=bA h0
 refine pC (fun s'=>∃ o26 : Unit,x18 = .inl o26 ∧ s'.nx ≤ 208 ∧ LeN [] s' ⟨[(1,.ref 0 0 0 0)],[(0,⟨0,true,true,5,[[.psl 1 (List.map (tA 4 aA.enc) vs1.Runs),.psl 1 (List.map (gA .i64) vs1.At),.psl 2 (List.map eA.enc vs1.Tree.Keys),.psl 1 (List.map (gA .i64) vs1.Tree.Lose),.int .i64 vs1.Tree.Win]]⟩)],208,[]⟩) ?_ ?_
 ·
  intro s' hs
  obtain ⟨o26,rfl,hn,hs⟩:=hs
  refine cA ?_
  refine oB [] hn hs ?_
  refine iA ?_
  obtain ⟨vr27,hvr27,h0⟩:=bA h0
  obtain ⟨vr28,hvr28,h0⟩:=bA h0
  refine qC 288 [1,65] (fun | 6=>some (.agg (iB.enc vr27),[]) | 8=>some (.bool vr28,[]) | _=>none) rfl rfl rfl (fun Kt hK=>by
    try have q0:=zb3 hvr27
    try have q1:=zae hvr28
    exact iF) ?_
  refine xI h0 rfl (fun h0 hb29=>?_) (fun h0 hb29=>?_)
  ·
   refine xS 304 [2,3] ?_
   refine jA (mA ?_)
   obtain rfl:=oI h0
   exact lA [] rG
  refine oA (cA ?_)
  obtain ⟨vr30,hvr30,h0⟩:=bA h0
  refine nA 336 [1,7] (fun | 4=>some (.int .i64 vr30,[]) | _=>none) rfl (fun _ _=>rC (zcd hvr30)) ?_
  refine iA ?_
  refine xS 344 [1,7,8] ?_
  obtain ⟨x62,hxx62,h0⟩:=bA h0
  refine pC (fun s'=>∃ o79 : Unit,x62 = .inl o79 ∧ s'.nx ≤ 416 ∧ LeN [] s' ⟨[],[(0,⟨0,true,true,5,[[.psl 1 (List.map (tA 4 aA.enc) vs1.Runs),.psl 1 (List.map (gA .i64) vs1.At),.psl 2 (List.map eA.enc vs1.Tree.Keys),.psl 1 (List.map (gA .i64) vs1.Tree.Lose),.int .i64 vs1.Tree.Win]]⟩)],416,[]⟩) ?_ ?_
  ·
   intro s' hs
   obtain ⟨o79,rfl,hn,hs⟩:=hs
   refine cA ?_
   refine oB [] hn hs ?_
   refine xS 432 [2,3] ?_
   refine jA ?_
   obtain rfl:=oI h0
   exact lA [] rG
  refine lC (ι:={ p : Nat × Int // lG vs1 vr30 p.1 p.2 = some x62 }) (fun p=>⟨[(1,.ref 0 0 0 0),(7,.int .i64 vr30),(8,.int .i64 p.1.2)],[(0,⟨0,true,true,5,[[.psl 1 (List.map (tA 4 aA.enc) vs1.Runs),.psl 1 (List.map (gA .i64) vs1.At),.psl 2 (List.map eA.enc vs1.Tree.Keys),.psl 1 (List.map (gA .i64) vs1.Tree.Lose),.int .i64 vs1.Tree.Win]]⟩)],344,[]⟩) (fun p=>p.1.1) ⟨(fu,0),hxx62⟩ ⟨rF,rE,rfl,rfl,trivial,trivial⟩ (fun _=>Nat.le_refl _) ?_
  rintro ⟨⟨fu,i63⟩,h1⟩
  cases fu with
  | zero =>
  replace h1 : lG vs1 vr30 0 i63 = some x62:=h1
  rw [lG] at h1; cases h1
  | succ fu =>
   replace h1 : lG vs1 vr30 (fu + 1) i63 = some x62:=h1
   rw [lG] at h1
   dsimp only
   refine iA ?_
   obtain ⟨b64,hb64,h1⟩:=bA h1
   refine jC (fr':=[(1,.ref 0 0 0 0),(7,.int .i64 vr30),(8,.int .i64 i63),(79,.bool b64)]) (hp':=[(0,⟨0,true,true,5,[[.psl 1 (List.map (tA 4 aA.enc) vs1.Runs),.psl 1 (List.map (gA .i64) vs1.At),.psl 2 (List.map eA.enc vs1.Tree.Keys),.psl 1 (List.map (gA .i64) vs1.Tree.Lose),.int .i64 vs1.Tree.Win]]⟩)]) [0] 416 [1,7,8,79] (fun _=>none) rfl (fun Kt hK=>by
     cases hg65 : (decide (i63 < (vs1.Runs.length : Int))) with
     | false =>
      replace hb64:=sA hb64 hg65
      have hqb64:=oI hb64
      subst hqb64
      exact rW hg65 hK
     | true =>
      replace hb64:=zA hb64 hg65
      have hqb64:=oI hb64
      subst hqb64
      exact rW hg65 hK) ?_
   refine xI h1 rfl (fun h1 hb66=>?_) (fun h1 hb66=>?_)
   ·
    refine oA (cA (iA (vB (iA ?_))))
    obtain ⟨e67,he67,h1⟩:=bA h1
    obtain ⟨he67a,he67b,he67c⟩:=vA he67
    refine nA 464 [1,7,8,87] (fun _=>none) rfl (fun _ _=>rS (rA he67a (rA he67b he67c))) ?_
    refine xI h1 rfl (fun h1 hb68=>?_) (fun h1 hb68=>?_)
    ·
     refine dC (xA (za3 (cA ?_)))
     refine nB 488 [1,7,8] (fun _=>none) rfl (fun _ _=>rS (rA he67a (rA he67b he67c))) ?_
     refine cA ?_
     exact ⟨⟨(fu,(IntKind.i64.wrap (i63 + 1))),h1⟩,⟨rF,rE,rfl,rfl,trivial,trivial⟩,Nat.lt_succ_self _⟩
    refine oA (cA ?_)
    obtain ⟨e69,he69,h1⟩:=bA h1
    obtain ⟨he69a,he69b,he69c⟩:=vA he69
    obtain ⟨e70,he70,h1⟩:=bA h1
    obtain ⟨he70a,he70b,he70c⟩:=vA he70
    obtain ⟨e71,he71,h1⟩:=bA h1
    obtain ⟨he71a,he71b,he71c⟩:=vA he71
    obtain ⟨e72,he72,h1⟩:=bA h1
    obtain ⟨he72a,he72b,he72c⟩:=vA he72
    obtain ⟨e73,he73,h1⟩:=bA h1
    obtain ⟨he73a,he73b,he73c⟩:=vA he73
    refine qC 696 [1,7,8,9,10] (fun _=>none) rfl rfl rfl (fun _ _=>xD (rA he67a (rA he67b (rA he67c (rA he69a (rA he69b (rA he69c (rA he70a (rA he70b (rA he70c (rA he71a (rA he71b (rA he71c (rA he72a (rA he72b (rA he72c (rA he73a (rA he73b he73c)))))))))))))))))) ?_
    obtain ⟨b75,hb75,h1⟩:=bA h1
    refine jC (fr':=[(1,.ref 0 0 0 0),(7,.int .i64 vr30),(8,.int .i64 i63),(127,.bool b75)]) (hp':=[(0,⟨0,true,true,5,[[.psl 1 (List.map (tA 4 aA.enc) vs1.Runs),.psl 1 (List.map (gA .i64) vs1.At),.psl 2 (List.map eA.enc vs1.Tree.Keys),.psl 1 (List.map (gA .i64) vs1.Tree.Lose),.int .i64 vs1.Tree.Win]]⟩)]) [0] 800 [1,7,8,127] (fun _=>none) rfl (fun Kt hK=>by
      cases hg76 : (!(Op.bytesLess e70.Key e73.Key || e70.Key == e73.Key)) with
      | false =>
       replace hb75:=sA hb75 hg76
       obtain ⟨b74,hb74,hb75⟩:=bA hb75
       have hqb75:=oI hb75
       cases hg77 : (e70.Key == e73.Key) with
       | false =>
        replace hb74:=sA hb74 hg77
        have hqb74:=oI hb74
        subst hqb75
        subst hqb74
        exact sD (rA hg76 hg77) (rA he67a (rA he67b (rA he67c (rA he69a (rA he69b (rA he69c (rA he70a (rA he70b (rA he70c (rA he71a (rA he71b (rA he71c (rA he72a (rA he72b (rA he72c (rA he73a (rA he73b he73c))))))))))))))))) hK
       | true =>
        replace hb74:=zA hb74 hg77
        have hqb74:=oI hb74
        subst hqb75
        subst hqb74
        exact sD (rA hg76 hg77) (rA he67a (rA he67b (rA he67c (rA he69a (rA he69b (rA he69c (rA he70a (rA he70b (rA he70c (rA he71a (rA he71b (rA he71c (rA he72a (rA he72b (rA he72c (rA he73a (rA he73b he73c))))))))))))))))) hK
      | true =>
       replace hb75:=zA hb75 hg76
       have hqb75:=oI hb75
       subst hqb75
       exact sD hg76 (rA he67a (rA he67b (rA he67c (rA he69a (rA he69b (rA he69c (rA he70a (rA he70b (rA he70c (rA he71a (rA he71b (rA he71c (rA he72a (rA he72b (rA he72c (rA he73a (rA he73b he73c))))))))))))))))) hK) ?_
    refine xI h1 rfl (fun h1 hb78=>?_) (fun h1 hb78=>?_)
    ·
     refine nA 824 [2,3] (fun _=>none) rfl (fun _ _=>rS (rA he67a (rA he67b (rA he67c (rA he69a (rA he69b (rA he69c (rA he70a (rA he70b (rA he70c (rA he71a (rA he71b (rA he71c (rA he72a (rA he72b (rA he72c (rA he73a (rA he73b he73c)))))))))))))))))) ?_
     refine jA ?_
     obtain rfl:=oI h1
     refine zB (mA (mA (xC (mA ?_))))
     obtain rfl:=oI h0
     refine lA [] ?_
     exact rJ (rA he67a (rA he67b (rA he67c (rA he69a (rA he69b (rA he69c (rA he70a (rA he70b (rA he70c (rA he71a (rA he71b (rA he71c (rA he72a (rA he72b (rA he72c (rA he73a (rA he73b he73c)))))))))))))))))
    refine oA (pB (cA ?_))
    refine nB 824 [1,7,8] (fun _=>none) rfl (fun _ _=>rS (rA he67a (rA he67b (rA he67c (rA he69a (rA he69b (rA he69c (rA he70a (rA he70b (rA he70c (rA he71a (rA he71b (rA he71c (rA he72a (rA he72b (rA he72c (rA he73a (rA he73b he73c)))))))))))))))))) ?_
    refine cA ?_
    exact ⟨⟨(fu,(IntKind.i64.wrap (i63 + 1))),h1⟩,⟨rF,rE,rfl,rfl,trivial,trivial⟩,Nat.lt_succ_self _⟩
   refine dC (xA (xA (gC ?_)))
   obtain rfl:=oI h1
   exact ⟨_,rfl,rL,⟨rF,rE,rfl,rfl,trivial,trivial⟩⟩
 refine lC (ι:={ p : Nat × Int // dK vs1 p.1 p.2 = some x18 }) (fun p=>⟨[(1,.ref 0 0 0 0),(6,.int .i64 p.1.2)],[(0,⟨0,true,true,5,[[.psl 1 (List.map (tA 4 aA.enc) vs1.Runs),.psl 1 (List.map (gA .i64) vs1.At),.psl 2 (List.map eA.enc vs1.Tree.Keys),.psl 1 (List.map (gA .i64) vs1.Tree.Lose),.int .i64 vs1.Tree.Win]]⟩)],168,[]⟩) (fun p=>p.1.1) ⟨(fu,0),hxx18⟩ ⟨rF,rE,rfl,rfl,trivial,trivial⟩ (fun _=>Nat.le_refl _) ?_
 rintro ⟨⟨fu,i19⟩,h1⟩
 cases fu with
 | zero =>
  replace h1 : dK vs1 0 i19 = some x18:=h1
  rw [dK] at h1; cases h1
 | succ fu =>
  replace h1 : dK vs1 (fu + 1) i19 = some x18:=h1
  rw [dK] at h1
  dsimp only
  refine iA ?_
  refine xS 208 [1,6,32] ?_
  refine xI h1 rfl (fun h1 hb20=>?_) (fun h1 hb20=>?_)
  ·
   refine oA (cA (iA (vB ?_)))
   obtain ⟨e21,he21,h1⟩:=bA h1
   obtain ⟨he21a,he21b,he21c⟩:=vA he21
   obtain ⟨b23,hb23,h1⟩:=bA h1
   refine iL (fr':=[(1,.ref 0 0 0 0),(6,.int .i64 i19),(54,.bool b23)]) (hp':=[(0,⟨0,true,true,5,[[.psl 1 (List.map (tA 4 aA.enc) vs1.Runs),.psl 1 (List.map (gA .i64) vs1.At),.psl 2 (List.map eA.enc vs1.Tree.Keys),.psl 1 (List.map (gA .i64) vs1.Tree.Lose),.int .i64 vs1.Tree.Win]]⟩)]) [0] 368 [1,6,54] (fun _=>none) rfl rfl rfl (fun Kt hK=>by
     cases hg24 : (decide (e21 < 0)) with
     | false =>
      replace hb23:=sA hb23 hg24
      obtain ⟨e22,he22,hb23⟩:=bA hb23
      obtain ⟨he22a,he22b,he22c⟩:=vA he22
      have hqb23:=oI hb23
      subst hqb23
      exact yG hg24 (rA he21a (rA he21b (rA he21c (rA he22a (rA he22b (rA he22c he22)))))) hK
     | true =>
      replace hb23:=zA hb23 hg24
      have hqb23:=oI hb23
      subst hqb23
      exact yG hg24 (rA he21a (rA he21b he21c)) hK) ?_
   refine xI h1 rfl (fun h1 hb25=>?_) (fun h1 hb25=>?_)
   ·
    refine nA 392 [2,3] (fun _=>none) rfl (fun _ _=>rS (rA he21a (rA he21b he21c))) ?_
    refine jA ?_
    obtain rfl:=oI h1
    refine zB (mA (mA (xC (mA ?_))))
    obtain rfl:=oI h0
    refine lA [] ?_
    exact rJ (rA he21a (rA he21b he21c))
   refine oA (pB (cA ?_))
   refine nB 392 [1,6] (fun _=>none) rfl (fun _ _=>rS (rA he21a (rA he21b he21c))) ?_
   refine cA ?_
   exact ⟨⟨(fu,(IntKind.i64.wrap (i19 + 1))),h1⟩,⟨rF,rE,rfl,rfl,trivial,trivial⟩,Nat.lt_succ_self _⟩
  refine dC (xA (xA (gC ?_)))
  obtain rfl:=oI h1
  exact ⟨_,rfl,rL,⟨rF,rE,rfl,rfl,trivial,trivial⟩⟩
theorem nS {fu : Nat} {a1 : List aA} {b2 : List aA} {r : Bool} (h0 : hP fu a1 b2 = some r) : yA Tryz.prog 81 [.psl 4 (a1.map aA.enc),.psl 4 (b2.map aA.enc)] (.bool r) []:=by
 refine dB Tryz.func81 rfl (by decide) rL ?_
 dsimp only [Tryz.f81]
 rw [hP] at h0
 refine xS 8 [0,1] ?_
 refine iA ?_
 refine xS 48 [0,1,10] ?_
 refine xI h0 rfl (fun h0 hb3=>?_) (fun h0 hb3=>?_)
 ·
  refine xS 56 [4] ?_
  refine jA (mA ?_)
  obtain rfl:=oI h0
  exact lA [] rG
 refine oA (cA (iA ?_))
 refine xS 56 [0,1,5] ?_
 obtain ⟨x13,hxx13,h0⟩:=bA h0
 refine pC (fun s'=>∃ o19 : Unit,x13 = .inl o19 ∧ s'.nx ≤ 88 ∧ LeN [] s' ⟨[],[],88,[]⟩) ?_ ?_
 ·
  intro s' hs
  obtain ⟨o19,rfl,hn,hs⟩:=hs
  refine cA ?_
  refine oB [] hn hs ?_
  refine xS 96 [4] ?_
  refine jA ?_
  obtain rfl:=oI h0
  exact lA [] rG
 refine lC (ι:={ p : Nat × Int // oO a1 b2 p.1 p.2 = some x13 }) (fun p=>⟨[(0,.psl 4 (List.map aA.enc a1)),(1,.psl 4 (List.map aA.enc b2)),(5,.int .i64 p.1.2)],[],56,[]⟩) (fun p=>p.1.1) ⟨(fu,0),hxx13⟩ ⟨rF,rE,rfl,rfl,trivial,trivial⟩ (fun _=>Nat.le_refl _) ?_
 rintro ⟨⟨fu,i14⟩,h1⟩
 cases fu with
 | zero =>
  replace h1 : oO a1 b2 0 i14 = some x13:=h1
  rw [oO] at h1; cases h1
 | succ fu =>
  replace h1 : oO a1 b2 (fu + 1) i14 = some x13:=h1
  rw [oO] at h1
  dsimp only
  refine iA ?_
  refine xS 88 [0,1,5,14] ?_
  refine xI h1 rfl (fun h1 hb15=>?_) (fun h1 hb15=>?_)
  ·
   refine oA (cA (iA (vB ?_)))
   obtain ⟨e16,he16,h1⟩:=bA h1
   obtain ⟨he16a,he16b,he16c⟩:=vA he16
   obtain ⟨e17,he17,h1⟩:=bA h1
   obtain ⟨he17a,he17b,he17c⟩:=vA he17
   refine qC 160 [0,1,5,25] (fun _=>none) rfl rfl rfl (fun _ _=>xD (rA he16a (rA he16b (rA he16c (rA he17a (rA he17b he17c)))))) ?_
   refine xI h1 rfl (fun h1 hb18=>?_) (fun h1 hb18=>?_)
   ·
    refine nA 168 [4] (fun _=>none) rfl (fun _ _=>rS (rA he16a (rA he16b (rA he16c (rA he17a (rA he17b he17c)))))) ?_
    refine jA ?_
    obtain rfl:=oI h1
    refine zB (mA (mA (xC (mA ?_))))
    obtain rfl:=oI h0
    refine lA [] ?_
    exact rJ (rA he16a (rA he16b (rA he16c (rA he17a (rA he17b he17c)))))
   refine oA (pB (cA ?_))
   refine nB 184 [0,1,5] (fun _=>none) rfl (fun _ _=>rS (rA he16a (rA he16b (rA he16c (rA he17a (rA he17b he17c)))))) ?_
   refine cA ?_
   exact ⟨⟨(fu,(IntKind.i64.wrap (i14 + 1))),h1⟩,⟨rF,rE,rfl,rfl,trivial,trivial⟩,Nat.lt_succ_self _⟩
  refine dC (xA (xA (gC ?_)))
  obtain rfl:=oI h1
  exact ⟨_,rfl,rL,⟨rF,rE,rfl,rfl,trivial,trivial⟩⟩
theorem zjG {fu : Nat} {vs1 : mB} {r : Int} (h0 : tV fu vs1 = some r) : yA Tryz.prog 78 [.agg (mB.enc vs1)] (.int .i64 r) []:=by
 refine dB Tryz.func78 rfl (by decide) rL ?_
 dsimp only [Tryz.f78]
 rw [tV] at h0
 refine xS 16 [1] ?_
 obtain ⟨vr2,hvr2,h0⟩:=bA h0
 refine nA 80 [1,4] (fun | 2=>some (.tup [.int .i64 vr2.1,.int .i64 vr2.2],[]) | _=>none) rfl (fun _ _=>rC (zay hvr2)) ?_
 refine iA ?_
 refine xS 96 [1,4,18] ?_
 refine xI h0 rfl (fun h0 hb3=>?_) (fun h0 hb3=>?_)
 ·
  refine xS 112 [2] ?_
  refine jA (mA ?_)
  obtain rfl:=oI h0
  exact lA [] rG
 refine oA (cA ?_)
 obtain ⟨vr4,hvr4,h0⟩:=bA h0
 refine nA 120 [1,5] (fun | 1=>some (.int .i64 vr4,[]) | _=>none) rfl (fun _ _=>rC (zfy hvr4)) ?_
 refine iA ?_
 obtain ⟨b5,hb5,h0⟩:=bA h0
 refine jC (fr':=[(1,.ref 0 0 0 0),(5,.int .i64 vr4),(29,.bool b5)]) (hp':=[(0,⟨0,true,true,10,[[.psl 1 (List.map (tA 4 aA.enc) vs1.Merge.Runs),.psl 1 (List.map (gA .i64) vs1.Merge.At),.psl 2 (List.map eA.enc vs1.Merge.Tree.Keys),.psl 1 (List.map (gA .i64) vs1.Merge.Tree.Lose),.int .i64 vs1.Merge.Tree.Win,.bool vs1.Shadow.Some,.str vs1.Shadow.Last,.bool vs1.Shadow.Bottom,.psl 4 (List.map aA.enc vs1.Out),.int .i64 vs1.Steps]]⟩)]) [0] 184 [1,5,29] (fun _=>none) rfl (fun Kt hK=>by
   cases hg6 : (decide (20000 < (vs1.Out.length : Int))) with
   | false =>
    replace hb5:=sA hb5 hg6
    have hqb5:=oI hb5
    subst hqb5
    exact rW hg6 hK
   | true =>
    replace hb5:=zA hb5 hg6
    have hqb5:=oI hb5
    subst hqb5
    exact rW hg6 hK) ?_
 refine xI h0 rfl (fun h0 hb7=>?_) (fun h0 hb7=>?_)
 ·
  refine xS 192 [2] ?_
  refine jA (mA ?_)
  obtain rfl:=oI h0
  exact lA [] rG
 refine oA (cA (iA ?_))
 refine xS 216 [1,5,33] ?_
 refine xI h0 rfl (fun h0 hb8=>?_) (fun h0 hb8=>?_)
 ·
  refine xS 224 [2] ?_
  refine jA (mA ?_)
  obtain rfl:=oI h0
  exact lA [] rG
 refine oA (cA ?_)
 obtain ⟨vr9,hvr9,h0⟩:=bA h0
 refine nA 304 [1,5,6] (fun | 3=>some (.tup [.psl 4 (vr9.1.map aA.enc),.psl 1 (vr9.2.1.map (gA .i64)),.int .i64 vr9.2.2],[]) | _=>none) rfl (fun _ _=>rC (zdN hvr9)) ?_
 obtain ⟨hc10,h0⟩:=pD h0
 obtain ⟨vr11,hvr11,h0⟩:=bA h0
 refine qC 408 [1,9,10] (fun | 6=>some (.tup [.psl 4 (vr11.1.map aA.enc),.agg (lB.enc vr11.2)],[]) | _=>none) rfl rfl rfl (fun _ _=>hO (zdX hvr11)) ?_
 refine iA ?_
 obtain ⟨vr12,hvr12,h0⟩:=bA h0
 obtain ⟨b13,hb13,h0⟩:=bA h0
 refine jC (fr':=[(62,.bool b13)]) (hp':=[(0,⟨0,true,true,10,[[.psl 1 (List.map (tA 4 aA.enc) vs1.Merge.Runs),.psl 1 (List.map (gA .i64) vs1.Merge.At),.psl 2 (List.map eA.enc vs1.Merge.Tree.Keys),.psl 1 (List.map (gA .i64) vs1.Merge.Tree.Lose),.int .i64 vs1.Merge.Tree.Win,.bool vs1.Shadow.Some,.str vs1.Shadow.Last,.bool vs1.Shadow.Bottom,.psl 4 (List.map aA.enc vs1.Out),.int .i64 vs1.Steps]]⟩),(384,⟨0,true,true,3,[[.bool vr11.2.Some,.str vr11.2.Last,.bool vr11.2.Bottom]]⟩)]) [0,384] 496 [62] (fun | 3=>some (.bool vr12,[]) | _=>none) rfl (fun Kt hK=>by
   cases hg14 : (!vr12) with
   | false =>
    replace hb13:=sA hb13 hg14
    have hqb13:=oI hb13
    subst hqb13
    first | exact fJ hg14 (nS hvr12) hK | exact rW hg14 hK
   | true =>
    replace hb13:=zA hb13 hg14
    have hqb13:=oI hb13
    subst hqb13
    first | exact fJ hg14 (nS hvr12) hK | exact rW hg14 hK) ?_
 refine xI h0 rfl (fun h0 hb15=>?_) (fun h0 hb15=>?_)
 ·
  refine xS 504 [2] ?_
  refine jA (mA ?_)
  obtain rfl:=oI h0
  exact lA [] rG
 refine oA (cA ?_)
 refine xS 504 [2] ?_
 refine jA ?_
 obtain rfl:=oI h0
 exact lA [] rG
theorem zm4 {fu : Nat} {vs1 : iB} {r : Int × Int} (h0 : tX fu vs1 = some r) : yA Tryz.prog 79 [.agg (iB.enc vs1)] (.tup [.int .i64 r.1,.int .i64 r.2]) []:=by
 refine dB Tryz.func79 rfl (by decide) rL ?_
 dsimp only [Tryz.f79]
 rw [tX] at h0
 refine xS 24 [1] ?_
 obtain ⟨vr2,hvr2,h0⟩:=bA h0
 refine nA 80 [1,5] (fun | 1=>some (.tup [.int .i64 vr2.1,.int .i64 vr2.2],[]) | _=>none) rfl (fun _ _=>rC (zay hvr2)) ?_
 refine iA ?_
 refine xS 96 [1,5,14] ?_
 refine xI h0 rfl (fun h0 hb3=>?_) (fun h0 hb3=>?_)
 ·
  refine xS 120 [2,3] ?_
  refine jA (mA ?_)
  obtain rfl:=oI h0
  exact lA [] rG
 refine oA (cA ?_)
 refine xS 104 [1,6] ?_
 refine iA ?_
 refine xS 112 [1,6,7] ?_
 obtain ⟨x12,hxx12,h0⟩:=bA h0
 refine pC (fun s'=>s'.nx ≤ 152 ∧ LeN [] s' ⟨[(6,.int .i64 x12)],[(0,⟨0,true,true,5,[[.psl 1 (List.map (tA 4 aA.enc) vs1.Runs),.psl 1 (List.map (gA .i64) vs1.At),.psl 2 (List.map eA.enc vs1.Tree.Keys),.psl 1 (List.map (gA .i64) vs1.Tree.Lose),.int .i64 vs1.Tree.Win]]⟩)],152,[]⟩) ?_ ?_
 ·
  intro s' hs
  obtain ⟨hn,hs⟩:=hs
  refine cA ?_
  refine oB [] hn hs ?_
  refine xS 176 [2,3] ?_
  refine jA ?_
  obtain rfl:=oI h0
  exact lA [] rG
 refine lC (ι:={ p : Nat × Int × Int // qO vs1 p.1 p.2.1 p.2.2 = some x12 }) (fun p=>⟨[(1,.ref 0 0 0 0),(6,.int .i64 p.1.2.1),(7,.int .i64 p.1.2.2)],[(0,⟨0,true,true,5,[[.psl 1 (List.map (tA 4 aA.enc) vs1.Runs),.psl 1 (List.map (gA .i64) vs1.At),.psl 2 (List.map eA.enc vs1.Tree.Keys),.psl 1 (List.map (gA .i64) vs1.Tree.Lose),.int .i64 vs1.Tree.Win]]⟩)],112,[]⟩) (fun p=>p.1.1) ⟨(fu,0,0),hxx12⟩ ⟨rF,rE,rfl,rfl,trivial,trivial⟩ (fun _=>Nat.le_refl _) ?_
 rintro ⟨⟨fu,n13,i14⟩,h1⟩
 cases fu with
 | zero =>
  replace h1 : qO vs1 0 n13 i14 = some x12:=h1
  rw [qO] at h1; cases h1
 | succ fu =>
  replace h1 : qO vs1 (fu + 1) n13 i14 = some x12:=h1
  rw [qO] at h1
  dsimp only
  refine iA ?_
  refine xS 152 [1,6,7,20] ?_
  refine xI h1 rfl (fun h1 hb15=>?_) (fun h1 hb15=>?_)
  ·
   refine oA (cA (iA (vB ?_)))
   obtain ⟨e16,he16,h1⟩:=bA h1
   obtain ⟨he16a,he16b,he16c⟩:=vA he16
   obtain ⟨e17,he17,h1⟩:=bA h1
   obtain ⟨he17a,he17b,he17c⟩:=vA he17
   refine aH 272 [1,6,7] (fun _=>none) rfl rfl rfl (fun _ _=>xD (rA he16a (rA he16b (rA he16c (rA he17a (rA he17b he17c)))))) ?_
   refine pB (cA ?_)
   refine nB 296 [1,6,7] (fun _=>none) rfl (fun _ _=>rS (rA he16a (rA he16b (rA he16c (rA he17a (rA he17b he17c)))))) ?_
   refine cA ?_
   exact ⟨⟨(fu,(IntKind.i64.wrap ((IntKind.i64.wrap (n13 + (e16.length : Int))) - e17)),(IntKind.i64.wrap (i14 + 1))),h1⟩,⟨rF,rE,rfl,rfl,trivial,trivial⟩,Nat.lt_succ_self _⟩
  refine dC (xA (xA (gC ?_)))
  obtain rfl:=oI h1
  exact ⟨rL,⟨rF,rE,rfl,rfl,trivial,trivial⟩⟩
theorem zbm {fu : Nat} {vs1 : mB} {r : Int × Int} (h0 : bT fu vs1 = some r) : yA Tryz.prog 47 [.agg (mB.enc vs1)] (.tup [.int .i64 r.1,.int .i64 r.2]) []:=by
 refine dB Tryz.func47 rfl (by decide) rL ?_
 dsimp only [Tryz.f47]
 rw [bT] at h0
 refine xS 24 [1] ?_
 obtain ⟨vr2,hvr2,h0⟩:=bA h0
 refine nA 48 [1,4] (fun | 1=>some (.int .i64 vr2,[]) | _=>none) rfl (fun _ _=>rC (zjG hvr2)) ?_
 refine iA ?_
 refine xS 64 [1,4,8] ?_
 refine xI h0 rfl (fun h0 hb3=>?_) (fun h0 hb3=>?_)
 ·
  refine xS 88 [2,3] ?_
  refine jA (mA ?_)
  obtain rfl:=oI h0
  exact lA [] rG
 refine oA (cA ?_)
 obtain ⟨vr4,hvr4,h0⟩:=bA h0
 refine nA 120 [2,3] (fun | 2=>some (.tup [.int .i64 vr4.1,.int .i64 vr4.2],[]) | _=>none) rfl (fun _ _=>rC (zm4 hvr4)) ?_
 refine jA ?_
 obtain rfl:=oI h0
 exact lA [] rG
theorem zmT {fu : Nat} {vs1 : iB} {r : aA × Int × iB × Int} (h0 : qV fu vs1 = some r) : yA Tryz.prog 61 [.agg (iB.enc vs1)] (.tup [.agg (aA.enc r.1),.int .i64 r.2.1,.agg (iB.enc r.2.2.1),.int .i64 r.2.2.2]) []:=by
 refine dB Tryz.func61 rfl (by decide) rL ?_
 dsimp only [Tryz.f61]
 rw [qV] at h0
 refine xS 40 [1,2,4] ?_
 obtain ⟨vr2,hvr2,h0⟩:=bA h0
 refine nA 96 [1,2,4,7] (fun | 1=>some (.tup [.int .i64 vr2.1,.int .i64 vr2.2],[]) | _=>none) rfl (fun _ _=>rC (zay hvr2)) ?_
 refine iA ?_
 refine xS 112 [1,2,4,7,16] ?_
 refine xI h0 rfl (fun h0 hb3=>?_) (fun h0 hb3=>?_)
 ·
  refine xS 168 [2,3,4,5] ?_
  refine jA (mA ?_)
  obtain rfl:=oI h0
  exact lA [] rG
 refine oA (cA ?_)
 obtain ⟨vr4,hvr4,h0⟩:=bA h0
 refine nA 160 [1,2,4,8] (fun | 4=>some (.int .i64 vr4,[]) | _=>none) rfl (fun _ _=>rC (zcd hvr4)) ?_
 refine iA ?_
 refine xS 176 [1,2,4,8,26] ?_
 refine xI h0 rfl (fun h0 hb5=>?_) (fun h0 hb5=>?_)
 ·
  refine xS 224 [2,3,4,5] ?_
  refine jA (mA ?_)
  obtain rfl:=oI h0
  exact lA [] rG
 refine oA (cA ?_)
 obtain ⟨hc6,h0⟩:=pD h0
 refine xS 216 [1,2,4,8,9] ?_
 refine xE ⟨[(1,.ref 0 0 0 0),(2,.ref 8 0 0 0),(4,.ref 24 0 0 0),(8,.int .i64 vr4),(9,.sl 176 1 1 0 vs1.At.length)],[(0,⟨0,true,true,5,[[.psl 1 (List.map (tA 4 aA.enc) vs1.Runs),.psl 1 (List.map (gA .i64) vs1.At),.psl 2 (List.map eA.enc vs1.Tree.Keys),.psl 1 (List.map (gA .i64) vs1.Tree.Lose),.int .i64 vs1.Tree.Win]]⟩),(8,⟨0,true,true,4,[[.str [],.str [],.bool false,.int .i64 0]]⟩),(24,⟨0,true,true,5,[[.nils,.nils,.nils,.nils,.int .i64 0]]⟩),(176,⟨1,true,true,1,List.map (gA .i64) vs1.At⟩)],216,[]⟩ ?_
 obtain ⟨e7,he7,h0⟩:=bA h0
 obtain ⟨he7a,he7b,he7c⟩:=vA he7
 refine nA 272 [1,2,4,8,9] (fun _=>none) rfl (fun _ _=>rS (rA he7a (rA he7b he7c))) ?_
 refine xE ⟨[(1,.ref 0 0 0 0),(2,.ref 8 0 0 0),(4,.ref 24 0 0 0),(8,.int .i64 vr4),(9,.sl 176 1 1 0 ((vs1.At.set vr4.toNat (IntKind.i64.wrap (e7 + 1))).length))],[(0,⟨0,true,true,5,[[.psl 1 (List.map (tA 4 aA.enc) vs1.Runs),.psl 1 (List.map (gA .i64) vs1.At),.psl 2 (List.map eA.enc vs1.Tree.Keys),.psl 1 (List.map (gA .i64) vs1.Tree.Lose),.int .i64 vs1.Tree.Win]]⟩),(8,⟨0,true,true,4,[[.str [],.str [],.bool false,.int .i64 0]]⟩),(24,⟨0,true,true,5,[[.nils,.nils,.nils,.nils,.int .i64 0]]⟩),(176,⟨1,true,true,1,List.map (gA .i64) (vs1.At.set vr4.toNat (IntKind.i64.wrap (e7 + 1)))⟩)],272,[]⟩ ?_
 obtain ⟨e8,he8,h0⟩:=bA h0
 obtain ⟨he8a,he8b,he8c⟩:=vA he8
 obtain ⟨e9,he9,h0⟩:=bA h0
 obtain ⟨he9a,he9b,he9c⟩:=vA he9
 obtain ⟨vr10,hvr10,h0⟩:=bA h0
 refine qC 440 [2,3,4,5] (fun | 16=>some (.agg (iB.enc vr10),[]) | _=>none) rfl rfl rfl (fun _ _=>wK (rA he7a (rA he7b (rA he7c (rA he8a (rA he8b (rA he8c (rA he9a (rA he9b he9c)))))))) (zb3 hvr10)) ?_
 refine jA ?_
 obtain rfl:=oI h0
 refine lA [] ?_
 exact rJ (rA he7a (rA he7b (rA he7c (rA he8a (rA he8b (rA he8c (rA he9a (rA he9b he9c))))))))
theorem zdH {fu : Nat} {vs1 : mB} {n2 : Int} {r : mB × Int × Int} (h0 : vU fu vs1 n2 = some r) : yA Tryz.prog 33 [.agg (mB.enc vs1),.int .i64 n2] (.tup [.agg (mB.enc r.1),.int .i64 r.2.1,.int .i64 r.2.2]) []:=by
 refine dB Tryz.func33 rfl (by decide) rL ?_
 dsimp only [Tryz.f33]
 rw [vU] at h0
 refine xS 32 [1,2,4] ?_
 obtain ⟨vr3,hvr3,h0⟩:=bA h0
 refine nA 88 [1,2,4,7,8] (fun | 1=>some (.tup [.int .i64 vr3.1,.int .i64 vr3.2],[]) | _=>none) rfl (fun _ _=>rC (zbm hvr3)) ?_
 refine iA ?_
 obtain ⟨b4,hb4,h0⟩:=bA h0
 refine jC (fr':=[(1,.int .i64 n2),(2,.ref 0 0 0 0),(4,.ref 8 0 0 0),(7,.int .i64 vr3.1),(8,.int .i64 vr3.2),(25,.bool b4)]) (hp':=[(0,⟨0,true,true,10,[[.psl 1 (List.map (tA 4 aA.enc) vs1.Merge.Runs),.psl 1 (List.map (gA .i64) vs1.Merge.At),.psl 2 (List.map eA.enc vs1.Merge.Tree.Keys),.psl 1 (List.map (gA .i64) vs1.Merge.Tree.Lose),.int .i64 vs1.Merge.Tree.Win,.bool vs1.Shadow.Some,.str vs1.Shadow.Last,.bool vs1.Shadow.Bottom,.psl 4 (List.map aA.enc vs1.Out),.int .i64 vs1.Steps]]⟩),(8,⟨0,true,true,10,[[.nils,.nils,.nils,.nils,.int .i64 0,.bool false,.str [],.bool false,.nils,.int .i64 0]]⟩)]) [0,8] 136 [1,2,4,7,8,25] (fun _=>none) rfl (fun Kt hK=>by
   cases hg5 : (decide (vr3.2 = 0)) with
   | false =>
    replace hb4:=sA hb4 hg5
    have hqb4:=oI hb4
    subst hqb4
    exact rW hg5 hK
   | true =>
    replace hb4:=zA hb4 hg5
    have hqb4:=oI hb4
    subst hqb4
    exact rW hg5 hK) ?_
 refine xI h0 rfl (fun h0 hb6=>?_) (fun h0 hb6=>?_)
 ·
  refine xR 144 [1,2,4,7,8] ?_
  refine cA (iA ?_)
  refine xS 160 [1,2,4,7,8,27] ?_
  refine kI rfl ?_
  refine xS 200 [4,5,6] ?_
  refine jA (mA ?_)
  obtain rfl:=oI h0
  exact lA [] rG
 refine oA (cA (iA ?_))
 refine xS 152 [1,2,4,7,8,27] ?_
 refine xI h0 rfl (fun h0 hb7=>?_) (fun h0 hb7=>?_)
 ·
  refine xS 192 [4,5,6] ?_
  refine jA (mA ?_)
  obtain rfl:=oI h0
  exact lA [] rG
 refine oA (cA ?_)
 refine xS 184 [2,4,9] ?_
 refine iA ?_
 obtain ⟨vr8,hvr8,h0⟩:=bA h0
 refine nA 224 [2,4,9,37] (fun | 1=>some (.int .i64 vr8,[]) | _=>none) rfl (fun _ _=>rC (zfy hvr8)) ?_
 refine xI h0 rfl (fun h0 hb9=>?_) (fun h0 hb9=>?_)
 ·
  refine xS 256 [4,5,6] ?_
  refine jA (mA ?_)
  obtain rfl:=oI h0
  exact lA [] rG
 refine oA (cA ?_)
 refine xS 248 [2,4,9,10] ?_
 refine iA ?_
 refine xS 256 [2,4,9,10,11] ?_
 obtain ⟨x20,hxx20,h0⟩:=bA h0
 refine pC (fun s'=>s'.nx ≤ 280 ∧ LeN [] s' ⟨[(2,.ref 0 0 0 0),(4,.ref 8 0 0 0),(9,.int .i64 (if vr3.1 < n2 then vr3.1 else n2)),(10,.ref 232 0 0 0)],[(0,⟨0,true,true,10,[[.psl 1 (List.map (tA 4 aA.enc) vs1.Merge.Runs),.psl 1 (List.map (gA .i64) vs1.Merge.At),.psl 2 (List.map eA.enc vs1.Merge.Tree.Keys),.psl 1 (List.map (gA .i64) vs1.Merge.Tree.Lose),.int .i64 vs1.Merge.Tree.Win,.bool vs1.Shadow.Some,.str vs1.Shadow.Last,.bool vs1.Shadow.Bottom,.psl 4 (List.map aA.enc vs1.Out),.int .i64 vs1.Steps]]⟩),(8,⟨0,true,true,10,[[.nils,.nils,.nils,.nils,.int .i64 0,.bool false,.str [],.bool false,.nils,.int .i64 0]]⟩),(232,⟨0,true,true,10,[[.psl 1 (List.map (tA 4 aA.enc) x20.1),.psl 1 (List.map (gA .i64) x20.2.1),.psl 2 (List.map eA.enc x20.2.2.1),.psl 1 (List.map (gA .i64) x20.2.2.2.1),.int .i64 x20.2.2.2.2,.bool vs1.Shadow.Some,.str vs1.Shadow.Last,.bool vs1.Shadow.Bottom,.psl 4 (List.map aA.enc vs1.Out),.int .i64 vs1.Steps]]⟩)],280,[]⟩) ?_ ?_
 ·
  intro s' hs
  obtain ⟨hn,hs⟩:=hs
  refine cA ?_
  refine oB [] hn hs ?_
  refine xS 328 [2,4,9,10] ?_
  obtain ⟨vr29,hvr29,h0⟩:=bA h0
  refine nA 416 [2,4,9,10,12] (fun | 3=>some (.tup [.psl 4 (vr29.1.map aA.enc),.psl 1 (vr29.2.1.map (gA .i64)),.int .i64 vr29.2.2],[]) | _=>none) rfl (fun _ _=>rC (zdN hvr29)) ?_
  obtain ⟨hc30,h0⟩:=pD h0
  obtain ⟨vr31,hvr31,h0⟩:=bA h0
  refine qC 536 [4,9,10] (fun | 7=>some (.tup [.psl 4 (vr31.1.map aA.enc),.agg (lB.enc vr31.2)],[]) | _=>none) rfl rfl rfl (fun _ _=>hO (zdX hvr31)) ?_
  refine xS 576 [4,5,6] ?_
  refine jA ?_
  obtain rfl:=oI h0
  exact lA [] rG
 refine lC (ι:={ p : Nat × Int × List (List aA) × List Int × List eA × List Int × Int // gO vr3 n2 p.1 p.2.1 p.2.2.1 p.2.2.2.1 p.2.2.2.2.1 p.2.2.2.2.2.1 p.2.2.2.2.2.2 = some x20 }) (fun p=>⟨[(2,.ref 0 0 0 0),(4,.ref 8 0 0 0),(9,.int .i64 (if vr3.1 < n2 then vr3.1 else n2)),(10,.ref 232 0 0 0),(11,.int .i64 p.1.2.1)],[(0,⟨0,true,true,10,[[.psl 1 (List.map (tA 4 aA.enc) vs1.Merge.Runs),.psl 1 (List.map (gA .i64) vs1.Merge.At),.psl 2 (List.map eA.enc vs1.Merge.Tree.Keys),.psl 1 (List.map (gA .i64) vs1.Merge.Tree.Lose),.int .i64 vs1.Merge.Tree.Win,.bool vs1.Shadow.Some,.str vs1.Shadow.Last,.bool vs1.Shadow.Bottom,.psl 4 (List.map aA.enc vs1.Out),.int .i64 vs1.Steps]]⟩),(8,⟨0,true,true,10,[[.nils,.nils,.nils,.nils,.int .i64 0,.bool false,.str [],.bool false,.nils,.int .i64 0]]⟩),(232,⟨0,true,true,10,[[.psl 1 (List.map (tA 4 aA.enc) p.1.2.2.1),.psl 1 (List.map (gA .i64) p.1.2.2.2.1),.psl 2 (List.map eA.enc p.1.2.2.2.2.1),.psl 1 (List.map (gA .i64) p.1.2.2.2.2.2.1),.int .i64 p.1.2.2.2.2.2.2,.bool vs1.Shadow.Some,.str vs1.Shadow.Last,.bool vs1.Shadow.Bottom,.psl 4 (List.map aA.enc vs1.Out),.int .i64 vs1.Steps]]⟩)],256,[]⟩) (fun p=>p.1.1) ⟨(fu,0,vs1.Merge.Runs,vs1.Merge.At,vs1.Merge.Tree.Keys,vs1.Merge.Tree.Lose,vs1.Merge.Tree.Win),hxx20⟩ ⟨rF,rE,rfl,rfl,trivial,trivial⟩ (fun _=>Nat.le_refl _) ?_
 rintro ⟨⟨fu,i21,t22,t23,t24,t25,t26⟩,h1⟩
 cases fu with
 | zero =>
  replace h1 : gO vr3 n2 0 i21 t22 t23 t24 t25 t26 = some x20:=h1
  rw [gO] at h1; cases h1
 | succ fu =>
  replace h1 : gO vr3 n2 (fu + 1) i21 t22 t23 t24 t25 t26 = some x20:=h1
  rw [gO] at h1
  dsimp only
  refine iA ?_
  refine xS 280 [2,4,9,10,11,42] ?_
  refine xI h1 rfl (fun h1 hb27=>?_) (fun h1 hb27=>?_)
  ·
   refine oA (cA (iA (vB ?_)))
   obtain ⟨vr28,hvr28,h1⟩:=bA h1
   refine nB 360 [2,4,9,10,11] (fun | 2=>some (.tup [.agg (aA.enc vr28.1),.int .i64 vr28.2.1,.agg (iB.enc vr28.2.2.1),.int .i64 vr28.2.2.2],[]) | _=>none) rfl (fun _ _=>rC (zmT hvr28)) ?_
   refine pB (cA ?_)
   refine xR 384 [2,4,9,10,11] ?_
   refine cA ?_
   exact ⟨⟨(fu,(IntKind.i64.wrap (i21 + 1)),vr28.2.2.1.Runs,vr28.2.2.1.At,vr28.2.2.1.Tree.Keys,vr28.2.2.1.Tree.Lose,vr28.2.2.1.Tree.Win),h1⟩,⟨rF,rE,rfl,rfl,trivial,trivial⟩,Nat.lt_succ_self _⟩
  refine dC (xA (xA (gC ?_)))
  obtain rfl:=oI h1
  exact ⟨rL,⟨rF,rE,rfl,rfl,trivial,trivial⟩⟩
theorem znL {fu : Nat} {b1 : Int} {level2 : Int} {r : Int} (h0 : rX fu b1 level2 = some r) : yA Tryz.prog 74 [.int .i64 b1,.int .i64 level2] (.int .i64 r) []:=by
 refine dB Tryz.func74 rfl (by decide) rL ?_
 dsimp only [Tryz.f74]
 rw [rX] at h0
 refine xS 8 [0,1] ?_
 refine iA ?_
 refine xS 16 [0,1,5] ?_
 obtain ⟨x7,hxx7,h0⟩:=bA h0
 refine pC (fun s'=>s'.nx ≤ 40 ∧ LeN [] s' ⟨[(0,.int .i64 x7)],[],40,[]⟩) ?_ ?_
 ·
  intro s' hs
  obtain ⟨hn,hs⟩:=hs
  refine cA ?_
  refine oB [] hn hs ?_
  refine xS 56 [4] ?_
  refine jA ?_
  obtain rfl:=oI h0
  exact lA [] rG
 refine lC (ι:={ p : Nat × Int × Int // oN level2 p.1 p.2.1 p.2.2 = some x7 }) (fun p=>⟨[(0,.int .i64 p.1.2.1),(1,.int .i64 level2),(5,.int .i64 p.1.2.2)],[],16,[]⟩) (fun p=>p.1.1) ⟨(fu,b1,0),hxx7⟩ ⟨rF,rE,rfl,rfl,trivial,trivial⟩ (fun _=>Nat.le_refl _) ?_
 rintro ⟨⟨fu,b8,i9⟩,h1⟩
 cases fu with
 | zero =>
  replace h1 : oN level2 0 b8 i9 = some x7:=h1
  rw [oN] at h1; cases h1
 | succ fu =>
  replace h1 : oN level2 (fu + 1) b8 i9 = some x7:=h1
  rw [oN] at h1
  dsimp only
  refine iA ?_
  refine xS 40 [0,1,5,8] ?_
  refine xI h1 rfl (fun h1 hb10=>?_) (fun h1 hb10=>?_)
  ·
   refine oA (cA (iA (vB ?_)))
   refine xR 64 [0,1,5] ?_
   refine pB (cA ?_)
   refine xR 88 [0,1,5] ?_
   refine cA ?_
   exact ⟨⟨(fu,(IntKind.i64.wrap (2 * b8)),(IntKind.i64.wrap (i9 + 1))),h1⟩,⟨rF,rE,rfl,rfl,trivial,trivial⟩,Nat.lt_succ_self _⟩
  refine dC (xA (xA (gC ?_)))
  obtain rfl:=oI h1
  exact ⟨rL,⟨rF,rE,rfl,rfl,trivial,trivial⟩⟩
theorem zj4 {fu : Nat} {vr1 : gB} {r : Int × Int} (h0 : rZ fu vr1 = some r) : yA Tryz.prog 101 [.agg (gB.enc vr1)] (.tup [.int .i64 r.1,.int .i64 r.2]) []:=by
 refine dB Tryz.func101 rfl (by decide) rL ?_
 dsimp only [Tryz.f101]
 rw [rZ] at h0
 refine xS 24 [1] ?_
 refine iA ?_
 obtain ⟨b2,hb2,h0⟩:=bA h0
 refine jC (fr':=[(1,.ref 0 0 0 0),(11,.bool b2)]) (hp':=[(0,⟨0,true,true,2,[[.int .i64 vr1.Id,.psl 4 (List.map aA.enc vr1.Entries)]]⟩)]) [0] 88 [1,11] (fun _=>none) rfl (fun Kt hK=>by
   cases hg3 : (decide (vr1.Id < 1)) with
   | false =>
    replace hb2:=sA hb2 hg3
    have hqb2:=oI hb2
    subst hqb2
    exact rW hg3 hK
   | true =>
    replace hb2:=zA hb2 hg3
    have hqb2:=oI hb2
    subst hqb2
    exact rW hg3 hK) ?_
 refine xI h0 rfl (fun h0 hb4=>?_) (fun h0 hb4=>?_)
 ·
  refine xS 104 [2,3] ?_
  refine jA (mA ?_)
  obtain rfl:=oI h0
  exact lA [] rG
 refine oA (cA ?_)
 obtain ⟨vr5,hvr5,h0⟩:=bA h0
 refine nA 144 [2,3] (fun | 2=>some (.tup [.int .i64 vr5.1,.int .i64 vr5.2],[]) | _=>none) rfl (fun _ _=>rC (zdi hvr5)) ?_
 refine jA ?_
 obtain rfl:=oI h0
 exact lA [] rG
theorem zop {fu : Nat} {vr1 : gB} {most2 : Int} {ids3 : List Int} {r : Int} (h0 : fX fu vr1 most2 ids3 = some r) : yA Tryz.prog 73 [.agg (gB.enc vr1),.int .i64 most2,.psl 1 (ids3.map (gA .i64))] (.int .i64 r) []:=by
 refine dB Tryz.func73 rfl (by decide) rL ?_
 dsimp only [Tryz.f73]
 rw [fX] at h0
 refine xS 16 [1,2,3] ?_
 obtain ⟨vr4,hvr4,h0⟩:=bA h0
 refine nA 72 [1,2,3,8] (fun | 1=>some (.tup [.int .i64 vr4.1,.int .i64 vr4.2],[]) | _=>none) rfl (fun _ _=>rC (zj4 hvr4)) ?_
 refine iA ?_
 refine xS 88 [1,2,3,8,16] ?_
 refine xI h0 rfl (fun h0 hb5=>?_) (fun h0 hb5=>?_)
 ·
  refine xS 104 [6] ?_
  refine jA (mA ?_)
  obtain rfl:=oI h0
  exact lA [] rG
 refine oA (cA (iA ?_))
 refine xS 120 [1,2,3,21] ?_
 refine xI h0 rfl (fun h0 hb6=>?_) (fun h0 hb6=>?_)
 ·
  refine xS 128 [6] ?_
  refine jA (mA ?_)
  obtain rfl:=oI h0
  exact lA [] rG
 refine oA (cA (iA ?_))
 refine xS 160 [2,3,26] ?_
 refine xI h0 rfl (fun h0 hb7=>?_) (fun h0 hb7=>?_)
 ·
  refine xS 168 [6] ?_
  refine jA (mA ?_)
  obtain rfl:=oI h0
  exact lA [] rG
 refine oA (cA (iA ?_))
 refine xS 168 [2,3,9] ?_
 obtain ⟨x15,hxx15,h0⟩:=bA h0
 refine pC (fun s'=>∃ o20 : Unit,x15 = .inl o20 ∧ s'.nx ≤ 200 ∧ LeN [] s' ⟨[],[(0,⟨0,true,true,2,[[.int .i64 vr1.Id,.psl 4 (List.map aA.enc vr1.Entries)]]⟩)],200,[]⟩) ?_ ?_
 ·
  intro s' hs
  obtain ⟨o20,rfl,hn,hs⟩:=hs
  refine cA ?_
  refine oB [] hn hs ?_
  refine xS 208 [6] ?_
  refine jA ?_
  obtain rfl:=oI h0
  exact lA [] rG
 refine lC (ι:={ p : Nat × Int // xK ids3 vr1 p.1 p.2 = some x15 }) (fun p=>⟨[(2,.psl 1 (List.map (gA .i64) ids3)),(3,.ref 0 0 0 0),(9,.int .i64 p.1.2)],[(0,⟨0,true,true,2,[[.int .i64 vr1.Id,.psl 4 (List.map aA.enc vr1.Entries)]]⟩)],168,[]⟩) (fun p=>p.1.1) ⟨(fu,0),hxx15⟩ ⟨rF,rE,rfl,rfl,trivial,trivial⟩ (fun _=>Nat.le_refl _) ?_
 rintro ⟨⟨fu,i16⟩,h1⟩
 cases fu with
 | zero =>
  replace h1 : xK ids3 vr1 0 i16 = some x15:=h1
  rw [xK] at h1; cases h1
 | succ fu =>
  replace h1 : xK ids3 vr1 (fu + 1) i16 = some x15:=h1
  rw [xK] at h1
  dsimp only
  refine iA ?_
  refine xS 200 [2,3,9,30] ?_
  refine xI h1 rfl (fun h1 hb17=>?_) (fun h1 hb17=>?_)
  ·
   refine oA (cA (iA (vB ?_)))
   obtain ⟨e18,he18,h1⟩:=bA h1
   obtain ⟨he18a,he18b,he18c⟩:=vA he18
   refine qC 256 [2,3,9,39] (fun _=>none) rfl rfl rfl (fun _ _=>xD (rA he18a (rA he18b he18c))) ?_
   refine xI h1 rfl (fun h1 hb19=>?_) (fun h1 hb19=>?_)
   ·
    refine nA 264 [6] (fun _=>none) rfl (fun _ _=>rS (rA he18a (rA he18b he18c))) ?_
    refine jA ?_
    obtain rfl:=oI h1
    refine zB (mA (mA (xC (mA ?_))))
    obtain rfl:=oI h0
    refine lA [] ?_
    exact rJ (rA he18a (rA he18b he18c))
   refine oA (pB (cA ?_))
   refine nB 280 [2,3,9] (fun _=>none) rfl (fun _ _=>rS (rA he18a (rA he18b he18c))) ?_
   refine cA ?_
   exact ⟨⟨(fu,(IntKind.i64.wrap (i16 + 1))),h1⟩,⟨rF,rE,rfl,rfl,trivial,trivial⟩,Nat.lt_succ_self _⟩
  refine dC (xA (xA (gC ?_)))
  obtain rfl:=oI h1
  exact ⟨_,rfl,rL,⟨rF,rE,rfl,rfl,trivial,trivial⟩⟩
theorem zaE {fu : Nat} {l1 : eB} {r : Int × Int × Int} (h0 : oJ fu l1 = some r) : yA Tryz.prog 42 [.agg (eB.enc l1)] (.tup [.int .i64 r.1,.int .i64 r.2.1,.int .i64 r.2.2]) []:=by
 refine dB Tryz.func42 rfl (by decide) rL ?_
 dsimp only [Tryz.f42]
 rw [oJ] at h0
 refine xS 32 [1] ?_
 refine iA ?_
 obtain ⟨b2,hb2,h0⟩:=bA h0
 refine jC (fr':=[(1,.ref 0 0 0 0),(17,.bool b2)]) (hp':=[(0,⟨0,true,true,2,[[.int .i64 l1.B,.psl 1 (List.map qA.enc l1.Levels)]]⟩)]) [0] 96 [1,17] (fun _=>none) rfl (fun Kt hK=>by
   cases hg3 : (decide (l1.B < 1)) with
   | false =>
    replace hb2:=sA hb2 hg3
    have hqb2:=oI hb2
    subst hqb2
    exact rW hg3 hK
   | true =>
    replace hb2:=zA hb2 hg3
    have hqb2:=oI hb2
    subst hqb2
    exact rW hg3 hK) ?_
 refine xI h0 rfl (fun h0 hb4=>?_) (fun h0 hb4=>?_)
 ·
  refine xS 120 [2,3,4] ?_
  refine jA (mA ?_)
  obtain rfl:=oI h0
  exact lA [] rG
 refine oA (cA (iA ?_))
 refine xS 128 [1,21] ?_
 refine xI h0 rfl (fun h0 hb5=>?_) (fun h0 hb5=>?_)
 ·
  refine xS 152 [2,3,4] ?_
  refine jA (mA ?_)
  obtain rfl:=oI h0
  exact lA [] rG
 refine oA (cA ?_)
 refine xS 136 [1,5] ?_
 refine iA ?_
 refine xS 144 [1,5,6] ?_
 refine oB (s2:=⟨[(1,.ref 0 0 0 0),(5,.sl 144 0 1 0 0),(6,.int .i64 0)],[(0,⟨0,true,true,2,[[.int .i64 l1.B,.psl 1 (List.map qA.enc l1.Levels)]]⟩),(144,⟨0,true,true,1,List.map (gA .i64) []⟩)],145,[]⟩) [(144,1)] rL ⟨rF,rE,rfl,rfl,trivial,rN⟩ ?_
 obtain ⟨x102,hxx102,h0⟩:=bA h0
 refine pC (fun s'=>∃ o136 : List Int,∃ g137 : Nat,x102 = .inl o136 ∧ s'.nx ≤ 185 ∧ LeN [] s' ⟨[(1,.ref 0 0 0 0)],[(0,⟨0,true,true,2,[[.int .i64 l1.B,.psl 1 (List.map qA.enc l1.Levels)]]⟩),(144,⟨g137,true,true,1,List.map (gA .i64) o136⟩)],185,[]⟩) ?_ ?_
 ·
  intro s' hs
  obtain ⟨o136,g137,rfl,hn,hs⟩:=hs
  refine cA ?_
  refine oB [] hn hs ?_
  refine iA ?_
  obtain ⟨b139,hb139,h0⟩:=bA h0
  refine jC (fr':=[(1,.ref 0 0 0 0),(84,.bool b139)]) (hp':=[(0,⟨0,true,true,2,[[.int .i64 l1.B,.psl 1 (List.map qA.enc l1.Levels)]]⟩),(144,⟨g137,true,true,1,List.map (gA .i64) o136⟩)]) [0,144] 321 [1,84] (fun _=>none) rfl (fun Kt hK=>by
    cases hg140 : (decide (0 < (l1.Levels.length : Int))) with
    | false =>
     replace hb139:=sA hb139 hg140
     have hqb139:=oI hb139
     subst hqb139
     exact rW hg140 hK
    | true =>
     replace hb139:=zA hb139 hg140
     obtain ⟨e138,he138,hb139⟩:=bA hb139
     obtain ⟨he138a,he138b,he138c⟩:=vA he138
     have hqb139:=oI hb139
     subst hqb139
     exact sD hg140 (rA he138a (rA he138b (rA he138c he138))) hK) ?_
  refine xI h0 rfl (fun h0 hb141=>?_) (fun h0 hb141=>?_)
  ·
   refine xS 377 [2,3,4] ?_
   refine jA (mA ?_)
   obtain rfl:=oI h0
   exact lA [] rG
  refine oA (cA ?_)
  refine xS 345 [2,3,4] ?_
  refine jA ?_
  obtain rfl:=oI h0
  exact lA [] rG
 refine lC (ι:={ p : Nat × Int × List Int × Nat // hI l1 p.1 p.2.1 p.2.2.1 = some x102 }) (fun p=>⟨[(1,.ref 0 0 0 0),(5,.sl 144 p.1.2.2.2 1 0 p.1.2.2.1.length),(6,.int .i64 p.1.2.1)],[(0,⟨0,true,true,2,[[.int .i64 l1.B,.psl 1 (List.map qA.enc l1.Levels)]]⟩),(144,⟨p.1.2.2.2,true,true,1,List.map (gA .i64) p.1.2.2.1⟩)],145,[]⟩) (fun p=>p.1.1) ⟨(fu,0,[],0),hxx102⟩ ⟨rF,rE,rfl,rfl,trivial,trivial⟩ (fun _=>Nat.le_refl _) ?_
 rintro ⟨⟨fu,i103,ids104,g105⟩,h1⟩
 cases fu with
 | zero =>
  replace h1 : hI l1 0 i103 ids104 = some x102:=h1
  rw [hI] at h1; cases h1
 | succ fu =>
  replace h1 : hI l1 (fu + 1) i103 ids104 = some x102:=h1
  rw [hI] at h1
  dsimp only
  refine iA ?_
  refine xS 185 [1,5,6,26] ?_
  refine xI h1 rfl (fun h1 hb106=>?_) (fun h1 hb106=>?_)
  ·
   refine oA (cA (iA (vB ?_)))
   obtain ⟨e107,he107,h1⟩:=bA h1
   obtain ⟨he107a,he107b,he107c⟩:=vA he107
   refine nA 241 [1,5,6,7] (fun _=>none) rfl (fun _ _=>rS (rA he107a (rA he107b he107c))) ?_
   refine iA ?_
   refine nA 265 [1,5,6,7,37] (fun _=>none) rfl (fun _ _=>rS (rA he107a (rA he107b he107c))) ?_
   refine xI h1 rfl (fun h1 hb108=>?_) (fun h1 hb108=>?_)
   ·
    refine nA 297 [2,3,4] (fun _=>none) rfl (fun _ _=>rS (rA he107a (rA he107b he107c))) ?_
    refine jA ?_
    obtain rfl:=oI h1
    refine mA (zB (mA (mA (xC (mA ?_)))))
    obtain rfl:=oI h0
    refine lA [] ?_
    exact rJ (rA he107a (rA he107b he107c))
   refine oA (cA ?_)
   refine nA 273 [1,5,6,7,8] (fun _=>none) rfl (fun _ _=>rS (rA he107a (rA he107b he107c))) ?_
   obtain ⟨x124,hxx124,h1⟩:=bA h1
   refine pC (fun s'=>∃ o134 : List Int,∃ g135 : Nat,x124 = .inl o134 ∧ s'.nx ≤ 305 ∧ LeN [] s' ⟨[(1,.ref 0 0 0 0),(5,.sl 144 g135 1 0 o134.length),(6,.int .i64 i103)],[(0,⟨0,true,true,2,[[.int .i64 l1.B,.psl 1 (List.map qA.enc l1.Levels)]]⟩),(144,⟨g135,true,true,1,List.map (gA .i64) o134⟩)],305,[]⟩) ?_ ?_
   ·
    intro s' hs
    obtain ⟨o134,g135,rfl,hn,hs⟩:=hs
    refine pB (cA ?_)
    refine oB [] hn hs ?_
    refine nB 329 [1,5,6] (fun _=>none) rfl (fun _ _=>rS (rA he107a (rA he107b he107c))) ?_
    refine cA ?_
    exact ⟨⟨(fu,(IntKind.i64.wrap (i103 + 1)),o134,g135),h1⟩,⟨rF,rE,rfl,rfl,trivial,trivial⟩,Nat.lt_succ_self _⟩
   refine lC (ι:={ p : Nat × Int × List Int × Nat // tI e107 l1 i103 p.1 p.2.1 p.2.2.1 = some x124 }) (fun p=>⟨[(1,.ref 0 0 0 0),(5,.sl 144 p.1.2.2.2 1 0 p.1.2.2.1.length),(6,.int .i64 i103),(7,.psl 2 (List.map gB.enc e107.Runs)),(8,.int .i64 p.1.2.1)],[(0,⟨0,true,true,2,[[.int .i64 l1.B,.psl 1 (List.map qA.enc l1.Levels)]]⟩),(144,⟨p.1.2.2.2,true,true,1,List.map (gA .i64) p.1.2.2.1⟩)],273,[]⟩) (fun p=>p.1.1) ⟨(fu,0,ids104,g105),hxx124⟩ ⟨rF,rE,rfl,rfl,trivial,trivial⟩ (fun _=>Nat.le_refl _) ?_
   rintro ⟨⟨fu,k125,ids126,g127⟩,h2⟩
   cases fu with
   | zero =>
  replace h2 : tI e107 l1 i103 0 k125 ids126 = some x124:=h2
  rw [tI] at h2; cases h2
   | succ fu =>
    replace h2 : tI e107 l1 i103 (fu + 1) k125 ids126 = some x124:=h2
    rw [tI] at h2
    dsimp only
    refine iA ?_
    refine nA 305 [1,5,6,7,8,42] (fun _=>none) rfl (fun _ _=>rS (rA he107a (rA he107b he107c))) ?_
    refine xI h2 rfl (fun h2 hb128=>?_) (fun h2 hb128=>?_)
    ·
     refine oA (cA (iA (vB ?_)))
     obtain ⟨e129,he129,h2⟩:=bA h2
     obtain ⟨he129a,he129b,he129c⟩:=vA he129
     obtain ⟨vr130,hvr130,h2⟩:=bA h2
     obtain ⟨vr131,hvr131,h2⟩:=bA h2
     refine qC 393 [1,5,6,7,8,9] (fun | 7=>some (.int .i64 vr130,[]) | 9=>some (.int .i64 vr131,[]) | _=>none) rfl rfl rfl (fun Kt hK=>by
       try have q0:=znL hvr130
       try have q1:=zop hvr131
       exact xD (rA he107a (rA he107b (rA he107c (rA he129a (rA he129b he129c)))))) ?_
     refine iA ?_
     refine nA 409 [1,5,6,7,8,9,56] (fun _=>none) rfl (fun _ _=>rS (rA he107a (rA he107b (rA he107c (rA he129a (rA he129b he129c)))))) ?_
     refine xI h2 rfl (fun h2 hb132=>?_) (fun h2 hb132=>?_)
     ·
      refine nA 457 [2,3,4] (fun _=>none) rfl (fun _ _=>rS (rA he107a (rA he107b (rA he107c (rA he129a (rA he129b he129c)))))) ?_
      refine jA ?_
      obtain rfl:=oI h2
      obtain rfl:=oI h1
      refine mA (zB (mA (mA (xC (zB (mA (mA (xC (mA ?_)))))))))
      obtain rfl:=oI h0
      refine lA [] ?_
      exact rJ (rA he107a (rA he107b (rA he107c (rA he129a (rA he129b he129c)))))
     refine oA (cA ?_)
     obtain ⟨hc133,h2⟩:=pD h2
     refine nB 481 [1,5,6,7,8] (fun _=>none) rfl (fun _ _=>rS (rA he107a (rA he107b (rA he107c (rA he129a (rA he129b he129c)))))) ?_
     refine pB (cA ?_)
     refine xE ⟨[(1,.ref 0 0 0 0),(5,.sl 144 (g127 + 1) 1 0 ((ids126++[e129.Id]).length)),(6,.int .i64 i103),(7,.psl 2 (List.map gB.enc e107.Runs)),(8,.int .i64 k125)],[(0,⟨0,true,true,2,[[.int .i64 l1.B,.psl 1 (List.map qA.enc l1.Levels)]]⟩),(144,⟨(g127 + 1),true,true,1,List.map (gA .i64) (ids126++[e129.Id])⟩)],481,[]⟩ ?_
     refine nB 505 [1,5,6,7,8] (fun _=>none) rfl (fun _ _=>rS (rA he107a (rA he107b (rA he107c (rA he129a (rA he129b he129c)))))) ?_
     refine cA ?_
     exact ⟨⟨(fu,(IntKind.i64.wrap (k125 + 1)),(ids126++[e129.Id]),(g127 + 1)),h2⟩,⟨rF,rE,rfl,rfl,trivial,trivial⟩,Nat.lt_succ_self _⟩
    refine dC (xA (xA (gC ?_)))
    obtain rfl:=oI h2
    exact ⟨_,g127,rfl,rL,⟨rF,rE,rfl,rfl,trivial,trivial⟩⟩
  refine dC (xA (xA (gC ?_)))
  obtain rfl:=oI h1
  exact ⟨_,g105,rfl,rL,⟨rF,rE,rfl,rfl,trivial,trivial⟩⟩
theorem zlI {fu : Nat} {l1 : eB} {r : List gB × Int} (h0 : cW fu l1 = some r) : yA Tryz.prog 75 [.agg (eB.enc l1)] (.tup [.psl 2 (r.1.map gB.enc),.int .i64 r.2]) []:=by
 refine dB Tryz.func75 rfl (by decide) rL ?_
 dsimp only [Tryz.f75]
 rw [cW] at h0
 refine xS 24 [1] ?_
 obtain ⟨vr2,hvr2,h0⟩:=bA h0
 refine nA 96 [1,6] (fun | 1=>some (.tup [.int .i64 vr2.1,.int .i64 vr2.2.1,.int .i64 vr2.2.2],[]) | _=>none) rfl (fun _ _=>rC (zaE hvr2)) ?_
 refine iA ?_
 refine xS 112 [1,6,17] ?_
 refine xI h0 rfl (fun h0 hb3=>?_) (fun h0 hb3=>?_)
 ·
  refine xS 136 [2,3] ?_
  refine jA (mA ?_)
  obtain rfl:=oI h0
  exact lA [] rG
 refine oA (cA ?_)
 refine xS 120 [1,7] ?_
 refine iA ?_
 refine xS 128 [1,7,8] ?_
 refine oB (s2:=⟨[(1,.ref 0 0 0 0),(7,.sl 128 0 2 0 0),(8,.int .i64 0)],[(0,⟨0,true,true,2,[[.int .i64 l1.B,.psl 1 (List.map qA.enc l1.Levels)]]⟩),(128,⟨0,true,true,2,List.map gB.enc []⟩)],129,[]⟩) [(128,2)] rL ⟨rF,rE,rfl,rfl,trivial,rN⟩ ?_
 obtain ⟨x64,hxx64,h0⟩:=bA h0
 refine pC (fun s'=>∃ g87 : Nat,s'.nx ≤ 169 ∧ LeN [] s' ⟨[(7,.sl 128 g87 2 0 x64.length)],[(0,⟨0,true,true,2,[[.int .i64 l1.B,.psl 1 (List.map qA.enc l1.Levels)]]⟩),(128,⟨g87,true,true,2,List.map gB.enc x64⟩)],169,[]⟩) ?_ ?_
 ·
  intro s' hs
  obtain ⟨g87,hn,hs⟩:=hs
  refine cA ?_
  refine oB [] hn hs ?_
  refine xS 193 [2,3] ?_
  refine jA ?_
  obtain rfl:=oI h0
  exact lA [] rG
 refine lC (ι:={ p : Nat × Int × List gB × Nat // gN l1 p.1 p.2.1 p.2.2.1 = some x64 }) (fun p=>⟨[(1,.ref 0 0 0 0),(7,.sl 128 p.1.2.2.2 2 0 p.1.2.2.1.length),(8,.int .i64 p.1.2.1)],[(0,⟨0,true,true,2,[[.int .i64 l1.B,.psl 1 (List.map qA.enc l1.Levels)]]⟩),(128,⟨p.1.2.2.2,true,true,2,List.map gB.enc p.1.2.2.1⟩)],129,[]⟩) (fun p=>p.1.1) ⟨(fu,0,[],0),hxx64⟩ ⟨rF,rE,rfl,rfl,trivial,trivial⟩ (fun _=>Nat.le_refl _) ?_
 rintro ⟨⟨fu,i65,out66,g67⟩,h1⟩
 cases fu with
 | zero =>
  replace h1 : gN l1 0 i65 out66 = some x64:=h1
  rw [gN] at h1; cases h1
 | succ fu =>
  replace h1 : gN l1 (fu + 1) i65 out66 = some x64:=h1
  rw [gN] at h1
  dsimp only
  refine iA ?_
  refine xS 169 [1,7,8,23] ?_
  refine xI h1 rfl (fun h1 hb68=>?_) (fun h1 hb68=>?_)
  ·
   refine oA (cA (iA (vB ?_)))
   obtain ⟨e69,he69,h1⟩:=bA h1
   obtain ⟨he69a,he69b,he69c⟩:=vA he69
   refine nA 241 [1,7,8,9] (fun _=>none) rfl (fun _ _=>rS (rA he69a (rA he69b he69c))) ?_
   obtain ⟨x79,hxx79,h1⟩:=bA h1
   refine pC (fun s'=>∃ g86 : Nat,s'.nx ≤ 257 ∧ LeN [] s' ⟨[(1,.ref 0 0 0 0),(7,.sl 128 g86 2 0 x79.length),(8,.int .i64 i65)],[(0,⟨0,true,true,2,[[.int .i64 l1.B,.psl 1 (List.map qA.enc l1.Levels)]]⟩),(128,⟨g86,true,true,2,List.map gB.enc x79⟩)],257,[]⟩) ?_ ?_
   ·
    intro s' hs
    obtain ⟨g86,hn,hs⟩:=hs
    refine pB (cA ?_)
    refine oB [] hn hs ?_
    refine nB 281 [1,7,8] (fun _=>none) rfl (fun _ _=>rS (rA he69a (rA he69b he69c))) ?_
    refine cA ?_
    exact ⟨⟨(fu,(IntKind.i64.wrap (i65 + 1)),x79,g86),h1⟩,⟨rF,rE,rfl,rfl,trivial,trivial⟩,Nat.lt_succ_self _⟩
   refine lC (ι:={ p : Nat × Int × List gB × Nat // eK e69 p.1 p.2.1 p.2.2.1 = some x79 }) (fun p=>⟨[(1,.ref 0 0 0 0),(7,.sl 128 p.1.2.2.2 2 0 p.1.2.2.1.length),(8,.int .i64 i65),(9,.int .i64 p.1.2.1)],[(0,⟨0,true,true,2,[[.int .i64 l1.B,.psl 1 (List.map qA.enc l1.Levels)]]⟩),(128,⟨p.1.2.2.2,true,true,2,List.map gB.enc p.1.2.2.1⟩)],241,[]⟩) (fun p=>p.1.1) ⟨(fu,(IntKind.i64.wrap ((e69.Runs.length : Int) - 1)),out66,g67),hxx79⟩ ⟨rF,rE,rfl,rfl,trivial,trivial⟩ (fun _=>Nat.le_refl _) ?_
   rintro ⟨⟨fu,k80,out81,g82⟩,h2⟩
   cases fu with
   | zero =>
  replace h2 : eK e69 0 k80 out81 = some x79:=h2
  rw [eK] at h2; cases h2
   | succ fu =>
    replace h2 : eK e69 (fu + 1) k80 out81 = some x79:=h2
    rw [eK] at h2
    dsimp only
    refine iA ?_
    refine nA 257 [1,7,8,9,35] (fun _=>none) rfl (fun _ _=>rS (rA he69a (rA he69b he69c))) ?_
    refine xI h2 rfl (fun h2 hb83=>?_) (fun h2 hb83=>?_)
    ·
     refine oA (cA (iA (vB ?_)))
     obtain ⟨e84,he84,h2⟩:=bA h2
     obtain ⟨he84a,he84b,he84c⟩:=vA he84
     obtain ⟨hc85,h2⟩:=pD h2
     refine nB 361 [1,7,8,9] (fun _=>none) rfl (fun _ _=>rS (rA he69a (rA he69b (rA he69c (rA he84a (rA he84b he84c)))))) ?_
     refine pB (cA ?_)
     refine xE ⟨[(1,.ref 0 0 0 0),(7,.sl 128 (g82 + 1) 2 0 ((out81++[e84]).length)),(8,.int .i64 i65),(9,.int .i64 k80)],[(0,⟨0,true,true,2,[[.int .i64 l1.B,.psl 1 (List.map qA.enc l1.Levels)]]⟩),(128,⟨(g82 + 1),true,true,2,List.map gB.enc (out81++[e84])⟩)],361,[]⟩ ?_
     refine nB 385 [1,7,8,9] (fun _=>none) rfl (fun _ _=>rS (rA he69a (rA he69b (rA he69c (rA he84a (rA he84b he84c)))))) ?_
     refine cA ?_
     exact ⟨⟨(fu,(IntKind.i64.wrap (k80 - 1)),(out81++[e84]),(g82 + 1)),h2⟩,⟨rF,rE,rfl,rfl,trivial,trivial⟩,Nat.lt_succ_self _⟩
    refine dC (xA (xA (gC ?_)))
    obtain rfl:=oI h2
    exact ⟨g82,rL,⟨rF,rE,rfl,rfl,trivial,trivial⟩⟩
  refine dC (xA (xA (gC ?_)))
  obtain rfl:=oI h1
  exact ⟨g67,rL,⟨rF,rE,rfl,rfl,trivial,trivial⟩⟩
theorem ze1 {fu : Nat} {l1 : eB} {r : Int} (h0 : dU fu l1 = some r) : yA Tryz.prog 43 [.agg (eB.enc l1)] (.int .i64 r) []:=by
 refine dB Tryz.func43 rfl (by decide) rL ?_
 dsimp only [Tryz.f43]
 rw [dU] at h0
 refine xS 16 [1] ?_
 obtain ⟨vr2,hvr2,h0⟩:=bA h0
 refine nA 72 [3] (fun | 1=>some (.tup [.psl 2 (vr2.1.map gB.enc),.int .i64 vr2.2],[]) | _=>none) rfl (fun _ _=>rC (zlI hvr2)) ?_
 refine xS 80 [3,5] ?_
 refine iA ?_
 refine xS 88 [3,5,6] ?_
 obtain ⟨x9,hxx9,h0⟩:=bA h0
 refine pC (fun s'=>s'.nx ≤ 120 ∧ LeN [] s' ⟨[(5,.int .i64 x9)],[],120,[]⟩) ?_ ?_
 ·
  intro s' hs
  obtain ⟨hn,hs⟩:=hs
  refine cA ?_
  refine oB [] hn hs ?_
  refine xS 136 [2] ?_
  refine jA ?_
  obtain rfl:=oI h0
  exact lA [] rG
 refine lC (ι:={ p : Nat × Int × Int // mN vr2 p.1 p.2.1 p.2.2 = some x9 }) (fun p=>⟨[(3,.psl 2 (List.map gB.enc vr2.1)),(5,.int .i64 p.1.2.1),(6,.int .i64 p.1.2.2)],[],88,[]⟩) (fun p=>p.1.1) ⟨(fu,0,0),hxx9⟩ ⟨rF,rE,rfl,rfl,trivial,trivial⟩ (fun _=>Nat.le_refl _) ?_
 rintro ⟨⟨fu,best10,i11⟩,h1⟩
 cases fu with
 | zero =>
  replace h1 : mN vr2 0 best10 i11 = some x9:=h1
  rw [mN] at h1; cases h1
 | succ fu =>
  replace h1 : mN vr2 (fu + 1) best10 i11 = some x9:=h1
  rw [mN] at h1
  dsimp only
  refine iA ?_
  refine xS 120 [3,5,6,15] ?_
  refine xI h1 rfl (fun h1 hb12=>?_) (fun h1 hb12=>?_)
  ·
   refine oA (cA (iA (vB ?_)))
   obtain ⟨e13,he13,h1⟩:=bA h1
   obtain ⟨he13a,he13b,he13c⟩:=vA he13
   refine nB 184 [3,5,6] (fun _=>none) rfl (fun _ _=>rS (rA he13a (rA he13b he13c))) ?_
   refine pB (cA ?_)
   refine nB 208 [3,5,6] (fun _=>none) rfl (fun _ _=>rS (rA he13a (rA he13b he13c))) ?_
   refine cA ?_
   exact ⟨⟨(fu,(if best10 < e13.Id then e13.Id else best10),(IntKind.i64.wrap (i11 + 1))),h1⟩,⟨rF,rE,rfl,rfl,trivial,trivial⟩,Nat.lt_succ_self _⟩
  refine dC (xA (xA (gC ?_)))
  obtain rfl:=oI h1
  exact ⟨rL,⟨rF,rE,rfl,rfl,trivial,trivial⟩⟩
theorem zfw {fu : Nat} {l1 : eB} {r : List Int} (h0 : aV fu l1 = some r) : yA Tryz.prog 44 [.agg (eB.enc l1)] (.psl 1 (r.map (gA .i64))) []:=by
 refine dB Tryz.func44 rfl (by decide) rL ?_
 dsimp only [Tryz.f44]
 rw [aV] at h0
 refine xS 16 [1] ?_
 refine xS 24 [1,3] ?_
 refine iA ?_
 refine xS 32 [1,3,4] ?_
 refine oB (s2:=⟨[(1,.ref 0 0 0 0),(3,.sl 32 0 1 0 0),(4,.int .i64 0)],[(0,⟨0,true,true,2,[[.int .i64 l1.B,.psl 1 (List.map qA.enc l1.Levels)]]⟩),(32,⟨0,true,true,1,List.map (gA .i64) []⟩)],33,[]⟩) [(32,1)] rL ⟨rF,rE,rfl,rfl,trivial,rN⟩ ?_
 obtain ⟨x15,hxx15,h0⟩:=bA h0
 refine pC (fun s'=>∃ g23 : Nat,s'.nx ≤ 73 ∧ LeN [] s' ⟨[(3,.sl 32 g23 1 0 x15.length)],[(0,⟨0,true,true,2,[[.int .i64 l1.B,.psl 1 (List.map qA.enc l1.Levels)]]⟩),(32,⟨g23,true,true,1,List.map (gA .i64) x15⟩)],73,[]⟩) ?_ ?_
 ·
  intro s' hs
  obtain ⟨g23,hn,hs⟩:=hs
  refine cA ?_
  refine oB [] hn hs ?_
  refine xS 89 [2] ?_
  refine jA ?_
  obtain rfl:=oI h0
  exact lA [] rG
 refine lC (ι:={ p : Nat × Int × List Int × Nat // aL l1 p.1 p.2.1 p.2.2.1 = some x15 }) (fun p=>⟨[(1,.ref 0 0 0 0),(3,.sl 32 p.1.2.2.2 1 0 p.1.2.2.1.length),(4,.int .i64 p.1.2.1)],[(0,⟨0,true,true,2,[[.int .i64 l1.B,.psl 1 (List.map qA.enc l1.Levels)]]⟩),(32,⟨p.1.2.2.2,true,true,1,List.map (gA .i64) p.1.2.2.1⟩)],33,[]⟩) (fun p=>p.1.1) ⟨(fu,0,[],0),hxx15⟩ ⟨rF,rE,rfl,rfl,trivial,trivial⟩ (fun _=>Nat.le_refl _) ?_
 rintro ⟨⟨fu,i16,out17,g18⟩,h1⟩
 cases fu with
 | zero =>
  replace h1 : aL l1 0 i16 out17 = some x15:=h1
  rw [aL] at h1; cases h1
 | succ fu =>
  replace h1 : aL l1 (fu + 1) i16 out17 = some x15:=h1
  rw [aL] at h1
  dsimp only
  refine iA ?_
  refine xS 73 [1,3,4,9] ?_
  refine xI h1 rfl (fun h1 hb19=>?_) (fun h1 hb19=>?_)
  ·
   refine oA (cA (iA (vB ?_)))
   obtain ⟨e20,he20,h1⟩:=bA h1
   obtain ⟨he20a,he20b,he20c⟩:=vA he20
   refine nA 137 [1,3,4,19] (fun _=>none) rfl (fun _ _=>rS (rA he20a (rA he20b he20c))) ?_
   refine xI h1 rfl (fun h1 hb21=>?_) (fun h1 hb21=>?_)
   ·
    obtain ⟨hc22,h1⟩:=pD h1
    refine nB 177 [1,3,4] (fun _=>none) rfl (fun _ _=>rS (rA he20a (rA he20b he20c))) ?_
    refine pB (cA ?_)
    refine xE ⟨[(1,.ref 0 0 0 0),(3,.sl 32 (g18 + 1) 1 0 ((out17++[i16]).length)),(4,.int .i64 i16)],[(0,⟨0,true,true,2,[[.int .i64 l1.B,.psl 1 (List.map qA.enc l1.Levels)]]⟩),(32,⟨(g18 + 1),true,true,1,List.map (gA .i64) (out17++[i16])⟩)],177,[]⟩ ?_
    refine nB 201 [1,3,4] (fun _=>none) rfl (fun _ _=>rS (rA he20a (rA he20b he20c))) ?_
    refine cA ?_
    exact ⟨⟨(fu,(IntKind.i64.wrap (i16 + 1)),(out17++[i16]),(g18 + 1)),h1⟩,⟨rF,rE,rfl,rfl,trivial,trivial⟩,Nat.lt_succ_self _⟩
   refine oA (pB (cA ?_))
   refine nB 161 [1,3,4] (fun _=>none) rfl (fun _ _=>rS (rA he20a (rA he20b he20c))) ?_
   refine cA ?_
   exact ⟨⟨(fu,(IntKind.i64.wrap (i16 + 1)),out17,g18),h1⟩,⟨rF,rE,rfl,rfl,trivial,trivial⟩,Nat.lt_succ_self _⟩
  refine dC (xA (xA (gC ?_)))
  obtain rfl:=oI h1
  exact ⟨g18,rL,⟨rF,rE,rfl,rfl,trivial,trivial⟩⟩
theorem zkP {fu : Nat} {l1 : eB} {level2 : Int} {r : Int} (h0 : kY fu l1 level2 = some r) : yA Tryz.prog 102 [.agg (eB.enc l1),.int .i64 level2] (.int .i64 r) []:=by
 refine dB Tryz.func102 rfl (by decide) rL ?_
 dsimp only [Tryz.f102]
 rw [kY] at h0
 refine xS 16 [1,2] ?_
 obtain ⟨vr3,hvr3,h0⟩:=bA h0
 refine nA 88 [1,7] (fun | 1=>some (.tup [.int .i64 vr3.1,.int .i64 vr3.2.1,.int .i64 vr3.2.2],[]) | _=>none) rfl (fun _ _=>rC (zaE hvr3)) ?_
 refine iA ?_
 obtain ⟨b5,hb5,h0⟩:=bA h0
 refine jC (fr':=[(7,.int .i64 vr3.2.2),(23,.bool b5)]) (hp':=[(0,⟨0,true,true,2,[[.int .i64 l1.B,.psl 1 (List.map qA.enc l1.Levels)]]⟩)]) [0] 168 [7,23] (fun _=>none) rfl (fun Kt hK=>by
   cases hg6 : (decide (vr3.2.2 = 0)) with
   | false =>
    replace hb5:=sA hb5 hg6
    have hqb5:=oI hb5
    subst hqb5
    exact rW hg6 hK
   | true =>
    replace hb5:=zA hb5 hg6
    obtain ⟨b4,hb4,hb5⟩:=bA hb5
    have hqb5:=oI hb5
    cases hg7 : (decide (level2 < 0)) with
    | false =>
     replace hb4:=sA hb4 hg7
     have hqb4:=oI hb4
     subst hqb5
     subst hqb4
     exact rW (rA hg6 hg7) hK
    | true =>
     replace hb4:=zA hb4 hg7
     have hqb4:=oI hb4
     subst hqb5
     subst hqb4
     exact rW (rA hg6 hg7) hK) ?_
 refine xI h0 rfl (fun h0 hb8=>?_) (fun h0 hb8=>?_)
 ·
  refine xR 176 [7] ?_
  refine cA ?_
  refine xS 192 [4] ?_
  refine jA ?_
  obtain rfl:=oI h0
  exact lA [] rG
 refine oA (cA ?_)
 refine xS 184 [4] ?_
 refine jA ?_
 obtain rfl:=oI h0
 exact lA [] rG
theorem zpq {fu : Nat} {l1 : eB} {level2 : Int} {r : Bool × Int} (h0 : gY fu l1 level2 = some r) : yA Tryz.prog 76 [.agg (eB.enc l1),.int .i64 level2] (.tup [.bool r.1,.int .i64 r.2]) []:=by
 refine dB Tryz.func76 rfl (by decide) rL ?_
 dsimp only [Tryz.f76]
 rw [gY] at h0
 refine xS 24 [1,2] ?_
 obtain ⟨vr3,hvr3,h0⟩:=bA h0
 refine nA 56 [1,2,6] (fun | 2=>some (.int .i64 vr3,[]) | _=>none) rfl (fun _ _=>rC (zkP hvr3)) ?_
 refine iA ?_
 refine xS 72 [1,2,6,11] ?_
 refine xI h0 rfl (fun h0 hb4=>?_) (fun h0 hb4=>?_)
 ·
  refine xS 96 [4,5] ?_
  refine jA (mA ?_)
  obtain rfl:=oI h0
  exact lA [] rG
 refine oA (cA ?_)
 refine xS 136 [4,5] ?_
 refine jA ?_
 obtain rfl:=oI h0
 exact lA [] rG
theorem zex {fu : Nat} {l1 : eB} {level2 : Int} {r : Bool} (h0 : qT fu l1 level2 = some r) : yA Tryz.prog 45 [.agg (eB.enc l1),.int .i64 level2] (.bool r) []:=by
 refine dB Tryz.func45 rfl (by decide) rL ?_
 dsimp only [Tryz.f45]
 rw [qT] at h0
 refine xS 16 [1,2] ?_
 obtain ⟨vr3,hvr3,h0⟩:=bA h0
 refine nA 80 [5] (fun | 2=>some (.tup [.bool vr3.1,.int .i64 vr3.2],[]) | _=>none) rfl (fun _ _=>rC (zpq hvr3)) ?_
 refine xS 104 [4] ?_
 refine jA ?_
 obtain rfl:=oI h0
 exact lA [] rG
theorem zhS {fu : Nat} {l1 : eB} {level2 : Int} {r : List gB} (h0 : dZ fu l1 level2 = some r) : yA Tryz.prog 54 [.agg (eB.enc l1),.int .i64 level2] (.psl 2 (r.map gB.enc)) []:=by
 refine dB Tryz.func54 rfl (by decide) rL ?_
 dsimp only [Tryz.f54]
 rw [dZ] at h0
 refine xS 16 [1,2] ?_
 refine iA ?_
 refine xS 56 [1,2,9] ?_
 refine xI h0 rfl (fun h0 hb3=>?_) (fun h0 hb3=>?_)
 ·
  refine xS 64 [4] ?_
  refine jA (mA ?_)
  obtain rfl:=oI h0
  exact lA [] rG
 refine oA (cA ?_)
 obtain ⟨e4,he4,h0⟩:=bA h0
 obtain ⟨he4a,he4b,he4c⟩:=vA he4
 refine nA 112 [4] (fun _=>none) rfl (fun _ _=>rS (rA he4a (rA he4b he4c))) ?_
 refine jA ?_
 obtain rfl:=oI h0
 refine lA [] ?_
 exact rJ (rA he4a (rA he4b he4c))
theorem zjd {fu : Nat} {runs1 : List (List aA)} {r : iB × Int × Int} (h0 : nM fu runs1 = some r) : yA Tryz.prog 103 [.psl 1 (runs1.map (tA 4 aA.enc))] (.tup [.agg (iB.enc r.1),.int .i64 r.2.1,.int .i64 r.2.2]) []:=by
 refine dB Tryz.func103 rfl (by decide) rL ?_
 dsimp only [Tryz.f103]
 rw [nM] at h0
 refine xS 24 [0,2] ?_
 obtain ⟨vr2,hvr2,h0⟩:=bA h0
 refine nA 80 [0,2,5,6] (fun | 1=>some (.tup [.int .i64 vr2.1,.int .i64 vr2.2],[]) | _=>none) rfl (fun _ _=>rC (zaW hvr2)) ?_
 refine iA ?_
 refine xS 96 [0,2,5,6,13] ?_
 refine xI h0 rfl (fun h0 hb3=>?_) (fun h0 hb3=>?_)
 ·
  refine xS 144 [2,3,4] ?_
  refine jA (mA ?_)
  obtain rfl:=oI h0
  exact lA [] rG
 refine oA (cA ?_)
 obtain ⟨hc4,h0⟩:=pD h0
 obtain ⟨vr5,hvr5,h0⟩:=bA h0
 refine nA 160 [2,3,4] (fun | 4=>some (.agg (iB.enc vr5),[]) | _=>none) rfl (fun _ _=>rC (zb3 hvr5)) ?_
 refine xE ⟨[(2,.ref 0 0 0 0),(3,.int .i64 0),(4,.int .i64 0)],[(0,⟨0,true,true,5,[[.psl 1 (List.map (tA 4 aA.enc) vr5.Runs),.psl 1 (List.map (gA .i64) vr5.At),.psl 2 (List.map eA.enc vr5.Tree.Keys),.psl 1 (List.map (gA .i64) vr5.Tree.Lose),.int .i64 vr5.Tree.Win]]⟩)],160,[]⟩ ?_
 refine jA ?_
 obtain rfl:=oI h0
 exact lA [] rG
theorem zn0 {fu : Nat} {runs1 : List (List aA)} {bottom2 : Bool} {r : mB × Int × Int} (h0 : dW fu runs1 bottom2 = some r) : yA Tryz.prog 77 [.psl 1 (runs1.map (tA 4 aA.enc)),.bool bottom2] (.tup [.agg (mB.enc r.1),.int .i64 r.2.1,.int .i64 r.2.2]) []:=by
 refine dB Tryz.func77 rfl (by decide) rL ?_
 dsimp only [Tryz.f77]
 rw [dW] at h0
 refine xS 24 [0,1,4] ?_
 obtain ⟨vr3,hvr3,h0⟩:=bA h0
 refine nA 104 [1,4,7,8,9] (fun | 1=>some (.tup [.agg (iB.enc vr3.1),.int .i64 vr3.2.1,.int .i64 vr3.2.2],[]) | _=>none) rfl (fun _ _=>rC (zjd hvr3)) ?_
 refine iA ?_
 refine xS 120 [1,4,7,8,9,17] ?_
 refine xI h0 rfl (fun h0 hb4=>?_) (fun h0 hb4=>?_)
 ·
  refine xS 168 [4,5,6] ?_
  refine jA (mA ?_)
  obtain rfl:=oI h0
  exact lA [] rG
 refine oA (cA ?_)
 obtain ⟨vr5,hvr5,h0⟩:=bA h0
 refine qC 176 [4,5,6] (fun | 2=>some (.agg (lB.enc vr5),[]) | _=>none) rfl rfl rfl (fun _ _=>hO (zbl hvr5)) ?_
 refine jA ?_
 obtain rfl:=oI h0
 exact lA [] rG
theorem zkZ {fu : Nat} {l1 : eB} {level2 : Int} {bottom3 : Bool} {r : bB} (h0 : xW fu l1 level2 bottom3 = some r) : yA Tryz.prog 46 [.agg (eB.enc l1),.int .i64 level2,.bool bottom3] (.agg (bB.enc r)) []:=by
 refine dB Tryz.func46 rfl (by decide) rL ?_
 dsimp only [Tryz.f46]
 rw [xW] at h0
 refine xS 16 [1,2,3,6] ?_
 obtain ⟨vr4,hvr4,h0⟩:=bA h0
 refine nA 48 [1,2,6,7] (fun | 2=>some (.psl 2 (vr4.map gB.enc),[]) | _=>none) rfl (fun _ _=>rC (zhS hvr4)) ?_
 obtain ⟨e5,he5,h0⟩:=bA h0
 have he5b:=(vA he5).2.1
 have he5c:=(dG 1 he5 rfl).1
 have he5a:=(dG 1 he5 rfl).2
 obtain ⟨e6,he6,h0⟩:=bA h0
 have he6b:=(vA he6).2.1
 have he6c:=(dG 0 he6 rfl).1
 have he6a:=(dG 0 he6 rfl).2
 obtain ⟨vr7,hvr7,h0⟩:=bA h0
 refine qC 200 [1,6,8] (fun | 10=>some (.tup [.agg (mB.enc vr7.1),.int .i64 vr7.2.1,.int .i64 vr7.2.2],[]) | _=>none) rfl rfl rfl (fun _ _=>wK (rA he5a (rA he5b (rA he5c (rA he6a (rA he6b he6c))))) (zn0 hvr7)) ?_
 refine xE ⟨[(1,.int .i64 level2),(6,.ref 8 0 0 0),(8,.ref 168 0 0 0)],[(8,⟨0,true,true,11,[[.int .i64 0,.nils,.nils,.nils,.nils,.int .i64 0,.bool false,.str [],.bool false,.nils,.int .i64 0]]⟩),(168,⟨0,true,true,10,[[.psl 1 (List.map (tA 4 aA.enc) vr7.1.Merge.Runs),.psl 1 (List.map (gA .i64) vr7.1.Merge.At),.psl 2 (List.map eA.enc vr7.1.Merge.Tree.Keys),.psl 1 (List.map (gA .i64) vr7.1.Merge.Tree.Lose),.int .i64 vr7.1.Merge.Tree.Win,.bool vr7.1.Shadow.Some,.str vr7.1.Shadow.Last,.bool vr7.1.Shadow.Bottom,.psl 4 (List.map aA.enc vr7.1.Out),.int .i64 vr7.1.Steps]]⟩)],200,[]⟩ ?_
 refine nA 232 [6] (fun _=>none) rfl (fun _ _=>rS (rA he5a (rA he5b (rA he5c (rA he6a (rA he6b he6c)))))) ?_
 refine jA ?_
 obtain rfl:=oI h0
 refine lA [] ?_
 exact rJ (rA he5a (rA he5b (rA he5c (rA he6a (rA he6b he6c)))))
theorem zaj {fu : Nat} {a1 : iB} {b2 : iB} {r : Bool} (h0 : aX fu a1 b2 = some r) : yA Tryz.prog 80 [.agg (iB.enc a1),.agg (iB.enc b2)] (.bool r) []:=by
 refine dB Tryz.func80 rfl (by decide) rL ?_
 dsimp only [Tryz.f80]
 rw [aX] at h0
 refine xS 24 [2,3] ?_
 refine iA ?_
 obtain ⟨b4,hb4,h0⟩:=bA h0
 obtain ⟨b6,hb6,h0⟩:=bA h0
 refine jC (fr':=[(2,.ref 0 0 0 0),(3,.ref 8 0 0 0),(28,.bool b6)]) (hp':=[(0,⟨0,true,true,5,[[.psl 1 (List.map (tA 4 aA.enc) a1.Runs),.psl 1 (List.map (gA .i64) a1.At),.psl 2 (List.map eA.enc a1.Tree.Keys),.psl 1 (List.map (gA .i64) a1.Tree.Lose),.int .i64 a1.Tree.Win]]⟩),(8,⟨0,true,true,5,[[.psl 1 (List.map (tA 4 aA.enc) b2.Runs),.psl 1 (List.map (gA .i64) b2.At),.psl 2 (List.map eA.enc b2.Tree.Keys),.psl 1 (List.map (gA .i64) b2.Tree.Lose),.int .i64 b2.Tree.Win]]⟩)]) [0,8] 208 [2,3,28] (fun | 12=>(aS fu a1.At b2.At).bind fun vr3=>some (.bool vr3,[]) | 20=>(eT fu a1.Tree b2.Tree).bind fun vr5=>some (.bool vr5,[]) | _=>none) rfl (fun Kt hK=>by
   cases hg7 : (!(decide ((a1.Runs.length : Int) = (b2.Runs.length : Int)))) with
   | false =>
    replace hb4:=sA hb4 hg7
    obtain ⟨vr3,hvr3,hb4⟩:=bA hb4
    have hqb4:=oI hb4
    cases b4 with
    | false =>
     replace hb6:=sA hb6 rfl
     obtain ⟨vr5,hvr5,hb6⟩:=bA hb6
     have hqb6:=oI hb6
     subst hqb6
     simp (maxSteps:=1000000) only [↓reduceIte,reduceCtorEq,Nat.reduceEqDiff,Nat.reduceLT,Nat.reduceLeDiff,Nat.reduceAdd,Nat.reduceMul,Int.reduceToNat,push_cast,↓hg7,hvr3,↓hqb4,hvr5]
     try simp only [↓hg7,↓hqb4] at hK
     try have q0:=uT hvr3
     try have q1:=zae hvr5
     all_goals exact rU
    | true =>
     replace hb6:=zA hb6 rfl
     have hqb6:=oI hb6
     subst hqb6
     simp (maxSteps:=1000000) only [↓reduceIte,reduceCtorEq,Nat.reduceEqDiff,Nat.reduceLT,Nat.reduceLeDiff,Nat.reduceAdd,Nat.reduceMul,Int.reduceToNat,push_cast,↓hg7,hvr3,↓hqb4]
     try simp only [↓hg7,↓hqb4] at hK
     try have q0:=uT hvr3
     try have q1:=zae hvr5
     all_goals exact rU
   | true =>
    replace hb4:=zA hb4 hg7
    have hqb4:=oI hb4
    cases b4 with
    | false =>
     cases hqb4
    | true =>
     replace hb6:=zA hb6 rfl
     have hqb6:=oI hb6
     subst hqb6
     simp (maxSteps:=1000000) only [↓reduceIte,reduceCtorEq,Nat.reduceEqDiff,Nat.reduceLT,Nat.reduceLeDiff,Nat.reduceAdd,Nat.reduceMul,Int.reduceToNat,push_cast,↓hg7]
     try simp only [↓hg7] at hK
     try have q0:=uT hvr3
     try have q1:=zae hvr5
     all_goals exact rU) ?_
 refine xI h0 rfl (fun h0 hb10=>?_) (fun h0 hb10=>?_)
 ·
  refine xS 216 [4] ?_
  refine jA (mA ?_)
  obtain rfl:=oI h0
  exact lA [] rG
 refine oA (cA (iA ?_))
 refine xS 216 [2,3,5] ?_
 obtain ⟨x22,hxx22,h0⟩:=bA h0
 refine pC (fun s'=>∃ o29 : Unit,x22 = .inl o29 ∧ s'.nx ≤ 256 ∧ LeN [] s' ⟨[],[(0,⟨0,true,true,5,[[.psl 1 (List.map (tA 4 aA.enc) a1.Runs),.psl 1 (List.map (gA .i64) a1.At),.psl 2 (List.map eA.enc a1.Tree.Keys),.psl 1 (List.map (gA .i64) a1.Tree.Lose),.int .i64 a1.Tree.Win]]⟩),(8,⟨0,true,true,5,[[.psl 1 (List.map (tA 4 aA.enc) b2.Runs),.psl 1 (List.map (gA .i64) b2.At),.psl 2 (List.map eA.enc b2.Tree.Keys),.psl 1 (List.map (gA .i64) b2.Tree.Lose),.int .i64 b2.Tree.Win]]⟩)],256,[]⟩) ?_ ?_
 ·
  intro s' hs
  obtain ⟨o29,rfl,hn,hs⟩:=hs
  refine cA ?_
  refine oB [] hn hs ?_
  refine xS 264 [4] ?_
  refine jA ?_
  obtain rfl:=oI h0
  exact lA [] rG
 refine lC (ι:={ p : Nat × Int // zJ a1 b2 p.1 p.2 = some x22 }) (fun p=>⟨[(2,.ref 0 0 0 0),(3,.ref 8 0 0 0),(5,.int .i64 p.1.2)],[(0,⟨0,true,true,5,[[.psl 1 (List.map (tA 4 aA.enc) a1.Runs),.psl 1 (List.map (gA .i64) a1.At),.psl 2 (List.map eA.enc a1.Tree.Keys),.psl 1 (List.map (gA .i64) a1.Tree.Lose),.int .i64 a1.Tree.Win]]⟩),(8,⟨0,true,true,5,[[.psl 1 (List.map (tA 4 aA.enc) b2.Runs),.psl 1 (List.map (gA .i64) b2.At),.psl 2 (List.map eA.enc b2.Tree.Keys),.psl 1 (List.map (gA .i64) b2.Tree.Lose),.int .i64 b2.Tree.Win]]⟩)],216,[]⟩) (fun p=>p.1.1) ⟨(fu,0),hxx22⟩ ⟨rF,rE,rfl,rfl,trivial,trivial⟩ (fun _=>Nat.le_refl _) ?_
 rintro ⟨⟨fu,i23⟩,h1⟩
 cases fu with
 | zero =>
  replace h1 : zJ a1 b2 0 i23 = some x22:=h1
  rw [zJ] at h1; cases h1
 | succ fu =>
  replace h1 : zJ a1 b2 (fu + 1) i23 = some x22:=h1
  rw [zJ] at h1
  dsimp only
  refine iA ?_
  refine xS 256 [2,3,5,33] ?_
  refine xI h1 rfl (fun h1 hb24=>?_) (fun h1 hb24=>?_)
  ·
   refine oA (cA (iA (vB ?_)))
   obtain ⟨e25,he25,h1⟩:=bA h1
   obtain ⟨he25a,he25b,he25c⟩:=vA he25
   obtain ⟨e26,he26,h1⟩:=bA h1
   obtain ⟨he26a,he26b,he26c⟩:=vA he26
   obtain ⟨vr27,hvr27,h1⟩:=bA h1
   refine qC 352 [2,3,5,47] (fun | 10=>some (.bool vr27,[]) | _=>none) rfl rfl rfl (fun _ _=>wK (rA he25a (rA he25b (rA he25c (rA he26a (rA he26b he26c))))) (nS hvr27)) ?_
   refine xI h1 rfl (fun h1 hb28=>?_) (fun h1 hb28=>?_)
   ·
    refine nA 360 [4] (fun _=>none) rfl (fun _ _=>rS (rA he25a (rA he25b (rA he25c (rA he26a (rA he26b he26c)))))) ?_
    refine jA ?_
    obtain rfl:=oI h1
    refine zB (mA (mA (xC (mA ?_))))
    obtain rfl:=oI h0
    refine lA [] ?_
    exact rJ (rA he25a (rA he25b (rA he25c (rA he26a (rA he26b he26c)))))
   refine oA (pB (cA ?_))
   refine nB 376 [2,3,5] (fun _=>none) rfl (fun _ _=>rS (rA he25a (rA he25b (rA he25c (rA he26a (rA he26b he26c)))))) ?_
   refine cA ?_
   exact ⟨⟨(fu,(IntKind.i64.wrap (i23 + 1))),h1⟩,⟨rF,rE,rfl,rfl,trivial,trivial⟩,Nat.lt_succ_self _⟩
  refine dC (xA (xA (gC ?_)))
  obtain rfl:=oI h1
  exact ⟨_,rfl,rL,⟨rF,rE,rfl,rfl,trivial,trivial⟩⟩
theorem zbS {fu : Nat} {a1 : mB} {b2 : mB} {r : Bool} (h0 : oR fu a1 b2 = some r) : yA Tryz.prog 48 [.agg (mB.enc a1),.agg (mB.enc b2)] (.bool r) []:=by
 refine dB Tryz.func48 rfl (by decide) rL ?_
 dsimp only [Tryz.f48]
 rw [oR] at h0
 refine xS 24 [2,3] ?_
 obtain ⟨vr3,hvr3,h0⟩:=bA h0
 obtain ⟨b4,hb4,h0⟩:=bA h0
 obtain ⟨b6,hb6,h0⟩:=bA h0
 obtain ⟨b7,hb7,h0⟩:=bA h0
 refine jC (fr':=[(4,.bool b7)]) (hp':=[(0,⟨0,true,true,10,[[.psl 1 (List.map (tA 4 aA.enc) a1.Merge.Runs),.psl 1 (List.map (gA .i64) a1.Merge.At),.psl 2 (List.map eA.enc a1.Merge.Tree.Keys),.psl 1 (List.map (gA .i64) a1.Merge.Tree.Lose),.int .i64 a1.Merge.Tree.Win,.bool a1.Shadow.Some,.str a1.Shadow.Last,.bool a1.Shadow.Bottom,.psl 4 (List.map aA.enc a1.Out),.int .i64 a1.Steps]]⟩),(8,⟨0,true,true,10,[[.psl 1 (List.map (tA 4 aA.enc) b2.Merge.Runs),.psl 1 (List.map (gA .i64) b2.Merge.At),.psl 2 (List.map eA.enc b2.Merge.Tree.Keys),.psl 1 (List.map (gA .i64) b2.Merge.Tree.Lose),.int .i64 b2.Merge.Tree.Win,.bool b2.Shadow.Some,.str b2.Shadow.Last,.bool b2.Shadow.Bottom,.psl 4 (List.map aA.enc b2.Out),.int .i64 b2.Steps]]⟩)]) [0,8] 240 [4] (fun | 4=>some (.bool vr3,[]) | 17=>(hP fu a1.Out b2.Out).bind fun vr5=>some (.bool vr5,[]) | _=>none) rfl (fun Kt hK=>by
   cases vr3 with
   | false =>
    replace hb4:=sA hb4 rfl
    have hqb4:=oI hb4
    cases b4 with
    | false =>
     replace hb6:=sA hb6 rfl
     have hqb6:=oI hb6
     cases b6 with
     | false =>
      replace hb7:=sA hb7 rfl
      have hqb7:=oI hb7
      subst hqb7
      try have q0:=zaj hvr3
      try have q1:=nS hvr5
      exact rT
     | true =>
      cases hqb6
    | true =>
     cases hqb4
   | true =>
    replace hb4:=zA hb4 rfl
    have hqb4:=oI hb4
    cases b4 with
    | false =>
     replace hb6:=sA hb6 rfl
     have hqb6:=oI hb6
     cases b6 with
     | false =>
      replace hb7:=sA hb7 rfl
      have hqb7:=oI hb7
      subst hqb7
      simp (maxSteps:=1000000) only [↓reduceIte,reduceCtorEq,Nat.reduceEqDiff,Nat.reduceLT,Nat.reduceLeDiff,Nat.reduceAdd,Nat.reduceMul,Int.reduceToNat,push_cast,↓hqb4]
      try simp only [↓hqb4] at hK
      try have q0:=zaj hvr3
      try have q1:=nS hvr5
      all_goals exact rU
     | true =>
      cases hqb6
    | true =>
     replace hb6:=zA hb6 rfl
     obtain ⟨vr5,hvr5,hb6⟩:=bA hb6
     have hqb6:=oI hb6
     cases b6 with
     | false =>
      subst hqb6
      replace hb7:=sA hb7 rfl
      have hqb7:=oI hb7
      subst hqb7
      simp (maxSteps:=1000000) only [↓reduceIte,reduceCtorEq,Nat.reduceEqDiff,Nat.reduceLT,Nat.reduceLeDiff,Nat.reduceAdd,Nat.reduceMul,Int.reduceToNat,push_cast,↓hqb4,hvr5]
      try simp only [↓hqb4] at hK
      try have q0:=zaj hvr3
      try have q1:=nS hvr5
      all_goals exact rU
     | true =>
      subst hqb6
      replace hb7:=zA hb7 rfl
      have hqb7:=oI hb7
      subst hqb7
      simp (maxSteps:=1000000) only [↓reduceIte,reduceCtorEq,Nat.reduceEqDiff,Nat.reduceLT,Nat.reduceLeDiff,Nat.reduceAdd,Nat.reduceMul,Int.reduceToNat,push_cast,↓hqb4,hvr5]
      try simp only [↓hqb4] at hK
      try have q0:=zaj hvr3
      try have q1:=nS hvr5
      all_goals exact rU) ?_
 refine jA ?_
 obtain rfl:=oI h0
 exact lA [] rG
theorem zeA {fu : Nat} {vs1 : cB} {r : Int × Int} (h0 : fL fu vs1 = some r) : yA Tryz.prog 12 [.agg (cB.enc vs1)] (.tup [.int .i64 r.1,.int .i64 r.2]) []:=by
 refine dB Tryz.func12 rfl (by decide) rL ?_
 dsimp only [Tryz.f12]
 rw [fL] at h0
 refine xS 24 [1] ?_
 obtain ⟨vr2,hvr2,h0⟩:=bA h0
 refine nA 104 [1,6] (fun | 2=>some (.tup [.int .i64 vr2.1,.int .i64 vr2.2.1,.int .i64 vr2.2.2],[]) | _=>none) rfl (fun _ _=>rC (zaE hvr2)) ?_
 refine iA ?_
 obtain ⟨b4,hb4,h0⟩:=bA h0
 refine jC (fr':=[(1,.ref 0 0 0 0),(6,.int .i64 vr2.2.2),(34,.bool b4)]) (hp':=[(0,⟨0,true,true,4,[[.int .i64 vs1.Levels.B,.psl 1 (List.map qA.enc vs1.Levels.Levels),.psl 11 (List.map bB.enc vs1.Jobs),.int .i64 vs1.NextId]]⟩)]) [0] 200 [1,6,34] (fun _=>none) rfl (fun Kt hK=>by
   cases hg5 : (decide (vr2.2.2 = 0)) with
   | false =>
    replace hb4:=sA hb4 hg5
    have hqb4:=oI hb4
    subst hqb4
    exact rW hg5 hK
   | true =>
    replace hb4:=zA hb4 hg5
    obtain ⟨b3,hb3,hb4⟩:=bA hb4
    have hqb4:=oI hb4
    cases hg6 : (decide (vs1.NextId < 1)) with
    | false =>
     replace hb3:=sA hb3 hg6
     have hqb3:=oI hb3
     subst hqb4
     subst hqb3
     exact rW (rA hg5 hg6) hK
    | true =>
     replace hb3:=zA hb3 hg6
     have hqb3:=oI hb3
     subst hqb4
     subst hqb3
     exact rW (rA hg5 hg6) hK) ?_
 refine xI h0 rfl (fun h0 hb7=>?_) (fun h0 hb7=>?_)
 ·
  refine xR 208 [1,6] ?_
  refine cA (iA ?_)
  refine qC 288 [1,6,44] (fun _=>none) rfl rfl rfl (fun _ _=>rQd) ?_
  refine pF rfl ?_
  refine oA (cA (iA ?_))
  refine nA 304 [1,6,46] (fun _=>none) rfl (fun _ _=>rQ) ?_
  refine kI rfl ?_
  refine nA 328 [2,3] (fun _=>none) rfl (fun _ _=>rQ) ?_
  refine jA (mA ?_)
  obtain rfl:=oI h0
  refine lA [] ?_
  exact rJ (Eq.refl false : decide ((7 : Int) = 0) = false)
 refine oA (cA (iA ?_))
 obtain ⟨b9,hb9,h0⟩:=bA h0
 refine iL (fr':=[(1,.ref 0 0 0 0),(6,.int .i64 vr2.2.2),(44,.bool b9)]) (hp':=[(0,⟨0,true,true,4,[[.int .i64 vs1.Levels.B,.psl 1 (List.map qA.enc vs1.Levels.Levels),.psl 11 (List.map bB.enc vs1.Jobs),.int .i64 vs1.NextId]]⟩)]) [0] 280 [1,6,44] (fun | 7=>(dU fu vs1.Levels).bind fun vr8=>some (.int .i64 vr8,[]) | _=>none) rfl rfl rfl (fun Kt hK=>by
   cases hg10 : (decide (vr2.2.2 = 0)) with
   | false =>
    replace hb9:=sA hb9 hg10
    have hqb9:=oI hb9
    subst hqb9
    first | exact rWcd hg10 (ze1 hvr8) hK | exact uO hg10 hK
   | true =>
    replace hb9:=zA hb9 hg10
    obtain ⟨vr8,hvr8,hb9⟩:=bA hb9
    have hqb9:=oI hb9
    subst hqb9
    first | exact yY hg10 hvr8 (ze1 hvr8) hK | exact yG hg10 hvr8 hK) ?_
 refine xI h0 rfl (fun h0 hb11=>?_) (fun h0 hb11=>?_)
 ·
  refine xR 288 [1,6] ?_
  refine cA (iA ?_)
  refine xS 304 [1,6,46] ?_
  refine kI rfl ?_
  refine xS 328 [2,3] ?_
  refine jA (mA ?_)
  obtain rfl:=oI h0
  exact lA [] rG
 refine oA (cA (iA ?_))
 refine xS 296 [1,6,46] ?_
 refine xI h0 rfl (fun h0 hb12=>?_) (fun h0 hb12=>?_)
 ·
  refine xS 320 [2,3] ?_
  refine jA (mA ?_)
  obtain rfl:=oI h0
  exact lA [] rG
 refine oA (cA ?_)
 obtain ⟨vr13,hvr13,h0⟩:=bA h0
 refine nA 328 [1,7] (fun | 2=>some (.psl 1 (vr13.map (gA .i64)),[]) | _=>none) rfl (fun _ _=>rC (zfw hvr13)) ?_
 refine iA ?_
 refine xS 336 [1,7,8] ?_
 obtain ⟨x51,hxx51,h0⟩:=bA h0
 refine pC (fun s'=>∃ o71 : Unit,x51 = .inl o71 ∧ s'.nx ≤ 376 ∧ LeN [] s' ⟨[(1,.ref 0 0 0 0),(7,.psl 1 (List.map (gA .i64) vr13))],[(0,⟨0,true,true,4,[[.int .i64 vs1.Levels.B,.psl 1 (List.map qA.enc vs1.Levels.Levels),.psl 11 (List.map bB.enc vs1.Jobs),.int .i64 vs1.NextId]]⟩)],376,[]⟩) ?_ ?_
 ·
  intro s' hs
  obtain ⟨o71,rfl,hn,hs⟩:=hs
  refine cA ?_
  refine oB [] hn hs ?_
  refine iA ?_
  refine xS 424 [138] ?_
  refine xI h0 rfl (fun h0 hb72=>?_) (fun h0 hb72=>?_)
  ·
   refine xS 440 [2,3] ?_
   refine jA (mA ?_)
   obtain rfl:=oI h0
   exact lA [] rG
  refine oA (cA ?_)
  refine xS 440 [2,3] ?_
  refine jA ?_
  obtain rfl:=oI h0
  exact lA [] rG
 refine lC (ι:={ p : Nat × Int // tG vs1 vr13 p.1 p.2 = some x51 }) (fun p=>⟨[(1,.ref 0 0 0 0),(7,.psl 1 (List.map (gA .i64) vr13)),(8,.int .i64 p.1.2)],[(0,⟨0,true,true,4,[[.int .i64 vs1.Levels.B,.psl 1 (List.map qA.enc vs1.Levels.Levels),.psl 11 (List.map bB.enc vs1.Jobs),.int .i64 vs1.NextId]]⟩)],336,[]⟩) (fun p=>p.1.1) ⟨(fu,0),hxx51⟩ ⟨rF,rE,rfl,rfl,trivial,trivial⟩ (fun _=>Nat.le_refl _) ?_
 rintro ⟨⟨fu,i52⟩,h1⟩
 cases fu with
 | zero =>
  replace h1 : tG vs1 vr13 0 i52 = some x51:=h1
  rw [tG] at h1; cases h1
 | succ fu =>
  replace h1 : tG vs1 vr13 (fu + 1) i52 = some x51:=h1
  rw [tG] at h1
  dsimp only
  refine iA ?_
  refine xS 376 [1,7,8,55] ?_
  refine xI h1 rfl (fun h1 hb53=>?_) (fun h1 hb53=>?_)
  ·
   refine oA (cA (iA (vB ?_)))
   obtain ⟨e54,he54,h1⟩:=bA h1
   obtain ⟨he54a,he54b,he54c⟩:=vA he54
   refine nA 432 [1,7,8,9] (fun _=>none) rfl (fun _ _=>rS (rA he54a (rA he54b he54c))) ?_
   refine iA ?_
   obtain ⟨b56,hb56,h1⟩:=bA h1
   refine iL (fr':=[(1,.ref 0 0 0 0),(7,.psl 1 (List.map (gA .i64) vr13)),(8,.int .i64 i52),(9,.ref 416 0 0 0),(75,.bool b56)]) (hp':=[(0,⟨0,true,true,4,[[.int .i64 vs1.Levels.B,.psl 1 (List.map qA.enc vs1.Levels.Levels),.psl 11 (List.map bB.enc vs1.Jobs),.int .i64 vs1.NextId]]⟩),(416,⟨0,true,true,11,[[.int .i64 e54.Level,.psl 1 (List.map (tA 4 aA.enc) e54.Work.Merge.Runs),.psl 1 (List.map (gA .i64) e54.Work.Merge.At),.psl 2 (List.map eA.enc e54.Work.Merge.Tree.Keys),.psl 1 (List.map (gA .i64) e54.Work.Merge.Tree.Lose),.int .i64 e54.Work.Merge.Tree.Win,.bool e54.Work.Shadow.Some,.str e54.Work.Shadow.Last,.bool e54.Work.Shadow.Bottom,.psl 4 (List.map aA.enc e54.Work.Out),.int .i64 e54.Work.Steps]]⟩)]) [0,416] 536 [1,7,8,9,75] (fun _=>none) rfl rfl rfl (fun Kt hK=>by
     cases hg57 : (decide ((vr13.length : Int) ≤ i52)) with
     | false =>
      replace hb56:=sA hb56 hg57
      obtain ⟨e55,he55,hb56⟩:=bA hb56
      obtain ⟨he55a,he55b,he55c⟩:=vA he55
      have hqb56:=oI hb56
      subst hqb56
      exact yG hg57 (rA he54a (rA he54b (rA he54c (rA he55a (rA he55b (rA he55c he55)))))) hK
     | true =>
      replace hb56:=zA hb56 hg57
      have hqb56:=oI hb56
      subst hqb56
      exact yG hg57 (rA he54a (rA he54b he54c)) hK) ?_
   refine xI h1 rfl (fun h1 hb58=>?_) (fun h1 hb58=>?_)
   ·
    refine nA 560 [2,3] (fun _=>none) rfl (fun _ _=>rS (rA he54a (rA he54b he54c))) ?_
    refine jA ?_
    obtain rfl:=oI h1
    refine mA (zB (mA (mA (xC (mA ?_)))))
    obtain rfl:=oI h0
    refine lA [] ?_
    exact rJ (rA he54a (rA he54b he54c))
   refine oA (cA (iA ?_))
   obtain ⟨b60,hb60,h1⟩:=bA h1
   refine jC (fr':=[(1,.ref 0 0 0 0),(7,.psl 1 (List.map (gA .i64) vr13)),(8,.int .i64 i52),(9,.ref 416 0 0 0),(88,.bool b60)]) (hp':=[(0,⟨0,true,true,4,[[.int .i64 vs1.Levels.B,.psl 1 (List.map qA.enc vs1.Levels.Levels),.psl 11 (List.map bB.enc vs1.Jobs),.int .i64 vs1.NextId]]⟩),(416,⟨0,true,true,11,[[.int .i64 e54.Level,.psl 1 (List.map (tA 4 aA.enc) e54.Work.Merge.Runs),.psl 1 (List.map (gA .i64) e54.Work.Merge.At),.psl 2 (List.map eA.enc e54.Work.Merge.Tree.Keys),.psl 1 (List.map (gA .i64) e54.Work.Merge.Tree.Lose),.int .i64 e54.Work.Merge.Tree.Win,.bool e54.Work.Shadow.Some,.str e54.Work.Shadow.Last,.bool e54.Work.Shadow.Bottom,.psl 4 (List.map aA.enc e54.Work.Out),.int .i64 e54.Work.Steps]]⟩)]) [0,416] 632 [1,7,8,9,88] (fun | 9=>(qT fu vs1.Levels e54.Level).bind fun vr59=>some (.bool vr59,[]) | _=>none) rfl (fun Kt hK=>by
     cases hg61 : e54.Work.Shadow.Bottom with
     | false =>
      replace hb60:=sA hb60 hg61
      have hqb60:=oI hb60
      subst hqb60
      first | exact dI hg61 (rA he54a (rA he54b he54c)) (zex hvr59) hK | exact sD hg61 (rA he54a (rA he54b he54c)) hK
     | true =>
      replace hb60:=zA hb60 hg61
      obtain ⟨vr59,hvr59,hb60⟩:=bA hb60
      have hqb60:=oI hb60
      subst hqb60
      first | exact dI hg61 (rA he54a (rA he54b (rA he54c hvr59))) (zex hvr59) hK | exact sD hg61 (rA he54a (rA he54b (rA he54c hvr59))) hK) ?_
   refine xI h1 rfl (fun h1 hb62=>?_) (fun h1 hb62=>?_)
   ·
    refine nA 656 [2,3] (fun _=>none) rfl (fun _ _=>rS (rA he54a (rA he54b he54c))) ?_
    refine jA ?_
    obtain rfl:=oI h1
    refine mA (zB (mA (mA (xC (mA ?_)))))
    obtain rfl:=oI h0
    refine lA [] ?_
    exact rJ (rA he54a (rA he54b he54c))
   refine oA (cA ?_)
   obtain ⟨vr63,hvr63,h1⟩:=bA h1
   refine nA 720 [1,7,8,9,10] (fun | 8=>some (.agg (bB.enc vr63),[]) | _=>none) rfl (fun _ _=>rB (rA he54a (rA he54b he54c)) (zkZ hvr63)) ?_
   obtain ⟨vr64,hvr64,h1⟩:=bA h1
   refine nA 784 [1,7,8,9,10,11] (fun | 2=>some (.tup [.int .i64 vr64.1,.int .i64 vr64.2],[]) | _=>none) rfl (fun _ _=>rB (rA he54a (rA he54b he54c)) (zbm hvr64)) ?_
   refine iA ?_
   obtain ⟨b65,hb65,h1⟩:=bA h1
   refine jC (fr':=[(1,.ref 0 0 0 0),(7,.psl 1 (List.map (gA .i64) vr13)),(8,.int .i64 i52),(9,.ref 416 0 0 0),(10,.ref 704 0 0 0),(115,.bool b65)]) (hp':=[(0,⟨0,true,true,4,[[.int .i64 vs1.Levels.B,.psl 1 (List.map qA.enc vs1.Levels.Levels),.psl 11 (List.map bB.enc vs1.Jobs),.int .i64 vs1.NextId]]⟩),(416,⟨0,true,true,11,[[.int .i64 e54.Level,.psl 1 (List.map (tA 4 aA.enc) e54.Work.Merge.Runs),.psl 1 (List.map (gA .i64) e54.Work.Merge.At),.psl 2 (List.map eA.enc e54.Work.Merge.Tree.Keys),.psl 1 (List.map (gA .i64) e54.Work.Merge.Tree.Lose),.int .i64 e54.Work.Merge.Tree.Win,.bool e54.Work.Shadow.Some,.str e54.Work.Shadow.Last,.bool e54.Work.Shadow.Bottom,.psl 4 (List.map aA.enc e54.Work.Out),.int .i64 e54.Work.Steps]]⟩),(704,⟨0,true,true,11,[[.int .i64 vr63.Level,.psl 1 (List.map (tA 4 aA.enc) vr63.Work.Merge.Runs),.psl 1 (List.map (gA .i64) vr63.Work.Merge.At),.psl 2 (List.map eA.enc vr63.Work.Merge.Tree.Keys),.psl 1 (List.map (gA .i64) vr63.Work.Merge.Tree.Lose),.int .i64 vr63.Work.Merge.Tree.Win,.bool vr63.Work.Shadow.Some,.str vr63.Work.Shadow.Last,.bool vr63.Work.Shadow.Bottom,.psl 4 (List.map aA.enc vr63.Work.Out),.int .i64 vr63.Work.Steps]]⟩)]) [0,416,704] 872 [1,7,8,9,10,115] (fun _=>none) rfl (fun Kt hK=>by
     cases hg66 : (decide (e54.Work.Steps < 0)) with
     | false =>
      replace hb65:=sA hb65 hg66
      have hqb65:=oI hb65
      subst hqb65
      exact sD hg66 (rA he54a (rA he54b he54c)) hK
     | true =>
      replace hb65:=zA hb65 hg66
      have hqb65:=oI hb65
      subst hqb65
      exact sD hg66 (rA he54a (rA he54b he54c)) hK) ?_
   refine xI h1 rfl (fun h1 hb67=>?_) (fun h1 hb67=>?_)
   ·
    refine nA 896 [2,3] (fun _=>none) rfl (fun _ _=>rS (rA he54a (rA he54b he54c))) ?_
    refine jA ?_
    obtain rfl:=oI h1
    refine mA (zB (mA (mA (xC (mA ?_)))))
    obtain rfl:=oI h0
    refine lA [] ?_
    exact rJ (rA he54a (rA he54b he54c))
   refine oA (cA ?_)
   obtain ⟨vr68,hvr68,h1⟩:=bA h1
   refine nA 984 [1,7,8,9,13] (fun | 5=>some (.tup [.agg (mB.enc vr68.1),.int .i64 vr68.2.1,.int .i64 vr68.2.2],[]) | _=>none) rfl (fun _ _=>rB (rA he54a (rA he54b he54c)) (zdH hvr68)) ?_
   obtain ⟨vr69,hvr69,h1⟩:=bA h1
   refine nA 1024 [1,7,8,131] (fun | 3=>some (.bool vr69,[]) | _=>none) rfl (fun _ _=>rB (rA he54a (rA he54b he54c)) (zbS hvr69)) ?_
   refine xI h1 rfl (fun h1 hb70=>?_) (fun h1 hb70=>?_)
   ·
    refine nA 1048 [2,3] (fun _=>none) rfl (fun _ _=>rS (rA he54a (rA he54b he54c))) ?_
    refine jA ?_
    obtain rfl:=oI h1
    refine zB (mA (mA (xC (mA ?_))))
    obtain rfl:=oI h0
    refine lA [] ?_
    exact rJ (rA he54a (rA he54b he54c))
   refine oA (pB (cA ?_))
   refine nB 1048 [1,7,8] (fun _=>none) rfl (fun _ _=>rS (rA he54a (rA he54b he54c))) ?_
   refine cA ?_
   exact ⟨⟨(fu,(IntKind.i64.wrap (i52 + 1))),h1⟩,⟨rF,rE,rfl,rfl,trivial,trivial⟩,Nat.lt_succ_self _⟩
  refine dC (xA (xA (gC ?_)))
  obtain rfl:=oI h1
  exact ⟨_,rfl,rL,⟨rF,rE,rfl,rfl,trivial,trivial⟩⟩
theorem zn5 {fu : Nat} {vs1 : cB} {r : List Int × Int} (h0 : yW fu vs1 = some r) : yA Tryz.prog 14 [.agg (cB.enc vs1)] (.tup [.psl 1 (r.1.map (gA .i64)),.int .i64 r.2]) []:=by
 refine dB Tryz.func14 rfl (by decide) rL ?_
 dsimp only [Tryz.f14]
 rw [yW] at h0
 refine xS 24 [1] ?_
 obtain ⟨vr2,hvr2,h0⟩:=bA h0
 refine nA 80 [1,5] (fun | 1=>some (.tup [.int .i64 vr2.1,.int .i64 vr2.2],[]) | _=>none) rfl (fun _ _=>rC (zeA hvr2)) ?_
 refine iA ?_
 refine xS 96 [1,5,12] ?_
 refine xI h0 rfl (fun h0 hb3=>?_) (fun h0 hb3=>?_)
 ·
  refine xS 120 [2,3] ?_
  refine jA (mA ?_)
  obtain rfl:=oI h0
  exact lA [] rG
 refine oA (cA ?_)
 obtain ⟨vr4,hvr4,h0⟩:=bA h0
 refine nA 136 [2,3] (fun | 2=>some (.psl 1 (vr4.map (gA .i64)),[]) | _=>none) rfl (fun _ _=>rC (zfw hvr4)) ?_
 refine jA ?_
 obtain rfl:=oI h0
 exact lA [] rG
theorem zd5 {fu : Nat} {vs1 : cB} {level2 : Int} {r : Int × Int} (h0 : zL fu vs1 level2 = some r) : yA Tryz.prog 17 [.agg (cB.enc vs1),.int .i64 level2] (.tup [.int .i64 r.1,.int .i64 r.2]) []:=by
 refine dB Tryz.func17 rfl (by decide) rL ?_
 dsimp only [Tryz.f17]
 rw [zL] at h0
 refine xS 24 [1,2] ?_
 obtain ⟨vr3,hvr3,h0⟩:=bA h0
 refine nA 80 [1,6,7] (fun | 1=>some (.tup [.psl 1 (vr3.1.map (gA .i64)),.int .i64 vr3.2],[]) | _=>none) rfl (fun _ _=>rC (zn5 hvr3)) ?_
 refine iA ?_
 refine xS 96 [1,6,7,15] ?_
 refine xI h0 rfl (fun h0 hb4=>?_) (fun h0 hb4=>?_)
 ·
  refine xS 120 [4,5] ?_
  refine jA (mA ?_)
  obtain rfl:=oI h0
  exact lA [] rG
 refine oA (cA (iA ?_))
 refine xS 104 [1,6,8] ?_
 obtain ⟨x12,hxx12,h0⟩:=bA h0
 refine pC (fun s'=>∃ o17 : Unit,x12 = .inl o17 ∧ s'.nx ≤ 136 ∧ LeN [] s' ⟨[],[],136,[]⟩) ?_ ?_
 ·
  intro s' hs
  obtain ⟨o17,rfl,hn,hs⟩:=hs
  refine cA ?_
  refine oB [] hn hs ?_
  refine xS 152 [4,5] ?_
  refine jA ?_
  obtain rfl:=oI h0
  exact lA [] rG
 refine lC (ι:={ p : Nat × Int // xL vr3 level2 p.1 p.2 = some x12 }) (fun p=>⟨[(1,.int .i64 level2),(6,.psl 1 (List.map (gA .i64) vr3.1)),(8,.int .i64 p.1.2)],[],104,[]⟩) (fun p=>p.1.1) ⟨(fu,0),hxx12⟩ ⟨rF,rE,rfl,rfl,trivial,trivial⟩ (fun _=>Nat.le_refl _) ?_
 rintro ⟨⟨fu,i13⟩,h1⟩
 cases fu with
 | zero =>
  replace h1 : xL vr3 level2 0 i13 = some x12:=h1
  rw [xL] at h1; cases h1
 | succ fu =>
  replace h1 : xL vr3 level2 (fu + 1) i13 = some x12:=h1
  rw [xL] at h1
  dsimp only
  refine iA ?_
  refine xS 136 [1,6,8,20] ?_
  refine xI h1 rfl (fun h1 hb14=>?_) (fun h1 hb14=>?_)
  ·
   refine oA (cA (iA (vB ?_)))
   obtain ⟨e15,he15,h1⟩:=bA h1
   obtain ⟨he15a,he15b,he15c⟩:=vA he15
   refine nA 184 [1,6,8,28] (fun _=>none) rfl (fun _ _=>rS (rA he15a (rA he15b he15c))) ?_
   refine xI h1 rfl (fun h1 hb16=>?_) (fun h1 hb16=>?_)
   ·
    refine nA 208 [4,5] (fun _=>none) rfl (fun _ _=>rS (rA he15a (rA he15b he15c))) ?_
    refine jA ?_
    obtain rfl:=oI h1
    refine zB (mA (mA (xC (mA ?_))))
    obtain rfl:=oI h0
    refine lA [] ?_
    exact rJ (rA he15a (rA he15b he15c))
   refine oA (pB (cA ?_))
   refine nB 208 [1,6,8] (fun _=>none) rfl (fun _ _=>rS (rA he15a (rA he15b he15c))) ?_
   refine cA ?_
   exact ⟨⟨(fu,(IntKind.i64.wrap (i13 + 1))),h1⟩,⟨rF,rE,rfl,rfl,trivial,trivial⟩,Nat.lt_succ_self _⟩
  refine dC (xA (xA (gC ?_)))
  obtain rfl:=oI h1
  exact ⟨_,rfl,rL,⟨rF,rE,rfl,rfl,trivial,trivial⟩⟩
theorem zgJ {fu : Nat} {vs1 : cB} {level2 : Int} {r : Int × Int} (h0 : hS fu vs1 level2 = some r) : yA Tryz.prog 19 [.agg (cB.enc vs1),.int .i64 level2] (.tup [.int .i64 r.1,.int .i64 r.2]) []:=by
 refine dB Tryz.func19 rfl (by decide) rL ?_
 dsimp only [Tryz.f19]
 rw [hS] at h0
 refine xS 24 [1,2] ?_
 obtain ⟨vr3,hvr3,h0⟩:=bA h0
 refine nA 88 [2,6,7] (fun | 2=>some (.tup [.int .i64 vr3.1,.int .i64 vr3.2],[]) | _=>none) rfl (fun _ _=>rC (zd5 hvr3)) ?_
 refine iA ?_
 refine xS 104 [2,6,7,15] ?_
 refine xI h0 rfl (fun h0 hb4=>?_) (fun h0 hb4=>?_)
 ·
  refine xS 128 [4,5] ?_
  refine jA (mA ?_)
  obtain rfl:=oI h0
  exact lA [] rG
 refine oA (cA ?_)
 obtain ⟨e5,he5,h0⟩:=bA h0
 obtain ⟨he5a,he5b,he5c⟩:=vA he5
 obtain ⟨vr6,hvr6,h0⟩:=bA h0
 refine nA 192 [4,5] (fun | 6=>some (.tup [.int .i64 vr6.1,.int .i64 vr6.2],[]) | _=>none) rfl (fun _ _=>rB (rA he5a (rA he5b he5c)) (zbm hvr6)) ?_
 refine jA ?_
 obtain rfl:=oI h0
 refine lA [] ?_
 exact rJ (rA he5a (rA he5b he5c))
theorem zhz {fu : Nat} {vs1 : cB} {level2 : Int} {most3 : Int} {r : cB × Int × Int} (h0 : bJ fu vs1 level2 most3 = some r) : yA Tryz.prog 9 [.agg (cB.enc vs1),.int .i64 level2,.int .i64 most3] (.tup [.agg (cB.enc r.1),.int .i64 r.2.1,.int .i64 r.2.2]) []:=by
 refine dB Tryz.func9 rfl (by decide) rL ?_
 dsimp only [Tryz.f9]
 rw [bJ] at h0
 refine xS 32 [1,2,3,6] ?_
 obtain ⟨vr4,hvr4,h0⟩:=bA h0
 refine nA 88 [1,2,3,6,10] (fun | 1=>some (.tup [.int .i64 vr4.1,.int .i64 vr4.2],[]) | _=>none) rfl (fun _ _=>rC (zeA hvr4)) ?_
 refine iA ?_
 obtain ⟨b5,hb5,h0⟩:=bA h0
 refine jC (fr':=[(1,.int .i64 level2),(2,.int .i64 most3),(3,.ref 0 0 0 0),(6,.ref 8 0 0 0),(10,.int .i64 vr4.2),(28,.bool b5)]) (hp':=[(0,⟨0,true,true,4,[[.int .i64 vs1.Levels.B,.psl 1 (List.map qA.enc vs1.Levels.Levels),.psl 11 (List.map bB.enc vs1.Jobs),.int .i64 vs1.NextId]]⟩),(8,⟨0,true,true,4,[[.int .i64 0,.nils,.nils,.int .i64 0]]⟩)]) [0,8] 136 [1,2,3,6,10,28] (fun _=>none) rfl (fun Kt hK=>by
   cases hg6 : (decide (vr4.2 = 0)) with
   | false =>
    replace hb5:=sA hb5 hg6
    have hqb5:=oI hb5
    subst hqb5
    exact rW hg6 hK
   | true =>
    replace hb5:=zA hb5 hg6
    have hqb5:=oI hb5
    subst hqb5
    exact rW hg6 hK) ?_
 refine xI h0 rfl (fun h0 hb7=>?_) (fun h0 hb7=>?_)
 ·
  refine xR 144 [1,2,3,6,10] ?_
  refine cA (iA ?_)
  refine xS 160 [1,2,3,6,10,30] ?_
  refine kI rfl ?_
  refine xS 200 [6,7,8] ?_
  refine jA (mA ?_)
  obtain rfl:=oI h0
  exact lA [] rG
 refine oA (cA (iA ?_))
 refine xS 152 [1,2,3,6,10,30] ?_
 refine xI h0 rfl (fun h0 hb8=>?_) (fun h0 hb8=>?_)
 ·
  refine xS 192 [6,7,8] ?_
  refine jA (mA ?_)
  obtain rfl:=oI h0
  exact lA [] rG
 refine oA (cA ?_)
 obtain ⟨vr9,hvr9,h0⟩:=bA h0
 refine nA 216 [1,2,3,6,10,11] (fun | 2=>some (.tup [.int .i64 vr9.1,.int .i64 vr9.2],[]) | _=>none) rfl (fun _ _=>rC (zgJ hvr9)) ?_
 refine iA ?_
 obtain ⟨b10,hb10,h0⟩:=bA h0
 refine jC (fr':=[(1,.int .i64 level2),(2,.int .i64 most3),(3,.ref 0 0 0 0),(6,.ref 8 0 0 0),(10,.int .i64 vr9.2),(44,.bool b10)]) (hp':=[(0,⟨0,true,true,4,[[.int .i64 vs1.Levels.B,.psl 1 (List.map qA.enc vs1.Levels.Levels),.psl 11 (List.map bB.enc vs1.Jobs),.int .i64 vs1.NextId]]⟩),(8,⟨0,true,true,4,[[.int .i64 0,.nils,.nils,.int .i64 0]]⟩)]) [0,8] 264 [1,2,3,6,10,44] (fun _=>none) rfl (fun Kt hK=>by
   cases hg11 : (decide (vr9.2 = 0)) with
   | false =>
    replace hb10:=sA hb10 hg11
    have hqb10:=oI hb10
    subst hqb10
    exact rW hg11 hK
   | true =>
    replace hb10:=zA hb10 hg11
    have hqb10:=oI hb10
    subst hqb10
    exact rW hg11 hK) ?_
 refine xI h0 rfl (fun h0 hb12=>?_) (fun h0 hb12=>?_)
 ·
  refine xR 272 [1,2,3,6,10] ?_
  refine cA (iA ?_)
  refine xS 288 [1,2,3,6,10,46] ?_
  refine kI rfl ?_
  refine xS 328 [6,7,8] ?_
  refine jA (mA ?_)
  obtain rfl:=oI h0
  exact lA [] rG
 refine oA (cA (iA ?_))
 refine xS 280 [1,2,3,6,10,46] ?_
 refine xI h0 rfl (fun h0 hb13=>?_) (fun h0 hb13=>?_)
 ·
  refine xS 320 [6,7,8] ?_
  refine jA (mA ?_)
  obtain rfl:=oI h0
  exact lA [] rG
 refine oA (cA ?_)
 obtain ⟨vr14,hvr14,h0⟩:=bA h0
 refine nA 344 [1,2,3,6,12] (fun | 2=>some (.tup [.int .i64 vr14.1,.int .i64 vr14.2],[]) | _=>none) rfl (fun _ _=>rC (zd5 hvr14)) ?_
 obtain ⟨e15,he15,h0⟩:=bA h0
 obtain ⟨he15a,he15b,he15c⟩:=vA he15
 obtain ⟨vr16,hvr16,h0⟩:=bA h0
 refine nA 472 [1,3,6,12,14,15] (fun | 7=>some (.tup [.agg (mB.enc vr16.1),.int .i64 vr16.2.1,.int .i64 vr16.2.2],[]) | _=>none) rfl (fun _ _=>rB (rA he15a (rA he15b he15c)) (zdH hvr16)) ?_
 obtain ⟨hc17,h0⟩:=pD h0
 refine qC 560 [1,6,12,14,15,17] (fun _=>none) rfl rfl rfl (fun _ _=>xD (rA he15a (rA he15b he15c))) ?_
 refine xE ⟨[(1,.int .i64 level2),(6,.ref 8 0 0 0),(12,.int .i64 vr14.1),(14,.ref 440 0 0 0),(15,.int .i64 vr16.2.1),(17,.ref 544 0 0 0)],[(8,⟨0,true,true,4,[[.int .i64 0,.nils,.nils,.int .i64 0]]⟩),(440,⟨0,true,true,10,[[.psl 1 (List.map (tA 4 aA.enc) vr16.1.Merge.Runs),.psl 1 (List.map (gA .i64) vr16.1.Merge.At),.psl 2 (List.map eA.enc vr16.1.Merge.Tree.Keys),.psl 1 (List.map (gA .i64) vr16.1.Merge.Tree.Lose),.int .i64 vr16.1.Merge.Tree.Win,.bool vr16.1.Shadow.Some,.str vr16.1.Shadow.Last,.bool vr16.1.Shadow.Bottom,.psl 4 (List.map aA.enc vr16.1.Out),.int .i64 vr16.1.Steps]]⟩),(488,⟨1,true,true,11,List.map bB.enc vs1.Jobs⟩),(544,⟨0,true,false,4,[[.int .i64 vs1.Levels.B,.psl 1 (List.map qA.enc vs1.Levels.Levels),.sl 488 1 11 0 vs1.Jobs.length,.int .i64 vs1.NextId]]⟩)],560,[]⟩ ?_
 refine nA 624 [6,15,17] (fun _=>none) rfl (fun _ _=>rS (rA he15a (rA he15b he15c))) ?_
 refine xE ⟨[(6,.ref 8 0 0 0),(15,.int .i64 vr16.2.1),(17,.ref 544 0 0 0)],[(8,⟨0,true,true,4,[[.int .i64 0,.nils,.nils,.int .i64 0]]⟩),(488,⟨1,true,true,11,List.map bB.enc (vs1.Jobs.set vr14.1.toNat (bB.mk level2 vr16.1))⟩),(544,⟨0,true,false,4,[[.int .i64 vs1.Levels.B,.psl 1 (List.map qA.enc vs1.Levels.Levels),.sl 488 1 11 0 ((vs1.Jobs.set vr14.1.toNat (bB.mk level2 vr16.1)).length),.int .i64 vs1.NextId]]⟩)],624,[]⟩ ?_
 refine nA 664 [6,7,8] (fun _=>none) rfl (fun _ _=>rS (rA he15a (rA he15b he15c))) ?_
 refine jA ?_
 obtain rfl:=oI h0
 refine lA [] ?_
 exact rJ (rA he15a (rA he15b he15c))
theorem zcm {fu : Nat} {a1 : List aA} {b2 : List aA} {r : Bool} (h0 : qU fu a1 b2 = some r) : yA Tryz.prog 123 [.psl 4 (a1.map aA.enc),.psl 4 (b2.map aA.enc)] (.bool r) []:=by
 refine dB Tryz.func123 rfl (by decide) rL ?_
 dsimp only [Tryz.f123]
 rw [qU] at h0
 refine xS 8 [0,1] ?_
 refine iA ?_
 refine xS 16 [0,1,5] ?_
 obtain ⟨x16,hxx16,h0⟩:=bA h0
 refine pC (fun s'=>∃ o24 : Unit,x16 = .inl o24 ∧ s'.nx ≤ 96 ∧ LeN [] s' ⟨[(0,.psl 4 (List.map aA.enc a1)),(1,.psl 4 (List.map aA.enc b2))],[],96,[]⟩) ?_ ?_
 ·
  intro s' hs
  obtain ⟨o24,rfl,hn,hs⟩:=hs
  refine cA ?_
  refine oB [] hn hs ?_
  refine xS 144 [4] ?_
  refine jA ?_
  obtain rfl:=oI h0
  exact lA [] rG
 refine lC (ι:={ p : Nat × Int // iO a1 b2 p.1 p.2 = some x16 }) (fun p=>⟨[(0,.psl 4 (List.map aA.enc a1)),(1,.psl 4 (List.map aA.enc b2)),(5,.int .i64 p.1.2)],[],16,[]⟩) (fun p=>p.1.1) ⟨(fu,0),hxx16⟩ ⟨rF,rE,rfl,rfl,trivial,trivial⟩ (fun _=>Nat.le_refl _) ?_
 rintro ⟨⟨fu,i17⟩,h1⟩
 cases fu with
 | zero =>
  replace h1 : iO a1 b2 0 i17 = some x16:=h1
  rw [iO] at h1; cases h1
 | succ fu =>
  replace h1 : iO a1 b2 (fu + 1) i17 = some x16:=h1
  rw [iO] at h1
  dsimp only
  refine iA ?_
  obtain ⟨b18,hb18,h1⟩:=bA h1
  refine jC (fr':=[(0,.psl 4 (List.map aA.enc a1)),(1,.psl 4 (List.map aA.enc b2)),(5,.int .i64 i17),(15,.bool b18)]) (hp':=[]) [] 96 [0,1,5,15] (fun _=>none) rfl (fun Kt hK=>by
    cases hg19 : (decide (i17 < (a1.length : Int))) with
    | false =>
     replace hb18:=sA hb18 hg19
     have hqb18:=oI hb18
     subst hqb18
     exact rW hg19 hK
    | true =>
     replace hb18:=zA hb18 hg19
     have hqb18:=oI hb18
     subst hqb18
     exact rW hg19 hK) ?_
  refine xI h1 rfl (fun h1 hb20=>?_) (fun h1 hb20=>?_)
  ·
   refine oA (cA (iA (vB ?_)))
   obtain ⟨e21,he21,h1⟩:=bA h1
   obtain ⟨he21a,he21b,he21c⟩:=vA he21
   obtain ⟨e22,he22,h1⟩:=bA h1
   obtain ⟨he22a,he22b,he22c⟩:=vA he22
   refine qC 168 [0,1,5,26] (fun _=>none) rfl rfl rfl (fun _ _=>xD (rA he21a (rA he21b (rA he21c (rA he22a (rA he22b he22c)))))) ?_
   refine xI h1 rfl (fun h1 hb23=>?_) (fun h1 hb23=>?_)
   ·
    refine nA 176 [4] (fun _=>none) rfl (fun _ _=>rS (rA he21a (rA he21b (rA he21c (rA he22a (rA he22b he22c)))))) ?_
    refine jA ?_
    obtain rfl:=oI h1
    refine zB (mA (mA (xC (mA ?_))))
    obtain rfl:=oI h0
    refine lA [] ?_
    exact rJ (rA he21a (rA he21b (rA he21c (rA he22a (rA he22b he22c)))))
   refine oA (pB (cA ?_))
   refine nB 192 [0,1,5] (fun _=>none) rfl (fun _ _=>rS (rA he21a (rA he21b (rA he21c (rA he22a (rA he22b he22c)))))) ?_
   refine cA ?_
   exact ⟨⟨(fu,(IntKind.i64.wrap (i17 + 1))),h1⟩,⟨rF,rE,rfl,rfl,trivial,trivial⟩,Nat.lt_succ_self _⟩
  refine dC (xA (xA (gC ?_)))
  obtain rfl:=oI h1
  exact ⟨_,rfl,rL,⟨rF,rE,rfl,rfl,trivial,trivial⟩⟩
theorem ziu {fu : Nat} {a1 : gB} {b2 : gB} {r : Bool} (h0 : zal fu a1 b2 = some r) : yA Tryz.prog 97 [.agg (gB.enc a1),.agg (gB.enc b2)] (.bool r) []:=by
 refine dB Tryz.func97 rfl (by decide) rL ?_
 dsimp only [Tryz.f97]
 rw [zal] at h0
 refine xS 24 [2,3] ?_
 obtain ⟨b4,hb4,h0⟩:=bA h0
 refine jC (fr':=[(4,.bool b4)]) (hp':=[(0,⟨0,true,true,2,[[.int .i64 a1.Id,.psl 4 (List.map aA.enc a1.Entries)]]⟩),(8,⟨0,true,true,2,[[.int .i64 b2.Id,.psl 4 (List.map aA.enc b2.Entries)]]⟩)]) [0,8] 128 [4] (fun | 10=>(qU fu a1.Entries b2.Entries).bind fun vr3=>some (.bool vr3,[]) | _=>none) rfl (fun Kt hK=>by
   cases hg5 : (decide (a1.Id = b2.Id)) with
   | false =>
    replace hb4:=sA hb4 hg5
    have hqb4:=oI hb4
    subst hqb4
    first | exact fJ hg5 (zcm hvr3) hK | exact rW hg5 hK
   | true =>
    replace hb4:=zA hb4 hg5
    obtain ⟨vr3,hvr3,hb4⟩:=bA hb4
    have hqb4:=oI hb4
    subst hqb4
    first | exact dI hg5 hvr3 (zcm hvr3) hK | exact sD hg5 hvr3 hK) ?_
 refine jA ?_
 obtain rfl:=oI h0
 exact lA [] rG
theorem zmp {fu : Nat} {a1 : List gB} {b2 : List gB} {r : Bool} (h0 : vW fu a1 b2 = some r) : yA Tryz.prog 64 [.psl 2 (a1.map gB.enc),.psl 2 (b2.map gB.enc)] (.bool r) []:=by
 refine dB Tryz.func64 rfl (by decide) rL ?_
 dsimp only [Tryz.f64]
 rw [vW] at h0
 refine xS 8 [0,1] ?_
 refine iA ?_
 refine xS 48 [0,1,10] ?_
 refine xI h0 rfl (fun h0 hb3=>?_) (fun h0 hb3=>?_)
 ·
  refine xS 56 [4] ?_
  refine jA (mA ?_)
  obtain rfl:=oI h0
  exact lA [] rG
 refine oA (cA (iA ?_))
 refine xS 56 [0,1,5] ?_
 obtain ⟨x15,hxx15,h0⟩:=bA h0
 refine pC (fun s'=>∃ o22 : Unit,x15 = .inl o22 ∧ s'.nx ≤ 88 ∧ LeN [] s' ⟨[],[],88,[]⟩) ?_ ?_
 ·
  intro s' hs
  obtain ⟨o22,rfl,hn,hs⟩:=hs
  refine cA ?_
  refine oB [] hn hs ?_
  refine xS 96 [4] ?_
  refine jA ?_
  obtain rfl:=oI h0
  exact lA [] rG
 refine lC (ι:={ p : Nat × Int // zN a1 b2 p.1 p.2 = some x15 }) (fun p=>⟨[(0,.psl 2 (List.map gB.enc a1)),(1,.psl 2 (List.map gB.enc b2)),(5,.int .i64 p.1.2)],[],56,[]⟩) (fun p=>p.1.1) ⟨(fu,0),hxx15⟩ ⟨rF,rE,rfl,rfl,trivial,trivial⟩ (fun _=>Nat.le_refl _) ?_
 rintro ⟨⟨fu,i16⟩,h1⟩
 cases fu with
 | zero =>
  replace h1 : zN a1 b2 0 i16 = some x15:=h1
  rw [zN] at h1; cases h1
 | succ fu =>
  replace h1 : zN a1 b2 (fu + 1) i16 = some x15:=h1
  rw [zN] at h1
  dsimp only
  refine iA ?_
  refine xS 88 [0,1,5,14] ?_
  refine xI h1 rfl (fun h1 hb17=>?_) (fun h1 hb17=>?_)
  ·
   refine oA (cA (iA (vB ?_)))
   obtain ⟨e18,he18,h1⟩:=bA h1
   obtain ⟨he18a,he18b,he18c⟩:=vA he18
   obtain ⟨e19,he19,h1⟩:=bA h1
   obtain ⟨he19a,he19b,he19c⟩:=vA he19
   obtain ⟨vr20,hvr20,h1⟩:=bA h1
   refine qC 168 [0,1,5,26] (fun | 8=>some (.bool vr20,[]) | _=>none) rfl rfl rfl (fun _ _=>wK (rA he18a (rA he18b (rA he18c (rA he19a (rA he19b he19c))))) (ziu hvr20)) ?_
   refine xI h1 rfl (fun h1 hb21=>?_) (fun h1 hb21=>?_)
   ·
    refine nA 176 [4] (fun _=>none) rfl (fun _ _=>rS (rA he18a (rA he18b (rA he18c (rA he19a (rA he19b he19c)))))) ?_
    refine jA ?_
    obtain rfl:=oI h1
    refine zB (mA (mA (xC (mA ?_))))
    obtain rfl:=oI h0
    refine lA [] ?_
    exact rJ (rA he18a (rA he18b (rA he18c (rA he19a (rA he19b he19c)))))
   refine oA (pB (cA ?_))
   refine nB 192 [0,1,5] (fun _=>none) rfl (fun _ _=>rS (rA he18a (rA he18b (rA he18c (rA he19a (rA he19b he19c)))))) ?_
   refine cA ?_
   exact ⟨⟨(fu,(IntKind.i64.wrap (i16 + 1))),h1⟩,⟨rF,rE,rfl,rfl,trivial,trivial⟩,Nat.lt_succ_self _⟩
  refine dC (xA (xA (gC ?_)))
  obtain rfl:=oI h1
  exact ⟨_,rfl,rL,⟨rF,rE,rfl,rfl,trivial,trivial⟩⟩
theorem zbQ {fu : Nat} {a1 : eB} {b2 : eB} {r : Bool} (h0 : qW fu a1 b2 = some r) : yA Tryz.prog 34 [.agg (eB.enc a1),.agg (eB.enc b2)] (.bool r) []:=by
 refine dB Tryz.func34 rfl (by decide) rL ?_
 dsimp only [Tryz.f34]
 rw [qW] at h0
 refine xS 24 [2,3] ?_
 refine iA ?_
 obtain ⟨b3,hb3,h0⟩:=bA h0
 refine jC (fr':=[(2,.ref 0 0 0 0),(3,.ref 8 0 0 0),(19,.bool b3)]) (hp':=[(0,⟨0,true,true,2,[[.int .i64 a1.B,.psl 1 (List.map qA.enc a1.Levels)]]⟩),(8,⟨0,true,true,2,[[.int .i64 b2.B,.psl 1 (List.map qA.enc b2.Levels)]]⟩)]) [0,8] 136 [2,3,19] (fun _=>none) rfl (fun Kt hK=>by
   cases hg4 : (!(decide (a1.B = b2.B))) with
   | false =>
    replace hb3:=sA hb3 hg4
    have hqb3:=oI hb3
    subst hqb3
    exact rW hg4 hK
   | true =>
    replace hb3:=zA hb3 hg4
    have hqb3:=oI hb3
    subst hqb3
    exact rW hg4 hK) ?_
 refine xI h0 rfl (fun h0 hb5=>?_) (fun h0 hb5=>?_)
 ·
  refine xS 144 [4] ?_
  refine jA (mA ?_)
  obtain rfl:=oI h0
  exact lA [] rG
 refine oA (cA (iA ?_))
 refine xS 144 [2,3,5] ?_
 obtain ⟨x17,hxx17,h0⟩:=bA h0
 refine pC (fun s'=>∃ o24 : Unit,x17 = .inl o24 ∧ s'.nx ≤ 184 ∧ LeN [] s' ⟨[],[(0,⟨0,true,true,2,[[.int .i64 a1.B,.psl 1 (List.map qA.enc a1.Levels)]]⟩),(8,⟨0,true,true,2,[[.int .i64 b2.B,.psl 1 (List.map qA.enc b2.Levels)]]⟩)],184,[]⟩) ?_ ?_
 ·
  intro s' hs
  obtain ⟨o24,rfl,hn,hs⟩:=hs
  refine cA ?_
  refine oB [] hn hs ?_
  refine xS 192 [4] ?_
  refine jA ?_
  obtain rfl:=oI h0
  exact lA [] rG
 refine lC (ι:={ p : Nat × Int // uM a1 b2 p.1 p.2 = some x17 }) (fun p=>⟨[(2,.ref 0 0 0 0),(3,.ref 8 0 0 0),(5,.int .i64 p.1.2)],[(0,⟨0,true,true,2,[[.int .i64 a1.B,.psl 1 (List.map qA.enc a1.Levels)]]⟩),(8,⟨0,true,true,2,[[.int .i64 b2.B,.psl 1 (List.map qA.enc b2.Levels)]]⟩)],144,[]⟩) (fun p=>p.1.1) ⟨(fu,0),hxx17⟩ ⟨rF,rE,rfl,rfl,trivial,trivial⟩ (fun _=>Nat.le_refl _) ?_
 rintro ⟨⟨fu,i18⟩,h1⟩
 cases fu with
 | zero =>
  replace h1 : uM a1 b2 0 i18 = some x17:=h1
  rw [uM] at h1; cases h1
 | succ fu =>
  replace h1 : uM a1 b2 (fu + 1) i18 = some x17:=h1
  rw [uM] at h1
  dsimp only
  refine iA ?_
  refine xS 184 [2,3,5,24] ?_
  refine xI h1 rfl (fun h1 hb19=>?_) (fun h1 hb19=>?_)
  ·
   refine oA (cA (iA (vB ?_)))
   obtain ⟨e20,he20,h1⟩:=bA h1
   obtain ⟨he20a,he20b,he20c⟩:=vA he20
   obtain ⟨e21,he21,h1⟩:=bA h1
   obtain ⟨he21a,he21b,he21c⟩:=vA he21
   obtain ⟨vr22,hvr22,h1⟩:=bA h1
   refine qC 296 [2,3,5,40] (fun | 12=>some (.bool vr22,[]) | _=>none) rfl rfl rfl (fun _ _=>wK (rA he20a (rA he20b (rA he20c (rA he21a (rA he21b he21c))))) (zmp hvr22)) ?_
   refine xI h1 rfl (fun h1 hb23=>?_) (fun h1 hb23=>?_)
   ·
    refine nA 304 [4] (fun _=>none) rfl (fun _ _=>rS (rA he20a (rA he20b (rA he20c (rA he21a (rA he21b he21c)))))) ?_
    refine jA ?_
    obtain rfl:=oI h1
    refine zB (mA (mA (xC (mA ?_))))
    obtain rfl:=oI h0
    refine lA [] ?_
    exact rJ (rA he20a (rA he20b (rA he20c (rA he21a (rA he21b he21c)))))
   refine oA (pB (cA ?_))
   refine nB 320 [2,3,5] (fun _=>none) rfl (fun _ _=>rS (rA he20a (rA he20b (rA he20c (rA he21a (rA he21b he21c)))))) ?_
   refine cA ?_
   exact ⟨⟨(fu,(IntKind.i64.wrap (i18 + 1))),h1⟩,⟨rF,rE,rfl,rfl,trivial,trivial⟩,Nat.lt_succ_self _⟩
  refine dC (xA (xA (gC ?_)))
  obtain rfl:=oI h1
  exact ⟨_,rfl,rL,⟨rF,rE,rfl,rfl,trivial,trivial⟩⟩
theorem zoZ {fu : Nat} {a1 : bB} {b2 : bB} {r : Bool} (h0 : aW fu a1 b2 = some r) : yA Tryz.prog 27 [.agg (bB.enc a1),.agg (bB.enc b2)] (.bool r) []:=by
 refine dB Tryz.func27 rfl (by decide) rL ?_
 dsimp only [Tryz.f27]
 rw [aW] at h0
 refine xS 24 [2,3] ?_
 obtain ⟨b4,hb4,h0⟩:=bA h0
 refine jC (fr':=[(4,.bool b4)]) (hp':=[(0,⟨0,true,true,11,[[.int .i64 a1.Level,.psl 1 (List.map (tA 4 aA.enc) a1.Work.Merge.Runs),.psl 1 (List.map (gA .i64) a1.Work.Merge.At),.psl 2 (List.map eA.enc a1.Work.Merge.Tree.Keys),.psl 1 (List.map (gA .i64) a1.Work.Merge.Tree.Lose),.int .i64 a1.Work.Merge.Tree.Win,.bool a1.Work.Shadow.Some,.str a1.Work.Shadow.Last,.bool a1.Work.Shadow.Bottom,.psl 4 (List.map aA.enc a1.Work.Out),.int .i64 a1.Work.Steps]]⟩),(8,⟨0,true,true,11,[[.int .i64 b2.Level,.psl 1 (List.map (tA 4 aA.enc) b2.Work.Merge.Runs),.psl 1 (List.map (gA .i64) b2.Work.Merge.At),.psl 2 (List.map eA.enc b2.Work.Merge.Tree.Keys),.psl 1 (List.map (gA .i64) b2.Work.Merge.Tree.Lose),.int .i64 b2.Work.Merge.Tree.Win,.bool b2.Work.Shadow.Some,.str b2.Work.Shadow.Last,.bool b2.Work.Shadow.Bottom,.psl 4 (List.map aA.enc b2.Work.Out),.int .i64 b2.Work.Steps]]⟩)]) [0,8] 128 [4] (fun | 10=>(oR fu a1.Work b2.Work).bind fun vr3=>some (.bool vr3,[]) | _=>none) rfl (fun Kt hK=>by
   cases hg5 : (decide (a1.Level = b2.Level)) with
   | false =>
    replace hb4:=sA hb4 hg5
    have hqb4:=oI hb4
    subst hqb4
    first | exact fJ hg5 (zbS hvr3) hK | exact rW hg5 hK
   | true =>
    replace hb4:=zA hb4 hg5
    obtain ⟨vr3,hvr3,hb4⟩:=bA hb4
    have hqb4:=oI hb4
    subst hqb4
    first | exact dI hg5 hvr3 (zbS hvr3) hK | exact sD hg5 hvr3 hK) ?_
 refine jA ?_
 obtain rfl:=oI h0
 exact lA [] rG
theorem zaf {fu : Nat} {a1 : cB} {b2 : cB} {r : Bool} (h0 : zQ fu a1 b2 = some r) : yA Tryz.prog 10 [.agg (cB.enc a1),.agg (cB.enc b2)] (.bool r) []:=by
 refine dB Tryz.func10 rfl (by decide) rL ?_
 dsimp only [Tryz.f10]
 rw [zQ] at h0
 refine xS 24 [2,3] ?_
 refine iA ?_
 obtain ⟨vr3,hvr3,h0⟩:=bA h0
 obtain ⟨b4,hb4,h0⟩:=bA h0
 obtain ⟨b5,hb5,h0⟩:=bA h0
 refine jC (fr':=[(2,.ref 0 0 0 0),(3,.ref 8 0 0 0),(27,.bool b5)]) (hp':=[(0,⟨0,true,true,4,[[.int .i64 a1.Levels.B,.psl 1 (List.map qA.enc a1.Levels.Levels),.psl 11 (List.map bB.enc a1.Jobs),.int .i64 a1.NextId]]⟩),(8,⟨0,true,true,4,[[.int .i64 b2.Levels.B,.psl 1 (List.map qA.enc b2.Levels.Levels),.psl 11 (List.map bB.enc b2.Jobs),.int .i64 b2.NextId]]⟩)]) [0,8] 200 [2,3,27] (fun | 4=>some (.bool vr3,[]) | _=>none) rfl (fun Kt hK=>by
   cases hg6 : (!vr3) with
   | false =>
    replace hb4:=sA hb4 hg6
    have hqb4:=oI hb4
    cases b4 with
    | false =>
     replace hb5:=sA hb5 rfl
     have hqb5:=oI hb5
     subst hqb5
     first | exact fJ (rA hg6 hqb4) (zbQ hvr3) hK | exact rW (rA hg6 hqb4) hK
    | true =>
     replace hb5:=zA hb5 rfl
     have hqb5:=oI hb5
     subst hqb5
     first | exact fJ (rA hg6 hqb4) (zbQ hvr3) hK | exact rW (rA hg6 hqb4) hK
   | true =>
    replace hb4:=zA hb4 hg6
    have hqb4:=oI hb4
    cases b4 with
    | false =>
     cases hqb4
    | true =>
     replace hb5:=zA hb5 rfl
     have hqb5:=oI hb5
     subst hqb5
     first | exact fJ hg6 (zbQ hvr3) hK | exact rW hg6 hK) ?_
 refine xI h0 rfl (fun h0 hb9=>?_) (fun h0 hb9=>?_)
 ·
  refine xS 208 [4] ?_
  refine jA (mA ?_)
  obtain rfl:=oI h0
  exact lA [] rG
 refine oA (cA (iA ?_))
 refine xS 208 [2,3,5] ?_
 obtain ⟨x21,hxx21,h0⟩:=bA h0
 refine pC (fun s'=>∃ o28 : Unit,x21 = .inl o28 ∧ s'.nx ≤ 248 ∧ LeN [] s' ⟨[],[(0,⟨0,true,true,4,[[.int .i64 a1.Levels.B,.psl 1 (List.map qA.enc a1.Levels.Levels),.psl 11 (List.map bB.enc a1.Jobs),.int .i64 a1.NextId]]⟩),(8,⟨0,true,true,4,[[.int .i64 b2.Levels.B,.psl 1 (List.map qA.enc b2.Levels.Levels),.psl 11 (List.map bB.enc b2.Jobs),.int .i64 b2.NextId]]⟩)],248,[]⟩) ?_ ?_
 ·
  intro s' hs
  obtain ⟨o28,rfl,hn,hs⟩:=hs
  refine cA ?_
  refine oB [] hn hs ?_
  refine xS 256 [4] ?_
  refine jA ?_
  obtain rfl:=oI h0
  exact lA [] rG
 refine lC (ι:={ p : Nat × Int // uN a1 b2 p.1 p.2 = some x21 }) (fun p=>⟨[(2,.ref 0 0 0 0),(3,.ref 8 0 0 0),(5,.int .i64 p.1.2)],[(0,⟨0,true,true,4,[[.int .i64 a1.Levels.B,.psl 1 (List.map qA.enc a1.Levels.Levels),.psl 11 (List.map bB.enc a1.Jobs),.int .i64 a1.NextId]]⟩),(8,⟨0,true,true,4,[[.int .i64 b2.Levels.B,.psl 1 (List.map qA.enc b2.Levels.Levels),.psl 11 (List.map bB.enc b2.Jobs),.int .i64 b2.NextId]]⟩)],208,[]⟩) (fun p=>p.1.1) ⟨(fu,0),hxx21⟩ ⟨rF,rE,rfl,rfl,trivial,trivial⟩ (fun _=>Nat.le_refl _) ?_
 rintro ⟨⟨fu,i22⟩,h1⟩
 cases fu with
 | zero =>
  replace h1 : uN a1 b2 0 i22 = some x21:=h1
  rw [uN] at h1; cases h1
 | succ fu =>
  replace h1 : uN a1 b2 (fu + 1) i22 = some x21:=h1
  rw [uN] at h1
  dsimp only
  refine iA ?_
  refine xS 248 [2,3,5,32] ?_
  refine xI h1 rfl (fun h1 hb23=>?_) (fun h1 hb23=>?_)
  ·
   refine oA (cA (iA (vB ?_)))
   obtain ⟨e24,he24,h1⟩:=bA h1
   obtain ⟨he24a,he24b,he24c⟩:=vA he24
   obtain ⟨e25,he25,h1⟩:=bA h1
   obtain ⟨he25a,he25b,he25c⟩:=vA he25
   obtain ⟨vr26,hvr26,h1⟩:=bA h1
   refine qC 344 [2,3,5,46] (fun | 10=>some (.bool vr26,[]) | _=>none) rfl rfl rfl (fun _ _=>wK (rA he24a (rA he24b (rA he24c (rA he25a (rA he25b he25c))))) (zoZ hvr26)) ?_
   refine xI h1 rfl (fun h1 hb27=>?_) (fun h1 hb27=>?_)
   ·
    refine nA 352 [4] (fun _=>none) rfl (fun _ _=>rS (rA he24a (rA he24b (rA he24c (rA he25a (rA he25b he25c)))))) ?_
    refine jA ?_
    obtain rfl:=oI h1
    refine zB (mA (mA (xC (mA ?_))))
    obtain rfl:=oI h0
    refine lA [] ?_
    exact rJ (rA he24a (rA he24b (rA he24c (rA he25a (rA he25b he25c)))))
   refine oA (pB (cA ?_))
   refine nB 368 [2,3,5] (fun _=>none) rfl (fun _ _=>rS (rA he24a (rA he24b (rA he24c (rA he25a (rA he25b he25c)))))) ?_
   refine cA ?_
   exact ⟨⟨(fu,(IntKind.i64.wrap (i22 + 1))),h1⟩,⟨rF,rE,rfl,rfl,trivial,trivial⟩,Nat.lt_succ_self _⟩
  refine dC (xA (xA (gC ?_)))
  obtain rfl:=oI h1
  exact ⟨_,rfl,rL,⟨rF,rE,rfl,rfl,trivial,trivial⟩⟩
theorem znB {fu : Nat} {vs1 : cB} {level2 : Int} {most3 : Int} {r : Bool} (h0 : xY fu vs1 level2 most3 = some r) : yA Tryz.prog 3 [.agg (cB.enc vs1),.int .i64 level2,.int .i64 most3] (.bool r) []:=by
 refine dB Tryz.func3 rfl (by decide) rL ?_
 dsimp only [Tryz.f3]
 rw [xY] at h0
 refine xS 16 [1,2,3] ?_
 refine iA ?_
 obtain ⟨vr4,hvr4,h0⟩:=bA h0
 refine nA 32 [1,2,3,14] (fun | 1=>some (.bool vr4,[]) | _=>none) rfl (fun _ _=>rC (zkV hvr4)) ?_
 refine xI h0 rfl (fun h0 hb5=>?_) (fun h0 hb5=>?_)
 ·
  obtain ⟨vr6,hvr6,h0⟩:=bA h0
  refine nA 48 [6] (fun | 0=>some (.bool vr6,[]) | _=>none) rfl (fun _ _=>rC (jX hvr6)) ?_
  refine jA (mA ?_)
  obtain rfl:=oI h0
  exact lA [] rG
 refine oA (cA ?_)
 obtain ⟨vr7,hvr7,h0⟩:=bA h0
 refine nA 128 [1,2,3,7,8,9] (fun | 3=>some (.tup [.agg (cB.enc vr7.1),.int .i64 vr7.2.1,.int .i64 vr7.2.2],[]) | _=>none) rfl (fun _ _=>rC (zcj hvr7)) ?_
 obtain ⟨vr8,hvr8,h0⟩:=bA h0
 refine nA 224 [7,8,9,10,11,12] (fun | 3=>some (.tup [.agg (cB.enc vr8.1),.int .i64 vr8.2.1,.int .i64 vr8.2.2],[]) | _=>none) rfl (fun _ _=>rC (zhz hvr8)) ?_
 obtain ⟨vr9,hvr9,h0⟩:=bA h0
 obtain ⟨b10,hb10,h0⟩:=bA h0
 obtain ⟨b11,hb11,h0⟩:=bA h0
 obtain ⟨b13,hb13,h0⟩:=bA h0
 refine jC (fr':=[(6,.bool b13)]) (hp':=[(0,⟨0,true,true,4,[[.int .i64 vs1.Levels.B,.psl 1 (List.map qA.enc vs1.Levels.Levels),.psl 11 (List.map bB.enc vs1.Jobs),.int .i64 vs1.NextId]]⟩),(96,⟨0,true,true,4,[[.int .i64 vr7.1.Levels.B,.psl 1 (List.map qA.enc vr7.1.Levels.Levels),.psl 11 (List.map bB.enc vr7.1.Jobs),.int .i64 vr7.1.NextId]]⟩),(192,⟨0,true,true,4,[[.int .i64 vr8.1.Levels.B,.psl 1 (List.map qA.enc vr8.1.Levels.Levels),.psl 11 (List.map bB.enc vr8.1.Jobs),.int .i64 vr8.1.NextId]]⟩)]) [0,96,192] 360 [6] (fun | 2=>some (.bool vr9,[]) | 14=>(yM fu).bind fun vr12=>some (.bool vr12,[]) | _=>none) rfl (fun Kt hK=>by
   cases vr9 with
   | false =>
    replace hb10:=sA hb10 rfl
    have hqb10:=oI hb10
    cases b10 with
    | false =>
     replace hb11:=sA hb11 rfl
     have hqb11:=oI hb11
     cases b11 with
     | false =>
      replace hb13:=sA hb13 rfl
      have hqb13:=oI hb13
      subst hqb13
      try have q0:=zaf hvr9
      try have q1:=jX hvr12
      exact rT
     | true =>
      cases hqb11
    | true =>
     cases hqb10
   | true =>
    replace hb10:=zA hb10 rfl
    have hqb10:=oI hb10
    cases b10 with
    | false =>
     replace hb11:=sA hb11 rfl
     have hqb11:=oI hb11
     cases b11 with
     | false =>
      replace hb13:=sA hb13 rfl
      have hqb13:=oI hb13
      subst hqb13
      simp (maxSteps:=1000000) only [↓reduceIte,reduceCtorEq,Nat.reduceEqDiff,Nat.reduceLT,Nat.reduceLeDiff,Nat.reduceAdd,Nat.reduceMul,Int.reduceToNat,push_cast,↓hqb10]
      try simp only [↓hqb10] at hK
      try have q0:=zaf hvr9
      try have q1:=jX hvr12
      all_goals exact rU
     | true =>
      cases hqb11
    | true =>
     replace hb11:=zA hb11 rfl
     have hqb11:=oI hb11
     cases b11 with
     | false =>
      replace hb13:=sA hb13 rfl
      have hqb13:=oI hb13
      subst hqb13
      simp (maxSteps:=1000000) only [↓reduceIte,reduceCtorEq,Nat.reduceEqDiff,Nat.reduceLT,Nat.reduceLeDiff,Nat.reduceAdd,Nat.reduceMul,Int.reduceToNat,push_cast,↓hqb10,↓hqb11]
      try simp only [↓hqb10,↓hqb11] at hK
      try have q0:=zaf hvr9
      try have q1:=jX hvr12
      all_goals exact rU
     | true =>
      replace hb13:=zA hb13 rfl
      obtain ⟨vr12,hvr12,hb13⟩:=bA hb13
      have hqb13:=oI hb13
      subst hqb13
      simp (maxSteps:=1000000) only [↓reduceIte,reduceCtorEq,Nat.reduceEqDiff,Nat.reduceLT,Nat.reduceLeDiff,Nat.reduceAdd,Nat.reduceMul,Int.reduceToNat,push_cast,↓hqb10,↓hqb11,hvr12]
      try simp only [↓hqb10,↓hqb11] at hK
      try have q0:=zaf hvr9
      try have q1:=jX hvr12
      all_goals exact rU) ?_
 refine jA ?_
 obtain rfl:=oI h0
 exact lA [] rG
end Go.T
end
section
namespace Go.Proofs.YtnlggkiekcpahaaGreat
open Go.T
theorem jobsReads : Rows.JobsReadsSaid :=
  zoU (fun x0 x1 x2 w0 w1 w2=>by
    obtain ⟨fu,h⟩:=(zli x0 x1 x2).one
    exact ⟨_,znB h⟩)
end Go.Proofs.YtnlggkiekcpahaaGreat
end
