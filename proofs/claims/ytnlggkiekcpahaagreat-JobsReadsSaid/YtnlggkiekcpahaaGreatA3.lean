/- Read returns what the document says, of states that are not long; no other condition. -/
import Derived.Test.YtnlggkiekcpahaaGreatAGt
import Derived.Test.YtnlggkiekcpahaaGreatA2
set_option linter.unusedSimpArgs false
set_option linter.unusedVariables false
section
namespace Go.T
open Go Go.AM Go.Proofs
set_option maxRecDepth 100000
set_option maxHeartbeats 4000000
set_option linter.unusedVariables false
theorem zfG {fu : Nat} {vs1 : iB} {r : Int × Int} (h0 : gQ fu vs1 = some r) : yA Tryz.prog 57 [.agg (iB.enc vs1)] (.tup [.int .i64 r.1,.int .i64 r.2]) []:=by
 refine dB Tryz.func57 rfl (by decide) rL ?_
 dsimp only [Tryz.f57]
 rw [gQ] at h0
 refine xS 24 [1] ?_
 refine iA ?_
 obtain ⟨vr2,hvr2,h0⟩:=bA h0
 refine nA 80 [1,5] (fun | 1=>some (.tup [.int .i64 vr2.1,.int .i64 vr2.2],[]) | _=>none) rfl (fun _ _=>rC (zau hvr2)) ?_
 refine xS 96 [1,5,15] ?_
 refine xI h0 rfl (fun h0 hb3=>?_) (fun h0 hb3=>?_)
 ·
  refine xS 120 [2,3] ?_
  refine jA (mA ?_)
  obtain rfl:=oI h0
  exact lA [] rG
 refine oA (cA ?_)
 refine xS 104 [1,6] ?_
 refine iA ?_
 refine xS 136 [1,6,18,19,20] ?_
 obtain ⟨x12,hxx12,h0⟩:=bA h0
 refine pC (fun s'=>s'.nx ≤ 144 ∧ LeN [] s' ⟨[(6,.int .i64 x12)],[(0,⟨0,true,true,5,[[.psl 1 (List.map (tA 4 aA.enc) vs1.Runs),.psl 1 (List.map (gA .i64) vs1.At),.psl 2 (List.map eA.enc vs1.Tree.Keys),.psl 1 (List.map (gA .i64) vs1.Tree.Lose),.int .i64 vs1.Tree.Win]]⟩)],144,[]⟩) ?_ ?_
 ·
  intro s' hs
  obtain ⟨hn,hs⟩:=hs
  refine cA ?_
  refine oB [] hn hs ?_
  refine xS 168 [2,3] ?_
  refine jA ?_
  obtain rfl:=oI h0
  exact lA [] rG
 refine lC (ι:={ p : Nat × Int × Int // nI vs1 p.1 p.2.1 p.2.2 = some x12 }) (fun p=>⟨[(1,.ref 0 0 0 0),(6,.int .i64 p.1.2.1),(18,.psl 1 (List.map (tA 4 aA.enc) vs1.Runs)),(19,.int .i64 (vs1.Runs.length : Int)),(20,.int .i64 p.1.2.2)],[(0,⟨0,true,true,5,[[.psl 1 (List.map (tA 4 aA.enc) vs1.Runs),.psl 1 (List.map (gA .i64) vs1.At),.psl 2 (List.map eA.enc vs1.Tree.Keys),.psl 1 (List.map (gA .i64) vs1.Tree.Lose),.int .i64 vs1.Tree.Win]]⟩)],136,[]⟩) (fun p=>p.1.1) ⟨(fu,0,0),hxx12⟩ ⟨rF,rE,rfl,rfl,trivial,trivial⟩ (fun _=>Nat.le_refl _) ?_
 rintro ⟨⟨fu,n13,v14⟩,h1⟩
 cases fu with
 | zero =>
  replace h1 : nI vs1 0 n13 v14 = some x12:=h1
  rw [nI] at h1; cases h1
 | succ fu =>
  replace h1 : nI vs1 (fu + 1) n13 v14 = some x12:=h1
  rw [nI] at h1
  dsimp only
  refine xS 144 [1,6,18,19,20,21] ?_
  refine iA ?_
  refine xI h1 rfl (fun h1 hb15=>?_) (fun h1 hb15=>?_)
  ·
   refine oA (cA (iA (vB ?_)))
   obtain ⟨e16,he16,h1⟩:=bA h1
   obtain ⟨he16a,he16b,he16c⟩:=vA he16
   refine nA 184 [1,6,7,8,18,19,20] (fun _=>none) rfl (fun _ _=>rS (rA he16a (rA he16b he16c))) ?_
   obtain ⟨e17,he17,h1⟩:=bA h1
   obtain ⟨he17a,he17b,he17c⟩:=vA he17
   refine nB 272 [1,6,18,19,20] (fun _=>none) rfl (fun _ _=>rS (rA he16a (rA he16b (rA he16c (rA he17a (rA he17b he17c)))))) ?_
   refine pB (cA ?_)
   refine nB 288 [1,6,18,19,20] (fun _=>none) rfl (fun _ _=>rS (rA he16a (rA he16b (rA he16c (rA he17a (rA he17b he17c)))))) ?_
   refine cA ?_
   exact ⟨⟨(fu,(IntKind.i64.wrap (n13 + (IntKind.i64.wrap ((e16.length : Int) - e17)))),(IntKind.i64.wrap (v14 + 1))),h1⟩,⟨rF,rE,rfl,rfl,trivial,trivial⟩,Nat.lt_succ_self _⟩
  refine dC (xA (xA (gC ?_)))
  obtain rfl:=oI h1
  exact ⟨rL,⟨rF,rE,rfl,rfl,trivial,trivial⟩⟩
theorem sY {fu : Nat} {vs1 : mB} {r : Int × Int} (h0 : kM fu vs1 = some r) : yA Tryz.prog 30 [.agg (mB.enc vs1)] (.tup [.int .i64 r.1,.int .i64 r.2]) []:=by
 refine dB Tryz.func30 rfl (by decide) rL ?_
 dsimp only [Tryz.f30]
 rw [kM] at h0
 refine xS 24 [1] ?_
 refine iA ?_
 obtain ⟨vr2,hvr2,h0⟩:=bA h0
 refine nA 48 [1,4] (fun | 1=>some (.int .i64 vr2,[]) | _=>none) rfl (fun _ _=>rC (zit hvr2)) ?_
 refine xS 64 [1,4,8] ?_
 refine xI h0 rfl (fun h0 hb3=>?_) (fun h0 hb3=>?_)
 ·
  refine xS 88 [2,3] ?_
  refine jA (mA ?_)
  obtain rfl:=oI h0
  exact lA [] rG
 refine oA (cA ?_)
 obtain ⟨vr4,hvr4,h0⟩:=bA h0
 refine nA 120 [2,3] (fun | 2=>some (.tup [.int .i64 vr4.1,.int .i64 vr4.2],[]) | _=>none) rfl (fun _ _=>rC (zfG hvr4)) ?_
 refine jA ?_
 obtain rfl:=oI h0
 exact lA [] rG
theorem zf6 {fu : Nat} {vs1 : iB} {r : aA × Int × iB × Int} (h0 : dP fu vs1 = some r) : yA Tryz.prog 89 [.agg (iB.enc vs1)] (.tup [.agg (aA.enc r.1),.int .i64 r.2.1,.agg (iB.enc r.2.2.1),.int .i64 r.2.2.2]) []:=by
 refine dB Tryz.func89 rfl (by decide) rL ?_
 dsimp only [Tryz.f89]
 rw [dP] at h0
 refine xS 40 [1,2,4] ?_
 refine vH 7 rfl ?_
 refine oC (l':=List.range' 0 1++(1::(List.range' 2 5++[]))) rfl ?_
 refine vC 0 1 48 (1::(List.range' 2 5++[])) (fun _=>none) rfl rfl rfl (fun _ _=>rT) ?_
 refine fK rfl rfl rfl rfl rfl Tryz.func116 rfl (by decide) rfl rL ?_
 dsimp only [Tryz.f116]
 refine xE ⟨[(0,.agg [.psl 1 (List.map (tA 4 aA.enc) vs1.Runs),.psl 1 (List.map (gA .i64) vs1.At),.psl 2 (List.map eA.enc vs1.Tree.Keys),.psl 1 (List.map (gA .i64) vs1.Tree.Lose),.int .i64 vs1.Tree.Win])],[(0,⟨0,true,true,5,[[.psl 1 (List.map (tA 4 aA.enc) vs1.Runs),.psl 1 (List.map (gA .i64) vs1.At),.psl 2 (List.map eA.enc vs1.Tree.Keys),.psl 1 (List.map (gA .i64) vs1.Tree.Lose),.int .i64 vs1.Tree.Win]]⟩),(8,⟨0,true,true,4,[[.str [],.str [],.bool false,.int .i64 0]]⟩),(24,⟨0,true,true,5,[[.nils,.nils,.nils,.nils,.int .i64 0]]⟩)],48,[]⟩ ?_
 refine xS 72 [1] ?_
 refine iA ?_
 obtain ⟨vr2,hvr2,h0⟩:=bA h0
 refine nA 128 [1,5] (fun | 1=>some (.tup [.int .i64 vr2.1,.int .i64 vr2.2],[]) | _=>none) rfl (fun _ _=>rC (zau hvr2)) ?_
 refine xS 144 [1,5,12] ?_
 refine xI h0 rfl (fun h0 hb3=>?_) (fun h0 hb3=>?_)
 ·
  refine xS 168 [2,3] ?_
  refine jA (mA ?_)
  refine oE (fun _ _=>rT) ?_
  refine xF ⟨[(1,.ref 0 0 0 0),(2,.ref 8 0 0 0),(4,.ref 24 0 0 0),(8,.agg [.psl 1 (List.map (tA 4 aA.enc) vs1.Runs),.psl 1 (List.map (gA .i64) vs1.At),.psl 2 (List.map eA.enc vs1.Tree.Keys),.psl 1 (List.map (gA .i64) vs1.Tree.Lose),.int .i64 vs1.Tree.Win]),(9,.tup [.nilp,.int .i64 vr2.2])],[(0,⟨0,true,true,5,[[.psl 1 (List.map (tA 4 aA.enc) vs1.Runs),.psl 1 (List.map (gA .i64) vs1.At),.psl 2 (List.map eA.enc vs1.Tree.Keys),.psl 1 (List.map (gA .i64) vs1.Tree.Lose),.int .i64 vs1.Tree.Win]]⟩),(8,⟨0,true,true,4,[[.str [],.str [],.bool false,.int .i64 0]]⟩),(24,⟨0,true,true,5,[[.nils,.nils,.nils,.nils,.int .i64 0]]⟩)],168,[]⟩ ?_
  refine oC (l':=List.range' 2 5++[]) rfl ?_
  refine vC 2 5 208 [] (fun _=>none) rfl rfl rfl (fun _ _=>rT) ?_
  refine mD ?_
  refine cA ?_
  refine xE ⟨[(2,.ref 8 0 0 0),(4,.ref 24 0 0 0),(5,.int .i64 vr2.2),(6,.nilp)],[(8,⟨0,true,true,4,[[.str [],.str [],.bool false,.int .i64 0]]⟩),(24,⟨0,true,true,5,[[.nils,.nils,.nils,.nils,.int .i64 0]]⟩)],208,[]⟩ ?_
  refine iA ?_
  refine xS 224 [2,4,5,6,13] ?_
  refine gP rfl hb3 ?_
  refine xS 280 [2,3,4,5] ?_
  refine jA (mA ?_)
  obtain rfl:=oI h0
  exact lA [] rG
 refine oA (cA ?_)
 obtain ⟨vr4,hvr4,h0⟩:=bA h0
 obtain ⟨vr5,hvr5,h0⟩:=bA h0
 refine qC 248 [2,3] (fun | 2=>some (.psl 1 (vr4.map (tA 4 aA.enc)),[]) | 5=>some (.sl 0 0 1 0 vr5.length,[⟨0,true,true,1,vr5.map (gA .i64)⟩]) | _=>none) rfl rfl rfl (fun Kt hK=>by
   try have q0:=zbe hvr4
   try have q1:=ze0 hvr5
   exact iF) ?_
 refine jA ?_
 refine oE (fun _ _=>rT) ?_
 refine xF ⟨[(1,.ref 0 0 0 0),(2,.ref 8 0 0 0),(4,.ref 24 0 0 0),(8,.agg [.psl 1 (List.map (tA 4 aA.enc) vs1.Runs),.psl 1 (List.map (gA .i64) vs1.At),.psl 2 (List.map eA.enc vs1.Tree.Keys),.psl 1 (List.map (gA .i64) vs1.Tree.Lose),.int .i64 vs1.Tree.Win]),(9,.tup [.ref 224 0 0 0,.int .i64 0])],[(0,⟨0,true,true,5,[[.psl 1 (List.map (tA 4 aA.enc) vs1.Runs),.psl 1 (List.map (gA .i64) vs1.At),.psl 2 (List.map eA.enc vs1.Tree.Keys),.psl 1 (List.map (gA .i64) vs1.Tree.Lose),.int .i64 vs1.Tree.Win]]⟩),(8,⟨0,true,true,4,[[.str [],.str [],.bool false,.int .i64 0]]⟩),(24,⟨0,true,true,5,[[.nils,.nils,.nils,.nils,.int .i64 0]]⟩),(184,⟨0,true,true,1,List.map (gA .i64) vr5⟩),(224,⟨0,true,false,5,[[.psl 1 (List.map (tA 4 aA.enc) vr4),.sl 184 0 1 0 vr5.length,.psl 2 (List.map eA.enc vs1.Tree.Keys),.psl 1 (List.map (gA .i64) vs1.Tree.Lose),.int .i64 vs1.Tree.Win]]⟩)],248,[]⟩ ?_
 refine oC (l':=List.range' 2 5++[]) rfl ?_
 refine vC 2 5 288 [] (fun _=>none) rfl rfl rfl (fun _ _=>rT) ?_
 refine mD ?_
 refine cA ?_
 refine xE ⟨[(2,.ref 8 0 0 0),(4,.ref 24 0 0 0),(5,.int .i64 0),(6,.ref 224 0 0 0)],[(8,⟨0,true,true,4,[[.str [],.str [],.bool false,.int .i64 0]]⟩),(24,⟨0,true,true,5,[[.nils,.nils,.nils,.nils,.int .i64 0]]⟩),(184,⟨0,true,true,1,List.map (gA .i64) vr5⟩),(224,⟨0,true,false,5,[[.psl 1 (List.map (tA 4 aA.enc) vr4),.sl 184 0 1 0 vr5.length,.psl 2 (List.map eA.enc vs1.Tree.Keys),.psl 1 (List.map (gA .i64) vs1.Tree.Lose),.int .i64 vs1.Tree.Win]]⟩)],288,[]⟩ ?_
 refine iA ?_
 refine xS 304 [2,4,5,6,13] ?_
 refine pF rfl ?_
 refine oA (cA ?_)
 obtain ⟨vr6,hvr6,h0⟩:=bA h0
 refine nA 376 [2,3,4,5,6] (fun | 1=>some (.tup [.agg (aA.enc vr6.1),.int .i64 vr6.2.1,.int .i64 vr6.2.2],[]) | _=>none) rfl (fun _ _=>rC (zeJ hvr6)) ?_
 refine iA ?_
 refine xS 392 [2,3,4,5,6,24] ?_
 refine xI h0 rfl (fun h0 hb7=>?_) (fun h0 hb7=>?_)
 ·
  refine xS 448 [2,3,4,5] ?_
  refine jA (mA ?_)
  obtain rfl:=oI h0
  exact lA [] rG
 refine oA (cA ?_)
 refine vH 3 rfl ?_
 refine oC (l':=List.range' 0 2++(2::(List.range' 3 0++[]))) rfl ?_
 refine vC 0 2 408 (2::(List.range' 3 0++[])) (fun _=>none) rfl rfl rfl (fun _ _=>rT) ?_
 refine fK rfl rfl rfl rfl rfl Tryz.func118 rfl (by decide) rfl rL ?_
 dsimp only [Tryz.f118]
 refine xE ⟨[(0,.ref 224 0 0 0),(1,.int .i64 vr6.2.1)],[(8,⟨0,true,true,4,[[.str vr6.1.Key,.str vr6.1.Val,.bool vr6.1.Dead,.int .i64 vr6.1.Seq]]⟩),(24,⟨0,true,true,5,[[.nils,.nils,.nils,.nils,.int .i64 0]]⟩),(184,⟨0,true,true,1,List.map (gA .i64) vr5⟩),(224,⟨0,true,false,5,[[.psl 1 (List.map (tA 4 aA.enc) vr4),.sl 184 0 1 0 vr5.length,.psl 2 (List.map eA.enc vs1.Tree.Keys),.psl 1 (List.map (gA .i64) vs1.Tree.Lose),.int .i64 vs1.Tree.Win]]⟩)],408,[]⟩ ?_
 obtain ⟨e8,he8,h0⟩:=bA h0
 obtain ⟨he8a,he8b,he8c⟩:=vA he8
 refine nA 496 [0,1] (fun _=>none) rfl (fun _ _=>rS (rA he8a (rA he8b he8c))) ?_
 refine xE ⟨[(0,.ref 224 0 0 0),(1,.int .i64 vr6.2.1)],[(8,⟨0,true,true,4,[[.str vr6.1.Key,.str vr6.1.Val,.bool vr6.1.Dead,.int .i64 vr6.1.Seq]]⟩),(24,⟨0,true,true,5,[[.nils,.nils,.nils,.nils,.int .i64 0]]⟩),(184,⟨0,true,true,1,List.map (gA .i64) (vr5.set vr6.2.1.toNat (IntKind.i64.wrap (e8 + 1)))⟩),(224,⟨0,true,false,5,[[.psl 1 (List.map (tA 4 aA.enc) vr4),.sl 184 0 1 0 ((vr5.set vr6.2.1.toNat (IntKind.i64.wrap (e8 + 1))).length),.psl 2 (List.map eA.enc vs1.Tree.Keys),.psl 1 (List.map (gA .i64) vs1.Tree.Lose),.int .i64 vs1.Tree.Win]]⟩)],496,[]⟩ ?_
 obtain ⟨e9,he9,h0⟩:=bA h0
 obtain ⟨he9a,he9b,he9c⟩:=vA he9
 obtain ⟨e10,he10,h0⟩:=bA h0
 obtain ⟨he10a,he10b,he10c⟩:=vA he10
 obtain ⟨vr11,hvr11,h0⟩:=bA h0
 obtain ⟨vr12,hvr12,h0⟩:=bA h0
 refine aH 752 [] (fun | 22=>some (.agg (eA.enc vr11),[]) | 23=>some (.tup [.agg (fB.enc vr12.1),.int .i64 vr12.2.1,.int .i64 vr12.2.2],[]) | _=>none) rfl rfl rfl (fun Kt hK=>by
   try have q0:=jZ hvr11
   try have q1:=zfv hvr12
   exact xD (rA he8a (rA he8b (rA he8c (rA he9a (rA he9b (rA he9c (rA he10a (rA he10b he10c))))))))) ?_
 refine jS (fun _ _=>rS (rA he8a (rA he8b (rA he8c (rA he9a (rA he9b (rA he9c (rA he10a (rA he10b he10c))))))))) ?_
 refine xF ⟨[(2,.ref 8 0 0 0),(3,.int .i64 vr6.2.1),(4,.ref 24 0 0 0),(5,.int .i64 vr6.2.2),(6,.ref 224 0 0 0),(24,.bool (!(decide (vr6.2.2 = 0)))),(28,.ref 224 0 0 0),(29,.int .i64 vr6.2.1),(30,.tup [])],[(8,⟨0,true,true,4,[[.str vr6.1.Key,.str vr6.1.Val,.bool vr6.1.Dead,.int .i64 vr6.1.Seq]]⟩),(24,⟨0,true,true,5,[[.nils,.nils,.nils,.nils,.int .i64 0]]⟩),(184,⟨0,true,true,1,List.map (gA .i64) (vr5.set vr6.2.1.toNat (IntKind.i64.wrap (e8 + 1)))⟩),(224,⟨0,true,false,5,[[.psl 1 (List.map (tA 4 aA.enc) vr4),.sl 184 0 1 0 ((vr5.set vr6.2.1.toNat (IntKind.i64.wrap (e8 + 1))).length),.psl 2 (List.map eA.enc vr12.1.Keys),.psl 1 (List.map (gA .i64) vr12.1.Lose),.int .i64 vr12.1.Win]]⟩)],752,[]⟩ ?_
 refine oC (l':=[]) rfl ?_
 refine mD ?_
 refine cA ?_
 refine xE ⟨[(2,.ref 8 0 0 0),(3,.int .i64 vr6.2.1),(4,.ref 24 0 0 0),(6,.ref 224 0 0 0)],[(8,⟨0,true,true,4,[[.str vr6.1.Key,.str vr6.1.Val,.bool vr6.1.Dead,.int .i64 vr6.1.Seq]]⟩),(24,⟨0,true,true,5,[[.nils,.nils,.nils,.nils,.int .i64 0]]⟩),(184,⟨0,true,true,1,List.map (gA .i64) (vr5.set vr6.2.1.toNat (IntKind.i64.wrap (e8 + 1)))⟩),(224,⟨0,true,false,5,[[.psl 1 (List.map (tA 4 aA.enc) vr4),.sl 184 0 1 0 ((vr5.set vr6.2.1.toNat (IntKind.i64.wrap (e8 + 1))).length),.psl 2 (List.map eA.enc vr12.1.Keys),.psl 1 (List.map (gA .i64) vr12.1.Lose),.int .i64 vr12.1.Win]]⟩)],752,[]⟩ ?_
 refine qC 832 [2,3,4,5] (fun _=>none) rfl rfl rfl (fun _ _=>xD (rA he8a (rA he8b (rA he8c (rA he9a (rA he9b (rA he9c (rA he10a (rA he10b he10c))))))))) ?_
 refine jA ?_
 obtain rfl:=oI h0
 refine lA [] ?_
 exact rJ (rA he8a (rA he8b (rA he8c (rA he9a (rA he9b (rA he9c (rA he10a (rA he10b he10c))))))))
theorem zjq {fu : Nat} {vs1 : lB} {vx2 : aA} {r : Bool × lB × Int} (h0 : bN fu vs1 vx2 = some r) : yA Tryz.prog 90 [.agg (lB.enc vs1),.agg (aA.enc vx2)] (.tup [.bool r.1,.agg (lB.enc r.2.1),.int .i64 r.2.2]) []:=by
 refine dB Tryz.func90 rfl (by decide) rL ?_
 dsimp only [Tryz.f90]
 rw [bN] at h0
 refine xS 40 [2,3,5] ?_
 refine vH 10 rfl ?_
 refine oC (l':=List.range' 0 2++(2::(List.range' 3 7++[]))) rfl ?_
 refine vC 0 2 56 (2::(List.range' 3 7++[])) (fun _=>none) rfl rfl rfl (fun _ _=>rT) ?_
 refine fK rfl rfl rfl rfl rfl Tryz.func119 rfl (by decide) rfl rL ?_
 dsimp only [Tryz.f119]
 refine xE ⟨[(0,.agg [.bool vs1.Some,.str vs1.Last,.bool vs1.Bottom]),(1,.agg [.str vx2.Key,.str vx2.Val,.bool vx2.Dead,.int .i64 vx2.Seq])],[(0,⟨0,true,true,3,[[.bool vs1.Some,.str vs1.Last,.bool vs1.Bottom]]⟩),(8,⟨0,true,true,4,[[.str vx2.Key,.str vx2.Val,.bool vx2.Dead,.int .i64 vx2.Seq]]⟩),(24,⟨0,true,true,3,[[.bool false,.str [],.bool false]]⟩)],56,[]⟩ ?_
 refine xS 96 [2,3,5] ?_
 refine iA ?_
 obtain ⟨vr3,hvr3,h0⟩:=bA h0
 refine nA 120 [2,3,5,7] (fun | 1=>some (.int .i64 vr3,[]) | _=>none) rfl (fun _ _=>rC (zcP hvr3)) ?_
 refine xS 136 [2,3,5,7,13] ?_
 refine xI h0 rfl (fun h0 hb4=>?_) (fun h0 hb4=>?_)
 ·
  refine xS 176 [4,5,6] ?_
  refine jA (mA ?_)
  refine oE (fun _ _=>rT) ?_
  refine xF ⟨[(2,.ref 0 0 0 0),(3,.ref 8 0 0 0),(5,.ref 24 0 0 0),(9,.agg [.bool vs1.Some,.str vs1.Last,.bool vs1.Bottom]),(10,.agg [.str vx2.Key,.str vx2.Val,.bool vx2.Dead,.int .i64 vx2.Seq]),(11,.tup [.nili,.agg [.bool false,.str [],.bool false],.int .i64 vr3])],[(0,⟨0,true,true,3,[[.bool vs1.Some,.str vs1.Last,.bool vs1.Bottom]]⟩),(8,⟨0,true,true,4,[[.str vx2.Key,.str vx2.Val,.bool vx2.Dead,.int .i64 vx2.Seq]]⟩),(24,⟨0,true,true,3,[[.bool false,.str [],.bool false]]⟩)],176,[]⟩ ?_
  refine oC (l':=List.range' 3 7++[]) rfl ?_
  refine vC 3 7 232 [] (fun _=>none) rfl rfl rfl (fun _ _=>rT) ?_
  refine mD ?_
  refine cA ?_
  refine xE ⟨[(5,.ref 24 0 0 0),(6,.int .i64 vr3),(7,.nili)],[(24,⟨0,true,true,3,[[.bool false,.str [],.bool false]]⟩)],232,[]⟩ ?_
  refine xS 280 [4,5,6] ?_
  refine qC 328 [4,5,6] (fun _=>none) rfl rfl rfl (fun _ _=>iF) ?_
  refine jA ?_
  obtain rfl:=oI h0
  exact lA [] rG
 refine oA (cA (iA ?_))
 obtain ⟨vr5,hvr5,h0⟩:=bA h0
 refine nA 160 [2,3,5,8] (fun | 1=>some (.int .i64 vr5,[]) | _=>none) rfl (fun _ _=>rC (zbF hvr5)) ?_
 refine xS 176 [2,3,5,8,19] ?_
 refine xI h0 rfl (fun h0 hb6=>?_) (fun h0 hb6=>?_)
 ·
  refine xS 216 [4,5,6] ?_
  refine jA (mA ?_)
  refine oE (fun _ _=>rT) ?_
  refine xF ⟨[(2,.ref 0 0 0 0),(3,.ref 8 0 0 0),(5,.ref 24 0 0 0),(9,.agg [.bool vs1.Some,.str vs1.Last,.bool vs1.Bottom]),(10,.agg [.str vx2.Key,.str vx2.Val,.bool vx2.Dead,.int .i64 vx2.Seq]),(11,.tup [.nili,.agg [.bool false,.str [],.bool false],.int .i64 vr5])],[(0,⟨0,true,true,3,[[.bool vs1.Some,.str vs1.Last,.bool vs1.Bottom]]⟩),(8,⟨0,true,true,4,[[.str vx2.Key,.str vx2.Val,.bool vx2.Dead,.int .i64 vx2.Seq]]⟩),(24,⟨0,true,true,3,[[.bool false,.str [],.bool false]]⟩)],216,[]⟩ ?_
  refine oC (l':=List.range' 3 7++[]) rfl ?_
  refine vC 3 7 272 [] (fun _=>none) rfl rfl rfl (fun _ _=>rT) ?_
  refine mD ?_
  refine cA ?_
  refine xE ⟨[(5,.ref 24 0 0 0),(6,.int .i64 vr5),(7,.nili)],[(24,⟨0,true,true,3,[[.bool false,.str [],.bool false]]⟩)],272,[]⟩ ?_
  refine xS 320 [4,5,6] ?_
  refine qC 368 [4,5,6] (fun _=>none) rfl rfl rfl (fun _ _=>iF) ?_
  refine jA ?_
  obtain rfl:=oI h0
  exact lA [] rG
 refine oA (cA (iA ?_))
 obtain ⟨b7,hb7,h0⟩:=bA h0
 refine jC (fr':=[(2,.ref 56 0 0 0),(3,.ref 64 0 0 0),(5,.ref 80 0 0 0),(30,.bool b7)]) (hp':=[(0,⟨0,true,true,3,[[.bool vs1.Some,.str vs1.Last,.bool vs1.Bottom]]⟩),(8,⟨0,true,true,4,[[.str vx2.Key,.str vx2.Val,.bool vx2.Dead,.int .i64 vx2.Seq]]⟩),(24,⟨0,true,true,3,[[.bool false,.str [],.bool false]]⟩),(56,⟨0,true,true,3,[[.bool vs1.Some,.str vs1.Last,.bool vs1.Bottom]]⟩),(64,⟨0,true,true,4,[[.str vx2.Key,.str vx2.Val,.bool vx2.Dead,.int .i64 vx2.Seq]]⟩),(80,⟨0,true,true,3,[[.bool false,.str [],.bool false]]⟩)]) [0,8,24,56,64,80] 248 [2,3,5,30] (fun _=>none) rfl (fun Kt hK=>by
   cases hg8 : vs1.Some with
   | false =>
    replace hb7:=sA hb7 hg8
    have hqb7:=oI hb7
    subst hqb7
    exact rW hg8 hK
   | true =>
    replace hb7:=zA hb7 hg8
    have hqb7:=oI hb7
    subst hqb7
    exact rW hg8 hK) ?_
 refine xI h0 rfl (fun h0 hb9=>?_) (fun h0 hb9=>?_)
 ·
  refine xS 280 [4,5,6] ?_
  refine jA (mA ?_)
  refine oE (fun _ _=>rT) ?_
  refine xF ⟨[(2,.ref 0 0 0 0),(3,.ref 8 0 0 0),(5,.ref 24 0 0 0),(9,.agg [.bool vs1.Some,.str vs1.Last,.bool vs1.Bottom]),(10,.agg [.str vx2.Key,.str vx2.Val,.bool vx2.Dead,.int .i64 vx2.Seq]),(11,.tup [.nili,.agg [.bool false,.str [],.bool false],.int .i64 6])],[(0,⟨0,true,true,3,[[.bool vs1.Some,.str vs1.Last,.bool vs1.Bottom]]⟩),(8,⟨0,true,true,4,[[.str vx2.Key,.str vx2.Val,.bool vx2.Dead,.int .i64 vx2.Seq]]⟩),(24,⟨0,true,true,3,[[.bool false,.str [],.bool false]]⟩)],280,[]⟩ ?_
  refine oC (l':=List.range' 3 7++[]) rfl ?_
  refine vC 3 7 336 [] (fun _=>none) rfl rfl rfl (fun _ _=>rT) ?_
  refine mD ?_
  refine cA ?_
  refine xE ⟨[(5,.ref 24 0 0 0),(6,.int .i64 6),(7,.nili)],[(24,⟨0,true,true,3,[[.bool false,.str [],.bool false]]⟩)],336,[]⟩ ?_
  refine xS 384 [4,5,6] ?_
  refine qC 432 [4,5,6] (fun _=>none) rfl rfl rfl (fun _ _=>iF) ?_
  refine jA ?_
  obtain rfl:=oI h0
  exact lA [] rG
 refine oA (cA ?_)
 refine xS 304 [2,3,5,9] ?_
 refine iA (vB ?_)
 obtain ⟨b10,hb10,h0⟩:=bA h0
 refine jC (fr':=[(2,.ref 56 0 0 0),(3,.ref 64 0 0 0),(5,.ref 80 0 0 0),(9,.ref 288 0 0 0),(37,.bool b10)]) (hp':=[(0,⟨0,true,true,3,[[.bool vs1.Some,.str vs1.Last,.bool vs1.Bottom]]⟩),(8,⟨0,true,true,4,[[.str vx2.Key,.str vx2.Val,.bool vx2.Dead,.int .i64 vx2.Seq]]⟩),(24,⟨0,true,true,3,[[.bool false,.str [],.bool false]]⟩),(56,⟨0,true,true,3,[[.bool vs1.Some,.str vs1.Last,.bool vs1.Bottom]]⟩),(64,⟨0,true,true,4,[[.str vx2.Key,.str vx2.Val,.bool vx2.Dead,.int .i64 vx2.Seq]]⟩),(80,⟨0,true,true,3,[[.bool false,.str [],.bool false]]⟩),(288,⟨0,true,true,3,[[.bool true,.str vx2.Key,.bool vs1.Bottom]]⟩)]) [0,8,24,56,64,80,288] 384 [2,3,5,9,37] (fun _=>none) rfl (fun Kt hK=>by
   cases hg11 : vs1.Some with
   | false =>
    replace hb10:=sA hb10 hg11
    have hqb10:=oI hb10
    subst hqb10
    exact rW hg11 hK
   | true =>
    replace hb10:=zA hb10 hg11
    have hqb10:=oI hb10
    subst hqb10
    exact rW hg11 hK) ?_
 refine xI h0 rfl (fun h0 hb12=>?_) (fun h0 hb12=>?_)
 ·
  refine qC 432 [4,5,6] (fun _=>none) rfl rfl rfl (fun _ _=>iF) ?_
  refine jA (zB (mA ?_))
  refine oE (fun _ _=>rT) ?_
  refine xF ⟨[(2,.ref 0 0 0 0),(3,.ref 8 0 0 0),(5,.ref 24 0 0 0),(9,.agg [.bool vs1.Some,.str vs1.Last,.bool vs1.Bottom]),(10,.agg [.str vx2.Key,.str vx2.Val,.bool vx2.Dead,.int .i64 vx2.Seq]),(11,.tup [.iface 181 (.agg [.str vx2.Key,.str vx2.Val,.bool vx2.Dead,.int .i64 vx2.Seq]),.agg [.bool true,.str vx2.Key,.bool vs1.Bottom],.int .i64 0])],[(0,⟨0,true,true,3,[[.bool vs1.Some,.str vs1.Last,.bool vs1.Bottom]]⟩),(8,⟨0,true,true,4,[[.str vx2.Key,.str vx2.Val,.bool vx2.Dead,.int .i64 vx2.Seq]]⟩),(24,⟨0,true,true,3,[[.bool false,.str [],.bool false]]⟩)],432,[]⟩ ?_
  refine oC (l':=List.range' 3 7++[]) rfl ?_
  refine vC 3 7 488 [] (fun _=>none) rfl rfl rfl (fun _ _=>rT) ?_
  refine mD ?_
  refine cA ?_
  refine xE ⟨[(5,.ref 24 0 0 0),(6,.int .i64 0),(7,.iface 181 (.agg [.str vx2.Key,.str vx2.Val,.bool vx2.Dead,.int .i64 vx2.Seq]))],[(24,⟨0,true,true,3,[[.bool true,.str vx2.Key,.bool vs1.Bottom]]⟩)],488,[]⟩ ?_
  refine xS 536 [4,5,6] ?_
  refine qC 584 [4,5,6] (fun _=>none) rfl rfl rfl (fun _ _=>iF) ?_
  refine jA ?_
  obtain rfl:=oI h0
  exact lA [] rG
 obtain ⟨b13,hb13,h0⟩:=bA h0
 refine jC (fr':=[(3,.ref 64 0 0 0),(5,.ref 80 0 0 0),(9,.ref 288 0 0 0),(50,.bool b13)]) (hp':=[(0,⟨0,true,true,3,[[.bool vs1.Some,.str vs1.Last,.bool vs1.Bottom]]⟩),(8,⟨0,true,true,4,[[.str vx2.Key,.str vx2.Val,.bool vx2.Dead,.int .i64 vx2.Seq]]⟩),(24,⟨0,true,true,3,[[.bool false,.str [],.bool false]]⟩),(56,⟨0,true,true,3,[[.bool vs1.Some,.str vs1.Last,.bool vs1.Bottom]]⟩),(64,⟨0,true,true,4,[[.str vx2.Key,.str vx2.Val,.bool vx2.Dead,.int .i64 vx2.Seq]]⟩),(80,⟨0,true,true,3,[[.bool false,.str [],.bool false]]⟩),(288,⟨0,true,true,3,[[.bool true,.str vx2.Key,.bool vs1.Bottom]]⟩)]) [0,8,24,56,64,80,288] 440 [3,5,9,50] (fun _=>none) rfl (fun Kt hK=>by
   cases hg14 : vs1.Bottom with
   | false =>
    replace hb13:=sA hb13 hg14
    have hqb13:=oI hb13
    subst hqb13
    exact rW hg14 hK
   | true =>
    replace hb13:=zA hb13 hg14
    have hqb13:=oI hb13
    subst hqb13
    exact rW hg14 hK) ?_
 refine xI h0 rfl (fun h0 hb15=>?_) (fun h0 hb15=>?_)
 ·
  refine qC 488 [4,5,6] (fun _=>none) rfl rfl rfl (fun _ _=>iF) ?_
  refine jA (zB (mA ?_))
  refine oE (fun _ _=>rT) ?_
  refine xF ⟨[(2,.ref 0 0 0 0),(3,.ref 8 0 0 0),(5,.ref 24 0 0 0),(9,.agg [.bool vs1.Some,.str vs1.Last,.bool vs1.Bottom]),(10,.agg [.str vx2.Key,.str vx2.Val,.bool vx2.Dead,.int .i64 vx2.Seq]),(11,.tup [.iface 182 (.agg [.str vx2.Key,.str vx2.Val,.bool vx2.Dead,.int .i64 vx2.Seq]),.agg [.bool true,.str vx2.Key,.bool vs1.Bottom],.int .i64 0])],[(0,⟨0,true,true,3,[[.bool vs1.Some,.str vs1.Last,.bool vs1.Bottom]]⟩),(8,⟨0,true,true,4,[[.str vx2.Key,.str vx2.Val,.bool vx2.Dead,.int .i64 vx2.Seq]]⟩),(24,⟨0,true,true,3,[[.bool false,.str [],.bool false]]⟩)],488,[]⟩ ?_
  refine oC (l':=List.range' 3 7++[]) rfl ?_
  refine vC 3 7 544 [] (fun _=>none) rfl rfl rfl (fun _ _=>rT) ?_
  refine mD ?_
  refine cA ?_
  refine xE ⟨[(5,.ref 24 0 0 0),(6,.int .i64 0),(7,.iface 182 (.agg [.str vx2.Key,.str vx2.Val,.bool vx2.Dead,.int .i64 vx2.Seq]))],[(24,⟨0,true,true,3,[[.bool true,.str vx2.Key,.bool vs1.Bottom]]⟩)],544,[]⟩ ?_
  refine xS 592 [4,5,6] ?_
  refine qC 640 [4,5,6] (fun _=>none) rfl rfl rfl (fun _ _=>iF) ?_
  refine jA ?_
  obtain rfl:=oI h0
  exact lA [] rG
 refine oA (pB (cA ?_))
 refine qC 488 [4,5,6] (fun _=>none) rfl rfl rfl (fun _ _=>iF) ?_
 refine jA ?_
 refine oE (fun _ _=>rT) ?_
 refine xF ⟨[(2,.ref 0 0 0 0),(3,.ref 8 0 0 0),(5,.ref 24 0 0 0),(9,.agg [.bool vs1.Some,.str vs1.Last,.bool vs1.Bottom]),(10,.agg [.str vx2.Key,.str vx2.Val,.bool vx2.Dead,.int .i64 vx2.Seq]),(11,.tup [.iface 157 (.agg [.str vx2.Key,.str vx2.Val,.bool vx2.Dead,.int .i64 vx2.Seq]),.agg [.bool true,.str vx2.Key,.bool vs1.Bottom],.int .i64 0])],[(0,⟨0,true,true,3,[[.bool vs1.Some,.str vs1.Last,.bool vs1.Bottom]]⟩),(8,⟨0,true,true,4,[[.str vx2.Key,.str vx2.Val,.bool vx2.Dead,.int .i64 vx2.Seq]]⟩),(24,⟨0,true,true,3,[[.bool false,.str [],.bool false]]⟩)],488,[]⟩ ?_
 refine oC (l':=List.range' 3 7++[]) rfl ?_
 refine vC 3 7 544 [] (fun _=>none) rfl rfl rfl (fun _ _=>rT) ?_
 refine mD ?_
 refine cA ?_
 refine xE ⟨[(5,.ref 24 0 0 0),(6,.int .i64 0),(7,.iface 157 (.agg [.str vx2.Key,.str vx2.Val,.bool vx2.Dead,.int .i64 vx2.Seq]))],[(24,⟨0,true,true,3,[[.bool true,.str vx2.Key,.bool vs1.Bottom]]⟩)],544,[]⟩ ?_
 refine xS 592 [4,5,6] ?_
 refine qC 640 [4,5,6] (fun _=>none) rfl rfl rfl (fun _ _=>iF) ?_
 refine jA ?_
 obtain rfl:=oI h0
 exact lA [] rG
theorem zeS {fu : Nat} {vs1 : mB} {n2 : Int} {r : mB × Int × Int} (h0 : tP fu vs1 n2 = some r) : yA Tryz.prog 31 [.agg (mB.enc vs1),.int .i64 n2] (.tup [.agg (mB.enc r.1),.int .i64 r.2.1,.int .i64 r.2.2]) []:=by
 refine dB Tryz.func31 rfl (by decide) rL ?_
 dsimp only [Tryz.f31]
 rw [tP] at h0
 refine xS 32 [1,2,4] ?_
 obtain ⟨vr3,hvr3,h0⟩:=bA h0
 refine nA 88 [1,2,4,6,7] (fun | 1=>some (.tup [.int .i64 vr3.1,.int .i64 vr3.2],[]) | _=>none) rfl (fun _ _=>rC (sY hvr3)) ?_
 refine iA (vB ?_)
 refine xS 112 [1,2,4,6,7,15] ?_
 refine xI h0 rfl (fun h0 hb4=>?_) (fun h0 hb4=>?_)
 ·
  refine xS 152 [4,5,6] ?_
  refine jA (zB (mA ?_))
  obtain rfl:=oI h0
  exact lA [] rG
 refine xS 136 [1,2,4,7,20] ?_
 refine xI h0 rfl (fun h0 hb5=>?_) (fun h0 hb5=>?_)
 ·
  refine xS 168 [4,5,6] ?_
  refine jA (zB (mA ?_))
  obtain rfl:=oI h0
  exact lA [] rG
 refine oA (pB (cA ?_))
 refine xS 168 [2,4,5] ?_
 refine iA ?_
 refine xS 208 [2,4,5,31] ?_
 refine xI h0 rfl (fun h0 hb6=>?_) (fun h0 hb6=>?_)
 ·
  refine xS 240 [4,5,6] ?_
  refine jA (mA ?_)
  obtain rfl:=oI h0
  exact lA [] rG
 refine oA (cA ?_)
 refine xS 240 [2,4,5,8] ?_
 obtain ⟨hc7,h0⟩:=pD h0
 refine xS 288 [2,4,5,8] ?_
 refine xE ⟨[(2,.ref 0 0 0 0),(4,.ref 8 0 0 0),(5,.int .i64 (if vr3.1 < n2 then vr3.1 else n2)),(8,.ref 224 0 0 0)],[(0,⟨0,true,true,10,[[.psl 1 (List.map (tA 4 aA.enc) vs1.Merge.Runs),.psl 1 (List.map (gA .i64) vs1.Merge.At),.psl 2 (List.map eA.enc vs1.Merge.Tree.Keys),.psl 1 (List.map (gA .i64) vs1.Merge.Tree.Lose),.int .i64 vs1.Merge.Tree.Win,.bool vs1.Shadow.Some,.str vs1.Shadow.Last,.bool vs1.Shadow.Bottom,.psl 4 (List.map aA.enc vs1.Out),.int .i64 vs1.Steps]]⟩),(8,⟨0,true,true,10,[[.nils,.nils,.nils,.nils,.int .i64 0,.bool false,.str [],.bool false,.nils,.int .i64 0]]⟩),(224,⟨0,true,false,10,[[.psl 1 (List.map (tA 4 aA.enc) vs1.Merge.Runs),.psl 1 (List.map (gA .i64) vs1.Merge.At),.psl 2 (List.map eA.enc vs1.Merge.Tree.Keys),.psl 1 (List.map (gA .i64) vs1.Merge.Tree.Lose),.int .i64 vs1.Merge.Tree.Win,.bool vs1.Shadow.Some,.str vs1.Shadow.Last,.bool vs1.Shadow.Bottom,.sl 256 0 4 0 vs1.Out.length,.int .i64 vs1.Steps]]⟩),(256,⟨0,true,true,4,List.map aA.enc vs1.Out⟩)],288,[]⟩ ?_
 obtain ⟨hc8,h0⟩:=pD h0
 refine xS 352 [4,5,8] ?_
 refine xE ⟨[(4,.ref 8 0 0 0),(5,.int .i64 (if vr3.1 < n2 then vr3.1 else n2)),(8,.ref 224 0 0 0)],[(8,⟨0,true,true,10,[[.nils,.nils,.nils,.nils,.int .i64 0,.bool false,.str [],.bool false,.nils,.int .i64 0]]⟩),(224,⟨0,true,false,10,[[.psl 1 (List.map (tA 4 aA.enc) vs1.Merge.Runs),.sl 312 0 1 0 vs1.Merge.At.length,.psl 2 (List.map eA.enc vs1.Merge.Tree.Keys),.psl 1 (List.map (gA .i64) vs1.Merge.Tree.Lose),.int .i64 vs1.Merge.Tree.Win,.bool vs1.Shadow.Some,.str vs1.Shadow.Last,.bool vs1.Shadow.Bottom,.sl 256 0 4 0 vs1.Out.length,.int .i64 vs1.Steps]]⟩),(256,⟨0,true,true,4,List.map aA.enc vs1.Out⟩),(312,⟨0,true,true,1,List.map (gA .i64) vs1.Merge.At⟩)],352,[]⟩ ?_
 refine iA ?_
 refine vH 4 rfl ?_
 refine oC (l':=List.range' 0 2++(2::(List.range' 3 1++[]))) rfl ?_
 refine vC 0 2 368 (2::(List.range' 3 1++[])) (fun _=>none) rfl rfl rfl (fun _ _=>rT) ?_
 refine fK rfl rfl rfl rfl rfl Tryz.func58 rfl (by decide) rfl rL ?_
 dsimp only [Tryz.f58]
 refine xE ⟨[(0,.int .i64 (if vr3.1 < n2 then vr3.1 else n2)),(1,.fn 59 [.ref 224 0 0 0] [])],[(8,⟨0,true,true,10,[[.nils,.nils,.nils,.nils,.int .i64 0,.bool false,.str [],.bool false,.nils,.int .i64 0]]⟩),(224,⟨0,true,false,10,[[.psl 1 (List.map (tA 4 aA.enc) vs1.Merge.Runs),.sl 312 0 1 0 vs1.Merge.At.length,.psl 2 (List.map eA.enc vs1.Merge.Tree.Keys),.psl 1 (List.map (gA .i64) vs1.Merge.Tree.Lose),.int .i64 vs1.Merge.Tree.Win,.bool vs1.Shadow.Some,.str vs1.Shadow.Last,.bool vs1.Shadow.Bottom,.sl 256 0 4 0 vs1.Out.length,.int .i64 vs1.Steps]]⟩),(256,⟨0,true,true,4,List.map aA.enc vs1.Out⟩),(312,⟨0,true,true,1,List.map (gA .i64) vs1.Merge.At⟩)],368,[]⟩ ?_
 refine xS 376 [0,1] ?_
 refine iA ?_
 refine xS 392 [1,6,7] ?_
 refine zdQ [312] (fun Kt hK=>by simp only [↓reduceIte,reduceCtorEq,Nat.reduceEqDiff,Nat.reduceLT,Nat.reduceLeDiff,Nat.reduceAdd,Nat.reduceMul,Int.reduceToNat,Nat.reduceBEq,push_cast]; exact hK) ?_
 refine xE ⟨[(1,.fn 59 [.ref 224 0 0 0] []),(6,.int .i64 (if vr3.1 < n2 then vr3.1 else n2)),(7,.int .i64 0)],[(8,⟨0,true,true,10,[[.nils,.nils,.nils,.nils,.int .i64 0,.bool false,.str [],.bool false,.nils,.int .i64 0]]⟩),(224,⟨0,true,false,10,[[.psl 1 (List.map (tA 4 aA.enc) vs1.Merge.Runs),.psl 1 (List.map (gA .i64) vs1.Merge.At),.psl 2 (List.map eA.enc vs1.Merge.Tree.Keys),.psl 1 (List.map (gA .i64) vs1.Merge.Tree.Lose),.int .i64 vs1.Merge.Tree.Win,.bool vs1.Shadow.Some,.str vs1.Shadow.Last,.bool vs1.Shadow.Bottom,.sl 256 0 4 0 vs1.Out.length,.int .i64 vs1.Steps]]⟩),(256,⟨0,true,true,4,List.map aA.enc vs1.Out⟩),(312,⟨0,false,true,1,List.map (gA .i64) vs1.Merge.At⟩)],392,[]⟩ ?_
 obtain ⟨x42,hxx42,h0⟩:=bA h0
 refine pC (fun s'=>∃ o62 : List (List aA) × List Int × List eA × List Int × Int × Bool × List UInt8 × Bool × Int × List aA,∃ g63 : Nat,x42 = .inl o62 ∧ s'.nx ≤ 400 ∧ LeN [] s' ⟨[],[(8,⟨0,true,true,10,[[.nils,.nils,.nils,.nils,.int .i64 0,.bool false,.str [],.bool false,.nils,.int .i64 0]]⟩),(224,⟨0,true,false,10,[[.psl 1 (List.map (tA 4 aA.enc) o62.1),.psl 1 (List.map (gA .i64) o62.2.1),.psl 2 (List.map eA.enc o62.2.2.1),.psl 1 (List.map (gA .i64) o62.2.2.2.1),.int .i64 o62.2.2.2.2.1,.bool o62.2.2.2.2.2.1,.str o62.2.2.2.2.2.2.1,.bool o62.2.2.2.2.2.2.2.1,.sl 256 g63 4 0 o62.2.2.2.2.2.2.2.2.2.length,.int .i64 o62.2.2.2.2.2.2.2.2.1]]⟩),(256,⟨g63,true,true,4,List.map aA.enc o62.2.2.2.2.2.2.2.2.2⟩),(312,⟨0,false,true,1,List.map (gA .i64) vs1.Merge.At⟩)],400,[]⟩) ?_ ?_
 ·
  intro s' hs
  obtain ⟨o62,g63,rfl,hn,hs⟩:=hs
  refine cA ?_
  refine oB [] hn hs ?_
  refine xS 408 [4] ?_
  refine jA ?_
  refine oE (fun _ _=>rT) ?_
  refine xF ⟨[(4,.ref 8 0 0 0),(5,.int .i64 (if vr3.1 < n2 then vr3.1 else n2)),(8,.ref 224 0 0 0),(47,.int .i64 (if vr3.1 < n2 then vr3.1 else n2)),(48,.fn 59 [.ref 224 0 0 0] []),(49,.int .i64 0)],[(8,⟨0,true,true,10,[[.nils,.nils,.nils,.nils,.int .i64 0,.bool false,.str [],.bool false,.nils,.int .i64 0]]⟩),(224,⟨0,true,false,10,[[.psl 1 (List.map (tA 4 aA.enc) o62.1),.psl 1 (List.map (gA .i64) o62.2.1),.psl 2 (List.map eA.enc o62.2.2.1),.psl 1 (List.map (gA .i64) o62.2.2.2.1),.int .i64 o62.2.2.2.2.1,.bool o62.2.2.2.2.2.1,.str o62.2.2.2.2.2.2.1,.bool o62.2.2.2.2.2.2.2.1,.sl 256 g63 4 0 o62.2.2.2.2.2.2.2.2.2.length,.int .i64 o62.2.2.2.2.2.2.2.2.1]]⟩),(256,⟨g63,true,true,4,List.map aA.enc o62.2.2.2.2.2.2.2.2.2⟩)],408,[]⟩ ?_
  refine oC (l':=List.range' 3 1++[]) rfl ?_
  refine vC 3 1 416 [] (fun _=>none) rfl rfl rfl (fun _ _=>rT) ?_
  refine mD ?_
  refine cA ?_
  refine xE ⟨[(4,.ref 8 0 0 0),(5,.int .i64 (if vr3.1 < n2 then vr3.1 else n2)),(8,.ref 224 0 0 0),(9,.int .i64 0)],[(8,⟨0,true,true,10,[[.nils,.nils,.nils,.nils,.int .i64 0,.bool false,.str [],.bool false,.nils,.int .i64 0]]⟩),(224,⟨0,true,false,10,[[.psl 1 (List.map (tA 4 aA.enc) o62.1),.psl 1 (List.map (gA .i64) o62.2.1),.psl 2 (List.map eA.enc o62.2.2.1),.psl 1 (List.map (gA .i64) o62.2.2.2.1),.int .i64 o62.2.2.2.2.1,.bool o62.2.2.2.2.2.1,.str o62.2.2.2.2.2.2.1,.bool o62.2.2.2.2.2.2.2.1,.sl 256 g63 4 0 o62.2.2.2.2.2.2.2.2.2.length,.int .i64 o62.2.2.2.2.2.2.2.2.1]]⟩),(256,⟨g63,true,true,4,List.map aA.enc o62.2.2.2.2.2.2.2.2.2⟩)],416,[]⟩ ?_
  refine xS 432 [4,5,8,9,51] ?_
  refine pF rfl ?_
  refine oA (cA ?_)
  refine xS 480 [4,5,6] ?_
  refine jA ?_
  obtain rfl:=oI h0
  exact lA [] rG
 refine lC (ι:={ p : Nat × Int × List (List aA) × List Int × List eA × List Int × Int × Bool × List UInt8 × Bool × Int × List aA × Nat // xH vr3 n2 p.1 p.2.1 p.2.2.1 p.2.2.2.1 p.2.2.2.2.1 p.2.2.2.2.2.1 p.2.2.2.2.2.2.1 p.2.2.2.2.2.2.2.1 p.2.2.2.2.2.2.2.2.1 p.2.2.2.2.2.2.2.2.2.1 p.2.2.2.2.2.2.2.2.2.2.1 p.2.2.2.2.2.2.2.2.2.2.2.1 = some x42 }) (fun p=>⟨[(1,.fn 59 [.ref 224 0 0 0] []),(6,.int .i64 (if vr3.1 < n2 then vr3.1 else n2)),(7,.int .i64 p.1.2.1)],[(8,⟨0,true,true,10,[[.nils,.nils,.nils,.nils,.int .i64 0,.bool false,.str [],.bool false,.nils,.int .i64 0]]⟩),(224,⟨0,true,false,10,[[.psl 1 (List.map (tA 4 aA.enc) p.1.2.2.1),.psl 1 (List.map (gA .i64) p.1.2.2.2.1),.psl 2 (List.map eA.enc p.1.2.2.2.2.1),.psl 1 (List.map (gA .i64) p.1.2.2.2.2.2.1),.int .i64 p.1.2.2.2.2.2.2.1,.bool p.1.2.2.2.2.2.2.2.1,.str p.1.2.2.2.2.2.2.2.2.1,.bool p.1.2.2.2.2.2.2.2.2.2.1,.sl 256 p.1.2.2.2.2.2.2.2.2.2.2.2.2 4 0 p.1.2.2.2.2.2.2.2.2.2.2.2.1.length,.int .i64 p.1.2.2.2.2.2.2.2.2.2.2.1]]⟩),(256,⟨p.1.2.2.2.2.2.2.2.2.2.2.2.2,true,true,4,List.map aA.enc p.1.2.2.2.2.2.2.2.2.2.2.2.1⟩),(312,⟨0,false,true,1,List.map (gA .i64) vs1.Merge.At⟩)],392,[]⟩) (fun p=>p.1.1) ⟨(fu,0,vs1.Merge.Runs,vs1.Merge.At,vs1.Merge.Tree.Keys,vs1.Merge.Tree.Lose,vs1.Merge.Tree.Win,vs1.Shadow.Some,vs1.Shadow.Last,vs1.Shadow.Bottom,vs1.Steps,vs1.Out,0),hxx42⟩ ⟨rF,rE,rfl,rfl,trivial,trivial⟩ (fun _=>Nat.le_refl _) ?_
 rintro ⟨⟨fu,left43,v44,v45,v46,v47,v48,v49,v50,v51,v52,v53,g54⟩,h1⟩
 cases fu with
 | zero =>
  replace h1 : xH vr3 n2 0 left43 v44 v45 v46 v47 v48 v49 v50 v51 v52 v53 = some x42:=h1
  rw [xH] at h1; cases h1
 | succ fu =>
  replace h1 : xH vr3 n2 (fu + 1) left43 v44 v45 v46 v47 v48 v49 v50 v51 v52 v53 = some x42:=h1
  rw [xH] at h1
  dsimp only
  refine xS 400 [1,6,7,8] ?_
  refine iA ?_
  refine xI h1 rfl (fun h1 hb55=>?_) (fun h1 hb55=>?_)
  ·
   refine oA (cA (iA (vB ?_)))
   refine vH 3 rfl ?_
   refine oC (l':=List.range' 0 1++(1::(List.range' 2 1++[]))) rfl ?_
   refine vC 0 1 408 (1::(List.range' 2 1++[])) (fun _=>none) rfl rfl rfl (fun _ _=>rT) ?_
   refine fK rfl rfl rfl rfl rfl Tryz.func59 rfl (by decide) rfl rL ?_
   dsimp only [Tryz.f59]
   refine xE ⟨[(0,.ref 224 0 0 0)],[(8,⟨0,true,true,10,[[.nils,.nils,.nils,.nils,.int .i64 0,.bool false,.str [],.bool false,.nils,.int .i64 0]]⟩),(224,⟨0,true,false,10,[[.psl 1 (List.map (tA 4 aA.enc) v44),.psl 1 (List.map (gA .i64) v45),.psl 2 (List.map eA.enc v46),.psl 1 (List.map (gA .i64) v47),.int .i64 v48,.bool v49,.str v50,.bool v51,.sl 256 g54 4 0 v53.length,.int .i64 v52]]⟩),(256,⟨g54,true,true,4,List.map aA.enc v53⟩),(312,⟨0,false,true,1,List.map (gA .i64) vs1.Merge.At⟩)],408,[]⟩ ?_
   refine xS 416 [0] ?_
   obtain ⟨vr56,hvr56,h1⟩:=bA h1
   refine nA 552 [0,3,5,6] (fun | 5=>some (.tup [.agg (aA.enc vr56.1),.int .i64 vr56.2.1,.agg (iB.enc vr56.2.2.1),.int .i64 vr56.2.2.2],[]) | _=>none) rfl (fun _ _=>rC (zf6 hvr56)) ?_
   refine iA ?_
   refine xS 568 [0,3,5,6,21] ?_
   refine xI h1 rfl (fun h1 hb57=>?_) (fun h1 hb57=>?_)
   ·
    refine xS 584 [2] ?_
    refine jA (mA ?_)
    refine oE (fun _ _=>rT) ?_
    refine xF ⟨[(1,.fn 59 [.ref 224 0 0 0] []),(6,.int .i64 (if vr3.1 < n2 then vr3.1 else n2)),(7,.int .i64 left43),(8,.bool (decide (left43 < (if vr3.1 < n2 then vr3.1 else n2)))),(9,.fn 59 [.ref 224 0 0 0] []),(10,.int .i64 vr56.2.2.2)],[(8,⟨0,true,true,10,[[.nils,.nils,.nils,.nils,.int .i64 0,.bool false,.str [],.bool false,.nils,.int .i64 0]]⟩),(224,⟨0,true,false,10,[[.psl 1 (List.map (tA 4 aA.enc) v44),.psl 1 (List.map (gA .i64) v45),.psl 2 (List.map eA.enc v46),.psl 1 (List.map (gA .i64) v47),.int .i64 v48,.bool v49,.str v50,.bool v51,.sl 256 g54 4 0 v53.length,.int .i64 v52]]⟩),(256,⟨g54,true,true,4,List.map aA.enc v53⟩),(312,⟨0,false,true,1,List.map (gA .i64) vs1.Merge.At⟩)],584,[]⟩ ?_
    refine oC (l':=List.range' 2 1++[]) rfl ?_
    refine vC 2 1 592 [] (fun _=>none) rfl rfl rfl (fun _ _=>rT) ?_
    refine mD ?_
    refine cA ?_
    refine xE ⟨[(1,.fn 59 [.ref 224 0 0 0] []),(5,.int .i64 vr56.2.2.2),(6,.int .i64 (if vr3.1 < n2 then vr3.1 else n2)),(7,.int .i64 left43)],[(8,⟨0,true,true,10,[[.nils,.nils,.nils,.nils,.int .i64 0,.bool false,.str [],.bool false,.nils,.int .i64 0]]⟩),(224,⟨0,true,false,10,[[.psl 1 (List.map (tA 4 aA.enc) v44),.psl 1 (List.map (gA .i64) v45),.psl 2 (List.map eA.enc v46),.psl 1 (List.map (gA .i64) v47),.int .i64 v48,.bool v49,.str v50,.bool v51,.sl 256 g54 4 0 v53.length,.int .i64 v52]]⟩),(256,⟨g54,true,true,4,List.map aA.enc v53⟩),(312,⟨0,false,true,1,List.map (gA .i64) vs1.Merge.At⟩)],592,[]⟩ ?_
    refine xS 608 [1,5,6,7,12] ?_
    refine gP rfl hb57 ?_
    refine xS 624 [4] ?_
    refine jA ?_
    obtain rfl:=oI h1
    refine zB (mA (mA (xC (mA ?_))))
    refine oE (fun _ _=>rT) ?_
    refine xF ⟨[(4,.ref 8 0 0 0),(5,.int .i64 (if vr3.1 < n2 then vr3.1 else n2)),(8,.ref 224 0 0 0),(47,.int .i64 (if vr3.1 < n2 then vr3.1 else n2)),(48,.fn 59 [.ref 224 0 0 0] []),(49,.int .i64 vr56.2.2.2)],[(8,⟨0,true,true,10,[[.nils,.nils,.nils,.nils,.int .i64 0,.bool false,.str [],.bool false,.nils,.int .i64 0]]⟩),(224,⟨0,true,false,10,[[.psl 1 (List.map (tA 4 aA.enc) v44),.psl 1 (List.map (gA .i64) v45),.psl 2 (List.map eA.enc v46),.psl 1 (List.map (gA .i64) v47),.int .i64 v48,.bool v49,.str v50,.bool v51,.sl 256 g54 4 0 v53.length,.int .i64 v52]]⟩),(256,⟨g54,true,true,4,List.map aA.enc v53⟩)],624,[]⟩ ?_
    refine oC (l':=List.range' 3 1++[]) rfl ?_
    refine vC 3 1 632 [] (fun _=>none) rfl rfl rfl (fun _ _=>rT) ?_
    refine mD ?_
    refine cA ?_
    refine xE ⟨[(4,.ref 8 0 0 0),(5,.int .i64 (if vr3.1 < n2 then vr3.1 else n2)),(8,.ref 224 0 0 0),(9,.int .i64 vr56.2.2.2)],[(8,⟨0,true,true,10,[[.nils,.nils,.nils,.nils,.int .i64 0,.bool false,.str [],.bool false,.nils,.int .i64 0]]⟩),(224,⟨0,true,false,10,[[.psl 1 (List.map (tA 4 aA.enc) v44),.psl 1 (List.map (gA .i64) v45),.psl 2 (List.map eA.enc v46),.psl 1 (List.map (gA .i64) v47),.int .i64 v48,.bool v49,.str v50,.bool v51,.sl 256 g54 4 0 v53.length,.int .i64 v52]]⟩),(256,⟨g54,true,true,4,List.map aA.enc v53⟩)],632,[]⟩ ?_
    refine xS 648 [4,5,8,9,51] ?_
    refine gP rfl hb57 ?_
    refine xS 688 [4,5,6] ?_
    refine jA (mA ?_)
    obtain rfl:=oI h0
    exact lA [] rG
   refine oA (cA ?_)
   obtain ⟨vr58,hvr58,h1⟩:=bA h1
   refine qC 688 [0,3,5,6,7,8] (fun | 6=>some (.tup [.bool vr58.1,.agg (lB.enc vr58.2.1),.int .i64 vr58.2.2],[]) | _=>none) rfl rfl rfl (fun _ _=>hO (zjq hvr58)) ?_
   refine iA ?_
   refine xS 704 [0,3,5,6,7,8,35] ?_
   refine xI h1 rfl (fun h1 hb59=>?_) (fun h1 hb59=>?_)
   ·
    refine xS 720 [2] ?_
    refine jA (mA ?_)
    refine oE (fun _ _=>rT) ?_
    refine xF ⟨[(1,.fn 59 [.ref 224 0 0 0] []),(6,.int .i64 (if vr3.1 < n2 then vr3.1 else n2)),(7,.int .i64 left43),(8,.bool (decide (left43 < (if vr3.1 < n2 then vr3.1 else n2)))),(9,.fn 59 [.ref 224 0 0 0] []),(10,.int .i64 vr58.2.2)],[(8,⟨0,true,true,10,[[.nils,.nils,.nils,.nils,.int .i64 0,.bool false,.str [],.bool false,.nils,.int .i64 0]]⟩),(224,⟨0,true,false,10,[[.psl 1 (List.map (tA 4 aA.enc) v44),.psl 1 (List.map (gA .i64) v45),.psl 2 (List.map eA.enc v46),.psl 1 (List.map (gA .i64) v47),.int .i64 v48,.bool v49,.str v50,.bool v51,.sl 256 g54 4 0 v53.length,.int .i64 v52]]⟩),(256,⟨g54,true,true,4,List.map aA.enc v53⟩),(312,⟨0,false,true,1,List.map (gA .i64) vs1.Merge.At⟩)],720,[]⟩ ?_
    refine oC (l':=List.range' 2 1++[]) rfl ?_
    refine vC 2 1 728 [] (fun _=>none) rfl rfl rfl (fun _ _=>rT) ?_
    refine mD ?_
    refine cA ?_
    refine xE ⟨[(1,.fn 59 [.ref 224 0 0 0] []),(5,.int .i64 vr58.2.2),(6,.int .i64 (if vr3.1 < n2 then vr3.1 else n2)),(7,.int .i64 left43)],[(8,⟨0,true,true,10,[[.nils,.nils,.nils,.nils,.int .i64 0,.bool false,.str [],.bool false,.nils,.int .i64 0]]⟩),(224,⟨0,true,false,10,[[.psl 1 (List.map (tA 4 aA.enc) v44),.psl 1 (List.map (gA .i64) v45),.psl 2 (List.map eA.enc v46),.psl 1 (List.map (gA .i64) v47),.int .i64 v48,.bool v49,.str v50,.bool v51,.sl 256 g54 4 0 v53.length,.int .i64 v52]]⟩),(256,⟨g54,true,true,4,List.map aA.enc v53⟩),(312,⟨0,false,true,1,List.map (gA .i64) vs1.Merge.At⟩)],728,[]⟩ ?_
    refine xS 744 [1,5,6,7,12] ?_
    refine gP rfl hb59 ?_
    refine xS 760 [4] ?_
    refine jA ?_
    obtain rfl:=oI h1
    refine zB (mA (mA (xC (mA ?_))))
    refine oE (fun _ _=>rT) ?_
    refine xF ⟨[(4,.ref 8 0 0 0),(5,.int .i64 (if vr3.1 < n2 then vr3.1 else n2)),(8,.ref 224 0 0 0),(47,.int .i64 (if vr3.1 < n2 then vr3.1 else n2)),(48,.fn 59 [.ref 224 0 0 0] []),(49,.int .i64 vr58.2.2)],[(8,⟨0,true,true,10,[[.nils,.nils,.nils,.nils,.int .i64 0,.bool false,.str [],.bool false,.nils,.int .i64 0]]⟩),(224,⟨0,true,false,10,[[.psl 1 (List.map (tA 4 aA.enc) v44),.psl 1 (List.map (gA .i64) v45),.psl 2 (List.map eA.enc v46),.psl 1 (List.map (gA .i64) v47),.int .i64 v48,.bool v49,.str v50,.bool v51,.sl 256 g54 4 0 v53.length,.int .i64 v52]]⟩),(256,⟨g54,true,true,4,List.map aA.enc v53⟩)],760,[]⟩ ?_
    refine oC (l':=List.range' 3 1++[]) rfl ?_
    refine vC 3 1 768 [] (fun _=>none) rfl rfl rfl (fun _ _=>rT) ?_
    refine mD ?_
    refine cA ?_
    refine xE ⟨[(4,.ref 8 0 0 0),(5,.int .i64 (if vr3.1 < n2 then vr3.1 else n2)),(8,.ref 224 0 0 0),(9,.int .i64 vr58.2.2)],[(8,⟨0,true,true,10,[[.nils,.nils,.nils,.nils,.int .i64 0,.bool false,.str [],.bool false,.nils,.int .i64 0]]⟩),(224,⟨0,true,false,10,[[.psl 1 (List.map (tA 4 aA.enc) v44),.psl 1 (List.map (gA .i64) v45),.psl 2 (List.map eA.enc v46),.psl 1 (List.map (gA .i64) v47),.int .i64 v48,.bool v49,.str v50,.bool v51,.sl 256 g54 4 0 v53.length,.int .i64 v52]]⟩),(256,⟨g54,true,true,4,List.map aA.enc v53⟩)],768,[]⟩ ?_
    refine xS 784 [4,5,8,9,51] ?_
    refine gP rfl hb59 ?_
    refine xS 824 [4,5,6] ?_
    refine jA (mA ?_)
    obtain rfl:=oI h0
    exact lA [] rG
   refine oA (cA ?_)
   refine qC 800 [0,3,7] (fun _=>none) rfl rfl rfl (fun _ _=>iF) ?_
   refine xS 880 [0,3,7] ?_
   refine iA ?_
   refine xS 888 [0,3,56] ?_
   refine xI h1 rfl (fun h1 hb60=>?_) (fun h1 hb60=>?_)
   ·
    obtain ⟨hc61,h1⟩:=pD h1
    refine aH 992 [] (fun _=>none) rfl rfl rfl (fun _ _=>iF) ?_
    refine cA ?_
    refine xE ⟨[],[(8,⟨0,true,true,10,[[.nils,.nils,.nils,.nils,.int .i64 0,.bool false,.str [],.bool false,.nils,.int .i64 0]]⟩),(224,⟨0,true,false,10,[[.psl 1 (List.map (tA 4 aA.enc) vr56.2.2.1.Runs),.psl 1 (List.map (gA .i64) vr56.2.2.1.At),.psl 2 (List.map eA.enc vr56.2.2.1.Tree.Keys),.psl 1 (List.map (gA .i64) vr56.2.2.1.Tree.Lose),.int .i64 vr56.2.2.1.Tree.Win,.bool vr58.2.1.Some,.str vr58.2.1.Last,.bool vr58.2.1.Bottom,.sl 256 (g54 + 1) 4 0 ((v53++[vr56.1]).length),.int .i64 (IntKind.i64.wrap (v52 + 1))]]⟩),(256,⟨(g54 + 1),true,true,4,List.map aA.enc (v53++[vr56.1])⟩),(312,⟨0,false,true,1,List.map (gA .i64) vs1.Merge.At⟩)],992,[]⟩ ?_
    refine xS 1000 [2] ?_
    refine jA ?_
    refine oE (fun _ _=>rT) ?_
    refine xF ⟨[(1,.fn 59 [.ref 224 0 0 0] []),(6,.int .i64 (if vr3.1 < n2 then vr3.1 else n2)),(7,.int .i64 left43),(8,.bool (decide (left43 < (if vr3.1 < n2 then vr3.1 else n2)))),(9,.fn 59 [.ref 224 0 0 0] []),(10,.int .i64 0)],[(8,⟨0,true,true,10,[[.nils,.nils,.nils,.nils,.int .i64 0,.bool false,.str [],.bool false,.nils,.int .i64 0]]⟩),(224,⟨0,true,false,10,[[.psl 1 (List.map (tA 4 aA.enc) vr56.2.2.1.Runs),.psl 1 (List.map (gA .i64) vr56.2.2.1.At),.psl 2 (List.map eA.enc vr56.2.2.1.Tree.Keys),.psl 1 (List.map (gA .i64) vr56.2.2.1.Tree.Lose),.int .i64 vr56.2.2.1.Tree.Win,.bool vr58.2.1.Some,.str vr58.2.1.Last,.bool vr58.2.1.Bottom,.sl 256 (g54 + 1) 4 0 ((v53++[vr56.1]).length),.int .i64 (IntKind.i64.wrap (v52 + 1))]]⟩),(256,⟨(g54 + 1),true,true,4,List.map aA.enc (v53++[vr56.1])⟩),(312,⟨0,false,true,1,List.map (gA .i64) vs1.Merge.At⟩)],1000,[]⟩ ?_
    refine oC (l':=List.range' 2 1++[]) rfl ?_
    refine vC 2 1 1008 [] (fun _=>none) rfl rfl rfl (fun _ _=>rT) ?_
    refine mD ?_
    refine cA ?_
    refine xE ⟨[(1,.fn 59 [.ref 224 0 0 0] []),(5,.int .i64 0),(6,.int .i64 (if vr3.1 < n2 then vr3.1 else n2)),(7,.int .i64 left43)],[(8,⟨0,true,true,10,[[.nils,.nils,.nils,.nils,.int .i64 0,.bool false,.str [],.bool false,.nils,.int .i64 0]]⟩),(224,⟨0,true,false,10,[[.psl 1 (List.map (tA 4 aA.enc) vr56.2.2.1.Runs),.psl 1 (List.map (gA .i64) vr56.2.2.1.At),.psl 2 (List.map eA.enc vr56.2.2.1.Tree.Keys),.psl 1 (List.map (gA .i64) vr56.2.2.1.Tree.Lose),.int .i64 vr56.2.2.1.Tree.Win,.bool vr58.2.1.Some,.str vr58.2.1.Last,.bool vr58.2.1.Bottom,.sl 256 (g54 + 1) 4 0 ((v53++[vr56.1]).length),.int .i64 (IntKind.i64.wrap (v52 + 1))]]⟩),(256,⟨(g54 + 1),true,true,4,List.map aA.enc (v53++[vr56.1])⟩),(312,⟨0,false,true,1,List.map (gA .i64) vs1.Merge.At⟩)],1008,[]⟩ ?_
    refine xS 1024 [1,5,6,7,12] ?_
    refine pF rfl ?_
    refine oA (pB (cA ?_))
    refine xR 1040 [1,6,7] ?_
    refine cA ?_
    exact ⟨⟨(fu,(IntKind.i64.wrap (left43 + 1)),vr56.2.2.1.Runs,vr56.2.2.1.At,vr56.2.2.1.Tree.Keys,vr56.2.2.1.Tree.Lose,vr56.2.2.1.Tree.Win,vr58.2.1.Some,vr58.2.1.Last,vr58.2.1.Bottom,(IntKind.i64.wrap (v52 + 1)),(v53++[vr56.1]),(g54 + 1)),h1⟩,⟨rF,rE,rfl,rfl,trivial,trivial⟩,Nat.lt_succ_self _⟩
   refine oA (cA ?_)
   refine xS 896 [2] ?_
   refine jA ?_
   refine oE (fun _ _=>rT) ?_
   refine xF ⟨[(1,.fn 59 [.ref 224 0 0 0] []),(6,.int .i64 (if vr3.1 < n2 then vr3.1 else n2)),(7,.int .i64 left43),(8,.bool (decide (left43 < (if vr3.1 < n2 then vr3.1 else n2)))),(9,.fn 59 [.ref 224 0 0 0] []),(10,.int .i64 0)],[(8,⟨0,true,true,10,[[.nils,.nils,.nils,.nils,.int .i64 0,.bool false,.str [],.bool false,.nils,.int .i64 0]]⟩),(224,⟨0,true,false,10,[[.psl 1 (List.map (tA 4 aA.enc) vr56.2.2.1.Runs),.psl 1 (List.map (gA .i64) vr56.2.2.1.At),.psl 2 (List.map eA.enc vr56.2.2.1.Tree.Keys),.psl 1 (List.map (gA .i64) vr56.2.2.1.Tree.Lose),.int .i64 vr56.2.2.1.Tree.Win,.bool vr58.2.1.Some,.str vr58.2.1.Last,.bool vr58.2.1.Bottom,.sl 256 g54 4 0 v53.length,.int .i64 (IntKind.i64.wrap (v52 + 1))]]⟩),(256,⟨g54,true,true,4,List.map aA.enc v53⟩),(312,⟨0,false,true,1,List.map (gA .i64) vs1.Merge.At⟩)],896,[]⟩ ?_
   refine oC (l':=List.range' 2 1++[]) rfl ?_
   refine vC 2 1 904 [] (fun _=>none) rfl rfl rfl (fun _ _=>rT) ?_
   refine mD ?_
   refine cA ?_
   refine xE ⟨[(1,.fn 59 [.ref 224 0 0 0] []),(5,.int .i64 0),(6,.int .i64 (if vr3.1 < n2 then vr3.1 else n2)),(7,.int .i64 left43)],[(8,⟨0,true,true,10,[[.nils,.nils,.nils,.nils,.int .i64 0,.bool false,.str [],.bool false,.nils,.int .i64 0]]⟩),(224,⟨0,true,false,10,[[.psl 1 (List.map (tA 4 aA.enc) vr56.2.2.1.Runs),.psl 1 (List.map (gA .i64) vr56.2.2.1.At),.psl 2 (List.map eA.enc vr56.2.2.1.Tree.Keys),.psl 1 (List.map (gA .i64) vr56.2.2.1.Tree.Lose),.int .i64 vr56.2.2.1.Tree.Win,.bool vr58.2.1.Some,.str vr58.2.1.Last,.bool vr58.2.1.Bottom,.sl 256 g54 4 0 v53.length,.int .i64 (IntKind.i64.wrap (v52 + 1))]]⟩),(256,⟨g54,true,true,4,List.map aA.enc v53⟩),(312,⟨0,false,true,1,List.map (gA .i64) vs1.Merge.At⟩)],904,[]⟩ ?_
   refine xS 920 [1,5,6,7,12] ?_
   refine pF rfl ?_
   refine oA (pB (cA ?_))
   refine xR 936 [1,6,7] ?_
   refine cA ?_
   exact ⟨⟨(fu,(IntKind.i64.wrap (left43 + 1)),vr56.2.2.1.Runs,vr56.2.2.1.At,vr56.2.2.1.Tree.Keys,vr56.2.2.1.Tree.Lose,vr56.2.2.1.Tree.Win,vr58.2.1.Some,vr58.2.1.Last,vr58.2.1.Bottom,(IntKind.i64.wrap (v52 + 1)),v53,g54),h1⟩,⟨rF,rE,rfl,rfl,trivial,trivial⟩,Nat.lt_succ_self _⟩
  refine dC (xA (xA (gC ?_)))
  obtain rfl:=oI h1
  exact ⟨_,g54,rfl,rL,⟨rF,rE,rfl,rfl,trivial,trivial⟩⟩
theorem zoc {fu : Nat} {vr1 : gB} {r : Int × Int} (h0 : oS fu vr1 = some r) : yA Tryz.prog 98 [.agg (gB.enc vr1)] (.tup [.int .i64 r.1,.int .i64 r.2]) []:=by
 refine dB Tryz.func98 rfl (by decide) rL ?_
 dsimp only [Tryz.f98]
 rw [oS] at h0
 refine xS 24 [1] ?_
 refine iA ?_
 obtain ⟨b2,hb2,h0⟩:=bA h0
 refine jC (fr':=[(1,.ref 0 0 0 0),(11,.bool b2)]) (hp':=[(0,⟨0,true,true,2,[[.int .i64 vr1.Id,.psl 4 (List.map aA.enc vr1.Entries)]]⟩)]) [0] 88 [1,11] (fun _=>none) rfl (fun Kt hK=>by
   cases hg3 : (decide (vr1.Id < 1)) with
   | false =>
    replace hb2:=sA hb2 hg3
    have hqb2:=oI hb2
    subst hqb2
    exact rW hg3 hK
   | true =>
    replace hb2:=zA hb2 hg3
    have hqb2:=oI hb2
    subst hqb2
    exact rW hg3 hK) ?_
 refine xI h0 rfl (fun h0 hb4=>?_) (fun h0 hb4=>?_)
 ·
  refine xS 104 [2,3] ?_
  refine jA (mA ?_)
  obtain rfl:=oI h0
  exact lA [] rG
 refine oA (cA ?_)
 obtain ⟨vr5,hvr5,h0⟩:=bA h0
 refine nA 144 [2,3] (fun | 2=>some (.tup [.int .i64 vr5.1,.int .i64 vr5.2],[]) | _=>none) rfl (fun _ _=>rC (zc8 hvr5)) ?_
 refine jA ?_
 obtain rfl:=oI h0
 exact lA [] rG
theorem zju {fu : Nat} {vr1 : gB} {most2 : Int} {r : Int} (h0 : fR fu vr1 most2 = some r) : yA Tryz.prog 65 [.agg (gB.enc vr1),.int .i64 most2] (.int .i64 r) []:=by
 refine dB Tryz.func65 rfl (by decide) rL ?_
 dsimp only [Tryz.f65]
 rw [fR] at h0
 refine xS 16 [1,2] ?_
 refine iA ?_
 obtain ⟨vr3,hvr3,h0⟩:=bA h0
 refine nA 72 [1,2,6] (fun | 1=>some (.tup [.int .i64 vr3.1,.int .i64 vr3.2],[]) | _=>none) rfl (fun _ _=>rC (zoc hvr3)) ?_
 refine xS 88 [1,2,6,14] ?_
 refine xI h0 rfl (fun h0 hb4=>?_) (fun h0 hb4=>?_)
 ·
  refine xS 104 [4] ?_
  refine jA (mA ?_)
  obtain rfl:=oI h0
  exact lA [] rG
 refine oA (cA (iA ?_))
 refine xS 120 [1,7] ?_
 refine vB ?_
 refine xS 144 [1,7,19] ?_
 refine xI h0 rfl (fun h0 hb5=>?_) (fun h0 hb5=>?_)
 ·
  refine xS 152 [4] ?_
  refine jA (zB (mA ?_))
  obtain rfl:=oI h0
  exact lA [] rG
 refine xS 176 [22] ?_
 refine xI h0 rfl (fun h0 hb6=>?_) (fun h0 hb6=>?_)
 ·
  refine xS 184 [4] ?_
  refine jA (zB (mA ?_))
  obtain rfl:=oI h0
  exact lA [] rG
 refine oA (pB (cA ?_))
 refine xS 184 [4] ?_
 refine jA ?_
 obtain rfl:=oI h0
 exact lA [] rG
theorem ze9 {fu : Nat} {l1 : eB} {r : Int × Int × Int} (h0 : aK fu l1 = some r) : yA Tryz.prog 35 [.agg (eB.enc l1)] (.tup [.int .i64 r.1,.int .i64 r.2.1,.int .i64 r.2.2]) []:=by
 refine znp Tryz.func35 rfl (by decide) rL ?_
 dsimp only [Tryz.f35]
 rw [aK] at h0
 refine zaD ?_
 refine xR 32 [1,2,3,4] ?_
 refine cA (zna (zaD (vB ?_)))
 obtain ⟨b2,hb2,h0⟩:=bA h0
 refine jC (fr':=[(1,.ref 0 0 0 0),(2,.int .i64 0),(3,.int .i64 0),(4,.int .i64 0),(11,.bool b2)]) (hp':=[(0,⟨0,true,true,2,[[.int .i64 l1.B,.psl 1 (List.map qA.enc l1.Levels)]]⟩)]) [0] 104 [1,2,3,4,11] (fun _=>none) rfl (fun Kt hK=>by
   cases hg3 : (decide (l1.B < 1)) with
   | false =>
    replace hb2:=sA hb2 hg3
    have hqb2:=oI hb2
    subst hqb2
    exact rW hg3 hK
   | true =>
    replace hb2:=zA hb2 hg3
    have hqb2:=oI hb2
    subst hqb2
    exact rW hg3 hK) ?_
 refine xI h0 rfl (fun h0 hb4=>?_) (fun h0 hb4=>?_)
 ·
  refine xS 128 [2,3,4] ?_
  refine jA (zB (mA ?_))
  obtain rfl:=oI h0
  exact lA [] rG
 refine xS 144 [1,2,3,4,20] ?_
 refine xI h0 rfl (fun h0 hb5=>?_) (fun h0 hb5=>?_)
 ·
  refine xS 168 [2,3,4] ?_
  refine jA (zB (mA ?_))
  obtain rfl:=oI h0
  exact lA [] rG
 refine oA (pB (cA (zaD ?_)))
 refine oX 2 rfl ?_
 refine oC (l':=0::(List.range' 1 1++[])) rfl ?_
 refine znT rfl rfl rfl rfl ?_
 refine kK (s2:=⟨[(1,.ref 0 0 0 0),(2,.int .i64 0),(3,.int .i64 0),(4,.int .i64 0),(20,.bool (decide (12 < (l1.Levels.length : Int)))),(25,.mp 144)],[(0,⟨0,true,true,2,[[.int .i64 l1.B,.psl 1 (List.map qA.enc l1.Levels)]]⟩)],152,[(144,(gF (kE (fun n : Int=>AV.int .i64 n) AV.bool ([] : List (Int × Bool)))))]⟩) [] rL ⟨rF,rE,rfl,rfl,(hC.consM rL rfl trivial),trivial⟩ ?_
 refine oC (l':=List.range' 1 1++[]) rfl ?_
 refine vC 1 1 160 [] (fun _=>none) rfl rfl rfl (fun _ _=>rT) ?_
 refine mD ?_
 refine cA ?_
 refine fwp_re (s2:=⟨[(1,.ref 0 0 0 0),(2,.int .i64 0),(3,.int .i64 0),(4,.int .i64 0),(5,.mp 144)],[(0,⟨0,true,true,2,[[.int .i64 l1.B,.psl 1 (List.map qA.enc l1.Levels)]]⟩)],160,[(144,(gF (kE (fun n : Int=>AV.int .i64 n) AV.bool ([] : List (Int × Bool)))))]⟩) [] rL ⟨rF,rE,rfl,rfl,(hC.consM rL rfl trivial),trivial⟩ ?_
 refine zng (l:=144) rfl rfl rfl rfl rfl rfl rfl rfl rL rfl rfl rfl rfl rfl zZ ?_
 refine oB (s2:=⟨[(1,.ref 0 0 0 0),(2,.int .i64 0),(3,.int .i64 0),(4,.int .i64 0),(5,.mp 144)],[(0,⟨0,true,true,2,[[.int .i64 l1.B,.psl 1 (List.map qA.enc l1.Levels)]]⟩)],160,[(144,(gF (kE (fun n : Int=>AV.int .i64 n) AV.bool ([] : List (Int × Bool)))))]⟩) [] rL ⟨rF,rE,rfl,rfl,(hC.consM rL rfl trivial),trivial⟩ ?_
 refine iA ?_
 refine zcR ?_
 refine cA (iA ?_)
 refine xS 192 [1,2,3,4,5,28,29,30] ?_
 obtain ⟨x162,hxx162,h0⟩:=bA h0
 refine pC (fun s'=>s'.nx ≤ 552 ∧ LeN [] s' ⟨[(1,.ref 0 0 0 0),(2,.int .i64 x162.1),(3,.int .i64 x162.2.1),(4,.int .i64 x162.2.2.1)],[(0,⟨0,true,true,2,[[.int .i64 l1.B,.psl 1 (List.map qA.enc l1.Levels)]]⟩)],552,[(144,(gF (kE (fun n : Int=>AV.int .i64 n) AV.bool x162.2.2.2)))]⟩) ?_ ?_
 ·
  intro s' hs
  obtain ⟨hn,hs⟩:=hs
  refine cA ?_
  refine oB [] hn hs ?_
  refine iA ?_
  refine xS 568 [1,2,3,4,71] ?_
  refine xI h0 rfl (fun h0 hb217=>?_) (fun h0 hb217=>?_)
  ·
   refine xS 616 [2,3,4] ?_
   refine jA (mA (za9 rfl rfl ?_))
   obtain rfl:=oI h0
   exact lA [] rG
  refine oA (cA (iA ?_))
  refine xS 600 [1,10] ?_
  obtain ⟨b219,hb219,h0⟩:=bA h0
  refine jC (fr':=[(10,.int .i64 (l1.Levels.length : Int)),(90,.bool b219)]) (hp':=[(0,⟨0,true,true,2,[[.int .i64 l1.B,.psl 1 (List.map qA.enc l1.Levels)]]⟩)]) [0,144] 704 [10,90] (fun _=>none) rfl (fun Kt hK=>by
    cases hg220 : (decide (0 < (l1.Levels.length : Int))) with
    | false =>
     replace hb219:=sA hb219 hg220
     have hqb219:=oI hb219
     subst hqb219
     exact rW hg220 hK
    | true =>
     replace hb219:=zA hb219 hg220
     obtain ⟨e218,he218,hb219⟩:=bA hb219
     obtain ⟨he218a,he218b,he218c⟩:=vA he218
     have hqb219:=oI hb219
     subst hqb219
     exact sD hg220 (rA he218a (rA he218b (rA he218c he218))) hK) ?_
  refine xI h0 rfl (fun h0 hb221=>?_) (fun h0 hb221=>?_)
  ·
   refine xS 744 [2,3,4] ?_
   refine jA (mA (za9 rfl rfl ?_))
   obtain rfl:=oI h0
   exact lA [] rG
  refine oA (cA ?_)
  refine xS 728 [2,3,4] ?_
  refine jA (za9 rfl rfl ?_)
  obtain rfl:=oI h0
  exact lA [] rG
 refine lC (ι:={ p : Nat × Int × Int × Int × (List (Int × Bool)) × Int // cG l1 p.1 p.2.1 p.2.2.1 p.2.2.2.1 p.2.2.2.2.1 p.2.2.2.2.2 = some x162 }) (fun p=>⟨[(1,.ref 0 0 0 0),(2,.int .i64 p.1.2.2.2.2.2),(3,.int .i64 p.1.2.1),(4,.int .i64 p.1.2.2.1),(5,.mp 144),(28,.psl 1 (List.map qA.enc l1.Levels)),(29,.int .i64 (l1.Levels.length : Int)),(30,.int .i64 p.1.2.2.2.1)],[(0,⟨0,true,true,2,[[.int .i64 l1.B,.psl 1 (List.map qA.enc l1.Levels)]]⟩)],192,[(144,(gF (kE (fun n : Int=>AV.int .i64 n) AV.bool p.1.2.2.2.2.1)))]⟩) (fun p=>p.1.1) ⟨(fu,0,0,0,([] : List (Int × Bool)),0),hxx162⟩ ⟨rF,rE,rfl,rfl,(hC.consM rL rfl trivial),trivial⟩ (fun _=>Nat.le_refl _) ?_
 rintro ⟨⟨fu,run163,e164,v165,v166,level167⟩,h1⟩
 cases fu with
 | zero =>
  replace h1 : cG l1 0 run163 e164 v165 v166 level167 = some x162:=h1
  rw [cG] at h1; cases h1
 | succ fu =>
  replace h1 : cG l1 (fu + 1) run163 e164 v165 v166 level167 = some x162:=h1
  rw [cG] at h1
  dsimp only
  refine xS 200 [1,2,3,4,5,28,29,30,31] ?_
  refine iA ?_
  refine xI h1 rfl (fun h1 hb168=>?_) (fun h1 hb168=>?_)
  ·
   refine oA (cA (iA (vB ?_)))
   obtain ⟨e169,he169,h1⟩:=bA h1
   obtain ⟨he169a,he169b,he169c⟩:=vA he169
   refine nA 248 [1,4,5,6,7,28,29,30] (fun _=>none) rfl (fun _ _=>rS (rA he169a (rA he169b he169c))) ?_
   refine nA 272 [1,2,3,4,5,6,7,28,29,30] (fun _=>none) rfl (fun _ _=>rS (rA he169a (rA he169b he169c))) ?_
   refine iA ?_
   refine nA 304 [1,2,3,4,5,6,7,28,29,30,39] (fun _=>none) rfl (fun _ _=>rS (rA he169a (rA he169b he169c))) ?_
   refine xI h1 rfl (fun h1 hb170=>?_) (fun h1 hb170=>?_)
   ·
    refine nA 312 [1,2,3,4] (fun _=>none) rfl (fun _ _=>rS (rA he169a (rA he169b he169c))) ?_
    refine dC (xA (jR (by decide) (xA (xA (gC ?_)))))
    obtain rfl:=oI h1
    exact ⟨rL,⟨rF,rE,rfl,rfl,(hC.consM rL rfl trivial),trivial⟩⟩
   refine oA (cA ?_)
   refine nA 336 [1,2,3,4,5,6,28,29,30,41,42,43] (fun _=>none) rfl (fun _ _=>rS (rA he169a (rA he169b he169c))) ?_
   obtain ⟨x202,hxx202,h1⟩:=bA h1
   refine pC (fun s'=>∃ o215 : Int × Int × (List (Int × Bool)),x202 = .inl o215 ∧ s'.nx ≤ 344 ∧ LeN [] s' ⟨[(1,.ref 0 0 0 0),(2,.int .i64 v165),(3,.int .i64 o215.1),(4,.int .i64 o215.2.1),(5,.mp 144),(28,.psl 1 (List.map qA.enc l1.Levels)),(29,.int .i64 (l1.Levels.length : Int)),(30,.int .i64 v165)],[(0,⟨0,true,true,2,[[.int .i64 l1.B,.psl 1 (List.map qA.enc l1.Levels)]]⟩)],344,[(144,(gF (kE (fun n : Int=>AV.int .i64 n) AV.bool o215.2.2)))]⟩) ?_ ?_
   ·
    intro s' hs
    obtain ⟨o215,rfl,hn,hs⟩:=hs
    refine pB (cA ?_)
    refine oB [] hn hs ?_
    refine nB 360 [1,2,3,4,5,28,29,30] (fun _=>none) rfl (fun _ _=>rS (rA he169a (rA he169b he169c))) ?_
    refine cA ?_
    exact ⟨⟨(fu,o215.1,o215.2.1,(IntKind.i64.wrap (v165 + 1)),o215.2.2,v165),h1⟩,⟨rF,rE,rfl,rfl,(hC.consM rL rfl trivial),trivial⟩,Nat.lt_succ_self _⟩
   refine lC (ι:={ p : Nat × Int × Int × (List (Int × Bool)) × Int // yF e169 v165 l1 p.1 p.2.1 p.2.2.1 p.2.2.2.1 p.2.2.2.2 = some x202 }) (fun p=>⟨[(1,.ref 0 0 0 0),(2,.int .i64 v165),(3,.int .i64 p.1.2.2.2.2),(4,.int .i64 p.1.2.1),(5,.mp 144),(6,.int .i64 v165),(28,.psl 1 (List.map qA.enc l1.Levels)),(29,.int .i64 (l1.Levels.length : Int)),(30,.int .i64 v165),(41,.psl 2 (List.map gB.enc e169.Runs)),(42,.int .i64 (e169.Runs.length : Int)),(43,.int .i64 p.1.2.2.1)],[(0,⟨0,true,true,2,[[.int .i64 l1.B,.psl 1 (List.map qA.enc l1.Levels)]]⟩)],336,[(144,(gF (kE (fun n : Int=>AV.int .i64 n) AV.bool p.1.2.2.2.1)))]⟩) (fun p=>p.1.1) ⟨(fu,e164,0,v166,0),hxx202⟩ ⟨rF,rE,rfl,rfl,(hC.consM rL rfl trivial),trivial⟩ (fun _=>Nat.le_refl _) ?_
   rintro ⟨⟨fu,e203,v204,v205,run206⟩,h2⟩
   cases fu with
   | zero =>
  replace h2 : yF e169 v165 l1 0 e203 v204 v205 run206 = some x202:=h2
  rw [yF] at h2; cases h2
   | succ fu =>
    replace h2 : yF e169 v165 l1 (fu + 1) e203 v204 v205 run206 = some x202:=h2
    rw [yF] at h2
    dsimp only
    refine nA 344 [1,2,3,4,5,6,28,29,30,41,42,43,44] (fun _=>none) rfl (fun _ _=>rS (rA he169a (rA he169b he169c))) ?_
    refine iA ?_
    refine xI h2 rfl (fun h2 hb207=>?_) (fun h2 hb207=>?_)
    ·
     refine oA (cA (iA (vB ?_)))
     obtain ⟨e208,he208,h2⟩:=bA h2
     obtain ⟨he208a,he208b,he208c⟩:=vA he208
     refine nA 392 [1,2,5,6,8,9,28,29,30,41,42,43] (fun _=>none) rfl (fun _ _=>rS (rA he169a (rA he169b (rA he169c (rA he208a (rA he208b he208c)))))) ?_
     refine nA 408 [1,2,3,5,6,9,28,29,30,41,42,43] (fun _=>none) rfl (fun _ _=>rS (rA he169a (rA he169b (rA he169c (rA he208a (rA he208b he208c)))))) ?_
     refine iA ?_
     obtain ⟨hc209,h2⟩:=pD h2
     obtain ⟨vr210,hvr210,h2⟩:=bA h2
     refine qC 464 [1,2,3,4,5,6,9,28,29,30,41,42,43] (fun | 5=>some (.int .i64 vr210,[]) | _=>none) rfl rfl rfl (fun _ _=>wK (rA he169a (rA he169b (rA he169c (rA he208a (rA he208b he208c))))) (zju hvr210)) ?_
     refine vH 8 rfl ?_
     refine oC (l':=List.range' 0 3++(List.range' 3 5++[])) rfl ?_
     refine vC 0 3 488 (List.range' 3 5++[]) (fun _=>none) rfl rfl rfl (fun _ _=>rS (rA he169a (rA he169b (rA he169c (rA he208a (rA he208b he208c)))))) ?_
     refine kK (s2:=⟨[(1,.ref 0 0 0 0),(2,.int .i64 v165),(3,.int .i64 v204),(4,.int .i64 vr210),(5,.mp 144),(6,.int .i64 v165),(9,.ref 368 0 0 0),(28,.psl 1 (List.map qA.enc l1.Levels)),(29,.int .i64 (l1.Levels.length : Int)),(30,.int .i64 v165),(41,.psl 2 (List.map gB.enc e169.Runs)),(42,.int .i64 (e169.Runs.length : Int)),(43,.int .i64 v204),(55,.int .i64 vr210),(56,.bool (decide (vr210 = 0))),(57,.bool (decide (vr210 = 0)))],[(0,⟨0,true,true,2,[[.int .i64 l1.B,.psl 1 (List.map qA.enc l1.Levels)]]⟩),(368,⟨0,true,true,2,[[.int .i64 e208.Id,.psl 4 (List.map aA.enc e208.Entries)]]⟩)],488,[(144,(gF (kE (fun n : Int=>AV.int .i64 n) AV.bool v205)))]⟩) [] rL ⟨rF,rE,rfl,rfl,(hC.consM rL rfl trivial),trivial⟩ ?_
     generalize hg211 : (decide (vr210 = 0)) = b211
     cases b211 with
     | true =>
      replace h2:=zA h2 hg211
      refine oC (l':=List.range' 3 3++(6::(List.range' 7 1++[]))) rfl ?_
      refine vC 3 3 512 (6::(List.range' 7 1++[])) (fun _=>none) rfl rfl rfl (fun _ _=>rS (rA he169a (rA he169b (rA he169c (rA he208a (rA he208b he208c)))))) ?_
      refine zmC (l:=144) (ek:=(fun n : Int=>AV.int .i64 n)) (ev:=AV.bool) (m:=v205) (n:=e208.Id) (z:=false) rfl rfl rfl rfl zZ zci zmR (fun _=>rfl) rfl rfl rfl ?_
      refine kK (s2:=⟨[(1,.ref 0 0 0 0),(2,.int .i64 v165),(3,.int .i64 v204),(4,.int .i64 vr210),(5,.mp 144),(6,.int .i64 v165),(9,.ref 368 0 0 0),(28,.psl 1 (List.map qA.enc l1.Levels)),(29,.int .i64 (l1.Levels.length : Int)),(30,.int .i64 v165),(41,.psl 2 (List.map gB.enc e169.Runs)),(42,.int .i64 (e169.Runs.length : Int)),(43,.int .i64 v204),(55,.int .i64 vr210),(56,.bool true),(57,.bool true),(58,.mp 144),(59,.ref 368 0 0 0),(60,.int .i64 e208.Id),(61,.bool ((yE v205 e208.Id).getD false))],[(0,⟨0,true,true,2,[[.int .i64 l1.B,.psl 1 (List.map qA.enc l1.Levels)]]⟩),(368,⟨0,true,true,2,[[.int .i64 e208.Id,.psl 4 (List.map aA.enc e208.Entries)]]⟩)],520,[(144,(gF (kE (fun n : Int=>AV.int .i64 n) AV.bool v205)))]⟩) [] rL ⟨rF,rE,rfl,rfl,(hC.consM rL rfl trivial),trivial⟩ ?_
      refine oC (l':=List.range' 7 1++[]) rfl ?_
      refine vC 7 1 528 [] (fun _=>none) rfl rfl rfl (fun _ _=>rS (rA he169a (rA he169b (rA he169c (rA he208a (rA he208b he208c)))))) ?_
      refine mD ?_
      refine cA ?_
      refine oB (s2:=⟨[(1,.ref 0 0 0 0),(2,.int .i64 v165),(3,.int .i64 v204),(4,.int .i64 vr210),(5,.mp 144),(6,.int .i64 v165),(9,.ref 368 0 0 0),(28,.psl 1 (List.map qA.enc l1.Levels)),(29,.int .i64 (l1.Levels.length : Int)),(30,.int .i64 v165),(41,.psl 2 (List.map gB.enc e169.Runs)),(42,.int .i64 (e169.Runs.length : Int)),(43,.int .i64 v204),(58,.mp 144),(59,.ref 368 0 0 0),(60,.int .i64 e208.Id),(61,.bool ((yE v205 e208.Id).getD false)),(62,.bool ((yE v205 e208.Id).getD false))],[(0,⟨0,true,true,2,[[.int .i64 l1.B,.psl 1 (List.map qA.enc l1.Levels)]]⟩),(368,⟨0,true,true,2,[[.int .i64 e208.Id,.psl 4 (List.map aA.enc e208.Entries)]]⟩)],528,[(144,(gF (kE (fun n : Int=>AV.int .i64 n) AV.bool v205)))]⟩) [] rL ⟨rF,rE,rfl,rfl,(hC.consM rL rfl trivial),trivial⟩ ?_
      refine xI h2 rfl (fun h2 hb212=>?_) (fun h2 hb212=>?_)
      ·
       refine nB 536 [1,2,3,4,5,6,9,28,29,30,41,42,43,58,59,60,61] (fun _=>none) rfl (fun _ _=>rS (rA he169a (rA he169b (rA he169c (rA he208a (rA he208b he208c)))))) ?_
       refine cA (iA ?_)
       refine nA 552 [1,2,3,4,5,6,9,28,29,30,41,42,43,58,59,60,61,64] (fun _=>none) rfl (fun _ _=>rS (rA he169a (rA he169b (rA he169c (rA he208a (rA he208b he208c)))))) ?_
       refine kI rfl ?_
       refine dC ?_
       obtain rfl:=oI h2
       refine xA (jR (by decide) (xA (xA (za7 (by decide) (jR (by decide) (xA (xA (gC ?_))))))))
       obtain rfl:=oI h1
       exact ⟨rL,⟨rF,rE,rfl,rfl,(hC.consM rL rfl trivial),trivial⟩⟩
      refine oA (cA (iA ?_))
      refine nA 544 [1,2,3,4,5,6,9,28,29,30,41,42,43,58,59,60,61,64] (fun _=>none) rfl (fun _ _=>rS (rA he169a (rA he169b (rA he169c (rA he208a (rA he208b he208c)))))) ?_
      refine xI h2 rfl (fun h2 hb213=>?_) (fun h2 hb213=>?_)
      ·
       refine dC ?_
       obtain rfl:=oI h2
       refine xA (jR (by decide) (xA (xA (za7 (by decide) (jR (by decide) (xA (xA (gC ?_))))))))
       obtain rfl:=oI h1
       exact ⟨rL,⟨rF,rE,rfl,rfl,(hC.consM rL rfl trivial),trivial⟩⟩
      refine oA (cA ?_)
      refine oX 4 rfl ?_
      refine oC (l':=List.range' 0 3++(3::(List.range' 4 0++[]))) rfl ?_
      refine vC 0 3 568 (3::(List.range' 4 0++[])) (fun _=>none) rfl rfl rfl (fun _ _=>rS (rA he169a (rA he169b (rA he169c (rA he208a (rA he208b he208c)))))) ?_
      refine zfj (l:=144) (ek:=(fun n : Int=>AV.int .i64 n)) (ev:=AV.bool) (m:=v205) (n:=e208.Id) (y:=true) rfl rfl rfl rfl zZ zci (fun _=>rfl) rfl rfl rfl rfl ?_
      refine kK (s2:=⟨[(1,.ref 0 0 0 0),(2,.int .i64 v165),(3,.int .i64 v204),(4,.int .i64 vr210),(5,.mp 144),(6,.int .i64 v165),(9,.ref 368 0 0 0),(28,.psl 1 (List.map qA.enc l1.Levels)),(29,.int .i64 (l1.Levels.length : Int)),(30,.int .i64 v165),(41,.psl 2 (List.map gB.enc e169.Runs)),(42,.int .i64 (e169.Runs.length : Int)),(43,.int .i64 v204),(58,.mp 144),(59,.ref 368 0 0 0),(60,.int .i64 e208.Id),(61,.bool ((yE v205 e208.Id).getD false)),(64,.bool (!(decide (vr210 = 0)))),(65,.mp 144),(66,.ref 368 0 0 0),(67,.int .i64 e208.Id)],[(0,⟨0,true,true,2,[[.int .i64 l1.B,.psl 1 (List.map qA.enc l1.Levels)]]⟩),(368,⟨0,true,true,2,[[.int .i64 e208.Id,.psl 4 (List.map aA.enc e208.Entries)]]⟩)],576,[(144,(gF (kE (fun n : Int=>AV.int .i64 n) AV.bool (jF v205 e208.Id true))))]⟩) [] rL ⟨rF,rE,rfl,rfl,(hC.consM rL rfl trivial),trivial⟩ ?_
      refine oC (l':=[]) rfl ?_
      refine mD ?_
      refine pB (cA ?_)
      refine oB (s2:=⟨[(1,.ref 0 0 0 0),(2,.int .i64 v165),(3,.int .i64 v204),(4,.int .i64 vr210),(5,.mp 144),(6,.int .i64 v165),(28,.psl 1 (List.map qA.enc l1.Levels)),(29,.int .i64 (l1.Levels.length : Int)),(30,.int .i64 v165),(41,.psl 2 (List.map gB.enc e169.Runs)),(42,.int .i64 (e169.Runs.length : Int)),(43,.int .i64 v204),(58,.mp 144),(59,.ref 368 0 0 0),(60,.int .i64 e208.Id),(61,.bool ((yE v205 e208.Id).getD false))],[(0,⟨0,true,true,2,[[.int .i64 l1.B,.psl 1 (List.map qA.enc l1.Levels)]]⟩),(368,⟨0,true,true,2,[[.int .i64 e208.Id,.psl 4 (List.map aA.enc e208.Entries)]]⟩)],576,[(144,(gF (kE (fun n : Int=>AV.int .i64 n) AV.bool (jF v205 e208.Id true))))]⟩) [] rL ⟨rF,rE,rfl,rfl,(hC.consM rL rfl trivial),trivial⟩ ?_
      refine nB 592 [1,2,3,4,5,6,28,29,30,41,42,43,58,59,60,61] (fun _=>none) rfl (fun _ _=>rS (rA he169a (rA he169b (rA he169c (rA he208a (rA he208b he208c)))))) ?_
      refine cA ?_
      exact ⟨⟨(fu,vr210,(IntKind.i64.wrap (v204 + 1)),(jF v205 e208.Id true),v204),h2⟩,⟨rF,rE,rfl,rfl,(hC.consM rL rfl trivial),trivial⟩,Nat.lt_succ_self _⟩
     | false =>
      replace h2:=sA h2 hg211
      refine oC (l':=List.range' 3 5++[]) rfl ?_
      refine vC 3 5 528 [] (fun _=>none) rfl rfl rfl (fun _ _=>rS (rA he169a (rA he169b (rA he169c (rA he208a (rA he208b he208c)))))) ?_
      refine mD ?_
      refine cA ?_
      refine oB (s2:=⟨[(1,.ref 0 0 0 0),(2,.int .i64 v165),(3,.int .i64 v204),(4,.int .i64 vr210),(5,.mp 144),(6,.int .i64 v165),(9,.ref 368 0 0 0),(28,.psl 1 (List.map qA.enc l1.Levels)),(29,.int .i64 (l1.Levels.length : Int)),(30,.int .i64 v165),(41,.psl 2 (List.map gB.enc e169.Runs)),(42,.int .i64 (e169.Runs.length : Int)),(43,.int .i64 v204),(62,.bool false)],[(0,⟨0,true,true,2,[[.int .i64 l1.B,.psl 1 (List.map qA.enc l1.Levels)]]⟩),(368,⟨0,true,true,2,[[.int .i64 e208.Id,.psl 4 (List.map aA.enc e208.Entries)]]⟩)],528,[(144,(gF (kE (fun n : Int=>AV.int .i64 n) AV.bool v205)))]⟩) [] rL ⟨rF,rE,rfl,rfl,(hC.consM rL rfl trivial),trivial⟩ ?_
      refine pF rfl ?_
      refine oA (cA (iA ?_))
      refine nA 544 [1,2,3,4,5,6,9,28,29,30,41,42,43,64] (fun _=>none) rfl (fun _ _=>rS (rA he169a (rA he169b (rA he169c (rA he208a (rA he208b he208c)))))) ?_
      refine xI h2 rfl (fun h2 hb214=>?_) (fun h2 hb214=>?_)
      ·
       refine dC ?_
       obtain rfl:=oI h2
       refine xA (jR (by decide) (xA (xA (za7 (by decide) (jR (by decide) (xA (xA (gC ?_))))))))
       obtain rfl:=oI h1
       exact ⟨rL,⟨rF,rE,rfl,rfl,(hC.consM rL rfl trivial),trivial⟩⟩
      refine oA (cA ?_)
      refine oX 4 rfl ?_
      refine oC (l':=List.range' 0 3++(3::(List.range' 4 0++[]))) rfl ?_
      refine vC 0 3 568 (3::(List.range' 4 0++[])) (fun _=>none) rfl rfl rfl (fun _ _=>rS (rA he169a (rA he169b (rA he169c (rA he208a (rA he208b he208c)))))) ?_
      refine zfj (l:=144) (ek:=(fun n : Int=>AV.int .i64 n)) (ev:=AV.bool) (m:=v205) (n:=e208.Id) (y:=true) rfl rfl rfl rfl zZ zci (fun _=>rfl) rfl rfl rfl rfl ?_
      refine kK (s2:=⟨[(1,.ref 0 0 0 0),(2,.int .i64 v165),(3,.int .i64 v204),(4,.int .i64 vr210),(5,.mp 144),(6,.int .i64 v165),(9,.ref 368 0 0 0),(28,.psl 1 (List.map qA.enc l1.Levels)),(29,.int .i64 (l1.Levels.length : Int)),(30,.int .i64 v165),(41,.psl 2 (List.map gB.enc e169.Runs)),(42,.int .i64 (e169.Runs.length : Int)),(43,.int .i64 v204),(64,.bool (!(decide (vr210 = 0)))),(65,.mp 144),(66,.ref 368 0 0 0),(67,.int .i64 e208.Id)],[(0,⟨0,true,true,2,[[.int .i64 l1.B,.psl 1 (List.map qA.enc l1.Levels)]]⟩),(368,⟨0,true,true,2,[[.int .i64 e208.Id,.psl 4 (List.map aA.enc e208.Entries)]]⟩)],576,[(144,(gF (kE (fun n : Int=>AV.int .i64 n) AV.bool (jF v205 e208.Id true))))]⟩) [] rL ⟨rF,rE,rfl,rfl,(hC.consM rL rfl trivial),trivial⟩ ?_
      refine oC (l':=[]) rfl ?_
      refine mD ?_
      refine pB (cA ?_)
      refine oB (s2:=⟨[(1,.ref 0 0 0 0),(2,.int .i64 v165),(3,.int .i64 v204),(4,.int .i64 vr210),(5,.mp 144),(6,.int .i64 v165),(28,.psl 1 (List.map qA.enc l1.Levels)),(29,.int .i64 (l1.Levels.length : Int)),(30,.int .i64 v165),(41,.psl 2 (List.map gB.enc e169.Runs)),(42,.int .i64 (e169.Runs.length : Int)),(43,.int .i64 v204)],[(0,⟨0,true,true,2,[[.int .i64 l1.B,.psl 1 (List.map qA.enc l1.Levels)]]⟩)],576,[(144,(gF (kE (fun n : Int=>AV.int .i64 n) AV.bool (jF v205 e208.Id true))))]⟩) [] rL ⟨rF,rE,rfl,rfl,(hC.consM rL rfl trivial),trivial⟩ ?_
      refine nB 592 [1,2,3,4,5,6,28,29,30,41,42,43] (fun _=>none) rfl (fun _ _=>rS (rA he169a (rA he169b (rA he169c (rA he208a (rA he208b he208c)))))) ?_
      refine cA ?_
      exact ⟨⟨(fu,vr210,(IntKind.i64.wrap (v204 + 1)),(jF v205 e208.Id true),v204),h2⟩,⟨rF,rE,rfl,rfl,(hC.consM rL rfl trivial),trivial⟩,Nat.lt_succ_self _⟩
    refine dC (xA (xA (gC ?_)))
    obtain rfl:=oI h2
    exact ⟨_,rfl,rL,⟨rF,rE,rfl,rfl,(hC.consM rL rfl trivial),trivial⟩⟩
  refine dC (xA (xA (gC ?_)))
  obtain rfl:=oI h1
  exact ⟨rL,⟨rF,rE,rfl,rfl,(hC.consM rL rfl trivial),trivial⟩⟩
theorem zfg {fu : Nat} {l1 : eB} {r : Int} (h0 : fO fu l1 = some r) : yA Tryz.prog 36 [.agg (eB.enc l1)] (.int .i64 r) []:=by
 refine dB Tryz.func36 rfl (by decide) rL ?_
 dsimp only [Tryz.f36]
 rw [fO] at h0
 refine xS 16 [1,2] ?_
 refine iA ?_
 refine xS 48 [2,8,9,10] ?_
 obtain ⟨x30,hxx30,h0⟩:=bA h0
 refine pC (fun s'=>s'.nx ≤ 56 ∧ LeN [] s' ⟨[(2,.int .i64 x30)],[],56,[]⟩) ?_ ?_
 ·
  intro s' hs
  obtain ⟨hn,hs⟩:=hs
  refine cA ?_
  refine oB [] hn hs ?_
  refine xS 72 [2] ?_
  refine jA ?_
  obtain rfl:=oI h0
  exact lA [] rG
 refine lC (ι:={ p : Nat × Int × Int // qI l1 p.1 p.2.1 p.2.2 = some x30 }) (fun p=>⟨[(2,.int .i64 p.1.2.1),(8,.psl 1 (List.map qA.enc l1.Levels)),(9,.int .i64 (l1.Levels.length : Int)),(10,.int .i64 p.1.2.2)],[],48,[]⟩) (fun p=>p.1.1) ⟨(fu,0,0),hxx30⟩ ⟨rF,rE,rfl,rfl,trivial,trivial⟩ (fun _=>Nat.le_refl _) ?_
 rintro ⟨⟨fu,best31,v32⟩,h1⟩
 cases fu with
 | zero =>
  replace h1 : qI l1 0 best31 v32 = some x30:=h1
  rw [qI] at h1; cases h1
 | succ fu =>
  replace h1 : qI l1 (fu + 1) best31 v32 = some x30:=h1
  rw [qI] at h1
  dsimp only
  refine xS 56 [2,8,9,10,11] ?_
  refine iA ?_
  refine xI h1 rfl (fun h1 hb33=>?_) (fun h1 hb33=>?_)
  ·
   refine oA (cA (iA (vB ?_)))
   obtain ⟨e34,he34,h1⟩:=bA h1
   obtain ⟨he34a,he34b,he34c⟩:=vA he34
   refine nA 88 [2,4,8,9,10] (fun _=>none) rfl (fun _ _=>rS (rA he34a (rA he34b he34c))) ?_
   refine nA 120 [2,8,9,10,15,16,17] (fun _=>none) rfl (fun _ _=>rS (rA he34a (rA he34b he34c))) ?_
   obtain ⟨x41,hxx41,h1⟩:=bA h1
   refine pC (fun s'=>s'.nx ≤ 128 ∧ LeN [] s' ⟨[(2,.int .i64 x41),(8,.psl 1 (List.map qA.enc l1.Levels)),(9,.int .i64 (l1.Levels.length : Int)),(10,.int .i64 v32)],[],128,[]⟩) ?_ ?_
   ·
    intro s' hs
    obtain ⟨hn,hs⟩:=hs
    refine pB (cA ?_)
    refine oB [] hn hs ?_
    refine nB 144 [2,8,9,10] (fun _=>none) rfl (fun _ _=>rS (rA he34a (rA he34b he34c))) ?_
    refine cA ?_
    exact ⟨⟨(fu,x41,(IntKind.i64.wrap (v32 + 1))),h1⟩,⟨rF,rE,rfl,rfl,trivial,trivial⟩,Nat.lt_succ_self _⟩
   refine lC (ι:={ p : Nat × Int × Int // mI e34 p.1 p.2.1 p.2.2 = some x41 }) (fun p=>⟨[(2,.int .i64 p.1.2.1),(8,.psl 1 (List.map qA.enc l1.Levels)),(9,.int .i64 (l1.Levels.length : Int)),(10,.int .i64 v32),(15,.psl 2 (List.map gB.enc e34.Runs)),(16,.int .i64 (e34.Runs.length : Int)),(17,.int .i64 p.1.2.2)],[],120,[]⟩) (fun p=>p.1.1) ⟨(fu,best31,0),hxx41⟩ ⟨rF,rE,rfl,rfl,trivial,trivial⟩ (fun _=>Nat.le_refl _) ?_
   rintro ⟨⟨fu,best42,v43⟩,h2⟩
   cases fu with
   | zero =>
  replace h2 : mI e34 0 best42 v43 = some x41:=h2
  rw [mI] at h2; cases h2
   | succ fu =>
    replace h2 : mI e34 (fu + 1) best42 v43 = some x41:=h2
    rw [mI] at h2
    dsimp only
    refine nA 128 [2,8,9,10,15,16,17,18] (fun _=>none) rfl (fun _ _=>rS (rA he34a (rA he34b he34c))) ?_
    refine iA ?_
    refine xI h2 rfl (fun h2 hb44=>?_) (fun h2 hb44=>?_)
    ·
     refine oA (cA (iA (vB ?_)))
     obtain ⟨e45,he45,h2⟩:=bA h2
     obtain ⟨he45a,he45b,he45c⟩:=vA he45
     refine nA 160 [2,6,8,9,10,15,16,17] (fun _=>none) rfl (fun _ _=>rS (rA he34a (rA he34b (rA he34c (rA he45a (rA he45b he45c)))))) ?_
     refine nB 200 [2,8,9,10,15,16,17] (fun _=>none) rfl (fun _ _=>rS (rA he34a (rA he34b (rA he34c (rA he45a (rA he45b he45c)))))) ?_
     refine pB (cA ?_)
     refine nB 216 [2,8,9,10,15,16,17] (fun _=>none) rfl (fun _ _=>rS (rA he34a (rA he34b (rA he34c (rA he45a (rA he45b he45c)))))) ?_
     refine cA ?_
     exact ⟨⟨(fu,(if best42 < e45.Id then e45.Id else best42),(IntKind.i64.wrap (v43 + 1))),h2⟩,⟨rF,rE,rfl,rfl,trivial,trivial⟩,Nat.lt_succ_self _⟩
    refine dC (xA (xA (gC ?_)))
    obtain rfl:=oI h2
    exact ⟨rL,⟨rF,rE,rfl,rfl,trivial,trivial⟩⟩
  refine dC (xA (xA (gC ?_)))
  obtain rfl:=oI h1
  exact ⟨rL,⟨rF,rE,rfl,rfl,trivial,trivial⟩⟩
theorem zei {fu : Nat} {l1 : eB} {r : Int × List qA} (h0 : lO fu l1 = some r) : yA Tryz.prog 38 [.agg (eB.enc l1)] (.fn 67 [] [.pp [.int .i64 r.1,.psl 1 (r.2.map qA.enc)]]) []:=by
 refine dB Tryz.func38 rfl (by decide) rL ?_
 dsimp only [Tryz.f38]
 rw [lO] at h0
 refine xS 16 [1] ?_
 refine xS 32 [2] ?_
 refine jA ?_
 obtain rfl:=oI h0
 exact lA [] rG
theorem zbJ {fu : Nat} {l1 : eB} {level2 : Int} {r : Bool} (h0 : mL fu l1 level2 = some r) : yA Tryz.prog 39 [.agg (eB.enc l1),.int .i64 level2] (.bool r) []:=by
 refine dB Tryz.func39 rfl (by decide) rL ?_
 dsimp only [Tryz.f39]
 rw [mL] at h0
 refine xS 16 [1,2] ?_
 refine xS 72 [4] ?_
 refine jA ?_
 obtain rfl:=oI h0
 exact lA [] rG
theorem zmd {fu : Nat} {runs1 : List (List aA)} {r : iB × Int × Int} (h0 : cI fu runs1 = some r) : yA Tryz.prog 99 [.psl 1 (runs1.map (tA 4 aA.enc))] (.tup [.agg (iB.enc r.1),.int .i64 r.2.1,.int .i64 r.2.2]) []:=by
 refine dB Tryz.func99 rfl (by decide) rL ?_
 dsimp only [Tryz.f99]
 rw [cI] at h0
 refine xS 24 [0,2] ?_
 refine iA ?_
 obtain ⟨vr2,hvr2,h0⟩:=bA h0
 refine nA 80 [0,2,5,6] (fun | 1=>some (.tup [.int .i64 vr2.1,.int .i64 vr2.2],[]) | _=>none) rfl (fun _ _=>rC (zaY hvr2)) ?_
 refine xS 96 [0,2,5,6,14] ?_
 refine xI h0 rfl (fun h0 hb3=>?_) (fun h0 hb3=>?_)
 ·
  refine xS 144 [2,3,4] ?_
  refine jA (mA ?_)
  obtain rfl:=oI h0
  exact lA [] rG
 refine oA (cA ?_)
 obtain ⟨hc4,h0⟩:=pD h0
 refine xS 128 [0,2,7] ?_
 refine xE ⟨[(0,.psl 1 (List.map (tA 4 aA.enc) runs1)),(2,.ref 0 0 0 0),(7,.sl 112 0 1 0 ((List.replicate runs1.length 0 : List Int).length))],[(0,⟨0,true,true,5,[[.nils,.nils,.nils,.nils,.int .i64 0]]⟩),(112,⟨0,true,true,1,List.map (gA .i64) (List.replicate runs1.length 0 : List Int)⟩)],128,[]⟩ ?_
 obtain ⟨vr5,hvr5,h0⟩:=bA h0
 obtain ⟨vr6,hvr6,h0⟩:=bA h0
 refine nA 208 [2,3,4] (fun | 1=>some (.psl 1 (vr5.map (tA 4 aA.enc)),[]) | 5=>some (.agg (fB.enc vr6),[]) | _=>none) rfl (fun Kt hK=>by
   try have q0:=zbe hvr5
   try have q1:=zeG hvr6
   exact rT) ?_
 refine jA ?_
 obtain rfl:=oI h0
 exact lA [] rG
theorem zoF {fu : Nat} {runs1 : List (List aA)} {bottom2 : Bool} {r : mB × Int × Int} (h0 : eQ fu runs1 bottom2 = some r) : yA Tryz.prog 68 [.psl 1 (runs1.map (tA 4 aA.enc)),.bool bottom2] (.tup [.agg (mB.enc r.1),.int .i64 r.2.1,.int .i64 r.2.2]) []:=by
 refine dB Tryz.func68 rfl (by decide) rL ?_
 dsimp only [Tryz.f68]
 rw [eQ] at h0
 refine xS 24 [0,1,4] ?_
 obtain ⟨vr3,hvr3,h0⟩:=bA h0
 refine nA 104 [1,4,5,6,7] (fun | 1=>some (.tup [.agg (iB.enc vr3.1),.int .i64 vr3.2.1,.int .i64 vr3.2.2],[]) | _=>none) rfl (fun _ _=>rC (zmd hvr3)) ?_
 refine iA ?_
 refine xS 120 [1,4,5,6,7,15] ?_
 refine xI h0 rfl (fun h0 hb4=>?_) (fun h0 hb4=>?_)
 ·
  refine xS 168 [4,5,6] ?_
  refine jA (mA ?_)
  obtain rfl:=oI h0
  exact lA [] rG
 refine oA (cA ?_)
 obtain ⟨vr5,hvr5,h0⟩:=bA h0
 refine qC 176 [4,5,6] (fun | 2=>some (.agg (lB.enc vr5),[]) | _=>none) rfl rfl rfl (fun _ _=>hO (zbX hvr5)) ?_
 refine jA ?_
 obtain rfl:=oI h0
 exact lA [] rG
theorem zdw {fu : Nat} {l1 : eB} {level2 : Int} {bottom3 : Bool} {r : bB} (h0 : qP fu l1 level2 bottom3 = some r) : yA Tryz.prog 40 [.agg (eB.enc l1),.int .i64 level2,.bool bottom3] (.agg (bB.enc r)) []:=by
 refine dB Tryz.func40 rfl (by decide) rL ?_
 dsimp only [Tryz.f40]
 rw [qP] at h0
 refine xS 16 [1,2,3,6] ?_
 obtain ⟨e4,he4,h0⟩:=bA h0
 obtain ⟨he4a,he4b,he4c⟩:=vA he4
 refine nA 72 [1,2,6,7] (fun _=>none) rfl (fun _ _=>rS (rA he4a (rA he4b he4c))) ?_
 obtain ⟨e5,he5,h0⟩:=bA h0
 have he5b:=(vA he5).2.1
 have he5c:=(dG 1 he5 rfl).1
 have he5a:=(dG 1 he5 rfl).2
 obtain ⟨e6,he6,h0⟩:=bA h0
 have he6b:=(vA he6).2.1
 have he6c:=(dG 0 he6 rfl).1
 have he6a:=(dG 0 he6 rfl).2
 obtain ⟨vr7,hvr7,h0⟩:=bA h0
 refine qC 224 [1,6,8] (fun | 10=>some (.tup [.agg (mB.enc vr7.1),.int .i64 vr7.2.1,.int .i64 vr7.2.2],[]) | _=>none) rfl rfl rfl (fun _ _=>wK (rA he4a (rA he4b (rA he4c (rA he5a (rA he5b (rA he5c (rA he6a (rA he6b he6c)))))))) (zoF hvr7)) ?_
 refine xE ⟨[(1,.int .i64 level2),(6,.ref 8 0 0 0),(8,.ref 192 0 0 0)],[(8,⟨0,true,true,11,[[.int .i64 0,.nils,.nils,.nils,.nils,.int .i64 0,.bool false,.str [],.bool false,.nils,.int .i64 0]]⟩),(192,⟨0,true,true,10,[[.psl 1 (List.map (tA 4 aA.enc) vr7.1.Merge.Runs),.psl 1 (List.map (gA .i64) vr7.1.Merge.At),.psl 2 (List.map eA.enc vr7.1.Merge.Tree.Keys),.psl 1 (List.map (gA .i64) vr7.1.Merge.Tree.Lose),.int .i64 vr7.1.Merge.Tree.Win,.bool vr7.1.Shadow.Some,.str vr7.1.Shadow.Last,.bool vr7.1.Shadow.Bottom,.psl 4 (List.map aA.enc vr7.1.Out),.int .i64 vr7.1.Steps]]⟩)],224,[]⟩ ?_
 refine nA 256 [6] (fun _=>none) rfl (fun _ _=>rS (rA he4a (rA he4b (rA he4c (rA he5a (rA he5b (rA he5c (rA he6a (rA he6b he6c))))))))) ?_
 refine jA ?_
 obtain rfl:=oI h0
 refine lA [] ?_
 exact rJ (rA he4a (rA he4b (rA he4c (rA he5a (rA he5b (rA he5c (rA he6a (rA he6b he6c))))))))
theorem zgm {fu : Nat} {seq1 : Int} {seq2 : List qA} {r : List Int} (h0 : qN fu seq1 seq2 = some r) : yA Tryz.prog 37 [.fn 67 [] [.pp [.int .i64 seq1,.psl 1 (seq2.map qA.enc)]]] (.psl 1 (r.map (gA .i64))) []:=by
 refine dB Tryz.func37 rfl (by decide) rL ?_
 dsimp only [Tryz.f37]
 rw [qN] at h0
 refine xS 8 [0] ?_
 refine vH 3 rfl ?_
 refine oC (l':=List.range' 0 1++(1::(List.range' 2 1++[]))) rfl ?_
 refine vC 0 1 16 (1::(List.range' 2 1++[])) (fun _=>none) rfl rfl rfl (fun _ _=>rT) ?_
 refine fK rfl rfl rfl rfl rfl Tryz.func66 rfl (by decide) rfl rL ?_
 dsimp only [Tryz.f66]
 refine xE ⟨[(0,.nils),(1,.fn 67 [] [.pp [.int .i64 seq1,.psl 1 (List.map qA.enc seq2)]])],[],16,[]⟩ ?_
 refine xS 32 [1,2,4] ?_
 refine iA ?_
 refine xS 40 [2,4,6] ?_
 refine vB ?_
 refine za4 rfl Tryz.func67 rfl (by decide) rL ?_
 intro RC3 hRC3
 have stRC3 : RC3.st = .ready ∧ RC3.pend = none:=by rw [hRC3]; exact ⟨rfl,rfl⟩
 have okRC3 : uY 40 RC3:=by rw [hRC3]; exact And.intro (rR) rfl
 dsimp only [Tryz.f67]
 refine oB (s2:=⟨[(0,.yld 40),(1,.pp [.int .i64 seq1,.psl 1 (List.map qA.enc seq2)])],[(16,⟨0,true,true,1,[[.nils]]⟩)],41,[(40,RC3)]⟩) [] rL ⟨rF,rE,rfl,rfl,(hC.consR rL rfl okRC3 rL trivial),trivial⟩ ?_
 refine xS 73 [0,6,7,8] ?_
 refine zbD ?_
 refine oB (s2:=⟨[(0,.yld 40),(6,.psl 1 (List.map qA.enc seq2)),(7,.int .i64 (seq2.length : Int)),(8,.int .i64 0)],[(16,⟨0,true,false,1,[[.sl 73 0 1 0 0]]⟩),(73,⟨0,true,true,1,List.map (gA .i64) []⟩)],74,[(40,RC3)]⟩) [(73,1)] rL ⟨rF,rE,rfl,rfl,(hC.consR rL rfl okRC3 rL trivial),rN⟩ ?_
 obtain ⟨x17,hxx17,h0⟩:=bA h0
 refine pC (fun s'=>∃ g25 : Nat,s'.nx ≤ 82 ∧ LeN [] s' ⟨[],[(16,⟨0,true,false,1,[[.sl 73 g25 1 0 x17.length]]⟩),(73,⟨g25,true,true,1,List.map (gA .i64) x17⟩)],82,[(40,RC3)]⟩) ?_ ?_
 ·
  intro s' hs
  obtain ⟨g25,hn,hs⟩:=hs
  refine ⟨_,hn,hs,?_⟩
  refine jS (fun _ _=>rT) ?_
  refine zbI stRC3 rfl ?_
  refine pB (cA ?_)
  refine xE ⟨[(2,.ref 16 0 0 0),(4,.nils),(6,.fn 67 [] [.pp [.int .i64 seq1,.psl 1 (List.map qA.enc seq2)]])],[(16,⟨0,true,false,1,[[.sl 73 g25 1 0 x17.length]]⟩),(73,⟨g25,true,true,1,List.map (gA .i64) x17⟩)],82,[]⟩ ?_
  refine xS 98 [4] ?_
  refine jA ?_
  refine oE (fun _ _=>rT) ?_
  refine xF ⟨[(0,.fn 67 [] [.pp [.int .i64 seq1,.psl 1 (List.map qA.enc seq2)]]),(3,.fn 67 [] [.pp [.int .i64 seq1,.psl 1 (List.map qA.enc seq2)]]),(4,.sl 73 g25 1 0 x17.length)],[(73,⟨g25,true,true,1,List.map (gA .i64) x17⟩)],98,[]⟩ ?_
  refine oC (l':=List.range' 2 1++[]) rfl ?_
  refine vC 2 1 106 [] (fun _=>none) rfl rfl rfl (fun _ _=>rT) ?_
  refine mD ?_
  refine cA ?_
  refine xE ⟨[(2,.sl 73 g25 1 0 x17.length)],[(73,⟨g25,true,true,1,List.map (gA .i64) x17⟩)],106,[]⟩ ?_
  refine jA ?_
  obtain rfl:=oI h0
  exact lA [] rG
 refine lC (ι:={ p : Nat × Int × List Int × Nat // nH seq2 p.1 p.2.1 p.2.2.1 = some x17 }) (fun p=>⟨[(0,.yld 40),(6,.psl 1 (List.map qA.enc seq2)),(7,.int .i64 (seq2.length : Int)),(8,.int .i64 p.1.2.1)],[(16,⟨0,true,false,1,[[.sl 73 p.1.2.2.2 1 0 p.1.2.2.1.length]]⟩),(73,⟨p.1.2.2.2,true,true,1,List.map (gA .i64) p.1.2.2.1⟩)],74,[(40,RC3)]⟩) (fun p=>p.1.1) ⟨(fu,0,[],0),hxx17⟩ ⟨rF,rE,rfl,rfl,(hC.consR rL rfl okRC3 rL trivial),trivial⟩ (fun _=>Nat.le_refl _) ?_
 rintro ⟨⟨fu,v18,v19,g20⟩,h1⟩
 cases fu with
 | zero =>
  replace h1 : nH seq2 0 v18 v19 = some x17:=h1
  rw [nH] at h1; cases h1
 | succ fu =>
  replace h1 : nH seq2 (fu + 1) v18 v19 = some x17:=h1
  rw [nH] at h1
  dsimp only
  refine xS 82 [0,6,7,8,9] ?_
  refine iA ?_
  refine xI h1 rfl (fun h1 hb21=>?_) (fun h1 hb21=>?_)
  ·
   refine oA (cA (iA (vB ?_)))
   obtain ⟨e22,he22,h1⟩:=bA h1
   obtain ⟨he22a,he22b,he22c⟩:=vA he22
   refine nA 130 [0,3,4,6,7,8] (fun _=>none) rfl (fun _ _=>rS (rA he22a (rA he22b he22c))) ?_
   refine vH 10 rfl ?_
   refine oC (l':=List.range' 0 5++(List.range' 5 5++[])) rfl ?_
   refine vC 0 5 170 (List.range' 5 5++[]) (fun _=>none) rfl rfl rfl (fun _ _=>rS (rA he22a (rA he22b he22c))) ?_
   refine kK (s2:=⟨[(0,.yld 40),(3,.int .i64 v18),(4,.ref 106 0 0 0),(6,.psl 1 (List.map qA.enc seq2)),(7,.int .i64 (seq2.length : Int)),(8,.int .i64 v18),(13,.ref 106 0 0 0),(14,.psl 2 (List.map gB.enc e22.Runs)),(15,.int .i64 (e22.Runs.length : Int)),(16,.bool (decide ((e22.Runs.length : Int) = 2))),(17,.bool (decide ((e22.Runs.length : Int) = 2)))],[(16,⟨0,true,false,1,[[.sl 73 g20 1 0 v19.length]]⟩),(73,⟨g20,true,true,1,List.map (gA .i64) v19⟩),(106,⟨0,true,true,1,[[.psl 2 (List.map gB.enc e22.Runs)]]⟩)],170,[(40,RC3)]⟩) [] rL ⟨rF,rE,rfl,rfl,(hC.consR rL rfl okRC3 rL trivial),trivial⟩ ?_
   generalize hg23 : (decide ((e22.Runs.length : Int) = 2)) = b23
   cases b23 with
   | true =>
    replace h1:=zA h1 hg23
    refine oC (l':=List.range' 5 2++(7::(List.range' 8 2++[]))) rfl ?_
    refine vC 5 2 186 (7::(List.range' 8 2++[])) (fun _=>none) rfl rfl rfl (fun _ _=>rS (rA he22a (rA he22b he22c))) ?_
    refine zaR hRC3 rfl rfl rfl rfl rfl rfl rfl rfl rfl ?_
    refine oB (s2:=⟨[(2,.ref 16 0 0 0),(4,.nils),(6,.fn 67 [] [.pp [.int .i64 seq1,.psl 1 (List.map qA.enc seq2)]]),(7,.int .i64 v18)],[(16,⟨0,true,false,1,[[.sl 73 g20 1 0 v19.length]]⟩),(73,⟨g20,true,true,1,List.map (gA .i64) v19⟩),(106,⟨0,true,true,1,[[.psl 2 (List.map gB.enc e22.Runs)]]⟩)],186,[(40,RC3)]⟩) [] rL ⟨rF,rE,rfl,rfl,(hC.consR rL rfl okRC3 rL trivial),trivial⟩ ?_
    refine nB 194 [2,4,5] (fun _=>none) rfl (fun _ _=>rS (rA he22a (rA he22b he22c))) ?_
    refine cA ?_
    refine ⟨RC3,rfl,stRC3.1,?_⟩
    refine oB (s2:=⟨[(2,.ref 16 0 0 0),(4,.nils),(5,.int .i64 v18)],[(16,⟨0,true,false,1,[[.sl 73 g20 1 0 v19.length]]⟩),(73,⟨g20,true,true,1,List.map (gA .i64) v19⟩),(106,⟨0,true,true,1,[[.psl 2 (List.map gB.enc e22.Runs)]]⟩)],194,[(40,{ RC3 with st:=.busy,pend:=RC3.pend })]⟩) [] rL ⟨rF,rE,rfl,rfl,(hC.consR rL rfl okRC3 rL trivial),trivial⟩ ?_
    refine vB ?_
    obtain ⟨hc24,h1⟩:=pD h1
    refine nB 234 [2,4] (fun _=>none) rfl (fun _ _=>rS (rA he22a (rA he22b he22c))) ?_
    refine pB ?_
    refine za5 stRC3 rfl ?_
    refine kK (s2:=⟨[(0,.yld 40),(3,.int .i64 v18),(4,.ref 106 0 0 0),(6,.psl 1 (List.map qA.enc seq2)),(7,.int .i64 (seq2.length : Int)),(8,.int .i64 v18),(13,.ref 106 0 0 0),(14,.psl 2 (List.map gB.enc e22.Runs)),(15,.int .i64 (e22.Runs.length : Int)),(16,.bool true),(17,.bool true),(18,.yld 40),(19,.int .i64 v18),(20,.bool true)],[(16,⟨0,true,false,1,[[.sl 73 (g20 + 1) 1 0 ((v19++[v18]).length)]]⟩),(73,⟨(g20 + 1),true,true,1,List.map (gA .i64) (v19++[v18])⟩),(106,⟨0,true,true,1,[[.psl 2 (List.map gB.enc e22.Runs)]]⟩)],234,[(40,RC3)]⟩) [] rL ⟨rF,rE,rfl,rfl,(hC.consR rL rfl okRC3 rL trivial),trivial⟩ ?_
    refine oC (l':=List.range' 8 2++[]) rfl ?_
    refine vC 8 2 250 [] (fun _=>none) rfl rfl rfl (fun _ _=>rS (rA he22a (rA he22b he22c))) ?_
    refine mD ?_
    refine cA ?_
    refine oB (s2:=⟨[(0,.yld 40),(6,.psl 1 (List.map qA.enc seq2)),(7,.int .i64 (seq2.length : Int)),(8,.int .i64 v18),(18,.yld 40),(19,.int .i64 v18),(20,.bool true),(21,.bool false),(22,.bool false)],[(16,⟨0,true,false,1,[[.sl 73 (g20 + 1) 1 0 ((v19++[v18]).length)]]⟩),(73,⟨(g20 + 1),true,true,1,List.map (gA .i64) (v19++[v18])⟩)],250,[(40,RC3)]⟩) [] rL ⟨rF,rE,rfl,rfl,(hC.consR rL rfl okRC3 rL trivial),trivial⟩ ?_
    refine pF rfl ?_
    refine oA (pB (cA ?_))
    refine nB 266 [0,6,7,8,18,19,20,21] (fun _=>none) rfl (fun _ _=>rS (rA he22a (rA he22b he22c))) ?_
    refine cA ?_
    exact ⟨⟨(fu,(IntKind.i64.wrap (v18 + 1)),(v19++[v18]),(g20 + 1)),h1⟩,⟨rF,rE,rfl,rfl,(hC.consR rL rfl okRC3 rL trivial),trivial⟩,Nat.lt_succ_self _⟩
   | false =>
    replace h1:=sA h1 hg23
    refine oC (l':=List.range' 5 5++[]) rfl ?_
    refine vC 5 5 210 [] (fun _=>none) rfl rfl rfl (fun _ _=>rS (rA he22a (rA he22b he22c))) ?_
    refine mD ?_
    refine cA ?_
    refine oB (s2:=⟨[(0,.yld 40),(6,.psl 1 (List.map qA.enc seq2)),(7,.int .i64 (seq2.length : Int)),(8,.int .i64 v18),(22,.bool false)],[(16,⟨0,true,false,1,[[.sl 73 g20 1 0 v19.length]]⟩),(73,⟨g20,true,true,1,List.map (gA .i64) v19⟩)],210,[(40,RC3)]⟩) [] rL ⟨rF,rE,rfl,rfl,(hC.consR rL rfl okRC3 rL trivial),trivial⟩ ?_
    refine pF rfl ?_
    refine oA (pB (cA ?_))
    refine nB 226 [0,6,7,8] (fun _=>none) rfl (fun _ _=>rS (rA he22a (rA he22b he22c))) ?_
    refine cA ?_
    exact ⟨⟨(fu,(IntKind.i64.wrap (v18 + 1)),v19,g20),h1⟩,⟨rF,rE,rfl,rfl,(hC.consR rL rfl okRC3 rL trivial),trivial⟩,Nat.lt_succ_self _⟩
  refine dC (xA (xA (gC ?_)))
  obtain rfl:=oI h1
  exact ⟨g20,rL,⟨rF,rE,rfl,rfl,(hC.consR rL rfl okRC3 rL trivial),trivial⟩⟩
theorem zmF {fu : Nat} {s11 : List aA} {s22 : List aA} {r : Bool} (h0 : qS fu s11 s22 = some r) : yA Tryz.prog 100 [.psl 4 (s11.map aA.enc),.psl 4 (s22.map aA.enc)] (.bool r) []:=by
 refine dB Tryz.func100 rfl (by decide) rL ?_
 dsimp only [Tryz.f100]
 rw [qS] at h0
 refine xS 8 [0,1] ?_
 refine iA ?_
 refine xS 48 [0,1,10] ?_
 refine xI h0 rfl (fun h0 hb3=>?_) (fun h0 hb3=>?_)
 ·
  refine xS 56 [4] ?_
  refine jA (mA ?_)
  obtain rfl:=oI h0
  exact lA [] rG
 refine oA (cA (iA ?_))
 refine xS 72 [0,1,12,13] ?_
 obtain ⟨x13,hxx13,h0⟩:=bA h0
 refine pC (fun s'=>∃ o19 : Unit,x13 = .inl o19 ∧ s'.nx ≤ 80 ∧ LeN [] s' ⟨[],[],80,[]⟩) ?_ ?_
 ·
  intro s' hs
  obtain ⟨o19,rfl,hn,hs⟩:=hs
  refine cA ?_
  refine oB [] hn hs ?_
  refine xS 88 [4] ?_
  refine jA ?_
  obtain rfl:=oI h0
  exact lA [] rG
 refine lC (ι:={ p : Nat × Int // fI s11 s22 p.1 p.2 = some x13 }) (fun p=>⟨[(0,.psl 4 (List.map aA.enc s11)),(1,.psl 4 (List.map aA.enc s22)),(12,.int .i64 (s11.length : Int)),(13,.int .i64 p.1.2)],[],72,[]⟩) (fun p=>p.1.1) ⟨(fu,0),hxx13⟩ ⟨rF,rE,rfl,rfl,trivial,trivial⟩ (fun _=>Nat.le_refl _) ?_
 rintro ⟨⟨fu,v14⟩,h1⟩
 cases fu with
 | zero =>
  replace h1 : fI s11 s22 0 v14 = some x13:=h1
  rw [fI] at h1; cases h1
 | succ fu =>
  replace h1 : fI s11 s22 (fu + 1) v14 = some x13:=h1
  rw [fI] at h1
  dsimp only
  refine xS 80 [0,1,12,13,14] ?_
  refine iA ?_
  refine xI h1 rfl (fun h1 hb15=>?_) (fun h1 hb15=>?_)
  ·
   refine oA (cA (iA (vB ?_)))
   refine xS 96 [0,1,5,12,13] ?_
   obtain ⟨e16,he16,h1⟩:=bA h1
   obtain ⟨he16a,he16b,he16c⟩:=vA he16
   obtain ⟨e17,he17,h1⟩:=bA h1
   obtain ⟨he17a,he17b,he17c⟩:=vA he17
   refine qC 168 [0,1,12,13,24] (fun _=>none) rfl rfl rfl (fun _ _=>xD (rA he16a (rA he16b (rA he16c (rA he17a (rA he17b he17c)))))) ?_
   refine xI h1 rfl (fun h1 hb18=>?_) (fun h1 hb18=>?_)
   ·
    refine nA 176 [4] (fun _=>none) rfl (fun _ _=>rS (rA he16a (rA he16b (rA he16c (rA he17a (rA he17b he17c)))))) ?_
    refine jA ?_
    obtain rfl:=oI h1
    refine zB (mA (mA (xC (mA ?_))))
    obtain rfl:=oI h0
    refine lA [] ?_
    exact rJ (rA he16a (rA he16b (rA he16c (rA he17a (rA he17b he17c)))))
   refine oA (pB (cA ?_))
   refine nB 184 [0,1,12,13] (fun _=>none) rfl (fun _ _=>rS (rA he16a (rA he16b (rA he16c (rA he17a (rA he17b he17c)))))) ?_
   refine cA ?_
   exact ⟨⟨(fu,(IntKind.i64.wrap (v14 + 1))),h1⟩,⟨rF,rE,rfl,rfl,trivial,trivial⟩,Nat.lt_succ_self _⟩
  refine dC (xA (xA (gC ?_)))
  obtain rfl:=oI h1
  exact ⟨_,rfl,rL,⟨rF,rE,rfl,rfl,trivial,trivial⟩⟩
theorem xO {fu : Nat} {a1 : List aA} {b2 : List aA} {r : Bool} (h0 : vM fu a1 b2 = some r) : yA Tryz.prog 70 [.psl 4 (a1.map aA.enc),.psl 4 (b2.map aA.enc)] (.bool r) []:=by
 refine dB Tryz.func70 rfl (by decide) rL ?_
 dsimp only [Tryz.f70]
 rw [vM] at h0
 refine xS 8 [0,1] ?_
 obtain ⟨vr3,hvr3,h0⟩:=bA h0
 refine nA 40 [4] (fun | 2=>some (.bool vr3,[]) | _=>none) rfl (fun _ _=>rC (zmF hvr3)) ?_
 refine jA ?_
 obtain rfl:=oI h0
 exact lA [] rG
theorem dR {fu : Nat} {s11 : List (List aA)} {s22 : List (List aA)} {r : Bool} (h0 : gR fu s11 s22 = some r) : yA Tryz.prog 69 [.psl 1 (s11.map (tA 4 aA.enc)),.psl 1 (s22.map (tA 4 aA.enc)),.fn 70 [] []] (.bool r) []:=by
 refine dB Tryz.func69 rfl (by decide) rL ?_
 dsimp only [Tryz.f69]
 rw [gR] at h0
 refine xS 8 [0,1,2] ?_
 refine iA ?_
 refine xS 48 [0,1,2,14] ?_
 refine xI h0 rfl (fun h0 hb3=>?_) (fun h0 hb3=>?_)
 ·
  refine xS 56 [6] ?_
  refine jA (mA ?_)
  obtain rfl:=oI h0
  exact lA [] rG
 refine oA (cA (iA ?_))
 refine xS 72 [1,2,15,16,17] ?_
 obtain ⟨x15,hxx15,h0⟩:=bA h0
 refine pC (fun s'=>∃ o22 : Unit,x15 = .inl o22 ∧ s'.nx ≤ 80 ∧ LeN [] s' ⟨[],[],80,[]⟩) ?_ ?_
 ·
  intro s' hs
  obtain ⟨o22,rfl,hn,hs⟩:=hs
  refine cA ?_
  refine oB [] hn hs ?_
  refine xS 88 [6] ?_
  refine jA ?_
  obtain rfl:=oI h0
  exact lA [] rG
 refine lC (ι:={ p : Nat × Int // tH s11 s22 p.1 p.2 = some x15 }) (fun p=>⟨[(1,.psl 1 (List.map (tA 4 aA.enc) s22)),(2,.fn 70 [] []),(15,.psl 1 (List.map (tA 4 aA.enc) s11)),(16,.int .i64 (s11.length : Int)),(17,.int .i64 p.1.2)],[],72,[]⟩) (fun p=>p.1.1) ⟨(fu,0),hxx15⟩ ⟨rF,rE,rfl,rfl,trivial,trivial⟩ (fun _=>Nat.le_refl _) ?_
 rintro ⟨⟨fu,v16⟩,h1⟩
 cases fu with
 | zero =>
  replace h1 : tH s11 s22 0 v16 = some x15:=h1
  rw [tH] at h1; cases h1
 | succ fu =>
  replace h1 : tH s11 s22 (fu + 1) v16 = some x15:=h1
  rw [tH] at h1
  dsimp only
  refine xS 80 [1,2,15,16,17,18] ?_
  refine iA ?_
  refine xI h1 rfl (fun h1 hb17=>?_) (fun h1 hb17=>?_)
  ·
   refine oA (cA (iA (vB ?_)))
   obtain ⟨e18,he18,h1⟩:=bA h1
   obtain ⟨he18a,he18b,he18c⟩:=vA he18
   refine nA 120 [1,2,7,8,15,16,17] (fun _=>none) rfl (fun _ _=>rS (rA he18a (rA he18b he18c))) ?_
   obtain ⟨e19,he19,h1⟩:=bA h1
   obtain ⟨he19a,he19b,he19c⟩:=vA he19
   refine nA 160 [1,2,8,9,15,16,17] (fun _=>none) rfl (fun _ _=>rS (rA he18a (rA he18b (rA he18c (rA he19a (rA he19b he19c)))))) ?_
   obtain ⟨vr20,hvr20,h1⟩:=bA h1
   refine nA 200 [1,2,15,16,17,30] (fun | 3=>some (.bool vr20,[]) | _=>none) rfl (fun _ _=>rB (rA he18a (rA he18b (rA he18c (rA he19a (rA he19b he19c))))) (xO hvr20)) ?_
   refine xI h1 rfl (fun h1 hb21=>?_) (fun h1 hb21=>?_)
   ·
    refine nA 208 [6] (fun _=>none) rfl (fun _ _=>rS (rA he18a (rA he18b (rA he18c (rA he19a (rA he19b he19c)))))) ?_
    refine jA ?_
    obtain rfl:=oI h1
    refine zB (mA (mA (xC (mA ?_))))
    obtain rfl:=oI h0
    refine lA [] ?_
    exact rJ (rA he18a (rA he18b (rA he18c (rA he19a (rA he19b he19c)))))
   refine oA (pB (cA ?_))
   refine nB 216 [1,2,15,16,17] (fun _=>none) rfl (fun _ _=>rS (rA he18a (rA he18b (rA he18c (rA he19a (rA he19b he19c)))))) ?_
   refine cA ?_
   exact ⟨⟨(fu,(IntKind.i64.wrap (v16 + 1))),h1⟩,⟨rF,rE,rfl,rfl,trivial,trivial⟩,Nat.lt_succ_self _⟩
  refine dC (xA (xA (gC ?_)))
  obtain rfl:=oI h1
  exact ⟨_,rfl,rL,⟨rF,rE,rfl,rfl,trivial,trivial⟩⟩
theorem znP {fu : Nat} {a1 : mB} {b2 : mB} {r : Bool} (h0 : bR fu a1 b2 = some r) : yA Tryz.prog 41 [.agg (mB.enc a1),.agg (mB.enc b2)] (.bool r) []:=by
 refine dB Tryz.func41 rfl (by decide) rL ?_
 dsimp only [Tryz.f41,List.append]
 rw [bR] at h0
 refine xS 24 [2,3] ?_
 refine qC 88 [2,3,5,6] (fun _=>none) rfl rfl rfl (fun _ _=>iF) ?_
 obtain ⟨vr3,hvr3,h0⟩:=bA h0
 obtain ⟨b5,hb5,h0⟩:=bA h0
 obtain ⟨b7,hb7,h0⟩:=bA h0
 obtain ⟨b9,hb9,h0⟩:=bA h0
 obtain ⟨b10,hb10,h0⟩:=bA h0
 obtain ⟨b11,hb11,h0⟩:=bA h0
 obtain ⟨b13,hb13,h0⟩:=bA h0
 obtain ⟨b14,hb14,h0⟩:=bA h0
 refine jC (fr':=[(4,.bool b14)]) (hp':=[(0,⟨0,true,true,10,[[.psl 1 (List.map (tA 4 aA.enc) a1.Merge.Runs),.psl 1 (List.map (gA .i64) a1.Merge.At),.psl 2 (List.map eA.enc a1.Merge.Tree.Keys),.psl 1 (List.map (gA .i64) a1.Merge.Tree.Lose),.int .i64 a1.Merge.Tree.Win,.bool a1.Shadow.Some,.str a1.Shadow.Last,.bool a1.Shadow.Bottom,.psl 4 (List.map aA.enc a1.Out),.int .i64 a1.Steps]]⟩),(8,⟨0,true,true,10,[[.psl 1 (List.map (tA 4 aA.enc) b2.Merge.Runs),.psl 1 (List.map (gA .i64) b2.Merge.At),.psl 2 (List.map eA.enc b2.Merge.Tree.Keys),.psl 1 (List.map (gA .i64) b2.Merge.Tree.Lose),.int .i64 b2.Merge.Tree.Win,.bool b2.Shadow.Some,.str b2.Shadow.Last,.bool b2.Shadow.Bottom,.psl 4 (List.map aA.enc b2.Out),.int .i64 b2.Steps]]⟩),(56,⟨0,true,true,5,[[.psl 1 (List.map (tA 4 aA.enc) a1.Merge.Runs),.psl 1 (List.map (gA .i64) a1.Merge.At),.psl 2 (List.map eA.enc a1.Merge.Tree.Keys),.psl 1 (List.map (gA .i64) a1.Merge.Tree.Lose),.int .i64 a1.Merge.Tree.Win]]⟩),(64,⟨0,true,true,5,[[.psl 1 (List.map (tA 4 aA.enc) b2.Merge.Runs),.psl 1 (List.map (gA .i64) b2.Merge.At),.psl 2 (List.map eA.enc b2.Merge.Tree.Keys),.psl 1 (List.map (gA .i64) b2.Merge.Tree.Lose),.int .i64 b2.Merge.Tree.Win]]⟩)]) [0,8,56,64] 576 [4] (fun | 4=>some (.bool vr3,[]) | 10=>(qK fu a1.Merge.At b2.Merge.At).bind fun vr4=>some (.bool vr4,[]) | 19=>(oL fu a1.Merge.Tree.Keys b2.Merge.Tree.Keys).bind fun vr6=>some (.bool vr6,[]) | 28=>(qK fu a1.Merge.Tree.Lose b2.Merge.Tree.Lose).bind fun vr8=>some (.bool vr8,[]) | 51=>(vM fu a1.Out b2.Out).bind fun vr12=>some (.bool vr12,[]) | _=>none) rfl (fun Kt hK=>by
   cases vr3 with
   | false =>
    replace hb5:=sA hb5 rfl
    have hqb5:=oI hb5
    cases b5 with
    | false =>
     replace hb7:=sA hb7 rfl
     have hqb7:=oI hb7
     cases b7 with
     | false =>
      replace hb9:=sA hb9 rfl
      have hqb9:=oI hb9
      cases b9 with
      | false =>
       replace hb10:=sA hb10 rfl
       have hqb10:=oI hb10
       cases b10 with
       | false =>
        replace hb11:=sA hb11 rfl
        have hqb11:=oI hb11
        cases b11 with
        | false =>
         replace hb13:=sA hb13 rfl
         have hqb13:=oI hb13
         cases b13 with
         | false =>
          replace hb14:=sA hb14 rfl
          have hqb14:=oI hb14
          subst hqb14
          try have q0:=dR hvr3
          try have q1:=jG hvr4
          try have q2:=tL hvr6
          try have q3:=jG hvr8
          try have q4:=xO hvr12
          exact rT
         | true =>
          cases hqb13
        | true =>
         cases hqb11
       | true =>
        cases hqb10
      | true =>
       cases hqb9
     | true =>
      cases hqb7
    | true =>
     cases hqb5
   | true =>
    replace hb5:=zA hb5 rfl
    obtain ⟨vr4,hvr4,hb5⟩:=bA hb5
    have hqb5:=oI hb5
    cases b5 with
    | false =>
     subst hqb5
     replace hb7:=sA hb7 rfl
     have hqb7:=oI hb7
     cases b7 with
     | false =>
      replace hb9:=sA hb9 rfl
      have hqb9:=oI hb9
      cases b9 with
      | false =>
       replace hb10:=sA hb10 rfl
       have hqb10:=oI hb10
       cases b10 with
       | false =>
        replace hb11:=sA hb11 rfl
        have hqb11:=oI hb11
        cases b11 with
        | false =>
         replace hb13:=sA hb13 rfl
         have hqb13:=oI hb13
         cases b13 with
         | false =>
          replace hb14:=sA hb14 rfl
          have hqb14:=oI hb14
          subst hqb14
          try have q0:=dR hvr3
          try have q1:=jG hvr4
          try have q2:=tL hvr6
          try have q3:=jG hvr8
          try have q4:=xO hvr12
          exact rS hvr4
         | true =>
          cases hqb13
        | true =>
         cases hqb11
       | true =>
        cases hqb10
      | true =>
       cases hqb9
     | true =>
      cases hqb7
    | true =>
     subst hqb5
     replace hb7:=zA hb7 rfl
     obtain ⟨vr6,hvr6,hb7⟩:=bA hb7
     have hqb7:=oI hb7
     cases b7 with
     | false =>
      subst hqb7
      replace hb9:=sA hb9 rfl
      have hqb9:=oI hb9
      cases b9 with
      | false =>
       replace hb10:=sA hb10 rfl
       have hqb10:=oI hb10
       cases b10 with
       | false =>
        replace hb11:=sA hb11 rfl
        have hqb11:=oI hb11
        cases b11 with
        | false =>
         replace hb13:=sA hb13 rfl
         have hqb13:=oI hb13
         cases b13 with
         | false =>
          replace hb14:=sA hb14 rfl
          have hqb14:=oI hb14
          subst hqb14
          try have q0:=dR hvr3
          try have q1:=jG hvr4
          try have q2:=tL hvr6
          try have q3:=jG hvr8
          try have q4:=xO hvr12
          exact rS (rA hvr4 hvr6)
         | true =>
          cases hqb13
        | true =>
         cases hqb11
       | true =>
        cases hqb10
      | true =>
       cases hqb9
     | true =>
      subst hqb7
      replace hb9:=zA hb9 rfl
      obtain ⟨vr8,hvr8,hb9⟩:=bA hb9
      have hqb9:=oI hb9
      cases b9 with
      | false =>
       subst hqb9
       replace hb10:=sA hb10 rfl
       have hqb10:=oI hb10
       cases b10 with
       | false =>
        replace hb11:=sA hb11 rfl
        have hqb11:=oI hb11
        cases b11 with
        | false =>
         replace hb13:=sA hb13 rfl
         have hqb13:=oI hb13
         cases b13 with
         | false =>
          replace hb14:=sA hb14 rfl
          have hqb14:=oI hb14
          subst hqb14
          try have q0:=dR hvr3
          try have q1:=jG hvr4
          try have q2:=tL hvr6
          try have q3:=jG hvr8
          try have q4:=xO hvr12
          exact rS (rA hvr4 (rA hvr6 hvr8))
         | true =>
          cases hqb13
        | true =>
         cases hqb11
       | true =>
        cases hqb10
      | true =>
       subst hqb9
       replace hb10:=zA hb10 rfl
       have hqb10:=oI hb10
       cases b10 with
       | false =>
        replace hb11:=sA hb11 rfl
        have hqb11:=oI hb11
        cases b11 with
        | false =>
         replace hb13:=sA hb13 rfl
         have hqb13:=oI hb13
         cases b13 with
         | false =>
          replace hb14:=sA hb14 rfl
          have hqb14:=oI hb14
          subst hqb14
          simp (maxSteps:=1000000) only [↓reduceIte,reduceCtorEq,Nat.reduceEqDiff,Nat.reduceLT,Nat.reduceLeDiff,Nat.reduceAdd,Nat.reduceMul,Int.reduceToNat,push_cast,hvr4,hvr6,hvr8,↓hqb10]
          try simp only [↓hqb10] at hK
          try have q0:=dR hvr3
          try have q1:=jG hvr4
          try have q2:=tL hvr6
          try have q3:=jG hvr8
          try have q4:=xO hvr12
          all_goals exact rU
         | true =>
          cases hqb13
        | true =>
         cases hqb11
       | true =>
        replace hb11:=zA hb11 rfl
        have hqb11:=oI hb11
        cases b11 with
        | false =>
         replace hb13:=sA hb13 rfl
         have hqb13:=oI hb13
         cases b13 with
         | false =>
          replace hb14:=sA hb14 rfl
          have hqb14:=oI hb14
          subst hqb14
          simp (maxSteps:=1000000) only [↓reduceIte,reduceCtorEq,Nat.reduceEqDiff,Nat.reduceLT,Nat.reduceLeDiff,Nat.reduceAdd,Nat.reduceMul,Int.reduceToNat,push_cast,hvr4,hvr6,hvr8,↓hqb10,↓hqb11]
          try simp only [↓hqb10,↓hqb11] at hK
          try have q0:=dR hvr3
          try have q1:=jG hvr4
          try have q2:=tL hvr6
          try have q3:=jG hvr8
          try have q4:=xO hvr12
          all_goals exact rU
         | true =>
          cases hqb13
        | true =>
         replace hb13:=zA hb13 rfl
         obtain ⟨vr12,hvr12,hb13⟩:=bA hb13
         have hqb13:=oI hb13
         cases b13 with
         | false =>
          subst hqb13
          replace hb14:=sA hb14 rfl
          have hqb14:=oI hb14
          subst hqb14
          simp (maxSteps:=1000000) only [↓reduceIte,reduceCtorEq,Nat.reduceEqDiff,Nat.reduceLT,Nat.reduceLeDiff,Nat.reduceAdd,Nat.reduceMul,Int.reduceToNat,push_cast,hvr4,hvr6,hvr8,↓hqb10,↓hqb11,hvr12]
          try simp only [↓hqb10,↓hqb11] at hK
          try have q0:=dR hvr3
          try have q1:=jG hvr4
          try have q2:=tL hvr6
          try have q3:=jG hvr8
          try have q4:=xO hvr12
          all_goals exact rU
         | true =>
          subst hqb13
          replace hb14:=zA hb14 rfl
          have hqb14:=oI hb14
          subst hqb14
          simp (maxSteps:=1000000) only [↓reduceIte,reduceCtorEq,Nat.reduceEqDiff,Nat.reduceLT,Nat.reduceLeDiff,Nat.reduceAdd,Nat.reduceMul,Int.reduceToNat,push_cast,hvr4,hvr6,hvr8,↓hqb10,↓hqb11,hvr12]
          try simp only [↓hqb10,↓hqb11] at hK
          try have q0:=dR hvr3
          try have q1:=jG hvr4
          try have q2:=tL hvr6
          try have q3:=jG hvr8
          try have q4:=xO hvr12
          all_goals exact rU) ?_
 refine jA ?_
 obtain rfl:=oI h0
 exact lA [] rG
theorem zdp {fu : Nat} {vs1 : cB} {r : Int × Int} (h0 : bK fu vs1 = some r) : yA Tryz.prog 11 [.agg (cB.enc vs1)] (.tup [.int .i64 r.1,.int .i64 r.2]) []:=by
 refine dB Tryz.func11 rfl (by decide) rL ?_
 dsimp only [Tryz.f11]
 rw [bK] at h0
 refine xS 24 [1] ?_
 obtain ⟨vr2,hvr2,h0⟩:=bA h0
 refine nA 88 [1,3] (fun | 2=>some (.tup [.int .i64 vr2.1,.int .i64 vr2.2.1,.int .i64 vr2.2.2],[]) | _=>none) rfl (fun _ _=>rC (ze9 hvr2)) ?_
 refine iA (vB ?_)
 refine xS 112 [1,3,21] ?_
 refine xI h0 rfl (fun h0 hb3=>?_) (fun h0 hb3=>?_)
 ·
  refine xS 136 [2,3] ?_
  refine jA (zB (mA ?_))
  obtain rfl:=oI h0
  exact lA [] rG
 obtain ⟨b4,hb4,h0⟩:=bA h0
 refine jC (fr':=[(1,.ref 0 0 0 0),(25,.bool b4)]) (hp':=[(0,⟨0,true,true,4,[[.int .i64 vs1.Levels.B,.psl 1 (List.map qA.enc vs1.Levels.Levels),.psl 11 (List.map bB.enc vs1.Jobs),.int .i64 vs1.NextId]]⟩)]) [0] 184 [1,25] (fun _=>none) rfl (fun Kt hK=>by
   cases hg5 : (decide (vs1.NextId < 1)) with
   | false =>
    replace hb4:=sA hb4 hg5
    have hqb4:=oI hb4
    subst hqb4
    exact rW hg5 hK
   | true =>
    replace hb4:=zA hb4 hg5
    have hqb4:=oI hb4
    subst hqb4
    exact rW hg5 hK) ?_
 refine xI h0 rfl (fun h0 hb6=>?_) (fun h0 hb6=>?_)
 ·
  refine xS 200 [2,3] ?_
  refine jA (zB (mA ?_))
  obtain rfl:=oI h0
  exact lA [] rG
 obtain ⟨vr7,hvr7,h0⟩:=bA h0
 refine qC 240 [1,34] (fun | 4=>some (.int .i64 vr7,[]) | _=>none) rfl rfl rfl (fun _ _=>hO (zfg hvr7)) ?_
 refine xI h0 rfl (fun h0 hb8=>?_) (fun h0 hb8=>?_)
 ·
  refine xS 256 [2,3] ?_
  refine jA (zB (mA ?_))
  obtain rfl:=oI h0
  exact lA [] rG
 refine oA (pB (cA ?_))
 obtain ⟨vr9,hvr9,h0⟩:=bA h0
 obtain ⟨vr10,hvr10,h0⟩:=bA h0
 refine nA 280 [1,4] (fun | 2=>some (.fn 67 [] [.pp [.int .i64 vr9.1,.psl 1 (vr9.2.map qA.enc)]],[]) | 3=>some (.psl 1 (vr10.map (gA .i64)),[]) | _=>none) rfl (fun Kt hK=>by
   try have q0:=zei hvr9
   try have q1:=zgm hvr10
   exact rT) ?_
 refine iA ?_
 refine xS 312 [1,4,46,47,48] ?_
 obtain ⟨x48,hxx48,h0⟩:=bA h0
 refine pC (fun s'=>∃ o68 : Unit,x48 = .inl o68 ∧ s'.nx ≤ 320 ∧ LeN [] s' ⟨[(1,.ref 0 0 0 0),(4,.psl 1 (List.map (gA .i64) vr10))],[(0,⟨0,true,true,4,[[.int .i64 vs1.Levels.B,.psl 1 (List.map qA.enc vs1.Levels.Levels),.psl 11 (List.map bB.enc vs1.Jobs),.int .i64 vs1.NextId]]⟩)],320,[]⟩) ?_ ?_
 ·
  intro s' hs
  obtain ⟨o68,rfl,hn,hs⟩:=hs
  refine cA ?_
  refine oB [] hn hs ?_
  refine iA ?_
  refine xS 368 [126] ?_
  refine xI h0 rfl (fun h0 hb69=>?_) (fun h0 hb69=>?_)
  ·
   refine xS 384 [2,3] ?_
   refine jA (mA ?_)
   obtain rfl:=oI h0
   exact lA [] rG
  refine oA (cA ?_)
  refine xS 384 [2,3] ?_
  refine jA ?_
  obtain rfl:=oI h0
  exact lA [] rG
 refine lC (ι:={ p : Nat × Int // aF vs1 vr10 p.1 p.2 = some x48 }) (fun p=>⟨[(1,.ref 0 0 0 0),(4,.psl 1 (List.map (gA .i64) vr10)),(46,.psl 11 (List.map bB.enc vs1.Jobs)),(47,.int .i64 (vs1.Jobs.length : Int)),(48,.int .i64 p.1.2)],[(0,⟨0,true,true,4,[[.int .i64 vs1.Levels.B,.psl 1 (List.map qA.enc vs1.Levels.Levels),.psl 11 (List.map bB.enc vs1.Jobs),.int .i64 vs1.NextId]]⟩)],312,[]⟩) (fun p=>p.1.1) ⟨(fu,0),hxx48⟩ ⟨rF,rE,rfl,rfl,trivial,trivial⟩ (fun _=>Nat.le_refl _) ?_
 rintro ⟨⟨fu,v49⟩,h1⟩
 cases fu with
 | zero =>
  replace h1 : aF vs1 vr10 0 v49 = some x48:=h1
  rw [aF] at h1; cases h1
 | succ fu =>
  replace h1 : aF vs1 vr10 (fu + 1) v49 = some x48:=h1
  rw [aF] at h1
  dsimp only
  refine xS 320 [1,4,46,47,48,49] ?_
  refine iA ?_
  refine xI h1 rfl (fun h1 hb50=>?_) (fun h1 hb50=>?_)
  ·
   refine oA (cA (iA (vB ?_)))
   obtain ⟨e51,he51,h1⟩:=bA h1
   obtain ⟨he51a,he51b,he51c⟩:=vA he51
   refine nA 368 [1,4,5,6,46,47,48] (fun _=>none) rfl (fun _ _=>rS (rA he51a (rA he51b he51c))) ?_
   refine iA ?_
   obtain ⟨b53,hb53,h1⟩:=bA h1
   refine iL (fr':=[(1,.ref 0 0 0 0),(4,.psl 1 (List.map (gA .i64) vr10)),(5,.int .i64 v49),(6,.ref 344 0 0 0),(46,.psl 11 (List.map bB.enc vs1.Jobs)),(47,.int .i64 (vs1.Jobs.length : Int)),(48,.int .i64 v49),(65,.bool b53)]) (hp':=[(0,⟨0,true,true,4,[[.int .i64 vs1.Levels.B,.psl 1 (List.map qA.enc vs1.Levels.Levels),.psl 11 (List.map bB.enc vs1.Jobs),.int .i64 vs1.NextId]]⟩),(344,⟨0,true,true,11,[[.int .i64 e51.Level,.psl 1 (List.map (tA 4 aA.enc) e51.Work.Merge.Runs),.psl 1 (List.map (gA .i64) e51.Work.Merge.At),.psl 2 (List.map eA.enc e51.Work.Merge.Tree.Keys),.psl 1 (List.map (gA .i64) e51.Work.Merge.Tree.Lose),.int .i64 e51.Work.Merge.Tree.Win,.bool e51.Work.Shadow.Some,.str e51.Work.Shadow.Last,.bool e51.Work.Shadow.Bottom,.psl 4 (List.map aA.enc e51.Work.Out),.int .i64 e51.Work.Steps]]⟩)]) [0,344] 472 [1,4,5,6,46,47,48,65] (fun _=>none) rfl rfl rfl (fun Kt hK=>by
     cases hg54 : (decide ((vr10.length : Int) ≤ v49)) with
     | false =>
      replace hb53:=sA hb53 hg54
      obtain ⟨e52,he52,hb53⟩:=bA hb53
      obtain ⟨he52a,he52b,he52c⟩:=vA he52
      have hqb53:=oI hb53
      subst hqb53
      exact yG hg54 (rA he51a (rA he51b (rA he51c (rA he52a (rA he52b (rA he52c he52)))))) hK
     | true =>
      replace hb53:=zA hb53 hg54
      have hqb53:=oI hb53
      subst hqb53
      exact yG hg54 (rA he51a (rA he51b he51c)) hK) ?_
   refine xI h1 rfl (fun h1 hb55=>?_) (fun h1 hb55=>?_)
   ·
    refine nA 496 [2,3] (fun _=>none) rfl (fun _ _=>rS (rA he51a (rA he51b he51c))) ?_
    refine jA ?_
    obtain rfl:=oI h1
    refine mA (zB (mA (mA (xC (mA ?_)))))
    obtain rfl:=oI h0
    refine lA [] ?_
    exact rJ (rA he51a (rA he51b he51c))
   refine oA (cA ?_)
   refine nA 512 [1,4,5,6,7,46,47,48] (fun _=>none) rfl (fun _ _=>rS (rA he51a (rA he51b he51c))) ?_
   refine iA ?_
   obtain ⟨b57,hb57,h1⟩:=bA h1
   refine jC (fr':=[(1,.ref 0 0 0 0),(4,.psl 1 (List.map (gA .i64) vr10)),(5,.int .i64 v49),(6,.ref 344 0 0 0),(7,.bool e51.Work.Shadow.Bottom),(46,.psl 11 (List.map bB.enc vs1.Jobs)),(47,.int .i64 (vs1.Jobs.length : Int)),(48,.int .i64 v49),(79,.bool b57)]) (hp':=[(0,⟨0,true,true,4,[[.int .i64 vs1.Levels.B,.psl 1 (List.map qA.enc vs1.Levels.Levels),.psl 11 (List.map bB.enc vs1.Jobs),.int .i64 vs1.NextId]]⟩),(344,⟨0,true,true,11,[[.int .i64 e51.Level,.psl 1 (List.map (tA 4 aA.enc) e51.Work.Merge.Runs),.psl 1 (List.map (gA .i64) e51.Work.Merge.At),.psl 2 (List.map eA.enc e51.Work.Merge.Tree.Keys),.psl 1 (List.map (gA .i64) e51.Work.Merge.Tree.Lose),.int .i64 e51.Work.Merge.Tree.Win,.bool e51.Work.Shadow.Some,.str e51.Work.Shadow.Last,.bool e51.Work.Shadow.Bottom,.psl 4 (List.map aA.enc e51.Work.Out),.int .i64 e51.Work.Steps]]⟩)]) [0,344] 584 [1,4,5,6,7,46,47,48,79] (fun | 6=>(mL fu vs1.Levels e51.Level).bind fun vr56=>some (.bool vr56,[]) | _=>none) rfl (fun Kt hK=>by
     cases hg58 : e51.Work.Shadow.Bottom with
     | false =>
      replace hb57:=sA hb57 hg58
      have hqb57:=oI hb57
      subst hqb57
      first | exact dI hg58 (rA he51a (rA he51b he51c)) (zbJ hvr56) hK | exact sD hg58 (rA he51a (rA he51b he51c)) hK
     | true =>
      replace hb57:=zA hb57 hg58
      obtain ⟨vr56,hvr56,hb57⟩:=bA hb57
      have hqb57:=oI hb57
      subst hqb57
      first | exact dI hg58 (rA he51a (rA he51b (rA he51c hvr56))) (zbJ hvr56) hK | exact sD hg58 (rA he51a (rA he51b (rA he51c hvr56))) hK) ?_
   refine xI h1 rfl (fun h1 hb59=>?_) (fun h1 hb59=>?_)
   ·
    refine nA 608 [2,3] (fun _=>none) rfl (fun _ _=>rS (rA he51a (rA he51b he51c))) ?_
    refine jA ?_
    obtain rfl:=oI h1
    refine mA (zB (mA (mA (xC (mA ?_)))))
    obtain rfl:=oI h0
    refine lA [] ?_
    exact rJ (rA he51a (rA he51b he51c))
   refine oA (cA ?_)
   obtain ⟨vr60,hvr60,h1⟩:=bA h1
   refine nA 656 [1,4,5,6,8,46,47,48] (fun | 5=>some (.agg (bB.enc vr60),[]) | _=>none) rfl (fun _ _=>rB (rA he51a (rA he51b he51c)) (zdw hvr60)) ?_
   obtain ⟨vr61,hvr61,h1⟩:=bA h1
   refine nA 712 [1,4,5,6,8,9,46,47,48] (fun | 1=>some (.tup [.int .i64 vr61.1,.int .i64 vr61.2],[]) | _=>none) rfl (fun _ _=>rB (rA he51a (rA he51b he51c)) (sY hvr61)) ?_
   refine iA ?_
   obtain ⟨b62,hb62,h1⟩:=bA h1
   refine jC (fr':=[(1,.ref 0 0 0 0),(4,.psl 1 (List.map (gA .i64) vr10)),(5,.int .i64 v49),(6,.ref 344 0 0 0),(8,.ref 640 0 0 0),(46,.psl 11 (List.map bB.enc vs1.Jobs)),(47,.int .i64 (vs1.Jobs.length : Int)),(48,.int .i64 v49),(103,.bool b62)]) (hp':=[(0,⟨0,true,true,4,[[.int .i64 vs1.Levels.B,.psl 1 (List.map qA.enc vs1.Levels.Levels),.psl 11 (List.map bB.enc vs1.Jobs),.int .i64 vs1.NextId]]⟩),(344,⟨0,true,true,11,[[.int .i64 e51.Level,.psl 1 (List.map (tA 4 aA.enc) e51.Work.Merge.Runs),.psl 1 (List.map (gA .i64) e51.Work.Merge.At),.psl 2 (List.map eA.enc e51.Work.Merge.Tree.Keys),.psl 1 (List.map (gA .i64) e51.Work.Merge.Tree.Lose),.int .i64 e51.Work.Merge.Tree.Win,.bool e51.Work.Shadow.Some,.str e51.Work.Shadow.Last,.bool e51.Work.Shadow.Bottom,.psl 4 (List.map aA.enc e51.Work.Out),.int .i64 e51.Work.Steps]]⟩),(640,⟨0,true,true,10,[[.psl 1 (List.map (tA 4 aA.enc) vr60.Work.Merge.Runs),.psl 1 (List.map (gA .i64) vr60.Work.Merge.At),.psl 2 (List.map eA.enc vr60.Work.Merge.Tree.Keys),.psl 1 (List.map (gA .i64) vr60.Work.Merge.Tree.Lose),.int .i64 vr60.Work.Merge.Tree.Win,.bool vr60.Work.Shadow.Some,.str vr60.Work.Shadow.Last,.bool vr60.Work.Shadow.Bottom,.psl 4 (List.map aA.enc vr60.Work.Out),.int .i64 vr60.Work.Steps]]⟩)]) [0,344,640] 800 [1,4,5,6,8,46,47,48,103] (fun _=>none) rfl (fun Kt hK=>by
     cases hg63 : (decide (e51.Work.Steps < 0)) with
     | false =>
      replace hb62:=sA hb62 hg63
      have hqb62:=oI hb62
      subst hqb62
      exact sD hg63 (rA he51a (rA he51b he51c)) hK
     | true =>
      replace hb62:=zA hb62 hg63
      have hqb62:=oI hb62
      subst hqb62
      exact sD hg63 (rA he51a (rA he51b he51c)) hK) ?_
   refine xI h1 rfl (fun h1 hb64=>?_) (fun h1 hb64=>?_)
   ·
    refine nA 824 [2,3] (fun _=>none) rfl (fun _ _=>rS (rA he51a (rA he51b he51c))) ?_
    refine jA ?_
    obtain rfl:=oI h1
    refine mA (zB (mA (mA (xC (mA ?_)))))
    obtain rfl:=oI h0
    refine lA [] ?_
    exact rJ (rA he51a (rA he51b he51c))
   refine oA (cA ?_)
   obtain ⟨vr65,hvr65,h1⟩:=bA h1
   refine nA 904 [1,4,5,6,11,46,47,48] (fun | 4=>some (.tup [.agg (mB.enc vr65.1),.int .i64 vr65.2.1,.int .i64 vr65.2.2],[]) | _=>none) rfl (fun _ _=>rB (rA he51a (rA he51b he51c)) (zeS hvr65)) ?_
   obtain ⟨vr66,hvr66,h1⟩:=bA h1
   refine nA 944 [1,4,5,46,47,48,118] (fun | 3=>some (.bool vr66,[]) | _=>none) rfl (fun _ _=>rB (rA he51a (rA he51b he51c)) (znP hvr66)) ?_
   refine xI h1 rfl (fun h1 hb67=>?_) (fun h1 hb67=>?_)
   ·
    refine nA 968 [2,3] (fun _=>none) rfl (fun _ _=>rS (rA he51a (rA he51b he51c))) ?_
    refine jA ?_
    obtain rfl:=oI h1
    refine zB (mA (mA (xC (mA ?_))))
    obtain rfl:=oI h0
    refine lA [] ?_
    exact rJ (rA he51a (rA he51b he51c))
   refine oA (pB (cA ?_))
   refine nB 960 [1,4,46,47,48] (fun _=>none) rfl (fun _ _=>rS (rA he51a (rA he51b he51c))) ?_
   refine cA ?_
   exact ⟨⟨(fu,(IntKind.i64.wrap (v49 + 1))),h1⟩,⟨rF,rE,rfl,rfl,trivial,trivial⟩,Nat.lt_succ_self _⟩
  refine dC (xA (xA (gC ?_)))
  obtain rfl:=oI h1
  exact ⟨_,rfl,rL,⟨rF,rE,rfl,rfl,trivial,trivial⟩⟩
theorem ziY {fu : Nat} {j1 : bB} {p2 : Int} {r : Bool} (h0 : iN fu j1 p2 = some r) : yA Tryz.prog 50 [.agg (bB.enc j1),.pp [.int .i64 p2]] (.bool r) []:=by
 refine dB Tryz.func50 rfl (by decide) rL ?_
 dsimp only [Tryz.f50]
 rw [iN] at h0
 refine xS 16 [1,2] ?_
 refine xS 56 [3] ?_
 refine jA ?_
 obtain rfl:=oI h0
 exact lA [] rG
theorem zj7 {fu : Nat} {vs1 : List bB} {f2 : Int} {r : Int} (h0 : bO fu vs1 f2 = some r) : yA Tryz.prog 82 [.psl 11 (vs1.map bB.enc),.fn 50 [] [.pp [.int .i64 f2]]] (.int .i64 r) []:=by
 refine dB Tryz.func82 rfl (by decide) rL ?_
 dsimp only [Tryz.f82]
 rw [bO] at h0
 refine xS 8 [0,1] ?_
 refine iA ?_
 refine xS 32 [0,1,7,8] ?_
 obtain ⟨x12,hxx12,h0⟩:=bA h0
 refine pC (fun s'=>∃ o18 : Unit,x12 = .inl o18 ∧ s'.nx ≤ 40 ∧ LeN [] s' ⟨[],[],40,[]⟩) ?_ ?_
 ·
  intro s' hs
  obtain ⟨o18,rfl,hn,hs⟩:=hs
  refine cA ?_
  refine oB [] hn hs ?_
  refine xS 48 [4] ?_
  refine jA ?_
  obtain rfl:=oI h0
  exact lA [] rG
 refine lC (ι:={ p : Nat × Int // aG vs1 f2 p.1 p.2 = some x12 }) (fun p=>⟨[(0,.psl 11 (List.map bB.enc vs1)),(1,.fn 50 [] [.pp [.int .i64 f2]]),(7,.int .i64 (vs1.length : Int)),(8,.int .i64 p.1.2)],[],32,[]⟩) (fun p=>p.1.1) ⟨(fu,0),hxx12⟩ ⟨rF,rE,rfl,rfl,trivial,trivial⟩ (fun _=>Nat.le_refl _) ?_
 rintro ⟨⟨fu,v13⟩,h1⟩
 cases fu with
 | zero =>
  replace h1 : aG vs1 f2 0 v13 = some x12:=h1
  rw [aG] at h1; cases h1
 | succ fu =>
  replace h1 : aG vs1 f2 (fu + 1) v13 = some x12:=h1
  rw [aG] at h1
  dsimp only
  refine xS 40 [0,1,7,8,9] ?_
  refine iA ?_
  refine xI h1 rfl (fun h1 hb14=>?_) (fun h1 hb14=>?_)
  ·
   refine oA (cA (iA (vB ?_)))
   refine xS 56 [0,1,5,7,8] ?_
   obtain ⟨e15,he15,h1⟩:=bA h1
   obtain ⟨he15a,he15b,he15c⟩:=vA he15
   obtain ⟨vr16,hvr16,h1⟩:=bA h1
   refine nA 104 [0,1,5,7,8,16] (fun | 5=>some (.bool vr16,[]) | _=>none) rfl (fun _ _=>rB (rA he15a (rA he15b he15c)) (ziY hvr16)) ?_
   refine xI h1 rfl (fun h1 hb17=>?_) (fun h1 hb17=>?_)
   ·
    refine nA 120 [4] (fun _=>none) rfl (fun _ _=>rS (rA he15a (rA he15b he15c))) ?_
    refine jA ?_
    obtain rfl:=oI h1
    refine zB (mA (mA (xC (mA ?_))))
    obtain rfl:=oI h0
    refine lA [] ?_
    exact rJ (rA he15a (rA he15b he15c))
   refine oA (pB (cA ?_))
   refine nB 120 [0,1,7,8] (fun _=>none) rfl (fun _ _=>rS (rA he15a (rA he15b he15c))) ?_
   refine cA ?_
   exact ⟨⟨(fu,(IntKind.i64.wrap (v13 + 1))),h1⟩,⟨rF,rE,rfl,rfl,trivial,trivial⟩,Nat.lt_succ_self _⟩
  refine dC (xA (xA (gC ?_)))
  obtain rfl:=oI h1
  exact ⟨_,rfl,rL,⟨rF,rE,rfl,rfl,trivial,trivial⟩⟩
theorem zjD {fu : Nat} {l1 : List bB} {is2 : Int} {r : Int × Int} (h0 : nP fu l1 is2 = some r) : yA Tryz.prog 49 [.psl 11 (l1.map bB.enc),.fn 50 [] [.pp [.int .i64 is2]]] (.tup [.int .i64 r.1,.int .i64 r.2]) []:=by
 refine dB Tryz.func49 rfl (by decide) rL ?_
 dsimp only [Tryz.f49]
 rw [nP] at h0
 refine xS 16 [0,1] ?_
 obtain ⟨vr3,hvr3,h0⟩:=bA h0
 refine nA 48 [6] (fun | 2=>some (.int .i64 vr3,[]) | _=>none) rfl (fun _ _=>rC (zj7 hvr3)) ?_
 refine iA ?_
 refine xS 64 [6,11] ?_
 refine xI h0 rfl (fun h0 hb4=>?_) (fun h0 hb4=>?_)
 ·
  refine xS 80 [4,5] ?_
  refine jA (mA ?_)
  obtain rfl:=oI h0
  exact lA [] rG
 refine oA (cA ?_)
 refine xS 88 [4,5] ?_
 refine jA ?_
 obtain rfl:=oI h0
 exact lA [] rG
theorem zcu {fu : Nat} {vs1 : cB} {level2 : Int} {r : Int × Int} (h0 : uH fu vs1 level2 = some r) : yA Tryz.prog 16 [.agg (cB.enc vs1),.int .i64 level2] (.tup [.int .i64 r.1,.int .i64 r.2]) []:=by
 refine dB Tryz.func16 rfl (by decide) rL ?_
 dsimp only [Tryz.f16]
 rw [uH] at h0
 refine xS 32 [2,3] ?_
 refine iA ?_
 obtain ⟨vr3,hvr3,h0⟩:=bA h0
 refine nA 88 [2,3,7] (fun | 1=>some (.tup [.int .i64 vr3.1,.int .i64 vr3.2],[]) | _=>none) rfl (fun _ _=>rC (zdp hvr3)) ?_
 refine xS 104 [2,3,7,14] ?_
 refine xI h0 rfl (fun h0 hb4=>?_) (fun h0 hb4=>?_)
 ·
  refine xS 128 [4,5] ?_
  refine jA (mA ?_)
  obtain rfl:=oI h0
  exact lA [] rG
 refine oA (cA ?_)
 obtain ⟨vr5,hvr5,h0⟩:=bA h0
 refine nA 168 [4,5] (fun | 3=>some (.tup [.int .i64 vr5.1,.int .i64 vr5.2],[]) | _=>none) rfl (fun _ _=>rC (zjD hvr5)) ?_
 refine jA ?_
 obtain rfl:=oI h0
 exact lA [] rG
theorem znC {fu : Nat} {vs1 : List bB} {r : List bB} (h0 : kS fu vs1 = some r) : yA Tryz.prog 32 [.psl 11 (vs1.map bB.enc)] (.sl 0 0 11 0 r.length) [⟨0,true,true,11,r.map bB.enc⟩]:=by
 refine dB Tryz.func32 rfl (by decide) rL ?_
 dsimp only [Tryz.f32]
 rw [kS] at h0
 refine xS 8 [0] ?_
 refine iA ?_
 cases hb2 : vs1.isEmpty with
 | true =>
  replace h0:=zA h0 hb2
  obtain rfl : vs1 = []:=List.isEmpty_iff.1 hb2
  refine xS 24 [0,4] ?_
  refine mX rfl ?_ ?_
  ·
   skip
   refine xS 32 [2] ?_
   refine oB (s2:=⟨[(2,.sl 32 0 11 0 0)],[(32,⟨0,true,true,11,List.map bB.enc []⟩)],33,[]⟩) [(32,11)] rL ⟨rF,rE,rfl,rfl,trivial,rN⟩ ?_
   refine jA (mA ?_)
   obtain rfl:=oI h0
   exact lA [32] rG
  ·
   skip
   refine oA (cA ?_)
   refine xS 56 [2] ?_
   refine xE ⟨[(2,.sl 24 1 11 0 0)],[(24,⟨1,true,true,11,List.map bB.enc []⟩)],56,[]⟩ ?_
   refine jA ?_
   obtain rfl:=oI h0
   exact lA [24] rG
 | false =>
  replace h0:=sA h0 hb2
  refine nA 24 [0,4] (fun _=>none) rfl (fun _ _=>rS hb2) ?_
  refine pF rfl ?_
  refine oA (cA ?_)
  obtain ⟨hc3,h0⟩:=pD h0
  refine nA 56 [2] (fun _=>none) rfl (fun _ _=>rS hb2) ?_
  refine xE ⟨[(2,.sl 24 1 11 0 vs1.length)],[(24,⟨1,true,true,11,List.map bB.enc vs1⟩)],56,[]⟩ ?_
  refine jA ?_
  obtain rfl:=oI h0
  refine lA [24] ?_
  exact rJ hb2
theorem zcj {fu : Nat} {vs1 : cB} {level2 : Int} {most3 : Int} {r : cB × Int × Int} (h0 : qG fu vs1 level2 most3 = some r) : yA Tryz.prog 8 [.agg (cB.enc vs1),.int .i64 level2,.int .i64 most3] (.tup [.agg (cB.enc r.1),.int .i64 r.2.1,.int .i64 r.2.2]) []:=by
 refine dB Tryz.func8 rfl (by decide) rL ?_
 dsimp only [Tryz.f8]
 rw [qG] at h0
 refine xS 32 [1,2,3,6] ?_
 refine iA ?_
 obtain ⟨vr4,hvr4,h0⟩:=bA h0
 refine nA 88 [1,2,3,6,10] (fun | 1=>some (.tup [.int .i64 vr4.1,.int .i64 vr4.2],[]) | _=>none) rfl (fun _ _=>rC (zdp hvr4)) ?_
 refine xS 104 [1,2,3,6,10,21] ?_
 refine xI h0 rfl (fun h0 hb5=>?_) (fun h0 hb5=>?_)
 ·
  refine xS 144 [6,7,8] ?_
  refine jA (mA ?_)
  obtain rfl:=oI h0
  exact lA [] rG
 refine oA (cA (iA ?_))
 refine xS 120 [1,2,3,6,25] ?_
 refine xI h0 rfl (fun h0 hb6=>?_) (fun h0 hb6=>?_)
 ·
  refine xS 152 [6,7,8] ?_
  refine jA (mA ?_)
  obtain rfl:=oI h0
  exact lA [] rG
 refine oA (cA ?_)
 obtain ⟨vr7,hvr7,h0⟩:=bA h0
 refine nA 184 [2,3,6,8,11] (fun | 2=>some (.tup [.int .i64 vr7.1,.int .i64 vr7.2],[]) | _=>none) rfl (fun _ _=>rC (zcu hvr7)) ?_
 refine iA ?_
 refine xS 200 [2,3,6,8,11,34] ?_
 refine xI h0 rfl (fun h0 hb8=>?_) (fun h0 hb8=>?_)
 ·
  refine xS 240 [6,7,8] ?_
  refine jA (mA ?_)
  obtain rfl:=oI h0
  exact lA [] rG
 refine oA (cA (iA ?_))
 obtain ⟨e9,he9,h0⟩:=bA h0
 obtain ⟨he9a,he9b,he9c⟩:=vA he9
 obtain ⟨vr10,hvr10,h0⟩:=bA h0
 refine nA 296 [2,3,6,11,12] (fun | 6=>some (.tup [.int .i64 vr10.1,.int .i64 vr10.2],[]) | _=>none) rfl (fun _ _=>rB (rA he9a (rA he9b he9c)) (sY hvr10)) ?_
 refine nA 312 [2,3,6,11,48] (fun _=>none) rfl (fun _ _=>rS (rA he9a (rA he9b he9c))) ?_
 refine xI h0 rfl (fun h0 hb11=>?_) (fun h0 hb11=>?_)
 ·
  refine nA 344 [6,7,8] (fun _=>none) rfl (fun _ _=>rS (rA he9a (rA he9b he9c))) ?_
  refine jA (mA ?_)
  obtain rfl:=oI h0
  refine lA [] ?_
  exact rJ (rA he9a (rA he9b he9c))
 refine oA (cA ?_)
 obtain ⟨vr12,hvr12,h0⟩:=bA h0
 refine nA 440 [3,6,7,8,11,14] (fun | 7=>some (.tup [.agg (mB.enc vr12.1),.int .i64 vr12.2.1,.int .i64 vr12.2.2],[]) | _=>none) rfl (fun _ _=>rB (rA he9a (rA he9b he9c)) (zeS hvr12)) ?_
 refine iA ?_
 refine nA 456 [3,6,7,8,11,14,63] (fun _=>none) rfl (fun _ _=>rS (rA he9a (rA he9b he9c))) ?_
 refine xI h0 rfl (fun h0 hb13=>?_) (fun h0 hb13=>?_)
 ·
  refine nA 496 [6,7,8] (fun _=>none) rfl (fun _ _=>rS (rA he9a (rA he9b he9c))) ?_
  refine jA (mA ?_)
  obtain rfl:=oI h0
  refine lA [] ?_
  exact rJ (rA he9a (rA he9b he9c))
 refine oA (cA ?_)
 refine nA 472 [3,6,7,11,14] (fun _=>none) rfl (fun _ _=>rS (rA he9a (rA he9b he9c))) ?_
 obtain ⟨vr14,hvr14,h0⟩:=bA h0
 refine nA 512 [6,7,11,14] (fun | 2=>some (.sl 0 0 11 0 vr14.length,[⟨0,true,true,11,vr14.map bB.enc⟩]) | _=>none) rfl (fun _ _=>rB (rA he9a (rA he9b he9c)) (znC hvr14)) ?_
 obtain ⟨e15,he15,h0⟩:=bA h0
 obtain ⟨he15a,he15b,he15c⟩:=vA he15
 refine nA 568 [6,7] (fun _=>none) rfl (fun _ _=>rS (rA he9a (rA he9b (rA he9c (rA he15a (rA he15b he15c)))))) ?_
 refine xE ⟨[(6,.ref 8 0 0 0),(7,.int .i64 vr12.2.1)],[(8,⟨0,true,false,4,[[.int .i64 vs1.Levels.B,.psl 1 (List.map qA.enc vs1.Levels.Levels),.sl 488 0 11 0 ((vr14.set vr7.1.toNat (bB.mk e15.Level vr12.1)).length),.int .i64 vs1.NextId]]⟩),(488,⟨0,true,true,11,List.map bB.enc (vr14.set vr7.1.toNat (bB.mk e15.Level vr12.1))⟩)],568,[]⟩ ?_
 refine nA 608 [6,7,8] (fun _=>none) rfl (fun _ _=>rS (rA he9a (rA he9b (rA he9c (rA he15a (rA he15b he15c)))))) ?_
 refine jA ?_
 obtain rfl:=oI h0
 refine lA [] ?_
 exact rJ (rA he9a (rA he9b (rA he9c (rA he15a (rA he15b he15c)))))
theorem zfm {fu : Nat} {id1 : Int} {dead2 : Bool} {keys3 : List UInt8} {r : gB} (h0 : zS fu id1 dead2 keys3 = some r) : yA Tryz.prog 55 [.int .i64 id1,.bool dead2,.str keys3] (.agg (gB.enc r)) []:=by
 refine dB Tryz.func55 rfl (by decide) rL ?_
 dsimp only [Tryz.f55]
 rw [zS] at h0
 refine xS 8 [0,1,2,6] ?_
 refine xS 40 [0,1,2,6,7] ?_
 refine iA ?_
 refine xS 48 [0,1,2,6,7,8] ?_
 refine oB (s2:=⟨[(0,.int .i64 id1),(1,.bool dead2),(2,.str keys3),(6,.ref 0 0 0 0),(7,.ref 24 0 0 0),(8,.int .i64 0)],[(0,⟨0,true,true,2,[[.int .i64 0,.nils]]⟩),(24,⟨0,true,false,2,[[.int .i64 id1,.sl 48 0 4 0 0]]⟩),(48,⟨0,true,true,4,List.map aA.enc []⟩)],49,[]⟩) [(48,4)] rL ⟨rF,rE,rfl,rfl,trivial,rN⟩ ?_
 obtain ⟨x14,hxx14,h0⟩:=bA h0
 refine pC (fun s'=>∃ g21 : Nat,s'.nx ≤ 81 ∧ LeN [] s' ⟨[(6,.ref 0 0 0 0),(7,.ref 24 0 0 0)],[(0,⟨0,true,true,2,[[.int .i64 0,.nils]]⟩),(24,⟨0,true,false,2,[[.int .i64 id1,.sl 48 g21 4 0 x14.length]]⟩),(48,⟨g21,true,true,4,List.map aA.enc x14⟩)],81,[]⟩) ?_ ?_
 ·
  intro s' hs
  obtain ⟨g21,hn,hs⟩:=hs
  refine cA ?_
  refine oB [] hn hs ?_
  refine xS 97 [6] ?_
  refine jA ?_
  obtain rfl:=oI h0
  exact lA [] rG
 refine lC (ι:={ p : Nat × Int × List aA × Nat // gL keys3 dead2 id1 p.1 p.2.1 p.2.2.1 = some x14 }) (fun p=>⟨[(0,.int .i64 id1),(1,.bool dead2),(2,.str keys3),(6,.ref 0 0 0 0),(7,.ref 24 0 0 0),(8,.int .i64 p.1.2.1)],[(0,⟨0,true,true,2,[[.int .i64 0,.nils]]⟩),(24,⟨0,true,false,2,[[.int .i64 id1,.sl 48 p.1.2.2.2 4 0 p.1.2.2.1.length]]⟩),(48,⟨p.1.2.2.2,true,true,4,List.map aA.enc p.1.2.2.1⟩)],49,[]⟩) (fun p=>p.1.1) ⟨(fu,0,[],0),hxx14⟩ ⟨rF,rE,rfl,rfl,trivial,trivial⟩ (fun _=>Nat.le_refl _) ?_
 rintro ⟨⟨fu,i15,v16,g17⟩,h1⟩
 cases fu with
 | zero =>
  replace h1 : gL keys3 dead2 id1 0 i15 v16 = some x14:=h1
  rw [gL] at h1; cases h1
 | succ fu =>
  replace h1 : gL keys3 dead2 id1 (fu + 1) i15 v16 = some x14:=h1
  rw [gL] at h1
  dsimp only
  refine iA ?_
  refine xS 81 [0,1,2,6,7,8,14] ?_
  refine xI h1 rfl (fun h1 hb18=>?_) (fun h1 hb18=>?_)
  ·
   refine oA (cA (iA (vB ?_)))
   obtain ⟨hc19,h1⟩:=pD h1
   obtain ⟨hc20,h1⟩:=pD h1
   refine aH 225 [0,1,2,6,7,8] (fun _=>none) rfl rfl rfl (fun _ _=>iF) ?_
   refine pB (cA ?_)
   refine xE ⟨[(0,.int .i64 id1),(1,.bool dead2),(2,.str keys3),(6,.ref 0 0 0 0),(7,.ref 24 0 0 0),(8,.int .i64 i15)],[(0,⟨0,true,true,2,[[.int .i64 0,.nils]]⟩),(24,⟨0,true,false,2,[[.int .i64 id1,.sl 48 (g17 + 1) 4 0 ((v16++[(aA.mk ((keys3.drop i15.toNat).take ((IntKind.i64.wrap (i15 + 1)).toNat - i15.toNat)) [] dead2 (IntKind.i64.wrap ((IntKind.i64.wrap ((IntKind.i64.wrap (10 * id1)) + i15)) + 1)))]).length)]]⟩),(48,⟨(g17 + 1),true,true,4,List.map aA.enc (v16++[(aA.mk ((keys3.drop i15.toNat).take ((IntKind.i64.wrap (i15 + 1)).toNat - i15.toNat)) [] dead2 (IntKind.i64.wrap ((IntKind.i64.wrap ((IntKind.i64.wrap (10 * id1)) + i15)) + 1)))])⟩)],225,[]⟩ ?_
   refine xR 249 [0,1,2,6,7,8] ?_
   refine cA ?_
   exact ⟨⟨(fu,(IntKind.i64.wrap (i15 + 1)),(v16++[(aA.mk ((keys3.drop i15.toNat).take ((IntKind.i64.wrap (i15 + 1)).toNat - i15.toNat)) [] dead2 (IntKind.i64.wrap ((IntKind.i64.wrap ((IntKind.i64.wrap (10 * id1)) + i15)) + 1)))]),(g17 + 1)),h1⟩,⟨rF,rE,rfl,rfl,trivial,trivial⟩,Nat.lt_succ_self _⟩
  refine dC (xA (xA (gC ?_)))
  obtain rfl:=oI h1
  exact ⟨g17,rL,⟨rF,rE,rfl,rfl,trivial,trivial⟩⟩
theorem znx {fu : Nat} {r : eB} (h0 : wT fu = some r) : yA Tryz.prog 29 [] (.agg (eB.enc r)) []:=by
 refine dB Tryz.func29 rfl (by decide) rL ?_
 dsimp only [Tryz.f29]
 rw [wT] at h0
 refine xS 8 [0] ?_
 obtain ⟨vr1,hvr1,h0⟩:=bA h0
 obtain ⟨vr2,hvr2,h0⟩:=bA h0
 refine nA 64 [0] (fun | 0=>some (.agg (gB.enc vr1),[]) | 1=>some (.agg (gB.enc vr2),[]) | _=>none) rfl (fun Kt hK=>by
   try have q0:=zfm hvr1
   try have q1:=zfm hvr2
   exact rT) ?_
 refine zdQ [24] (fun Kt hK=>by simp only [↓reduceIte,reduceCtorEq,Nat.reduceEqDiff,Nat.reduceLT,Nat.reduceLeDiff,Nat.reduceAdd,Nat.reduceMul,Int.reduceToNat,Nat.reduceBEq,push_cast]; exact hK) ?_
 refine xE ⟨[(0,.ref 0 0 0 0)],[(0,⟨0,true,false,2,[[.int .i64 2,.sl 40 0 1 0 1]]⟩),(40,⟨0,true,true,1,List.map qA.enc [(qA.mk [vr1,vr2])]⟩)],64,[]⟩ ?_
 refine jA ?_
 obtain rfl:=oI h0
 exact lA [] rG
theorem zoV {fu : Nat} {l1 : eB} {r : cB × Int} (h0 : zU fu l1 = some r) : yA Tryz.prog 23 [.agg (eB.enc l1)] (.tup [.agg (cB.enc r.1),.int .i64 r.2]) []:=by
 refine dB Tryz.func23 rfl (by decide) rL ?_
 dsimp only [Tryz.f23]
 rw [zU] at h0
 refine xS 24 [1,2,3] ?_
 refine iA ?_
 obtain ⟨vr2,hvr2,h0⟩:=bA h0
 refine nA 96 [1,2,3,6] (fun | 1=>some (.tup [.int .i64 vr2.1,.int .i64 vr2.2.1,.int .i64 vr2.2.2],[]) | _=>none) rfl (fun _ _=>rC (ze9 hvr2)) ?_
 refine xS 112 [1,2,3,6,16] ?_
 refine xI h0 rfl (fun h0 hb3=>?_) (fun h0 hb3=>?_)
 ·
  refine xS 144 [2,3] ?_
  refine jA (mA ?_)
  obtain rfl:=oI h0
  exact lA [] rG
 refine oA (cA ?_)
 obtain ⟨vr4,hvr4,h0⟩:=bA h0
 refine qC 168 [1,2,3,7] (fun | 2=>some (.int .i64 vr4,[]) | _=>none) rfl rfl rfl (fun _ _=>hO (zfg hvr4)) ?_
 refine iA ?_
 obtain ⟨vr5,hvr5,h0⟩:=bA h0
 refine nA 184 [1,2,3,7,25] (fun | 1=>some (.fn 67 [] [.pp [.int .i64 vr5.1,.psl 1 (vr5.2.map qA.enc)]],[]) | _=>none) rfl (fun _ _=>rC (zei hvr5)) ?_
 refine vB ?_
 refine za4 rfl Tryz.func67 rfl (by decide) rL ?_
 intro RC6 hRC6
 have stRC6 : RC6.st = .ready ∧ RC6.pend = none:=by rw [hRC6]; exact ⟨rfl,rfl⟩
 have okRC6 : uY 184 RC6:=by rw [hRC6]; exact And.intro (rR) rfl
 dsimp only [Tryz.f67]
 refine oB (s2:=⟨[(0,.yld 184),(1,.pp [.int .i64 vr5.1,.psl 1 (List.map qA.enc vr5.2)])],[(0,⟨0,true,true,2,[[.int .i64 l1.B,.psl 1 (List.map qA.enc l1.Levels)]]⟩),(8,⟨0,true,true,4,[[.int .i64 0,.nils,.nils,.int .i64 0]]⟩),(152,⟨0,true,true,4,[[.int .i64 l1.B,.psl 1 (List.map qA.enc l1.Levels),.nils,.int .i64 (IntKind.i64.wrap (vr4 + 1))]]⟩)],185,[(184,RC6)]⟩) [] rL ⟨rF,rE,rfl,rfl,(hC.consR rL rfl okRC6 rL trivial),trivial⟩ ?_
 refine xS 217 [0,6,7,8] ?_
 refine zbD ?_
 refine oB (s2:=⟨[(0,.yld 184),(6,.psl 1 (List.map qA.enc vr5.2)),(7,.int .i64 (vr5.2.length : Int)),(8,.int .i64 0)],[(0,⟨0,true,true,2,[[.int .i64 l1.B,.psl 1 (List.map qA.enc l1.Levels)]]⟩),(8,⟨0,true,true,4,[[.int .i64 0,.nils,.nils,.int .i64 0]]⟩),(152,⟨0,true,false,4,[[.int .i64 l1.B,.psl 1 (List.map qA.enc l1.Levels),.sl 217 0 11 0 0,.int .i64 (IntKind.i64.wrap (vr4 + 1))]]⟩),(217,⟨0,true,true,11,List.map bB.enc []⟩)],218,[(184,RC6)]⟩) [(217,11)] rL ⟨rF,rE,rfl,rfl,(hC.consR rL rfl okRC6 rL trivial),rN⟩ ?_
 obtain ⟨x26,hxx26,h0⟩:=bA h0
 refine pC (fun s'=>∃ g36 : Nat,s'.nx ≤ 226 ∧ LeN [] s' ⟨[],[(0,⟨0,true,true,2,[[.int .i64 l1.B,.psl 1 (List.map qA.enc l1.Levels)]]⟩),(8,⟨0,true,true,4,[[.int .i64 0,.nils,.nils,.int .i64 0]]⟩),(152,⟨0,true,false,4,[[.int .i64 l1.B,.psl 1 (List.map qA.enc l1.Levels),.sl 217 g36 11 0 x26.length,.int .i64 (IntKind.i64.wrap (vr4 + 1))]]⟩),(217,⟨g36,true,true,11,List.map bB.enc x26⟩)],226,[(184,RC6)]⟩) ?_ ?_
 ·
  intro s' hs
  obtain ⟨g36,hn,hs⟩:=hs
  refine ⟨_,hn,hs,?_⟩
  refine jS (fun _ _=>rT) ?_
  refine zbI stRC6 rfl ?_
  refine pB (cA ?_)
  refine xE ⟨[(1,.ref 0 0 0 0),(2,.ref 8 0 0 0),(3,.int .i64 0),(7,.ref 152 0 0 0),(25,.fn 67 [] [.pp [.int .i64 vr5.1,.psl 1 (List.map qA.enc vr5.2)]])],[(0,⟨0,true,true,2,[[.int .i64 l1.B,.psl 1 (List.map qA.enc l1.Levels)]]⟩),(8,⟨0,true,true,4,[[.int .i64 0,.nils,.nils,.int .i64 0]]⟩),(152,⟨0,true,false,4,[[.int .i64 l1.B,.psl 1 (List.map qA.enc l1.Levels),.sl 217 g36 11 0 x26.length,.int .i64 (IntKind.i64.wrap (vr4 + 1))]]⟩),(217,⟨g36,true,true,11,List.map bB.enc x26⟩)],226,[]⟩ ?_
  refine xS 250 [2,3] ?_
  refine jA ?_
  obtain rfl:=oI h0
  exact lA [] rG
 refine lC (ι:={ p : Nat × Int × List bB × Nat // oK vr5 l1 p.1 p.2.1 p.2.2.1 = some x26 }) (fun p=>⟨[(0,.yld 184),(6,.psl 1 (List.map qA.enc vr5.2)),(7,.int .i64 (vr5.2.length : Int)),(8,.int .i64 p.1.2.1)],[(0,⟨0,true,true,2,[[.int .i64 l1.B,.psl 1 (List.map qA.enc l1.Levels)]]⟩),(8,⟨0,true,true,4,[[.int .i64 0,.nils,.nils,.int .i64 0]]⟩),(152,⟨0,true,false,4,[[.int .i64 l1.B,.psl 1 (List.map qA.enc l1.Levels),.sl 217 p.1.2.2.2 11 0 p.1.2.2.1.length,.int .i64 (IntKind.i64.wrap (vr4 + 1))]]⟩),(217,⟨p.1.2.2.2,true,true,11,List.map bB.enc p.1.2.2.1⟩)],218,[(184,RC6)]⟩) (fun p=>p.1.1) ⟨(fu,0,[],0),hxx26⟩ ⟨rF,rE,rfl,rfl,(hC.consR rL rfl okRC6 rL trivial),trivial⟩ (fun _=>Nat.le_refl _) ?_
 rintro ⟨⟨fu,level27,v28,g29⟩,h1⟩
 cases fu with
 | zero =>
  replace h1 : oK vr5 l1 0 level27 v28 = some x26:=h1
  rw [oK] at h1; cases h1
 | succ fu =>
  replace h1 : oK vr5 l1 (fu + 1) level27 v28 = some x26:=h1
  rw [oK] at h1
  dsimp only
  refine xS 226 [0,6,7,8,9] ?_
  refine iA ?_
  refine xI h1 rfl (fun h1 hb30=>?_) (fun h1 hb30=>?_)
  ·
   refine oA (cA (iA (vB ?_)))
   obtain ⟨e31,he31,h1⟩:=bA h1
   obtain ⟨he31a,he31b,he31c⟩:=vA he31
   refine nA 274 [0,3,4,6,7,8] (fun _=>none) rfl (fun _ _=>rS (rA he31a (rA he31b he31c))) ?_
   refine vH 10 rfl ?_
   refine oC (l':=List.range' 0 5++(List.range' 5 5++[])) rfl ?_
   refine vC 0 5 314 (List.range' 5 5++[]) (fun _=>none) rfl rfl rfl (fun _ _=>rS (rA he31a (rA he31b he31c))) ?_
   refine kK (s2:=⟨[(0,.yld 184),(3,.int .i64 level27),(4,.ref 250 0 0 0),(6,.psl 1 (List.map qA.enc vr5.2)),(7,.int .i64 (vr5.2.length : Int)),(8,.int .i64 level27),(13,.ref 250 0 0 0),(14,.psl 2 (List.map gB.enc e31.Runs)),(15,.int .i64 (e31.Runs.length : Int)),(16,.bool (decide ((e31.Runs.length : Int) = 2))),(17,.bool (decide ((e31.Runs.length : Int) = 2)))],[(0,⟨0,true,true,2,[[.int .i64 l1.B,.psl 1 (List.map qA.enc l1.Levels)]]⟩),(8,⟨0,true,true,4,[[.int .i64 0,.nils,.nils,.int .i64 0]]⟩),(152,⟨0,true,false,4,[[.int .i64 l1.B,.psl 1 (List.map qA.enc l1.Levels),.sl 217 g29 11 0 v28.length,.int .i64 (IntKind.i64.wrap (vr4 + 1))]]⟩),(217,⟨g29,true,true,11,List.map bB.enc v28⟩),(250,⟨0,true,true,1,[[.psl 2 (List.map gB.enc e31.Runs)]]⟩)],314,[(184,RC6)]⟩) [] rL ⟨rF,rE,rfl,rfl,(hC.consR rL rfl okRC6 rL trivial),trivial⟩ ?_
   generalize hg32 : (decide ((e31.Runs.length : Int) = 2)) = b32
   cases b32 with
   | true =>
    replace h1:=zA h1 hg32
    refine oC (l':=List.range' 5 2++(7::(List.range' 8 2++[]))) rfl ?_
    refine vC 5 2 330 (7::(List.range' 8 2++[])) (fun _=>none) rfl rfl rfl (fun _ _=>rS (rA he31a (rA he31b he31c))) ?_
    refine zaR hRC6 rfl rfl rfl rfl rfl rfl rfl rfl rfl ?_
    refine oB (s2:=⟨[(1,.ref 0 0 0 0),(2,.ref 8 0 0 0),(3,.int .i64 0),(7,.ref 152 0 0 0),(25,.fn 67 [] [.pp [.int .i64 vr5.1,.psl 1 (List.map qA.enc vr5.2)]]),(26,.int .i64 level27)],[(0,⟨0,true,true,2,[[.int .i64 l1.B,.psl 1 (List.map qA.enc l1.Levels)]]⟩),(8,⟨0,true,true,4,[[.int .i64 0,.nils,.nils,.int .i64 0]]⟩),(152,⟨0,true,false,4,[[.int .i64 l1.B,.psl 1 (List.map qA.enc l1.Levels),.sl 217 g29 11 0 v28.length,.int .i64 (IntKind.i64.wrap (vr4 + 1))]]⟩),(217,⟨g29,true,true,11,List.map bB.enc v28⟩),(250,⟨0,true,true,1,[[.psl 2 (List.map gB.enc e31.Runs)]]⟩)],330,[(184,RC6)]⟩) [] rL ⟨rF,rE,rfl,rfl,(hC.consR rL rfl okRC6 rL trivial),trivial⟩ ?_
    refine nB 338 [1,2,3,7,8] (fun _=>none) rfl (fun _ _=>rS (rA he31a (rA he31b he31c))) ?_
    refine cA ?_
    refine ⟨RC6,rfl,stRC6.1,?_⟩
    refine oB (s2:=⟨[(1,.ref 0 0 0 0),(2,.ref 8 0 0 0),(3,.int .i64 0),(7,.ref 152 0 0 0),(8,.int .i64 level27)],[(0,⟨0,true,true,2,[[.int .i64 l1.B,.psl 1 (List.map qA.enc l1.Levels)]]⟩),(8,⟨0,true,true,4,[[.int .i64 0,.nils,.nils,.int .i64 0]]⟩),(152,⟨0,true,false,4,[[.int .i64 l1.B,.psl 1 (List.map qA.enc l1.Levels),.sl 217 g29 11 0 v28.length,.int .i64 (IntKind.i64.wrap (vr4 + 1))]]⟩),(217,⟨g29,true,true,11,List.map bB.enc v28⟩),(250,⟨0,true,true,1,[[.psl 2 (List.map gB.enc e31.Runs)]]⟩)],338,[(184,{ RC6 with st:=.busy,pend:=RC6.pend })]⟩) [] rL ⟨rF,rE,rfl,rfl,(hC.consR rL rfl okRC6 rL trivial),trivial⟩ ?_
    refine vB ?_
    obtain ⟨vr33,hvr33,h1⟩:=bA h1
    obtain ⟨vr34,hvr34,h1⟩:=bA h1
    obtain ⟨hc35,h1⟩:=pD h1
    refine aH 434 [2,3,7] (fun | 6=>some (.bool vr33,[]) | 7=>some (.agg (bB.enc vr34),[]) | _=>none) rfl rfl rfl (fun Kt hK=>by
      try have q0:=zbJ hvr33
      try have q1:=zdw hvr34
      exact xD (rA he31a (rA he31b he31c))) ?_
    refine pB ?_
    refine za5 stRC6 rfl ?_
    refine kK (s2:=⟨[(0,.yld 184),(3,.int .i64 level27),(4,.ref 250 0 0 0),(6,.psl 1 (List.map qA.enc vr5.2)),(7,.int .i64 (vr5.2.length : Int)),(8,.int .i64 level27),(13,.ref 250 0 0 0),(14,.psl 2 (List.map gB.enc e31.Runs)),(15,.int .i64 (e31.Runs.length : Int)),(16,.bool true),(17,.bool true),(18,.yld 184),(19,.int .i64 level27),(20,.bool true)],[(0,⟨0,true,true,2,[[.int .i64 l1.B,.psl 1 (List.map qA.enc l1.Levels)]]⟩),(8,⟨0,true,true,4,[[.int .i64 0,.nils,.nils,.int .i64 0]]⟩),(152,⟨0,true,false,4,[[.int .i64 l1.B,.psl 1 (List.map qA.enc l1.Levels),.sl 217 (g29 + 1) 11 0 ((v28++[vr34]).length),.int .i64 (IntKind.i64.wrap (vr4 + 1))]]⟩),(217,⟨(g29 + 1),true,true,11,List.map bB.enc (v28++[vr34])⟩),(250,⟨0,true,true,1,[[.psl 2 (List.map gB.enc e31.Runs)]]⟩)],434,[(184,RC6)]⟩) [] rL ⟨rF,rE,rfl,rfl,(hC.consR rL rfl okRC6 rL trivial),trivial⟩ ?_
    refine oC (l':=List.range' 8 2++[]) rfl ?_
    refine vC 8 2 450 [] (fun _=>none) rfl rfl rfl (fun _ _=>rS (rA he31a (rA he31b he31c))) ?_
    refine mD ?_
    refine cA ?_
    refine oB (s2:=⟨[(0,.yld 184),(6,.psl 1 (List.map qA.enc vr5.2)),(7,.int .i64 (vr5.2.length : Int)),(8,.int .i64 level27),(18,.yld 184),(19,.int .i64 level27),(20,.bool true),(21,.bool false),(22,.bool false)],[(0,⟨0,true,true,2,[[.int .i64 l1.B,.psl 1 (List.map qA.enc l1.Levels)]]⟩),(8,⟨0,true,true,4,[[.int .i64 0,.nils,.nils,.int .i64 0]]⟩),(152,⟨0,true,false,4,[[.int .i64 l1.B,.psl 1 (List.map qA.enc l1.Levels),.sl 217 (g29 + 1) 11 0 ((v28++[vr34]).length),.int .i64 (IntKind.i64.wrap (vr4 + 1))]]⟩),(217,⟨(g29 + 1),true,true,11,List.map bB.enc (v28++[vr34])⟩)],450,[(184,RC6)]⟩) [] rL ⟨rF,rE,rfl,rfl,(hC.consR rL rfl okRC6 rL trivial),trivial⟩ ?_
    refine pF rfl ?_
    refine oA (pB (cA ?_))
    refine nB 466 [0,6,7,8,18,19,20,21] (fun _=>none) rfl (fun _ _=>rS (rA he31a (rA he31b he31c))) ?_
    refine cA ?_
    exact ⟨⟨(fu,(IntKind.i64.wrap (level27 + 1)),(v28++[vr34]),(g29 + 1)),h1⟩,⟨rF,rE,rfl,rfl,(hC.consR rL rfl okRC6 rL trivial),trivial⟩,Nat.lt_succ_self _⟩
   | false =>
    replace h1:=sA h1 hg32
    refine oC (l':=List.range' 5 5++[]) rfl ?_
    refine vC 5 5 354 [] (fun _=>none) rfl rfl rfl (fun _ _=>rS (rA he31a (rA he31b he31c))) ?_
    refine mD ?_
    refine cA ?_
    refine oB (s2:=⟨[(0,.yld 184),(6,.psl 1 (List.map qA.enc vr5.2)),(7,.int .i64 (vr5.2.length : Int)),(8,.int .i64 level27),(22,.bool false)],[(0,⟨0,true,true,2,[[.int .i64 l1.B,.psl 1 (List.map qA.enc l1.Levels)]]⟩),(8,⟨0,true,true,4,[[.int .i64 0,.nils,.nils,.int .i64 0]]⟩),(152,⟨0,true,false,4,[[.int .i64 l1.B,.psl 1 (List.map qA.enc l1.Levels),.sl 217 g29 11 0 v28.length,.int .i64 (IntKind.i64.wrap (vr4 + 1))]]⟩),(217,⟨g29,true,true,11,List.map bB.enc v28⟩)],354,[(184,RC6)]⟩) [] rL ⟨rF,rE,rfl,rfl,(hC.consR rL rfl okRC6 rL trivial),trivial⟩ ?_
    refine pF rfl ?_
    refine oA (pB (cA ?_))
    refine nB 370 [0,6,7,8] (fun _=>none) rfl (fun _ _=>rS (rA he31a (rA he31b he31c))) ?_
    refine cA ?_
    exact ⟨⟨(fu,(IntKind.i64.wrap (level27 + 1)),v28,g29),h1⟩,⟨rF,rE,rfl,rfl,(hC.consR rL rfl okRC6 rL trivial),trivial⟩,Nat.lt_succ_self _⟩
  refine dC (xA (xA (gC ?_)))
  obtain rfl:=oI h1
  exact ⟨g29,rL,⟨rF,rE,rfl,rfl,(hC.consR rL rfl okRC6 rL trivial),trivial⟩⟩
theorem zeb {fu : Nat} {vs1 : cB} {level2 : Int} {r : Int × Int} (h0 : wL fu vs1 level2 = some r) : yA Tryz.prog 18 [.agg (cB.enc vs1),.int .i64 level2] (.tup [.int .i64 r.1,.int .i64 r.2]) []:=by
 refine dB Tryz.func18 rfl (by decide) rL ?_
 dsimp only [Tryz.f18]
 rw [wL] at h0
 refine xS 24 [1,2] ?_
 obtain ⟨vr3,hvr3,h0⟩:=bA h0
 refine nA 88 [2,5,6] (fun | 2=>some (.tup [.int .i64 vr3.1,.int .i64 vr3.2],[]) | _=>none) rfl (fun _ _=>rC (zcu hvr3)) ?_
 refine iA ?_
 refine xS 104 [2,5,6,14] ?_
 refine xI h0 rfl (fun h0 hb4=>?_) (fun h0 hb4=>?_)
 ·
  refine xS 128 [4,5] ?_
  refine jA (mA ?_)
  obtain rfl:=oI h0
  exact lA [] rG
 refine oA (cA ?_)
 obtain ⟨e5,he5,h0⟩:=bA h0
 obtain ⟨he5a,he5b,he5c⟩:=vA he5
 obtain ⟨vr6,hvr6,h0⟩:=bA h0
 refine nA 192 [4,5] (fun | 6=>some (.tup [.int .i64 vr6.1,.int .i64 vr6.2],[]) | _=>none) rfl (fun _ _=>rB (rA he5a (rA he5b he5c)) (sY hvr6)) ?_
 refine jA ?_
 obtain rfl:=oI h0
 refine lA [] ?_
 exact rJ (rA he5a (rA he5b he5c))
theorem jX {fu : Nat} {r : Bool} (h0 : yM fu = some r) : yA Tryz.prog 7 [] (.bool r) []:=by
 refine dB Tryz.func7 rfl (by decide) rL ?_
 dsimp only [Tryz.f7,List.append]
 rw [yM] at h0
 refine xS 8 [] ?_
 obtain ⟨vr1,hvr1,h0⟩:=bA h0
 obtain ⟨vr2,hvr2,h0⟩:=bA h0
 refine nA 72 [1,2] (fun | 0=>some (.agg (eB.enc vr1),[]) | 1=>some (.tup [.agg (cB.enc vr2.1),.int .i64 vr2.2],[]) | _=>none) rfl (fun Kt hK=>by
   try have q0:=znx hvr1
   try have q1:=zoV hvr2
   exact rT) ?_
 refine iA ?_
 obtain ⟨b3,hb3,h0⟩:=bA h0
 obtain ⟨b4,hb4,h0⟩:=bA h0
 obtain ⟨b6,hb6,h0⟩:=bA h0
 refine jC (fr':=[(1,.ref 48 0 0 0),(37,.bool b6)]) (hp':=[(48,⟨0,true,true,4,[[.int .i64 vr2.1.Levels.B,.psl 1 (List.map qA.enc vr2.1.Levels.Levels),.psl 11 (List.map bB.enc vr2.1.Jobs),.int .i64 vr2.1.NextId]]⟩)]) [48] 240 [1,37] (fun _=>none) rfl (fun Kt hK=>by
   cases hg7 : (!(decide (vr2.2 = 0))) with
   | false =>
    replace hb3:=sA hb3 hg7
    have hqb3:=oI hb3
    cases b3 with
    | false =>
     replace hb4:=sA hb4 rfl
     have hqb4:=oI hb4
     cases b4 with
     | false =>
      replace hb6:=sA hb6 rfl
      obtain ⟨e5,he5,hb6⟩:=bA hb6
      have he5b:=(vA he5).2.1
      have he5c:=(dG 0 he5 rfl).1
      have he5a:=(dG 0 he5 rfl).2
      have hqb6:=oI hb6
      subst hqb6
      exact sD (rA hg7 (rA hqb3 hqb4)) (rA he5a (rA he5b (rA he5c he5))) hK
     | true =>
      replace hb6:=zA hb6 rfl
      have hqb6:=oI hb6
      subst hqb6
      exact rW (rA hg7 (rA hqb3 hqb4)) hK
    | true =>
     replace hb4:=zA hb4 rfl
     have hqb4:=oI hb4
     cases b4 with
     | false =>
      cases hqb4
     | true =>
      replace hb6:=zA hb6 rfl
      have hqb6:=oI hb6
      subst hqb6
      exact rW (rA hg7 hqb3) hK
   | true =>
    replace hb3:=zA hb3 hg7
    have hqb3:=oI hb3
    cases b3 with
    | false =>
     cases hqb3
    | true =>
     replace hb4:=zA hb4 rfl
     have hqb4:=oI hb4
     cases b4 with
     | false =>
      cases hqb4
     | true =>
      replace hb6:=zA hb6 rfl
      have hqb6:=oI hb6
      subst hqb6
      exact rW hg7 hK) ?_
 refine xI h0 rfl (fun h0 hb13=>?_) (fun h0 hb13=>?_)
 ·
  refine xS 248 [0] ?_
  refine jA (mA ?_)
  obtain rfl:=oI h0
  exact lA [] rG
 refine oA (cA ?_)
 obtain ⟨vr14,hvr14,h0⟩:=bA h0
 refine nA 296 [1,2,3] (fun | 1=>some (.tup [.int .i64 vr14.1,.int .i64 vr14.2],[]) | _=>none) rfl (fun _ _=>rC (zeb hvr14)) ?_
 obtain ⟨vr15,hvr15,h0⟩:=bA h0
 refine nA 376 [2,3,4,5,6] (fun | 1=>some (.tup [.agg (cB.enc vr15.1),.int .i64 vr15.2.1,.int .i64 vr15.2.2],[]) | _=>none) rfl (fun _ _=>rC (zcj hvr15)) ?_
 obtain ⟨vr16,hvr16,h0⟩:=bA h0
 refine nA 432 [2,3,4,5,6,7,8] (fun | 1=>some (.tup [.int .i64 vr16.1,.int .i64 vr16.2],[]) | _=>none) rfl (fun _ _=>rC (zeb hvr16)) ?_
 obtain ⟨vr17,hvr17,h0⟩:=bA h0
 refine nA 512 [2,3,4,5,6,7,8,11] (fun | 1=>some (.tup [.agg (cB.enc vr17.1),.int .i64 vr17.2.1,.int .i64 vr17.2.2],[]) | _=>none) rfl (fun _ _=>rC (zcj hvr17)) ?_
 obtain ⟨b18,hb18,h0⟩:=bA h0
 obtain ⟨b19,hb19,h0⟩:=bA h0
 obtain ⟨b20,hb20,h0⟩:=bA h0
 obtain ⟨b21,hb21,h0⟩:=bA h0
 obtain ⟨b22,hb22,h0⟩:=bA h0
 obtain ⟨b23,hb23,h0⟩:=bA h0
 obtain ⟨b24,hb24,h0⟩:=bA h0
 obtain ⟨b26,hb26,h0⟩:=bA h0
 obtain ⟨b29,hb29,h0⟩:=bA h0
 refine jC (fr':=[(0,.bool b29)]) (hp':=[(48,⟨0,true,true,4,[[.int .i64 vr2.1.Levels.B,.psl 1 (List.map qA.enc vr2.1.Levels.Levels),.psl 11 (List.map bB.enc vr2.1.Jobs),.int .i64 vr2.1.NextId]]⟩),(344,⟨0,true,true,4,[[.int .i64 vr15.1.Levels.B,.psl 1 (List.map qA.enc vr15.1.Levels.Levels),.psl 11 (List.map bB.enc vr15.1.Jobs),.int .i64 vr15.1.NextId]]⟩),(480,⟨0,true,true,4,[[.int .i64 vr17.1.Levels.B,.psl 1 (List.map qA.enc vr17.1.Levels.Levels),.psl 11 (List.map bB.enc vr17.1.Jobs),.int .i64 vr17.1.NextId]]⟩)]) [48,344,480] 952 [0] (fun _=>none) rfl (fun Kt hK=>by
   cases hg30 : (decide (vr14.1 = 3)) with
   | false =>
    replace hb18:=sA hb18 hg30
    have hqb18:=oI hb18
    cases b18 with
    | false =>
     replace hb19:=sA hb19 rfl
     have hqb19:=oI hb19
     cases b19 with
     | false =>
      replace hb20:=sA hb20 rfl
      have hqb20:=oI hb20
      cases b20 with
      | false =>
       replace hb21:=sA hb21 rfl
       have hqb21:=oI hb21
       cases b21 with
       | false =>
        replace hb22:=sA hb22 rfl
        have hqb22:=oI hb22
        cases b22 with
        | false =>
         replace hb23:=sA hb23 rfl
         have hqb23:=oI hb23
         cases b23 with
         | false =>
          replace hb24:=sA hb24 rfl
          have hqb24:=oI hb24
          cases b24 with
          | false =>
           replace hb26:=sA hb26 rfl
           have hqb26:=oI hb26
           cases b26 with
           | false =>
            replace hb29:=sA hb29 rfl
            have hqb29:=oI hb29
            subst hqb29
            exact rW hg30 hK
           | true =>
            cases hqb26
          | true =>
           cases hqb24
         | true =>
          cases hqb23
        | true =>
         cases hqb22
       | true =>
        cases hqb21
      | true =>
       cases hqb20
     | true =>
      cases hqb19
    | true =>
     cases hqb18
   | true =>
    replace hb18:=zA hb18 hg30
    have hqb18:=oI hb18
    cases b18 with
    | false =>
     replace hb19:=sA hb19 rfl
     have hqb19:=oI hb19
     cases b19 with
     | false =>
      replace hb20:=sA hb20 rfl
      have hqb20:=oI hb20
      cases b20 with
      | false =>
       replace hb21:=sA hb21 rfl
       have hqb21:=oI hb21
       cases b21 with
       | false =>
        replace hb22:=sA hb22 rfl
        have hqb22:=oI hb22
        cases b22 with
        | false =>
         replace hb23:=sA hb23 rfl
         have hqb23:=oI hb23
         cases b23 with
         | false =>
          replace hb24:=sA hb24 rfl
          have hqb24:=oI hb24
          cases b24 with
          | false =>
           replace hb26:=sA hb26 rfl
           have hqb26:=oI hb26
           cases b26 with
           | false =>
            replace hb29:=sA hb29 rfl
            have hqb29:=oI hb29
            subst hqb29
            exact rW (rA hg30 hqb18) hK
           | true =>
            cases hqb26
          | true =>
           cases hqb24
         | true =>
          cases hqb23
        | true =>
         cases hqb22
       | true =>
        cases hqb21
      | true =>
       cases hqb20
     | true =>
      cases hqb19
    | true =>
     replace hb19:=zA hb19 rfl
     have hqb19:=oI hb19
     cases b19 with
     | false =>
      replace hb20:=sA hb20 rfl
      have hqb20:=oI hb20
      cases b20 with
      | false =>
       replace hb21:=sA hb21 rfl
       have hqb21:=oI hb21
       cases b21 with
       | false =>
        replace hb22:=sA hb22 rfl
        have hqb22:=oI hb22
        cases b22 with
        | false =>
         replace hb23:=sA hb23 rfl
         have hqb23:=oI hb23
         cases b23 with
         | false =>
          replace hb24:=sA hb24 rfl
          have hqb24:=oI hb24
          cases b24 with
          | false =>
           replace hb26:=sA hb26 rfl
           have hqb26:=oI hb26
           cases b26 with
           | false =>
            replace hb29:=sA hb29 rfl
            have hqb29:=oI hb29
            subst hqb29
            exact rW (rA hg30 (rA hqb18 hqb19)) hK
           | true =>
            cases hqb26
          | true =>
           cases hqb24
         | true =>
          cases hqb23
        | true =>
         cases hqb22
       | true =>
        cases hqb21
      | true =>
       cases hqb20
     | true =>
      replace hb20:=zA hb20 rfl
      have hqb20:=oI hb20
      cases b20 with
      | false =>
       replace hb21:=sA hb21 rfl
       have hqb21:=oI hb21
       cases b21 with
       | false =>
        replace hb22:=sA hb22 rfl
        have hqb22:=oI hb22
        cases b22 with
        | false =>
         replace hb23:=sA hb23 rfl
         have hqb23:=oI hb23
         cases b23 with
         | false =>
          replace hb24:=sA hb24 rfl
          have hqb24:=oI hb24
          cases b24 with
          | false =>
           replace hb26:=sA hb26 rfl
           have hqb26:=oI hb26
           cases b26 with
           | false =>
            replace hb29:=sA hb29 rfl
            have hqb29:=oI hb29
            subst hqb29
            exact rW (rA hg30 (rA hqb18 (rA hqb19 hqb20))) hK
           | true =>
            cases hqb26
          | true =>
           cases hqb24
         | true =>
          cases hqb23
        | true =>
         cases hqb22
       | true =>
        cases hqb21
      | true =>
       replace hb21:=zA hb21 rfl
       have hqb21:=oI hb21
       cases b21 with
       | false =>
        replace hb22:=sA hb22 rfl
        have hqb22:=oI hb22
        cases b22 with
        | false =>
         replace hb23:=sA hb23 rfl
         have hqb23:=oI hb23
         cases b23 with
         | false =>
          replace hb24:=sA hb24 rfl
          have hqb24:=oI hb24
          cases b24 with
          | false =>
           replace hb26:=sA hb26 rfl
           have hqb26:=oI hb26
           cases b26 with
           | false =>
            replace hb29:=sA hb29 rfl
            have hqb29:=oI hb29
            subst hqb29
            exact rW (rA hg30 (rA hqb18 (rA hqb19 (rA hqb20 hqb21)))) hK
           | true =>
            cases hqb26
          | true =>
           cases hqb24
         | true =>
          cases hqb23
        | true =>
         cases hqb22
       | true =>
        replace hb22:=zA hb22 rfl
        have hqb22:=oI hb22
        cases b22 with
        | false =>
         replace hb23:=sA hb23 rfl
         have hqb23:=oI hb23
         cases b23 with
         | false =>
          replace hb24:=sA hb24 rfl
          have hqb24:=oI hb24
          cases b24 with
          | false =>
           replace hb26:=sA hb26 rfl
           have hqb26:=oI hb26
           cases b26 with
           | false =>
            replace hb29:=sA hb29 rfl
            have hqb29:=oI hb29
            subst hqb29
            exact rW (rA hg30 (rA hqb18 (rA hqb19 (rA hqb20 (rA hqb21 hqb22))))) hK
           | true =>
            cases hqb26
          | true =>
           cases hqb24
         | true =>
          cases hqb23
        | true =>
         replace hb23:=zA hb23 rfl
         have hqb23:=oI hb23
         cases b23 with
         | false =>
          replace hb24:=sA hb24 rfl
          have hqb24:=oI hb24
          cases b24 with
          | false =>
           replace hb26:=sA hb26 rfl
           have hqb26:=oI hb26
           cases b26 with
           | false =>
            replace hb29:=sA hb29 rfl
            have hqb29:=oI hb29
            subst hqb29
            exact rW (rA hg30 (rA hqb18 (rA hqb19 (rA hqb20 (rA hqb21 (rA hqb22 hqb23)))))) hK
           | true =>
            cases hqb26
          | true =>
           cases hqb24
         | true =>
          replace hb24:=zA hb24 rfl
          have hqb24:=oI hb24
          cases b24 with
          | false =>
           replace hb26:=sA hb26 rfl
           have hqb26:=oI hb26
           cases b26 with
           | false =>
            replace hb29:=sA hb29 rfl
            have hqb29:=oI hb29
            subst hqb29
            exact rW (rA hg30 (rA hqb18 (rA hqb19 (rA hqb20 (rA hqb21 (rA hqb22 (rA hqb23 hqb24))))))) hK
           | true =>
            cases hqb26
          | true =>
           replace hb26:=zA hb26 rfl
           obtain ⟨e25,he25,hb26⟩:=bA hb26
           have he25b:=(vA he25).2.1
           have he25c:=(dG 0 he25 rfl).1
           have he25a:=(dG 0 he25 rfl).2
           have hqb26:=oI hb26
           cases b26 with
           | false =>
            replace hb29:=sA hb29 rfl
            have hqb29:=oI hb29
            subst hqb29
            exact sD (rA hg30 (rA hqb18 (rA hqb19 (rA hqb20 (rA hqb21 (rA hqb22 (rA hqb23 (rA hqb24 hqb26)))))))) (rA he25a (rA he25b (rA he25c he25))) hK
           | true =>
            replace hb29:=zA hb29 rfl
            obtain ⟨e27,he27,hb29⟩:=bA hb29
            have he27b:=(vA he27).2.1
            have he27c:=(dG 0 he27 rfl).1
            have he27a:=(dG 0 he27 rfl).2
            obtain rfl:=oI (he25.symm.trans he27)
            obtain ⟨e28,he28,hb29⟩:=bA hb29
            have he28b:=(vA he28).2.1
            have he28c:=(dG 0 he28 rfl).1
            have he28a:=(dG 0 he28 rfl).2
            have hqb29:=oI hb29
            subst hqb29
            exact sD (rA hg30 (rA hqb18 (rA hqb19 (rA hqb20 (rA hqb21 (rA hqb22 (rA hqb23 (rA hqb24 hqb26)))))))) (rA he25a (rA he25b (rA he25c (rA he25 (rA he27a (rA he27b (rA he27c (rA he27 (rA he28a (rA he28b (rA he28c he28))))))))))) hK) ?_
 refine jA ?_
 obtain rfl:=oI h0
 exact lA [] rG
theorem zfy {fu : Nat} {vs1 : mB} {r : Int} (h0 : nQ fu vs1 = some r) : yA Tryz.prog 60 [.agg (mB.enc vs1)] (.int .i64 r) []:=by
 refine dB Tryz.func60 rfl (by decide) rL ?_
 dsimp only [Tryz.f60]
 rw [nQ] at h0
 refine xS 16 [1] ?_
 refine xS 24 [1,3] ?_
 refine iA ?_
 refine xS 32 [1,3,4] ?_
 obtain ⟨x8,hxx8,h0⟩:=bA h0
 refine pC (fun s'=>s'.nx ≤ 80 ∧ LeN [] s' ⟨[(3,.int .i64 x8)],[(0,⟨0,true,true,10,[[.psl 1 (List.map (tA 4 aA.enc) vs1.Merge.Runs),.psl 1 (List.map (gA .i64) vs1.Merge.At),.psl 2 (List.map eA.enc vs1.Merge.Tree.Keys),.psl 1 (List.map (gA .i64) vs1.Merge.Tree.Lose),.int .i64 vs1.Merge.Tree.Win,.bool vs1.Shadow.Some,.str vs1.Shadow.Last,.bool vs1.Shadow.Bottom,.psl 4 (List.map aA.enc vs1.Out),.int .i64 vs1.Steps]]⟩)],80,[]⟩) ?_ ?_
 ·
  intro s' hs
  obtain ⟨hn,hs⟩:=hs
  refine cA ?_
  refine oB [] hn hs ?_
  refine xS 96 [2] ?_
  refine jA ?_
  obtain rfl:=oI h0
  exact lA [] rG
 refine lC (ι:={ p : Nat × Int × Int // tJ vs1 p.1 p.2.1 p.2.2 = some x8 }) (fun p=>⟨[(1,.ref 0 0 0 0),(3,.int .i64 p.1.2.1),(4,.int .i64 p.1.2.2)],[(0,⟨0,true,true,10,[[.psl 1 (List.map (tA 4 aA.enc) vs1.Merge.Runs),.psl 1 (List.map (gA .i64) vs1.Merge.At),.psl 2 (List.map eA.enc vs1.Merge.Tree.Keys),.psl 1 (List.map (gA .i64) vs1.Merge.Tree.Lose),.int .i64 vs1.Merge.Tree.Win,.bool vs1.Shadow.Some,.str vs1.Shadow.Last,.bool vs1.Shadow.Bottom,.psl 4 (List.map aA.enc vs1.Out),.int .i64 vs1.Steps]]⟩)],32,[]⟩) (fun p=>p.1.1) ⟨(fu,0,0),hxx8⟩ ⟨rF,rE,rfl,rfl,trivial,trivial⟩ (fun _=>Nat.le_refl _) ?_
 rintro ⟨⟨fu,n9,i10⟩,h1⟩
 cases fu with
 | zero =>
  replace h1 : tJ vs1 0 n9 i10 = some x8:=h1
  rw [tJ] at h1; cases h1
 | succ fu =>
  replace h1 : tJ vs1 (fu + 1) n9 i10 = some x8:=h1
  rw [tJ] at h1
  dsimp only
  refine iA ?_
  refine xS 80 [1,3,4,10] ?_
  refine xI h1 rfl (fun h1 hb11=>?_) (fun h1 hb11=>?_)
  ·
   refine oA (cA (iA (vB ?_)))
   obtain ⟨e12,he12,h1⟩:=bA h1
   obtain ⟨he12a,he12b,he12c⟩:=vA he12
   refine nB 152 [1,3,4] (fun _=>none) rfl (fun _ _=>rS (rA he12a (rA he12b he12c))) ?_
   refine pB (cA ?_)
   refine nB 176 [1,3,4] (fun _=>none) rfl (fun _ _=>rS (rA he12a (rA he12b he12c))) ?_
   refine cA ?_
   exact ⟨⟨(fu,(IntKind.i64.wrap (n9 + e12)),(IntKind.i64.wrap (i10 + 1))),h1⟩,⟨rF,rE,rfl,rfl,trivial,trivial⟩,Nat.lt_succ_self _⟩
  refine dC (xA (xA (gC ?_)))
  obtain rfl:=oI h1
  exact ⟨rL,⟨rF,rE,rfl,rfl,trivial,trivial⟩⟩
theorem zd9 {fu : Nat} {vx1 : aA} {r : Int} (h0 : lV fu vx1 = some r) : yA Tryz.prog 138 [.agg (aA.enc vx1)] (.int .i64 r) []:=by
 refine dB Tryz.func138 rfl (by decide) rL ?_
 dsimp only [Tryz.f138]
 rw [lV] at h0
 refine xS 16 [1] ?_
 refine iA ?_
 obtain ⟨b2,hb2,h0⟩:=bA h0
 refine jC (fr':=[(1,.ref 0 0 0 0),(12,.bool b2)]) (hp':=[(0,⟨0,true,true,4,[[.str vx1.Key,.str vx1.Val,.bool vx1.Dead,.int .i64 vx1.Seq]]⟩)]) [0] 96 [1,12] (fun _=>none) rfl (fun Kt hK=>by
   cases hg3 : (decide (32 < (vx1.Key.length : Int))) with
   | false =>
    replace hb2:=sA hb2 hg3
    have hqb2:=oI hb2
    subst hqb2
    exact rW hg3 hK
   | true =>
    replace hb2:=zA hb2 hg3
    have hqb2:=oI hb2
    subst hqb2
    exact rW hg3 hK) ?_
 refine xI h0 rfl (fun h0 hb4=>?_) (fun h0 hb4=>?_)
 ·
  refine xS 104 [2] ?_
  refine jA (mA ?_)
  obtain rfl:=oI h0
  exact lA [] rG
 refine oA (cA (iA ?_))
 obtain ⟨b5,hb5,h0⟩:=bA h0
 refine jC (fr':=[(1,.ref 0 0 0 0),(19,.bool b5)]) (hp':=[(0,⟨0,true,true,4,[[.str vx1.Key,.str vx1.Val,.bool vx1.Dead,.int .i64 vx1.Seq]]⟩)]) [0] 152 [1,19] (fun _=>none) rfl (fun Kt hK=>by
   cases hg6 : vx1.Dead with
   | false =>
    replace hb5:=sA hb5 hg6
    have hqb5:=oI hb5
    subst hqb5
    exact rW hg6 hK
   | true =>
    replace hb5:=zA hb5 hg6
    have hqb5:=oI hb5
    subst hqb5
    exact rW hg6 hK) ?_
 refine xI h0 rfl (fun h0 hb7=>?_) (fun h0 hb7=>?_)
 ·
  refine xS 160 [2] ?_
  refine jA (mA ?_)
  obtain rfl:=oI h0
  exact lA [] rG
 refine oA (cA (iA ?_))
 obtain ⟨b8,hb8,h0⟩:=bA h0
 refine jC (fr':=[(27,.bool b8)]) (hp':=[(0,⟨0,true,true,4,[[.str vx1.Key,.str vx1.Val,.bool vx1.Dead,.int .i64 vx1.Seq]]⟩)]) [0] 216 [27] (fun _=>none) rfl (fun Kt hK=>by
   cases hg9 : (decide (vx1.Seq < 1)) with
   | false =>
    replace hb8:=sA hb8 hg9
    have hqb8:=oI hb8
    subst hqb8
    exact rW hg9 hK
   | true =>
    replace hb8:=zA hb8 hg9
    have hqb8:=oI hb8
    subst hqb8
    exact rW hg9 hK) ?_
 refine xI h0 rfl (fun h0 hb10=>?_) (fun h0 hb10=>?_)
 ·
  refine xS 224 [2] ?_
  refine jA (mA ?_)
  obtain rfl:=oI h0
  exact lA [] rG
 refine oA (cA ?_)
 refine xS 224 [2] ?_
 refine jA ?_
 obtain rfl:=oI h0
 exact lA [] rG
theorem zol {fu : Nat} {a1 : List UInt8} {b2 : List UInt8} {r : Int} (h0 : uW fu a1 b2 = some r) : yA Tryz.prog 148 [.str a1,.str b2] (.int .i64 r) []:=by
 refine dB Tryz.func148 rfl (by decide) rL ?_
 dsimp only [Tryz.f148]
 rw [uW] at h0
 refine xS 8 [0,1] ?_
 refine xS 16 [0,1,5] ?_
 obtain ⟨x20,hxx20,h0⟩:=bA h0
 refine zeW (fun s'=>s'.nx ≤ 168 ∧ LeN [] s' ⟨[(5,.int .i64 x20)],[],168,[]⟩) ?_ ?_
 ·
  intro s' hs
  obtain ⟨hn,hs⟩:=hs
  refine oB [] hn hs ?_
  refine xS 184 [4] ?_
  refine jA ?_
  obtain rfl:=oI h0
  exact lA [] rG
 refine lC (ι:={ p : Nat × Int // xJ a1 b2 p.1 p.2 = some x20 }) (fun p=>⟨[(0,.str a1),(1,.str b2),(5,.int .i64 p.1.2)],[],16,[]⟩) (fun p=>p.1.1) ⟨(fu,0),hxx20⟩ ⟨rF,rE,rfl,rfl,trivial,trivial⟩ (fun _=>Nat.le_refl _) ?_
 rintro ⟨⟨fu,n21⟩,h1⟩
 cases fu with
 | zero =>
  replace h1 : xJ a1 b2 0 n21 = some x20:=h1
  rw [xJ] at h1; cases h1
 | succ fu =>
  replace h1 : xJ a1 b2 (fu + 1) n21 = some x20:=h1
  rw [xJ] at h1
  dsimp only
  refine iA ?_
  obtain ⟨b22,hb22,h1⟩:=bA h1
  obtain ⟨b25,hb25,h1⟩:=bA h1
  refine iL (fr':=[(0,.str a1),(1,.str b2),(5,.int .i64 n21),(24,.bool b25)]) (hp':=[]) [] 168 [0,1,5,24] (fun _=>none) rfl rfl rfl (fun Kt hK=>by
    cases hg26 : (decide (n21 < (a1.length : Int))) with
    | false =>
     replace hb22:=sA hb22 hg26
     have hqb22:=oI hb22
     cases b22 with
     | false =>
      replace hb25:=sA hb25 rfl
      have hqb25:=oI hb25
      subst hqb25
      exact uO hg26 hK
     | true =>
      cases hqb22
    | true =>
     replace hb22:=zA hb22 hg26
     have hqb22:=oI hb22
     cases b22 with
     | false =>
      replace hb25:=sA hb25 rfl
      have hqb25:=oI hb25
      subst hqb25
      exact uO (rA hg26 hqb22) hK
     | true =>
      replace hb25:=zA hb25 rfl
      obtain ⟨e23,he23,hb25⟩:=bA hb25
      obtain ⟨he23a,he23b,he23c⟩:=vA he23
      obtain ⟨e24,he24,hb25⟩:=bA hb25
      obtain ⟨he24a,he24b,he24c⟩:=vA he24
      have hqb25:=oI hb25
      subst hqb25
      exact yG (rA hg26 hqb22) (rA he23a (rA he23b (rA he23c (rA he23 (rA he24a (rA he24b (rA he24c he24))))))) hK) ?_
  refine xI h1 rfl (fun h1 hb29=>?_) (fun h1 hb29=>?_)
  ·
   refine oA (cA (vB ?_))
   refine xR 192 [0,1,5] ?_
   refine pB (cA ?_)
   exact ⟨⟨(fu,(IntKind.i64.wrap (n21 + 1))),h1⟩,⟨rF,rE,rfl,rfl,trivial,trivial⟩,Nat.lt_succ_self _⟩
  refine dC (xA (xA (gC ?_)))
  obtain rfl:=oI h1
  exact ⟨rL,⟨rF,rE,rfl,rfl,trivial,trivial⟩⟩
theorem zaH {fu : Nat} {a1 : List UInt8} {b2 : List UInt8} {r : Int} (h0 : mO fu a1 b2 = some r) : yA Tryz.prog 139 [.str a1,.str b2] (.int .i64 r) []:=by
 refine dB Tryz.func139 rfl (by decide) rL ?_
 dsimp only [Tryz.f139]
 rw [mO] at h0
 refine xS 8 [0,1] ?_
 obtain ⟨vr3,hvr3,h0⟩:=bA h0
 refine nA 40 [0,1,5] (fun | 2=>some (.int .i64 vr3,[]) | _=>none) rfl (fun _ _=>rC (zol hvr3)) ?_
 refine iA ?_
 obtain ⟨b4,hb4,h0⟩:=bA h0
 refine jC (fr':=[(0,.str a1),(1,.str b2),(5,.int .i64 vr3),(18,.bool b4)]) (hp':=[]) [] 120 [0,1,5,18] (fun _=>none) rfl (fun Kt hK=>by
   cases hg5 : (decide (vr3 = (a1.length : Int))) with
   | false =>
    replace hb4:=sA hb4 hg5
    have hqb4:=oI hb4
    subst hqb4
    exact rW hg5 hK
   | true =>
    replace hb4:=zA hb4 hg5
    have hqb4:=oI hb4
    subst hqb4
    exact rW hg5 hK) ?_
 refine xI h0 rfl (fun h0 hb6=>?_) (fun h0 hb6=>?_)
 ·
  refine xS 128 [4] ?_
  refine jA (mA ?_)
  obtain rfl:=oI h0
  exact lA [] rG
 refine oA (cA (iA ?_))
 obtain ⟨b10,hb10,h0⟩:=bA h0
 refine iL (fr':=[(37,.bool b10)]) (hp':=[]) [] 272 [37] (fun _=>none) rfl rfl rfl (fun Kt hK=>by
   cases hg11 : (decide (vr3 = (a1.length : Int))) with
   | false =>
    replace hb10:=sA hb10 hg11
    obtain ⟨b9,hb9,hb10⟩:=bA hb10
    have hqb10:=oI hb10
    cases hg12 : (decide (vr3 < (b2.length : Int))) with
    | false =>
     replace hb9:=sA hb9 hg12
     have hqb9:=oI hb9
     subst hqb10
     subst hqb9
     exact uO (rA hg11 hg12) hK
    | true =>
     replace hb9:=zA hb9 hg12
     obtain ⟨e7,he7,hb9⟩:=bA hb9
     obtain ⟨he7a,he7b,he7c⟩:=vA he7
     obtain ⟨e8,he8,hb9⟩:=bA hb9
     obtain ⟨he8a,he8b,he8c⟩:=vA he8
     have hqb9:=oI hb9
     subst hqb10
     subst hqb9
     exact yG (rA hg11 hg12) (rA he7a (rA he7b (rA he7c (rA he7 (rA he8a (rA he8b (rA he8c he8))))))) hK
   | true =>
    replace hb10:=zA hb10 hg11
    have hqb10:=oI hb10
    subst hqb10
    exact uO hg11 hK) ?_
 refine xI h0 rfl (fun h0 hb13=>?_) (fun h0 hb13=>?_)
 ·
  refine xS 280 [4] ?_
  refine jA (mA ?_)
  obtain rfl:=oI h0
  exact lA [] rG
 refine oA (cA ?_)
 refine xS 280 [4] ?_
 refine jA ?_
 obtain rfl:=oI h0
 exact lA [] rG
theorem zdi {fu : Nat} {l1 : List aA} {r : Int × Int} (h0 : sT fu l1 = some r) : yA Tryz.prog 121 [.psl 4 (l1.map aA.enc)] (.tup [.int .i64 r.1,.int .i64 r.2]) []:=by
 refine dB Tryz.func121 rfl (by decide) rL ?_
 dsimp only [Tryz.f121]
 rw [sT] at h0
 refine xS 16 [0] ?_
 refine iA ?_
 refine xS 40 [0,8] ?_
 refine xI h0 rfl (fun h0 hb2=>?_) (fun h0 hb2=>?_)
 ·
  refine xS 56 [2,3] ?_
  refine jA (mA ?_)
  obtain rfl:=oI h0
  exact lA [] rG
 refine oA (cA (iA ?_))
 refine xS 48 [0,4] ?_
 obtain ⟨x28,hxx28,h0⟩:=bA h0
 refine pC (fun s'=>∃ o42 : Unit,x28 = .inl o42 ∧ s'.nx ≤ 80 ∧ LeN [] s' ⟨[],[],80,[]⟩) ?_ ?_
 ·
  intro s' hs
  obtain ⟨o42,rfl,hn,hs⟩:=hs
  refine cA ?_
  refine oB [] hn hs ?_
  refine xS 96 [2,3] ?_
  refine jA ?_
  obtain rfl:=oI h0
  exact lA [] rG
 refine lC (ι:={ p : Nat × Int // vI l1 p.1 p.2 = some x28 }) (fun p=>⟨[(0,.psl 4 (List.map aA.enc l1)),(4,.int .i64 p.1.2)],[],48,[]⟩) (fun p=>p.1.1) ⟨(fu,0),hxx28⟩ ⟨rF,rE,rfl,rfl,trivial,trivial⟩ (fun _=>Nat.le_refl _) ?_
 rintro ⟨⟨fu,i29⟩,h1⟩
 cases fu with
 | zero =>
  replace h1 : vI l1 0 i29 = some x28:=h1
  rw [vI] at h1; cases h1
 | succ fu =>
  replace h1 : vI l1 (fu + 1) i29 = some x28:=h1
  rw [vI] at h1
  dsimp only
  refine iA ?_
  refine xS 80 [0,4,12] ?_
  refine xI h1 rfl (fun h1 hb30=>?_) (fun h1 hb30=>?_)
  ·
   refine oA (cA (iA (vB ?_)))
   obtain ⟨e31,he31,h1⟩:=bA h1
   obtain ⟨he31a,he31b,he31c⟩:=vA he31
   obtain ⟨vr32,hvr32,h1⟩:=bA h1
   refine nA 128 [0,4,5] (fun | 4=>some (.int .i64 vr32,[]) | _=>none) rfl (fun _ _=>rB (rA he31a (rA he31b he31c)) (zd9 hvr32)) ?_
   refine iA ?_
   obtain ⟨b33,hb33,h1⟩:=bA h1
   obtain ⟨b36,hb36,h1⟩:=bA h1
   refine iL (fr':=[(0,.psl 4 (List.map aA.enc l1)),(4,.int .i64 i29),(5,.int .i64 vr32),(40,.bool b36)]) (hp':=[]) [] 296 [0,4,5,40] (fun | 18=>(ix l1 (IntKind.i64.wrap (i29 - 1))).bind fun e34=>(mO fu e34.Key e31.Key).bind fun vr35=>some (.int .i64 vr35,[]) | _=>none) rfl rfl rfl (fun Kt hK=>by
     cases hg37 : (decide (vr32 = 0)) with
     | false =>
      replace hb33:=sA hb33 hg37
      have hqb33:=oI hb33
      cases b33 with
      | false =>
       replace hb36:=sA hb36 rfl
       have hqb36:=oI hb36
       subst hqb36
       first | exact yY hg37 (rA he31a (rA he31b he31c)) (zaH hvr35) hK | exact yG hg37 (rA he31a (rA he31b he31c)) hK
      | true =>
       cases hqb33
     | true =>
      replace hb33:=zA hb33 hg37
      have hqb33:=oI hb33
      cases b33 with
      | false =>
       replace hb36:=sA hb36 rfl
       have hqb36:=oI hb36
       subst hqb36
       first | exact yY (rA hg37 hqb33) (rA he31a (rA he31b he31c)) (zaH hvr35) hK | exact yG (rA hg37 hqb33) (rA he31a (rA he31b he31c)) hK
      | true =>
       replace hb36:=zA hb36 rfl
       obtain ⟨e34,he34,hb36⟩:=bA hb36
       obtain ⟨he34a,he34b,he34c⟩:=vA he34
       obtain ⟨vr35,hvr35,hb36⟩:=bA hb36
       have hqb36:=oI hb36
       subst hqb36
       first | exact yY (rA hg37 hqb33) (rA he31a (rA he31b (rA he31c (rA he34a (rA he34b (rA he34c (rA he34 hvr35))))))) (zaH hvr35) hK | exact yG (rA hg37 hqb33) (rA he31a (rA he31b (rA he31c (rA he34a (rA he34b (rA he34c (rA he34 hvr35))))))) hK) ?_
   refine xI h1 rfl (fun h1 hb40=>?_) (fun h1 hb40=>?_)
   ·
    refine nB 304 [0,4,5] (fun _=>none) rfl (fun _ _=>rS (rA he31a (rA he31b he31c))) ?_
    refine cA ?_
    refine nA 320 [0,4,5,42] (fun _=>none) rfl (fun _ _=>rS (rA he31a (rA he31b he31c))) ?_
    refine kI rfl ?_
    refine nA 352 [2,3] (fun _=>none) rfl (fun _ _=>rS (rA he31a (rA he31b he31c))) ?_
    refine jA ?_
    obtain rfl:=oI h1
    refine zB (mA (mA (xC (mA ?_))))
    obtain rfl:=oI h0
    refine lA [] ?_
    exact rJ (rA he31a (rA he31b he31c))
   refine oA (cA ?_)
   refine nA 312 [0,4,5,42] (fun _=>none) rfl (fun _ _=>rS (rA he31a (rA he31b he31c))) ?_
   refine xI h1 rfl (fun h1 hb41=>?_) (fun h1 hb41=>?_)
   ·
    refine nA 344 [2,3] (fun _=>none) rfl (fun _ _=>rS (rA he31a (rA he31b he31c))) ?_
    refine jA ?_
    obtain rfl:=oI h1
    refine zB (mA (mA (xC (mA ?_))))
    obtain rfl:=oI h0
    refine lA [] ?_
    exact rJ (rA he31a (rA he31b he31c))
   refine oA (pB (cA ?_))
   refine nB 336 [0,4] (fun _=>none) rfl (fun _ _=>rS (rA he31a (rA he31b he31c))) ?_
   refine cA ?_
   exact ⟨⟨(fu,(IntKind.i64.wrap (i29 + 1))),h1⟩,⟨rF,rE,rfl,rfl,trivial,trivial⟩,Nat.lt_succ_self _⟩
  refine dC (xA (xA (gC ?_)))
  obtain rfl:=oI h1
  exact ⟨_,rfl,rL,⟨rF,rE,rfl,rfl,trivial,trivial⟩⟩
theorem zaW {fu : Nat} {runs1 : List (List aA)} {r : Int × Int} (h0 : jQ fu runs1 = some r) : yA Tryz.prog 94 [.psl 1 (runs1.map (tA 4 aA.enc))] (.tup [.int .i64 r.1,.int .i64 r.2]) []:=by
 refine dB Tryz.func94 rfl (by decide) rL ?_
 dsimp only [Tryz.f94]
 rw [jQ] at h0
 refine xS 16 [0] ?_
 refine iA ?_
 refine xS 40 [0,9] ?_
 refine xI h0 rfl (fun h0 hb2=>?_) (fun h0 hb2=>?_)
 ·
  refine xS 56 [2,3] ?_
  refine jA (mA ?_)
  obtain rfl:=oI h0
  exact lA [] rG
 refine oA (cA (iA ?_))
 refine xS 64 [0,12] ?_
 refine xI h0 rfl (fun h0 hb3=>?_) (fun h0 hb3=>?_)
 ·
  refine xS 80 [2,3] ?_
  refine jA (mA ?_)
  obtain rfl:=oI h0
  exact lA [] rG
 refine oA (cA (iA ?_))
 refine xS 72 [0,4] ?_
 obtain ⟨x13,hxx13,h0⟩:=bA h0
 refine pC (fun s'=>∃ o19 : Unit,x13 = .inl o19 ∧ s'.nx ≤ 104 ∧ LeN [] s' ⟨[],[],104,[]⟩) ?_ ?_
 ·
  intro s' hs
  obtain ⟨o19,rfl,hn,hs⟩:=hs
  refine cA ?_
  refine oB [] hn hs ?_
  refine xS 120 [2,3] ?_
  refine jA ?_
  obtain rfl:=oI h0
  exact lA [] rG
 refine lC (ι:={ p : Nat × Int // cL runs1 p.1 p.2 = some x13 }) (fun p=>⟨[(0,.psl 1 (List.map (tA 4 aA.enc) runs1)),(4,.int .i64 p.1.2)],[],72,[]⟩) (fun p=>p.1.1) ⟨(fu,0),hxx13⟩ ⟨rF,rE,rfl,rfl,trivial,trivial⟩ (fun _=>Nat.le_refl _) ?_
 rintro ⟨⟨fu,i14⟩,h1⟩
 cases fu with
 | zero =>
  replace h1 : cL runs1 0 i14 = some x13:=h1
  rw [cL] at h1; cases h1
 | succ fu =>
  replace h1 : cL runs1 (fu + 1) i14 = some x13:=h1
  rw [cL] at h1
  dsimp only
  refine iA ?_
  refine xS 104 [0,4,16] ?_
  refine xI h1 rfl (fun h1 hb15=>?_) (fun h1 hb15=>?_)
  ·
   refine oA (cA (iA (vB ?_)))
   obtain ⟨e16,he16,h1⟩:=bA h1
   obtain ⟨he16a,he16b,he16c⟩:=vA he16
   obtain ⟨vr17,hvr17,h1⟩:=bA h1
   refine nA 184 [0,4,6] (fun | 4=>some (.tup [.int .i64 vr17.1,.int .i64 vr17.2],[]) | _=>none) rfl (fun _ _=>rB (rA he16a (rA he16b he16c)) (zdi hvr17)) ?_
   refine nA 200 [0,4,6,28] (fun _=>none) rfl (fun _ _=>rS (rA he16a (rA he16b he16c))) ?_
   refine xI h1 rfl (fun h1 hb18=>?_) (fun h1 hb18=>?_)
   ·
    refine nA 232 [2,3] (fun _=>none) rfl (fun _ _=>rS (rA he16a (rA he16b he16c))) ?_
    refine jA ?_
    obtain rfl:=oI h1
    refine zB (mA (mA (xC (mA ?_))))
    obtain rfl:=oI h0
    refine lA [] ?_
    exact rJ (rA he16a (rA he16b he16c))
   refine oA (pB (cA ?_))
   refine nB 224 [0,4] (fun _=>none) rfl (fun _ _=>rS (rA he16a (rA he16b he16c))) ?_
   refine cA ?_
   exact ⟨⟨(fu,(IntKind.i64.wrap (i14 + 1))),h1⟩,⟨rF,rE,rfl,rfl,trivial,trivial⟩,Nat.lt_succ_self _⟩
  refine dC (xA (xA (gC ?_)))
  obtain rfl:=oI h1
  exact ⟨_,rfl,rL,⟨rF,rE,rfl,rfl,trivial,trivial⟩⟩
theorem zcd {fu : Nat} {runs1 : List (List aA)} {vat2 : List Int} {r : Int} (h0 : oT fu runs1 vat2 = some r) : yA Tryz.prog 92 [.psl 1 (runs1.map (tA 4 aA.enc)),.psl 1 (vat2.map (gA .i64))] (.int .i64 r) []:=by
 refine dB Tryz.func92 rfl (by decide) rL ?_
 dsimp only [Tryz.f92]
 rw [oT] at h0
 refine xS 8 [0,1] ?_
 refine xS 16 [0,1,5] ?_
 refine iA ?_
 refine xS 24 [0,1,5,6] ?_
 obtain ⟨x23,hxx23,h0⟩:=bA h0
 refine pC (fun s'=>s'.nx ≤ 56 ∧ LeN [] s' ⟨[(5,.int .i64 x23)],[],56,[]⟩) ?_ ?_
 ·
  intro s' hs
  obtain ⟨hn,hs⟩:=hs
  refine cA ?_
  refine oB [] hn hs ?_
  refine xS 72 [4] ?_
  refine jA ?_
  obtain rfl:=oI h0
  exact lA [] rG
 refine lC (ι:={ p : Nat × Int × Int // pK runs1 vat2 p.1 p.2.1 p.2.2 = some x23 }) (fun p=>⟨[(0,.psl 1 (List.map (tA 4 aA.enc) runs1)),(1,.psl 1 (List.map (gA .i64) vat2)),(5,.int .i64 p.1.2.1),(6,.int .i64 p.1.2.2)],[],24,[]⟩) (fun p=>p.1.1) ⟨(fu,(-1),0),hxx23⟩ ⟨rF,rE,rfl,rfl,trivial,trivial⟩ (fun _=>Nat.le_refl _) ?_
 rintro ⟨⟨fu,best24,i25⟩,h1⟩
 cases fu with
 | zero =>
  replace h1 : pK runs1 vat2 0 best24 i25 = some x23:=h1
  rw [pK] at h1; cases h1
 | succ fu =>
  replace h1 : pK runs1 vat2 (fu + 1) best24 i25 = some x23:=h1
  rw [pK] at h1
  dsimp only
  refine iA ?_
  refine xS 56 [0,1,5,6,10] ?_
  refine xI h1 rfl (fun h1 hb26=>?_) (fun h1 hb26=>?_)
  ·
   refine oA (cA (iA (vB ?_)))
   obtain ⟨e27,he27,h1⟩:=bA h1
   obtain ⟨he27a,he27b,he27c⟩:=vA he27
   obtain ⟨e28,he28,h1⟩:=bA h1
   obtain ⟨he28a,he28b,he28c⟩:=vA he28
   obtain ⟨b34,hb34,h1⟩:=bA h1
   refine iL (fr':=[(0,.psl 1 (List.map (tA 4 aA.enc) runs1)),(1,.psl 1 (List.map (gA .i64) vat2)),(5,.int .i64 best24),(6,.int .i64 i25),(51,.bool b34)]) (hp':=[]) [] 368 [0,1,5,6,51] (fun _=>none) rfl rfl rfl (fun Kt hK=>by
     cases hg35 : (decide (e27 < (e28.length : Int))) with
     | false =>
      replace hb34:=sA hb34 hg35
      have hqb34:=oI hb34
      subst hqb34
      exact yG hg35 (rA he27a (rA he27b (rA he27c (rA he28a (rA he28b he28c))))) hK
     | true =>
      replace hb34:=zA hb34 hg35
      obtain ⟨b33,hb33,hb34⟩:=bA hb34
      have hqb34:=oI hb34
      cases hg36 : (decide (best24 < 0)) with
      | false =>
       replace hb33:=sA hb33 hg36
       obtain ⟨e29,he29,hb33⟩:=bA hb33
       obtain ⟨he29a,he29b,he29c⟩:=vA he29
       obtain ⟨e30,he30,hb33⟩:=bA hb33
       obtain ⟨he30a,he30b,he30c⟩:=vA he30
       obtain ⟨e31,he31,hb33⟩:=bA hb33
       obtain ⟨he31a,he31b,he31c⟩:=vA he31
       obtain ⟨e32,he32,hb33⟩:=bA hb33
       obtain ⟨he32a,he32b,he32c⟩:=vA he32
       have hqb33:=oI hb33
       subst hqb34
       subst hqb33
       exact yG (rA hg35 hg36) (rA he27a (rA he27b (rA he27c (rA he28a (rA he28b (rA he28c (rA he29a (rA he29b (rA he29c (rA he29 (rA he30a (rA he30b (rA he30c (rA he30 (rA he31a (rA he31b (rA he31c (rA he31 (rA he32a (rA he32b (rA he32c he32))))))))))))))))))))) hK
      | true =>
       replace hb33:=zA hb33 hg36
       have hqb33:=oI hb33
       subst hqb34
       subst hqb33
       exact yG (rA hg35 hg36) (rA he27a (rA he27b (rA he27c (rA he28a (rA he28b he28c))))) hK) ?_
   refine xI h1 rfl (fun h1 hb37=>?_) (fun h1 hb37=>?_)
   ·
    refine nB 384 [0,1,5,6] (fun _=>none) rfl (fun _ _=>rS (rA he27a (rA he27b (rA he27c (rA he28a (rA he28b he28c)))))) ?_
    refine pB (cA ?_)
    refine nB 408 [0,1,5,6] (fun _=>none) rfl (fun _ _=>rS (rA he27a (rA he27b (rA he27c (rA he28a (rA he28b he28c)))))) ?_
    refine cA ?_
    exact ⟨⟨(fu,i25,(IntKind.i64.wrap (i25 + 1))),h1⟩,⟨rF,rE,rfl,rfl,trivial,trivial⟩,Nat.lt_succ_self _⟩
   refine oA (pB (cA ?_))
   refine nB 392 [0,1,5,6] (fun _=>none) rfl (fun _ _=>rS (rA he27a (rA he27b (rA he27c (rA he28a (rA he28b he28c)))))) ?_
   refine cA ?_
   exact ⟨⟨(fu,best24,(IntKind.i64.wrap (i25 + 1))),h1⟩,⟨rF,rE,rfl,rfl,trivial,trivial⟩,Nat.lt_succ_self _⟩
  refine dC (xA (xA (gC ?_)))
  obtain rfl:=oI h1
  exact ⟨rL,⟨rF,rE,rfl,rfl,trivial,trivial⟩⟩
theorem zdN {fu : Nat} {runs1 : List (List aA)} {r : List aA × List Int × Int} (h0 : kT fu runs1 = some r) : yA Tryz.prog 62 [.psl 1 (runs1.map (tA 4 aA.enc))] (.tup [.psl 4 (r.1.map aA.enc),.psl 1 (r.2.1.map (gA .i64)),.int .i64 r.2.2]) []:=by
 refine dB Tryz.func62 rfl (by decide) rL ?_
 dsimp only [Tryz.f62]
 rw [kT] at h0
 refine xS 24 [0] ?_
 obtain ⟨vr2,hvr2,h0⟩:=bA h0
 refine nA 80 [0,6] (fun | 1=>some (.tup [.int .i64 vr2.1,.int .i64 vr2.2],[]) | _=>none) rfl (fun _ _=>rC (zaW hvr2)) ?_
 refine iA ?_
 refine xS 96 [0,6,17] ?_
 refine xI h0 rfl (fun h0 hb3=>?_) (fun h0 hb3=>?_)
 ·
  refine xS 128 [2,3,4] ?_
  refine jA (mA ?_)
  obtain rfl:=oI h0
  exact lA [] rG
 refine oA (cA ?_)
 refine xS 104 [0,7] ?_
 refine xS 112 [0,7,8] ?_
 obtain ⟨hc4,h0⟩:=pD h0
 refine xS 144 [0,7,8,9] ?_
 refine xE ⟨[(0,.psl 1 (List.map (tA 4 aA.enc) runs1)),(7,.nils),(8,.nils),(9,.sl 128 0 1 0 ((List.replicate runs1.length 0 : List Int).length))],[(128,⟨0,true,true,1,List.map (gA .i64) (List.replicate runs1.length 0 : List Int)⟩)],144,[]⟩ ?_
 refine oB (s2:=⟨[(0,.psl 1 (List.map (tA 4 aA.enc) runs1)),(7,.sl 144 0 4 0 0),(8,.sl 145 0 1 0 0),(9,.sl 128 0 1 0 ((List.replicate runs1.length 0 : List Int).length))],[(128,⟨0,true,true,1,List.map (gA .i64) (List.replicate runs1.length 0 : List Int)⟩),(144,⟨0,true,true,4,List.map aA.enc []⟩),(145,⟨0,true,true,1,List.map (gA .i64) []⟩)],146,[]⟩) [(144,4),(145,1)] rL ⟨rF,rE,rfl,rfl,trivial,rN⟩ ?_
 obtain ⟨x28,hxx28,h0⟩:=bA h0
 refine pC (fun _=>False) ?_ ?_
 ·
  intro _ h; exact h.elim
 refine lC (ι:={ p : Nat × List Int × List aA × List Int × Nat × Nat × Nat // lN runs1 p.1 p.2.1 p.2.2.1 p.2.2.2.1 = some x28 }) (fun p=>⟨[(0,.psl 1 (List.map (tA 4 aA.enc) runs1)),(7,.sl 144 p.1.2.2.2.2.2.1 4 0 p.1.2.2.1.length),(8,.sl 145 p.1.2.2.2.2.2.2 1 0 p.1.2.2.2.1.length),(9,.sl 128 p.1.2.2.2.2.1 1 0 p.1.2.1.length)],[(128,⟨p.1.2.2.2.2.1,true,true,1,List.map (gA .i64) p.1.2.1⟩),(144,⟨p.1.2.2.2.2.2.1,true,true,4,List.map aA.enc p.1.2.2.1⟩),(145,⟨p.1.2.2.2.2.2.2,true,true,1,List.map (gA .i64) p.1.2.2.2.1⟩)],146,[]⟩) (fun p=>p.1.1) ⟨(fu,(List.replicate runs1.length 0 : List Int),[],[],0,0,0),hxx28⟩ ⟨rF,rE,rfl,rfl,trivial,trivial⟩ (fun _=>Nat.le_refl _) ?_
 rintro ⟨⟨fu,vat29,l30,vfrom31,g32,g33,g34⟩,h1⟩
 cases fu with
 | zero =>
  replace h1 : lN runs1 0 vat29 l30 vfrom31 = some x28:=h1
  rw [lN] at h1; cases h1
 | succ fu =>
  replace h1 : lN runs1 (fu + 1) vat29 l30 vfrom31 = some x28:=h1
  rw [lN] at h1
  dsimp only
  refine vB ?_
  obtain ⟨vr35,hvr35,h1⟩:=bA h1
  refine nA 178 [0,7,8,9,10] (fun | 2=>some (.int .i64 vr35,[]) | _=>none) rfl (fun _ _=>rC (zcd hvr35)) ?_
  refine iA ?_
  refine xS 194 [0,7,8,9,10,26] ?_
  refine xI h1 rfl (fun h1 hb36=>?_) (fun h1 hb36=>?_)
  ·
   refine xS 234 [2,3,4] ?_
   refine jA ?_
   obtain rfl:=oI h1
   refine mA (zB (mA (xC ?_)))
   obtain rfl:=oI h0
   exact lA [] rG
  refine oA (cA ?_)
  obtain ⟨e37,he37,h1⟩:=bA h1
  obtain ⟨he37a,he37b,he37c⟩:=vA he37
  obtain ⟨e38,he38,h1⟩:=bA h1
  obtain ⟨he38a,he38b,he38c⟩:=vA he38
  obtain ⟨e39,he39,h1⟩:=bA h1
  obtain ⟨he39a,he39b,he39c⟩:=vA he39
  obtain ⟨hc40,h1⟩:=pD h1
  obtain ⟨hc41,h1⟩:=pD h1
  refine qC 346 [0,7,8,9,10] (fun _=>none) rfl rfl rfl (fun _ _=>xD (rA he37a (rA he37b (rA he37c (rA he38a (rA he38b (rA he38c (rA he39a (rA he39b he39c))))))))) ?_
  refine xE ⟨[(0,.psl 1 (List.map (tA 4 aA.enc) runs1)),(7,.sl 144 (g33 + 1) 4 0 ((l30++[e39]).length)),(8,.sl 145 (g34 + 1) 1 0 ((vfrom31++[vr35]).length)),(9,.sl 128 g32 1 0 vat29.length),(10,.int .i64 vr35)],[(128,⟨g32,true,true,1,List.map (gA .i64) vat29⟩),(144,⟨(g33 + 1),true,true,4,List.map aA.enc (l30++[e39])⟩),(145,⟨(g34 + 1),true,true,1,List.map (gA .i64) (vfrom31++[vr35])⟩)],346,[]⟩ ?_
  refine nB 402 [0,7,8,9] (fun _=>none) rfl (fun _ _=>rS (rA he37a (rA he37b (rA he37c (rA he38a (rA he38b (rA he38c (rA he39a (rA he39b he39c))))))))) ?_
  refine pB (cA ?_)
  exact ⟨⟨(fu,(vat29.set vr35.toNat (IntKind.i64.wrap (e38 + 1))),(l30++[e39]),(vfrom31++[vr35]),g32,(g33 + 1),(g34 + 1)),h1⟩,⟨rF,rE,rfl,rfl,trivial,trivial⟩,Nat.lt_succ_self _⟩
theorem zbl {fu : Nat} {bottom1 : Bool} {r : lB} (h0 : uR fu bottom1 = some r) : yA Tryz.prog 96 [.bool bottom1] (.agg (lB.enc r)) []:=by
 refine dB Tryz.func96 rfl (by decide) rL ?_
 dsimp only [Tryz.f96]
 rw [uR] at h0
 refine xS 8 [0,2] ?_
 refine xS 32 [2] ?_
 refine jA ?_
 obtain rfl:=oI h0
 exact lA [] rG
theorem zoA {fu : Nat} {vs1 : lB} {r : Int} (h0 : gX fu vs1 = some r) : yA Tryz.prog 140 [.agg (lB.enc vs1)] (.int .i64 r) []:=by
 refine dB Tryz.func140 rfl (by decide) rL ?_
 dsimp only [Tryz.f140]
 rw [gX] at h0
 refine xS 16 [1] ?_
 refine iA ?_
 refine xS 48 [1,6] ?_
 refine xI h0 rfl (fun h0 hb2=>?_) (fun h0 hb2=>?_)
 ·
  refine xS 56 [2] ?_
  refine jA (mA ?_)
  obtain rfl:=oI h0
  exact lA [] rG
 refine oA (cA (iA ?_))
 obtain ⟨b3,hb3,h0⟩:=bA h0
 refine jC (fr':=[(14,.bool b3)]) (hp':=[(0,⟨0,true,true,3,[[.bool vs1.Some,.str vs1.Last,.bool vs1.Bottom]]⟩)]) [0] 112 [14] (fun _=>none) rfl (fun Kt hK=>by
   cases hg4 : (!vs1.Some) with
   | false =>
    replace hb3:=sA hb3 hg4
    have hqb3:=oI hb3
    subst hqb3
    exact rW hg4 hK
   | true =>
    replace hb3:=zA hb3 hg4
    have hqb3:=oI hb3
    subst hqb3
    exact rW hg4 hK) ?_
 refine xI h0 rfl (fun h0 hb5=>?_) (fun h0 hb5=>?_)
 ·
  refine xS 120 [2] ?_
  refine jA (mA ?_)
  obtain rfl:=oI h0
  exact lA [] rG
 refine oA (cA ?_)
 refine xS 120 [2] ?_
 refine jA ?_
 obtain rfl:=oI h0
 exact lA [] rG
theorem zlC {fu : Nat} {vs1 : lB} {vx2 : aA} {r : Bool × lB × Int} (h0 : dX fu vs1 vx2 = some r) : yA Tryz.prog 122 [.agg (lB.enc vs1),.agg (aA.enc vx2)] (.tup [.bool r.1,.agg (lB.enc r.2.1),.int .i64 r.2.2]) []:=by
 refine dB Tryz.func122 rfl (by decide) rL ?_
 dsimp only [Tryz.f122]
 rw [dX] at h0
 refine xS 40 [2,3,5] ?_
 obtain ⟨vr3,hvr3,h0⟩:=bA h0
 refine nA 64 [2,3,5,7] (fun | 1=>some (.int .i64 vr3,[]) | _=>none) rfl (fun _ _=>rC (zoA hvr3)) ?_
 refine iA ?_
 refine xS 80 [2,3,5,7,12] ?_
 refine xI h0 rfl (fun h0 hb4=>?_) (fun h0 hb4=>?_)
 ·
  obtain ⟨vr5,hvr5,h0⟩:=bA h0
  refine nB 104 [2,3,5,7] (fun | 1=>some (.int .i64 vr5,[]) | _=>none) rfl (fun _ _=>rC (zd9 hvr5)) ?_
  refine cA (iA ?_)
  obtain ⟨b6,hb6,h0⟩:=bA h0
  obtain ⟨b7,hb7,h0⟩:=bA h0
  refine jC (fr':=[(2,.ref 0 0 0 0),(3,.ref 8 0 0 0),(5,.ref 24 0 0 0),(7,.int .i64 vr5),(27,.bool b7)]) (hp':=[(0,⟨0,true,true,3,[[.bool vs1.Some,.str vs1.Last,.bool vs1.Bottom]]⟩),(8,⟨0,true,true,4,[[.str vx2.Key,.str vx2.Val,.bool vx2.Dead,.int .i64 vx2.Seq]]⟩),(24,⟨0,true,true,3,[[.bool false,.str [],.bool false]]⟩)]) [0,8,24] 208 [2,3,5,7,27] (fun _=>none) rfl (fun Kt hK=>by
    cases hg8 : (decide (vr5 = 0)) with
    | false =>
     replace hb6:=sA hb6 hg8
     have hqb6:=oI hb6
     cases b6 with
     | false =>
      replace hb7:=sA hb7 rfl
      have hqb7:=oI hb7
      subst hqb7
      exact rW hg8 hK
     | true =>
      cases hqb6
    | true =>
     replace hb6:=zA hb6 hg8
     have hqb6:=oI hb6
     cases b6 with
     | false =>
      replace hb7:=sA hb7 rfl
      have hqb7:=oI hb7
      subst hqb7
      exact rW (rA hg8 hqb6) hK
     | true =>
      replace hb7:=zA hb7 rfl
      have hqb7:=oI hb7
      subst hqb7
      exact rW (rA hg8 hqb6) hK) ?_
  refine xI h0 rfl (fun h0 hb11=>?_) (fun h0 hb11=>?_)
  ·
   refine xR 216 [2,3,5,7] ?_
   refine cA (iA ?_)
   refine xS 232 [2,3,5,7,29] ?_
   refine kI rfl ?_
   refine xS 272 [4,5,6] ?_
   refine jA (mA ?_)
   obtain rfl:=oI h0
   exact lA [] rG
  refine oA (cA (iA ?_))
  refine xS 224 [2,3,5,7,29] ?_
  refine xI h0 rfl (fun h0 hb12=>?_) (fun h0 hb12=>?_)
  ·
   refine xS 264 [4,5,6] ?_
   refine jA (mA ?_)
   obtain rfl:=oI h0
   exact lA [] rG
  refine oA (cA ?_)
  obtain ⟨b13,hb13,h0⟩:=bA h0
  refine jC (fr':=[(2,.ref 0 0 0 0),(3,.ref 8 0 0 0),(5,.ref 24 0 0 0),(8,.bool b13)]) (hp':=[(0,⟨0,true,true,3,[[.bool vs1.Some,.str vs1.Last,.bool vs1.Bottom]]⟩),(8,⟨0,true,true,4,[[.str vx2.Key,.str vx2.Val,.bool vx2.Dead,.int .i64 vx2.Seq]]⟩),(24,⟨0,true,true,3,[[.bool false,.str [],.bool false]]⟩)]) [0,8,24] 312 [2,3,5,8] (fun _=>none) rfl (fun Kt hK=>by
    cases hg14 : (!vs1.Some) with
    | false =>
     replace hb13:=sA hb13 hg14
     have hqb13:=oI hb13
     subst hqb13
     exact rW hg14 hK
    | true =>
     replace hb13:=zA hb13 hg14
     have hqb13:=oI hb13
     subst hqb13
     exact rW hg14 hK) ?_
  obtain ⟨b16,hb16,h0⟩:=bA h0
  refine iL (fr':=[(4,.bool b16),(5,.ref 24 0 0 0),(6,.int .i64 0)]) (hp':=[(0,⟨0,true,true,3,[[.bool vs1.Some,.str vs1.Last,.bool vs1.Bottom]]⟩),(8,⟨0,true,true,4,[[.str vx2.Key,.str vx2.Val,.bool vx2.Dead,.int .i64 vx2.Seq]]⟩),(24,⟨0,true,true,3,[[.bool true,.str vx2.Key,.bool vs1.Bottom]]⟩)]) [0,8,24] 456 [4,5,6] (fun _=>none) rfl rfl rfl (fun Kt hK=>by
    cases b13 with
    | false =>
     replace hb16:=sA hb16 rfl
     have hqb16:=oI hb16
     subst hqb16
     exact iF
    | true =>
     replace hb16:=zA hb16 rfl
     obtain ⟨b15,hb15,hb16⟩:=bA hb16
     have hqb16:=oI hb16
     cases hg18 : vs1.Bottom with
     | false =>
      replace hb15:=sA hb15 hg18
      have hqb15:=oI hb15
      subst hqb16
      subst hqb15
      exact uO hg18 hK
     | true =>
      replace hb15:=zA hb15 hg18
      have hqb15:=oI hb15
      subst hqb16
      subst hqb15
      exact uO hg18 hK) ?_
  refine jA ?_
  obtain rfl:=oI h0
  exact lA [] rG
 refine oA (cA (iA ?_))
 obtain ⟨b19,hb19,h0⟩:=bA h0
 obtain ⟨b20,hb20,h0⟩:=bA h0
 refine jC (fr':=[(2,.ref 0 0 0 0),(3,.ref 8 0 0 0),(5,.ref 24 0 0 0),(7,.int .i64 vr3),(27,.bool b20)]) (hp':=[(0,⟨0,true,true,3,[[.bool vs1.Some,.str vs1.Last,.bool vs1.Bottom]]⟩),(8,⟨0,true,true,4,[[.str vx2.Key,.str vx2.Val,.bool vx2.Dead,.int .i64 vx2.Seq]]⟩),(24,⟨0,true,true,3,[[.bool false,.str [],.bool false]]⟩)]) [0,8,24] 184 [2,3,5,7,27] (fun _=>none) rfl (fun Kt hK=>by
   cases hg21 : (decide (vr3 = 0)) with
   | false =>
    replace hb19:=sA hb19 hg21
    have hqb19:=oI hb19
    cases b19 with
    | false =>
     replace hb20:=sA hb20 rfl
     have hqb20:=oI hb20
     subst hqb20
     exact rW hg21 hK
    | true =>
     cases hqb19
   | true =>
    replace hb19:=zA hb19 hg21
    have hqb19:=oI hb19
    cases b19 with
    | false =>
     replace hb20:=sA hb20 rfl
     have hqb20:=oI hb20
     subst hqb20
     exact rW (rA hg21 hqb19) hK
    | true =>
     replace hb20:=zA hb20 rfl
     have hqb20:=oI hb20
     subst hqb20
     exact rW (rA hg21 hqb19) hK) ?_
 refine xI h0 rfl (fun h0 hb24=>?_) (fun h0 hb24=>?_)
 ·
  refine xR 192 [2,3,5,7] ?_
  refine cA (iA ?_)
  refine xS 208 [2,3,5,7,29] ?_
  refine kI rfl ?_
  refine xS 248 [4,5,6] ?_
  refine jA (mA ?_)
  obtain rfl:=oI h0
  exact lA [] rG
 refine oA (cA (iA ?_))
 refine xS 200 [2,3,5,7,29] ?_
 refine xI h0 rfl (fun h0 hb25=>?_) (fun h0 hb25=>?_)
 ·
  refine xS 240 [4,5,6] ?_
  refine jA (mA ?_)
  obtain rfl:=oI h0
  exact lA [] rG
 refine oA (cA ?_)
 obtain ⟨b26,hb26,h0⟩:=bA h0
 refine jC (fr':=[(2,.ref 0 0 0 0),(3,.ref 8 0 0 0),(5,.ref 24 0 0 0),(8,.bool b26)]) (hp':=[(0,⟨0,true,true,3,[[.bool vs1.Some,.str vs1.Last,.bool vs1.Bottom]]⟩),(8,⟨0,true,true,4,[[.str vx2.Key,.str vx2.Val,.bool vx2.Dead,.int .i64 vx2.Seq]]⟩),(24,⟨0,true,true,3,[[.bool false,.str [],.bool false]]⟩)]) [0,8,24] 288 [2,3,5,8] (fun _=>none) rfl (fun Kt hK=>by
   cases hg27 : (!vs1.Some) with
   | false =>
    replace hb26:=sA hb26 hg27
    have hqb26:=oI hb26
    subst hqb26
    exact rW hg27 hK
   | true =>
    replace hb26:=zA hb26 hg27
    have hqb26:=oI hb26
    subst hqb26
    exact rW hg27 hK) ?_
 obtain ⟨b29,hb29,h0⟩:=bA h0
 refine iL (fr':=[(4,.bool b29),(5,.ref 24 0 0 0),(6,.int .i64 0)]) (hp':=[(0,⟨0,true,true,3,[[.bool vs1.Some,.str vs1.Last,.bool vs1.Bottom]]⟩),(8,⟨0,true,true,4,[[.str vx2.Key,.str vx2.Val,.bool vx2.Dead,.int .i64 vx2.Seq]]⟩),(24,⟨0,true,true,3,[[.bool true,.str vx2.Key,.bool vs1.Bottom]]⟩)]) [0,8,24] 432 [4,5,6] (fun _=>none) rfl rfl rfl (fun Kt hK=>by
   cases b26 with
   | false =>
    replace hb29:=sA hb29 rfl
    have hqb29:=oI hb29
    subst hqb29
    exact iF
   | true =>
    replace hb29:=zA hb29 rfl
    obtain ⟨b28,hb28,hb29⟩:=bA hb29
    have hqb29:=oI hb29
    cases hg31 : vs1.Bottom with
    | false =>
     replace hb28:=sA hb28 hg31
     have hqb28:=oI hb28
     subst hqb29
     subst hqb28
     exact uO hg31 hK
    | true =>
     replace hb28:=zA hb28 hg31
     have hqb28:=oI hb28
     subst hqb29
     subst hqb28
     exact uO hg31 hK) ?_
 refine jA ?_
 obtain rfl:=oI h0
 exact lA [] rG
theorem zjV {fu : Nat} {l1 : List aA} {bottom2 : Bool} {r : List aA × Int × Int} (h0 : qX fu l1 bottom2 = some r) : yA Tryz.prog 95 [.psl 4 (l1.map aA.enc),.bool bottom2] (.tup [.psl 4 (r.1.map aA.enc),.int .i64 r.2.1,.int .i64 r.2.2]) []:=by
 refine dB Tryz.func95 rfl (by decide) rL ?_
 dsimp only [Tryz.f95]
 rw [qX] at h0
 refine xS 24 [0,1] ?_
 refine iA ?_
 refine xS 48 [0,1,15] ?_
 refine xI h0 rfl (fun h0 hb3=>?_) (fun h0 hb3=>?_)
 ·
  refine xS 72 [4,5,6] ?_
  refine jA (mA ?_)
  obtain rfl:=oI h0
  exact lA [] rG
 refine oA (cA ?_)
 obtain ⟨vr4,hvr4,h0⟩:=bA h0
 refine nA 80 [0,7] (fun | 1=>some (.agg (lB.enc vr4),[]) | _=>none) rfl (fun _ _=>rC (zbl hvr4)) ?_
 refine xS 88 [0,7,8] ?_
 refine iA ?_
 refine xS 96 [0,7,8,9] ?_
 refine oB (s2:=⟨[(0,.psl 4 (List.map aA.enc l1)),(7,.ref 64 0 0 0),(8,.sl 96 0 4 0 0),(9,.int .i64 0)],[(64,⟨0,true,true,3,[[.bool vr4.Some,.str vr4.Last,.bool vr4.Bottom]]⟩),(96,⟨0,true,true,4,List.map aA.enc []⟩)],97,[]⟩) [(96,4)] rL ⟨rF,rE,rfl,rfl,trivial,rN⟩ ?_
 obtain ⟨x27,hxx27,h0⟩:=bA h0
 refine pC (fun s'=>∃ o40 : Bool × List UInt8 × Bool × List aA,∃ g41 : Nat,x27 = .inl o40 ∧ s'.nx ≤ 129 ∧ LeN [] s' ⟨[(8,.sl 96 g41 4 0 o40.2.2.2.length)],[(64,⟨0,true,true,3,[[.bool o40.1,.str o40.2.1,.bool o40.2.2.1]]⟩),(96,⟨g41,true,true,4,List.map aA.enc o40.2.2.2⟩)],129,[]⟩) ?_ ?_
 ·
  intro s' hs
  obtain ⟨o40,g41,rfl,hn,hs⟩:=hs
  refine cA ?_
  refine oB [] hn hs ?_
  refine xS 161 [4,5,6] ?_
  refine jA ?_
  obtain rfl:=oI h0
  exact lA [] rG
 refine lC (ι:={ p : Nat × Int × Bool × List UInt8 × Bool × List aA × Nat // dM l1 p.1 p.2.1 p.2.2.1 p.2.2.2.1 p.2.2.2.2.1 p.2.2.2.2.2.1 = some x27 }) (fun p=>⟨[(0,.psl 4 (List.map aA.enc l1)),(7,.ref 64 0 0 0),(8,.sl 96 p.1.2.2.2.2.2.2 4 0 p.1.2.2.2.2.2.1.length),(9,.int .i64 p.1.2.1)],[(64,⟨0,true,true,3,[[.bool p.1.2.2.1,.str p.1.2.2.2.1,.bool p.1.2.2.2.2.1]]⟩),(96,⟨p.1.2.2.2.2.2.2,true,true,4,List.map aA.enc p.1.2.2.2.2.2.1⟩)],97,[]⟩) (fun p=>p.1.1) ⟨(fu,0,vr4.Some,vr4.Last,vr4.Bottom,[],0),hxx27⟩ ⟨rF,rE,rfl,rfl,trivial,trivial⟩ (fun _=>Nat.le_refl _) ?_
 rintro ⟨⟨fu,i28,vs29,vs30,vs31,out32,g33⟩,h1⟩
 cases fu with
 | zero =>
  replace h1 : dM l1 0 i28 vs29 vs30 vs31 out32 = some x27:=h1
  rw [dM] at h1; cases h1
 | succ fu =>
  replace h1 : dM l1 (fu + 1) i28 vs29 vs30 vs31 out32 = some x27:=h1
  rw [dM] at h1
  dsimp only
  refine iA ?_
  refine xS 129 [0,7,8,9,21] ?_
  refine xI h1 rfl (fun h1 hb34=>?_) (fun h1 hb34=>?_)
  ·
   refine oA (cA (iA (vB ?_)))
   obtain ⟨e35,he35,h1⟩:=bA h1
   obtain ⟨he35a,he35b,he35c⟩:=vA he35
   obtain ⟨vr36,hvr36,h1⟩:=bA h1
   refine qC 241 [0,7,8,9,10,11,12] (fun | 5=>some (.tup [.bool vr36.1,.agg (lB.enc vr36.2.1),.int .i64 vr36.2.2],[]) | _=>none) rfl rfl rfl (fun _ _=>wK (rA he35a (rA he35b he35c)) (zlC hvr36)) ?_
   refine iA ?_
   refine nA 257 [0,7,8,9,10,11,12,35] (fun _=>none) rfl (fun _ _=>rS (rA he35a (rA he35b he35c))) ?_
   refine xI h1 rfl (fun h1 hb37=>?_) (fun h1 hb37=>?_)
   ·
    refine nA 297 [4,5,6] (fun _=>none) rfl (fun _ _=>rS (rA he35a (rA he35b he35c))) ?_
    refine jA ?_
    obtain rfl:=oI h1
    refine mA (zB (mA (mA (xC (mA ?_)))))
    obtain rfl:=oI h0
    refine lA [] ?_
    exact rJ (rA he35a (rA he35b he35c))
   refine oA (cA (iA ?_))
   refine nA 265 [0,7,8,9,11,38] (fun _=>none) rfl (fun _ _=>rS (rA he35a (rA he35b he35c))) ?_
   refine xI h1 rfl (fun h1 hb38=>?_) (fun h1 hb38=>?_)
   ·
    obtain ⟨hc39,h1⟩:=pD h1
    refine nB 329 [0,7,8,9,11] (fun _=>none) rfl (fun _ _=>rS (rA he35a (rA he35b he35c))) ?_
    refine cA ?_
    refine xE ⟨[(0,.psl 4 (List.map aA.enc l1)),(7,.ref 64 0 0 0),(8,.sl 96 (g33 + 1) 4 0 ((out32++[e35]).length)),(9,.int .i64 i28),(11,.ref 209 0 0 0)],[(64,⟨0,true,true,3,[[.bool vs29,.str vs30,.bool vs31]]⟩),(96,⟨(g33 + 1),true,true,4,List.map aA.enc (out32++[e35])⟩),(209,⟨0,true,true,3,[[.bool vr36.2.1.Some,.str vr36.2.1.Last,.bool vr36.2.1.Bottom]]⟩)],329,[]⟩ ?_
    refine nB 345 [0,7,8,9] (fun _=>none) rfl (fun _ _=>rS (rA he35a (rA he35b he35c))) ?_
    refine pB (cA ?_)
    refine nB 369 [0,7,8,9] (fun _=>none) rfl (fun _ _=>rS (rA he35a (rA he35b he35c))) ?_
    refine cA ?_
    exact ⟨⟨(fu,(IntKind.i64.wrap (i28 + 1)),vr36.2.1.Some,vr36.2.1.Last,vr36.2.1.Bottom,(out32++[e35]),(g33 + 1)),h1⟩,⟨rF,rE,rfl,rfl,trivial,trivial⟩,Nat.lt_succ_self _⟩
   refine oA (cA ?_)
   refine nB 281 [0,7,8,9] (fun _=>none) rfl (fun _ _=>rS (rA he35a (rA he35b he35c))) ?_
   refine pB (cA ?_)
   refine nB 305 [0,7,8,9] (fun _=>none) rfl (fun _ _=>rS (rA he35a (rA he35b he35c))) ?_
   refine cA ?_
   exact ⟨⟨(fu,(IntKind.i64.wrap (i28 + 1)),vr36.2.1.Some,vr36.2.1.Last,vr36.2.1.Bottom,out32,g33),h1⟩,⟨rF,rE,rfl,rfl,trivial,trivial⟩,Nat.lt_succ_self _⟩
  refine dC (xA (xA (gC ?_)))
  obtain rfl:=oI h1
  exact ⟨_,g33,rfl,rL,⟨rF,rE,rfl,rfl,trivial,trivial⟩⟩
theorem zdX {fu : Nat} {l1 : List aA} {bottom2 : Bool} {r : List aA × lB} (h0 : uV fu l1 bottom2 = some r) : yA Tryz.prog 63 [.psl 4 (l1.map aA.enc),.bool bottom2] (.tup [.psl 4 (r.1.map aA.enc),.agg (lB.enc r.2)]) []:=by
 refine dB Tryz.func63 rfl (by decide) rL ?_
 dsimp only [Tryz.f63]
 rw [uV] at h0
 refine xS 16 [0,1,5] ?_
 obtain ⟨vr3,hvr3,h0⟩:=bA h0
 refine nA 96 [0,1,5,6] (fun | 2=>some (.tup [.psl 4 (vr3.1.map aA.enc),.int .i64 vr3.2.1,.int .i64 vr3.2.2],[]) | _=>none) rfl (fun _ _=>rC (zjV hvr3)) ?_
 obtain ⟨vr4,hvr4,h0⟩:=bA h0
 refine nA 128 [0,5,6,9] (fun | 1=>some (.agg (lB.enc vr4),[]) | _=>none) rfl (fun _ _=>rC (zbl hvr4)) ?_
 refine iA ?_
 refine xS 152 [0,5,6,9,21] ?_
 refine xI h0 rfl (fun h0 hb5=>?_) (fun h0 hb5=>?_)
 ·
  obtain ⟨e6,he6,h0⟩:=bA h0
  obtain ⟨he6a,he6b,he6c⟩:=vA he6
  refine aH 240 [5,6,9] (fun _=>none) rfl rfl rfl (fun _ _=>xD (rA he6a (rA he6b he6c))) ?_
  refine cA ?_
  refine qC 272 [4,5] (fun _=>none) rfl rfl rfl (fun _ _=>xD (rA he6a (rA he6b he6c))) ?_
  refine jA ?_
  obtain rfl:=oI h0
  refine lA [] ?_
  exact rJ (rA he6a (rA he6b he6c))
 refine oA (cA ?_)
 refine qC 184 [4,5] (fun _=>none) rfl rfl rfl (fun _ _=>iF) ?_
 refine jA ?_
 obtain rfl:=oI h0
 exact lA [] rG
theorem znY {fu : Nat} {keys1 : List eA} {r : Int} (h0 : bX fu keys1 = some r) : yA Tryz.prog 136 [.psl 2 (keys1.map eA.enc)] (.int .i64 r) []:=by
 refine dB Tryz.func136 rfl (by decide) rL ?_
 dsimp only [Tryz.f136]
 rw [bX] at h0
 refine xS 8 [0] ?_
 refine iA ?_
 refine xS 32 [0,6] ?_
 refine xI h0 rfl (fun h0 hb2=>?_) (fun h0 hb2=>?_)
 ·
  refine xS 40 [2] ?_
  refine jA (mA ?_)
  obtain rfl:=oI h0
  exact lA [] rG
 refine oA (cA (iA ?_))
 refine xS 56 [0,9] ?_
 refine xI h0 rfl (fun h0 hb3=>?_) (fun h0 hb3=>?_)
 ·
  refine xS 64 [2] ?_
  refine jA (mA ?_)
  obtain rfl:=oI h0
  exact lA [] rG
 refine oA (cA (iA ?_))
 refine xS 64 [0,3] ?_
 obtain ⟨x15,hxx15,h0⟩:=bA h0
 refine pC (fun s'=>∃ o22 : Unit,x15 = .inl o22 ∧ s'.nx ≤ 96 ∧ LeN [] s' ⟨[],[],96,[]⟩) ?_ ?_
 ·
  intro s' hs
  obtain ⟨o22,rfl,hn,hs⟩:=hs
  refine cA ?_
  refine oB [] hn hs ?_
  refine xS 104 [2] ?_
  refine jA ?_
  obtain rfl:=oI h0
  exact lA [] rG
 refine lC (ι:={ p : Nat × Int // sO keys1 p.1 p.2 = some x15 }) (fun p=>⟨[(0,.psl 2 (List.map eA.enc keys1)),(3,.int .i64 p.1.2)],[],64,[]⟩) (fun p=>p.1.1) ⟨(fu,0),hxx15⟩ ⟨rF,rE,rfl,rfl,trivial,trivial⟩ (fun _=>Nat.le_refl _) ?_
 rintro ⟨⟨fu,i16⟩,h1⟩
 cases fu with
 | zero =>
  replace h1 : sO keys1 0 i16 = some x15:=h1
  rw [sO] at h1; cases h1
 | succ fu =>
  replace h1 : sO keys1 (fu + 1) i16 = some x15:=h1
  rw [sO] at h1
  dsimp only
  refine iA ?_
  refine xS 96 [0,3,13] ?_
  refine xI h1 rfl (fun h1 hb17=>?_) (fun h1 hb17=>?_)
  ·
   refine oA (cA (iA (vB ?_)))
   obtain ⟨e18,he18,h1⟩:=bA h1
   obtain ⟨he18a,he18b,he18c⟩:=vA he18
   obtain ⟨b19,hb19,h1⟩:=bA h1
   refine jC (fr':=[(0,.psl 2 (List.map eA.enc keys1)),(3,.int .i64 i16),(28,.bool b19)]) (hp':=[]) [] 200 [0,3,28] (fun _=>none) rfl (fun Kt hK=>by
     cases hg20 : e18.Done with
     | false =>
      replace hb19:=sA hb19 hg20
      have hqb19:=oI hb19
      subst hqb19
      exact sD hg20 (rA he18a (rA he18b he18c)) hK
     | true =>
      replace hb19:=zA hb19 hg20
      have hqb19:=oI hb19
      subst hqb19
      exact sD hg20 (rA he18a (rA he18b he18c)) hK) ?_
   refine xI h1 rfl (fun h1 hb21=>?_) (fun h1 hb21=>?_)
   ·
    refine nA 208 [2] (fun _=>none) rfl (fun _ _=>rS (rA he18a (rA he18b he18c))) ?_
    refine jA ?_
    obtain rfl:=oI h1
    refine zB (mA (mA (xC (mA ?_))))
    obtain rfl:=oI h0
    refine lA [] ?_
    exact rJ (rA he18a (rA he18b he18c))
   refine oA (pB (cA ?_))
   refine nB 224 [0,3] (fun _=>none) rfl (fun _ _=>rS (rA he18a (rA he18b he18c))) ?_
   refine cA ?_
   exact ⟨⟨(fu,(IntKind.i64.wrap (i16 + 1))),h1⟩,⟨rF,rE,rfl,rfl,trivial,trivial⟩,Nat.lt_succ_self _⟩
  refine dC (xA (xA (gC ?_)))
  obtain rfl:=oI h1
  exact ⟨_,rfl,rL,⟨rF,rE,rfl,rfl,trivial,trivial⟩⟩
theorem zmW {fu : Nat} {keys1 : List eA} {p2 : Int} {q3 : Int} {r : Bool} (h0 : yV fu keys1 p2 q3 = some r) : yA Tryz.prog 152 [.psl 2 (keys1.map eA.enc),.int .i64 p2,.int .i64 q3] (.bool r) []:=by
 refine dB Tryz.func152 rfl (by decide) rL ?_
 dsimp only [Tryz.f152]
 rw [yV] at h0
 refine xS 8 [0,1,2] ?_
 obtain ⟨e4,he4,h0⟩:=bA h0
 obtain ⟨he4a,he4b,he4c⟩:=vA he4
 obtain ⟨e5,he5,h0⟩:=bA h0
 obtain ⟨he5a,he5b,he5c⟩:=vA he5
 refine qC 104 [1,2,7,8] (fun _=>none) rfl rfl rfl (fun _ _=>xD (rA he4a (rA he4b (rA he4c (rA he5a (rA he5b he5c)))))) ?_
 refine iA ?_
 refine nA 144 [1,2,7,8,21] (fun _=>none) rfl (fun _ _=>rS (rA he4a (rA he4b (rA he4c (rA he5a (rA he5b he5c)))))) ?_
 refine xI h0 rfl (fun h0 hb6=>?_) (fun h0 hb6=>?_)
 ·
  refine nA 168 [6] (fun _=>none) rfl (fun _ _=>rS (rA he4a (rA he4b (rA he4c (rA he5a (rA he5b he5c)))))) ?_
  refine jA (mA ?_)
  obtain rfl:=oI h0
  refine lA [] ?_
  exact rJ (rA he4a (rA he4b (rA he4c (rA he5a (rA he5b he5c)))))
 refine oA (cA (iA ?_))
 obtain ⟨b7,hb7,h0⟩:=bA h0
 refine jC (fr':=[(1,.int .i64 p2),(2,.int .i64 q3),(7,.ref 72 0 0 0),(8,.ref 80 0 0 0),(33,.bool b7)]) (hp':=[(72,⟨0,true,true,2,[[.str e4.Key,.bool e4.Done]]⟩),(80,⟨0,true,true,2,[[.str e5.Key,.bool e5.Done]]⟩)]) [72,80] 224 [1,2,7,8,33] (fun _=>none) rfl (fun Kt hK=>by
   cases hg8 : (!e4.Done) with
   | false =>
    replace hb7:=sA hb7 hg8
    have hqb7:=oI hb7
    subst hqb7
    exact sD hg8 (rA he4a (rA he4b (rA he4c (rA he5a (rA he5b he5c))))) hK
   | true =>
    replace hb7:=zA hb7 hg8
    have hqb7:=oI hb7
    subst hqb7
    exact sD hg8 (rA he4a (rA he4b (rA he4c (rA he5a (rA he5b he5c))))) hK) ?_
 refine xI h0 rfl (fun h0 hb9=>?_) (fun h0 hb9=>?_)
 ·
  refine nA 272 [6] (fun _=>none) rfl (fun _ _=>rS (rA he4a (rA he4b (rA he4c (rA he5a (rA he5b he5c)))))) ?_
  refine jA (mA ?_)
  obtain rfl:=oI h0
  refine lA [] ?_
  exact rJ (rA he4a (rA he4b (rA he4c (rA he5a (rA he5b he5c)))))
 refine oA (cA ?_)
 refine nA 256 [6] (fun _=>none) rfl (fun _ _=>rS (rA he4a (rA he4b (rA he4c (rA he5a (rA he5b he5c)))))) ?_
 refine jA ?_
 obtain rfl:=oI h0
 refine lA [] ?_
 exact rJ (rA he4a (rA he4b (rA he4c (rA he5a (rA he5b he5c)))))
theorem zdI {fu : Nat} : ∀ {keys1 : List eA} {node2 : Int} {r : Int × Int},qM fu keys1 node2 = some r → yA Tryz.prog 147 [.psl 2 (keys1.map eA.enc),.int .i64 node2] (.tup [.int .i64 r.1,.int .i64 r.2]) []:=by
 induction fu with
 | zero=>intro keys1 node2 r h0; rw [qM] at h0; cases h0
 | succ fu ih =>
 intro keys1 node2 r h0
 refine dB Tryz.func147 rfl (by decide) rL ?_
 dsimp only [Tryz.f147]
 rw [qM] at h0
 refine xS 16 [0,1] ?_
 refine xS 40 [0,1,6] ?_
 refine iA ?_
 refine xS 64 [0,1,6,15] ?_
 refine xI h0 rfl (fun h0 hb3=>?_) (fun h0 hb3=>?_)
 ·
  refine xS 104 [4,5] ?_
  refine jA (mA ?_)
  obtain rfl:=oI h0
  exact lA [] rG
 refine oA (cA ?_)
 obtain ⟨vr4,hvr4,h0⟩:=bA h0
 refine nA 136 [0,1,7] (fun | 3=>some (.tup [.int .i64 vr4.1,.int .i64 vr4.2],[]) | _=>none) rfl (fun Kt hK=>by
   simp (maxSteps:=1000000) only [↓reduceIte,reduceCtorEq,Nat.reduceEqDiff,Nat.reduceLT,Nat.reduceLeDiff,Nat.reduceAdd,Nat.reduceMul,Int.reduceToNat,push_cast]
   repeat' (first | exact hK | exact ih hvr4 | refine And.intro ?_ ?_ | exact Nat.le_refl _ | assumption | omega | (intro _) | (simp; done))) ?_
 obtain ⟨vr5,hvr5,h0⟩:=bA h0
 refine nA 216 [0,7,9] (fun | 4=>some (.tup [.int .i64 vr5.1,.int .i64 vr5.2],[]) | _=>none) rfl (fun Kt hK=>by
   simp (maxSteps:=1000000) only [↓reduceIte,reduceCtorEq,Nat.reduceEqDiff,Nat.reduceLT,Nat.reduceLeDiff,Nat.reduceAdd,Nat.reduceMul,Int.reduceToNat,push_cast]
   repeat' (first | exact hK | exact ih hvr5 | refine And.intro ?_ ?_ | exact Nat.le_refl _ | assumption | omega | (intro _) | (simp; done))) ?_
 refine iA ?_
 obtain ⟨vr6,hvr6,h0⟩:=bA h0
 refine nA 248 [7,9,37] (fun | 3=>some (.bool vr6,[]) | _=>none) rfl (fun _ _=>rC (zmW hvr6)) ?_
 refine xI h0 rfl (fun h0 hb7=>?_) (fun h0 hb7=>?_)
 ·
  refine xS 280 [4,5] ?_
  refine jA (mA ?_)
  obtain rfl:=oI h0
  exact lA [] rG
 refine oA (cA ?_)
 refine xS 280 [4,5] ?_
 refine jA ?_
 obtain rfl:=oI h0
 exact lA [] rG
theorem zjW {fu : Nat} {keys1 : List eA} {r : fB} (h0 : vX fu keys1 = some r) : yA Tryz.prog 137 [.psl 2 (keys1.map eA.enc)] (.agg (fB.enc r)) []:=by
 refine dB Tryz.func137 rfl (by decide) rL ?_
 dsimp only [Tryz.f137]
 rw [vX] at h0
 refine xS 8 [0,2] ?_
 obtain ⟨hc2,h0⟩:=pD h0
 obtain ⟨hc3,h0⟩:=pD h0
 refine qC 80 [0,2,3] (fun _=>none) rfl rfl rfl (fun _ _=>iF) ?_
 refine xE ⟨[(0,.psl 2 (List.map eA.enc keys1)),(2,.ref 0 0 0 0),(3,.ref 64 0 0 0)],[(0,⟨0,true,true,3,[[.nils,.nils,.int .i64 0]]⟩),(8,⟨1,true,true,2,List.map eA.enc keys1⟩),(48,⟨0,true,true,1,List.map (gA .i64) (List.replicate keys1.length 0 : List Int)⟩),(64,⟨0,true,false,3,[[.sl 8 1 2 0 keys1.length,.sl 48 0 1 0 ((List.replicate keys1.length 0 : List Int).length),.int .i64 0]]⟩)],80,[]⟩ ?_
 refine iA ?_
 refine xS 88 [0,2,3,4] ?_
 obtain ⟨x13,hxx13,h0⟩:=bA h0
 refine pC (fun s'=>∃ g20 : Nat,s'.nx ≤ 120 ∧ LeN [] s' ⟨[(0,.psl 2 (List.map eA.enc keys1)),(2,.ref 0 0 0 0),(3,.ref 64 0 0 0)],[(0,⟨0,true,true,3,[[.nils,.nils,.int .i64 0]]⟩),(8,⟨1,true,true,2,List.map eA.enc keys1⟩),(48,⟨g20,true,true,1,List.map (gA .i64) x13⟩),(64,⟨0,true,false,3,[[.sl 8 1 2 0 keys1.length,.sl 48 g20 1 0 x13.length,.int .i64 0]]⟩)],120,[]⟩) ?_ ?_
 ·
  intro s' hs
  obtain ⟨g20,hn,hs⟩:=hs
  refine cA ?_
  refine oB [] hn hs ?_
  obtain ⟨vr21,hvr21,h0⟩:=bA h0
  refine nA 176 [2,3] (fun | 1=>some (.tup [.int .i64 vr21.1,.int .i64 vr21.2],[]) | _=>none) rfl (fun _ _=>rC (zdI hvr21)) ?_
  refine xS 192 [2] ?_
  refine jA ?_
  obtain rfl:=oI h0
  exact lA [] rG
 refine lC (ι:={ p : Nat × Int × List Int × Nat // wN keys1 p.1 p.2.1 p.2.2.1 = some x13 }) (fun p=>⟨[(0,.psl 2 (List.map eA.enc keys1)),(2,.ref 0 0 0 0),(3,.ref 64 0 0 0),(4,.int .i64 p.1.2.1)],[(0,⟨0,true,true,3,[[.nils,.nils,.int .i64 0]]⟩),(8,⟨1,true,true,2,List.map eA.enc keys1⟩),(48,⟨p.1.2.2.2,true,true,1,List.map (gA .i64) p.1.2.2.1⟩),(64,⟨0,true,false,3,[[.sl 8 1 2 0 keys1.length,.sl 48 p.1.2.2.2 1 0 p.1.2.2.1.length,.int .i64 0]]⟩)],88,[]⟩) (fun p=>p.1.1) ⟨(fu,1,(List.replicate keys1.length 0 : List Int),0),hxx13⟩ ⟨rF,rE,rfl,rfl,trivial,trivial⟩ (fun _=>Nat.le_refl _) ?_
 rintro ⟨⟨fu,i14,v15,g16⟩,h1⟩
 cases fu with
 | zero =>
  replace h1 : wN keys1 0 i14 v15 = some x13:=h1
  rw [wN] at h1; cases h1
 | succ fu =>
  replace h1 : wN keys1 (fu + 1) i14 v15 = some x13:=h1
  rw [wN] at h1
  dsimp only
  refine iA ?_
  refine xS 120 [0,2,3,4,15] ?_
  refine xI h1 rfl (fun h1 hb17=>?_) (fun h1 hb17=>?_)
  ·
   refine oA (cA (iA (vB ?_)))
   obtain ⟨vr18,hvr18,h1⟩:=bA h1
   obtain ⟨e19,he19,h1⟩:=bA h1
   obtain ⟨he19a,he19b,he19c⟩:=vA he19
   refine aH 208 [0,2,3,4] (fun | 5=>some (.tup [.int .i64 vr18.1,.int .i64 vr18.2],[]) | _=>none) rfl rfl rfl (fun _ _=>wK (rA he19a (rA he19b he19c)) (zdI hvr18)) ?_
   refine pB (cA ?_)
   refine xE ⟨[(0,.psl 2 (List.map eA.enc keys1)),(2,.ref 0 0 0 0),(3,.ref 64 0 0 0),(4,.int .i64 i14)],[(0,⟨0,true,true,3,[[.nils,.nils,.int .i64 0]]⟩),(8,⟨1,true,true,2,List.map eA.enc keys1⟩),(48,⟨g16,true,true,1,List.map (gA .i64) (v15.set i14.toNat vr18.2)⟩),(64,⟨0,true,false,3,[[.sl 8 1 2 0 keys1.length,.sl 48 g16 1 0 ((v15.set i14.toNat vr18.2).length),.int .i64 0]]⟩)],208,[]⟩ ?_
   refine nB 232 [0,2,3,4] (fun _=>none) rfl (fun _ _=>rS (rA he19a (rA he19b he19c))) ?_
   refine cA ?_
   exact ⟨⟨(fu,(IntKind.i64.wrap (i14 + 1)),(v15.set i14.toNat vr18.2),g16),h1⟩,⟨rF,rE,rfl,rfl,trivial,trivial⟩,Nat.lt_succ_self _⟩
  refine dC (xA (xA (gC ?_)))
  obtain rfl:=oI h1
  exact ⟨g16,rL,⟨rF,rE,rfl,rfl,trivial,trivial⟩⟩
theorem zom {fu : Nat} {keys1 : List eA} {r : fB × Int} (h0 : zW fu keys1 = some r) : yA Tryz.prog 120 [.psl 2 (keys1.map eA.enc)] (.tup [.agg (fB.enc r.1),.int .i64 r.2]) []:=by
 refine dB Tryz.func120 rfl (by decide) rL ?_
 dsimp only [Tryz.f120]
 rw [zW] at h0
 refine xS 16 [0,2] ?_
 obtain ⟨vr2,hvr2,h0⟩:=bA h0
 refine nA 40 [0,2,4] (fun | 1=>some (.int .i64 vr2,[]) | _=>none) rfl (fun _ _=>rC (znY hvr2)) ?_
 refine iA ?_
 refine xS 56 [0,2,4,8] ?_
 refine xI h0 rfl (fun h0 hb3=>?_) (fun h0 hb3=>?_)
 ·
  refine xS 88 [2,3] ?_
  refine jA (mA ?_)
  obtain rfl:=oI h0
  exact lA [] rG
 refine oA (cA ?_)
 obtain ⟨vr4,hvr4,h0⟩:=bA h0
 refine nA 88 [2,3] (fun | 1=>some (.agg (fB.enc vr4),[]) | _=>none) rfl (fun _ _=>rC (zjW hvr4)) ?_
 refine jA ?_
 obtain rfl:=oI h0
 exact lA [] rG
theorem zb3 {fu : Nat} {runs1 : List (List aA)} {vat2 : List Int} {r : iB} (h0 : aT fu runs1 vat2 = some r) : yA Tryz.prog 93 [.psl 1 (runs1.map (tA 4 aA.enc)),.psl 1 (vat2.map (gA .i64))] (.agg (iB.enc r)) []:=by
 refine dB Tryz.func93 rfl (by decide) rL ?_
 dsimp only [Tryz.f93]
 rw [aT] at h0
 refine xS 8 [0,1,4] ?_
 obtain ⟨hc3,h0⟩:=pD h0
 obtain ⟨hc4,h0⟩:=pD h0
 refine xS 80 [0,1,4,5] ?_
 refine xE ⟨[(0,.psl 1 (List.map (tA 4 aA.enc) runs1)),(1,.psl 1 (List.map (gA .i64) vat2)),(4,.ref 0 0 0 0),(5,.ref 64 0 0 0)],[(0,⟨0,true,true,5,[[.nils,.nils,.nils,.nils,.int .i64 0]]⟩),(8,⟨1,true,true,1,List.map (tA 4 aA.enc) runs1⟩),(32,⟨1,true,true,1,List.map (gA .i64) vat2⟩),(64,⟨0,true,false,5,[[.sl 8 1 1 0 runs1.length,.sl 32 1 1 0 vat2.length,.nils,.nils,.int .i64 0]]⟩)],80,[]⟩ ?_
 refine xS 88 [0,1,4,5,6] ?_
 refine iA ?_
 refine xS 96 [0,1,4,5,6,7] ?_
 refine oB (s2:=⟨[(0,.psl 1 (List.map (tA 4 aA.enc) runs1)),(1,.psl 1 (List.map (gA .i64) vat2)),(4,.ref 0 0 0 0),(5,.ref 64 0 0 0),(6,.sl 96 0 2 0 0),(7,.int .i64 0)],[(0,⟨0,true,true,5,[[.nils,.nils,.nils,.nils,.int .i64 0]]⟩),(8,⟨1,true,true,1,List.map (tA 4 aA.enc) runs1⟩),(32,⟨1,true,true,1,List.map (gA .i64) vat2⟩),(64,⟨0,true,false,5,[[.sl 8 1 1 0 runs1.length,.sl 32 1 1 0 vat2.length,.nils,.nils,.int .i64 0]]⟩),(96,⟨0,true,true,2,List.map eA.enc []⟩)],97,[]⟩) [(96,2)] rL ⟨rF,rE,rfl,rfl,trivial,rN⟩ ?_
 obtain ⟨x25,hxx25,h0⟩:=bA h0
 refine pC (fun s'=>∃ g36 : Nat,s'.nx ≤ 129 ∧ LeN [] s' ⟨[(4,.ref 0 0 0 0),(5,.ref 64 0 0 0),(6,.sl 96 g36 2 0 x25.length)],[(0,⟨0,true,true,5,[[.nils,.nils,.nils,.nils,.int .i64 0]]⟩),(8,⟨1,true,true,1,List.map (tA 4 aA.enc) runs1⟩),(32,⟨1,true,true,1,List.map (gA .i64) vat2⟩),(64,⟨0,true,false,5,[[.sl 8 1 1 0 runs1.length,.sl 32 1 1 0 vat2.length,.nils,.nils,.int .i64 0]]⟩),(96,⟨g36,true,true,2,List.map eA.enc x25⟩)],129,[]⟩) ?_ ?_
 ·
  intro s' hs
  obtain ⟨g36,hn,hs⟩:=hs
  refine cA ?_
  refine oB [] hn hs ?_
  obtain ⟨vr37,hvr37,h0⟩:=bA h0
  refine nA 185 [4,5] (fun | 1=>some (.tup [.agg (fB.enc vr37.1),.int .i64 vr37.2],[]) | _=>none) rfl (fun _ _=>rC (zom hvr37)) ?_
  refine xS 201 [4] ?_
  refine jA ?_
  obtain rfl:=oI h0
  exact lA [] rG
 refine lC (ι:={ p : Nat × Int × List eA × Nat // gM runs1 vat2 p.1 p.2.1 p.2.2.1 = some x25 }) (fun p=>⟨[(0,.psl 1 (List.map (tA 4 aA.enc) runs1)),(1,.psl 1 (List.map (gA .i64) vat2)),(4,.ref 0 0 0 0),(5,.ref 64 0 0 0),(6,.sl 96 p.1.2.2.2 2 0 p.1.2.2.1.length),(7,.int .i64 p.1.2.1)],[(0,⟨0,true,true,5,[[.nils,.nils,.nils,.nils,.int .i64 0]]⟩),(8,⟨1,true,true,1,List.map (tA 4 aA.enc) runs1⟩),(32,⟨1,true,true,1,List.map (gA .i64) vat2⟩),(64,⟨0,true,false,5,[[.sl 8 1 1 0 runs1.length,.sl 32 1 1 0 vat2.length,.nils,.nils,.int .i64 0]]⟩),(96,⟨p.1.2.2.2,true,true,2,List.map eA.enc p.1.2.2.1⟩)],97,[]⟩) (fun p=>p.1.1) ⟨(fu,0,[],0),hxx25⟩ ⟨rF,rE,rfl,rfl,trivial,trivial⟩ (fun _=>Nat.le_refl _) ?_
 rintro ⟨⟨fu,i26,keys27,g28⟩,h1⟩
 cases fu with
 | zero =>
  replace h1 : gM runs1 vat2 0 i26 keys27 = some x25:=h1
  rw [gM] at h1; cases h1
 | succ fu =>
  replace h1 : gM runs1 vat2 (fu + 1) i26 keys27 = some x25:=h1
  rw [gM] at h1
  dsimp only
  refine iA ?_
  refine xS 129 [0,1,4,5,6,7,19] ?_
  refine xI h1 rfl (fun h1 hb29=>?_) (fun h1 hb29=>?_)
  ·
   refine oA (cA (iA (vB ?_)))
   obtain ⟨e30,he30,h1⟩:=bA h1
   obtain ⟨he30a,he30b,he30c⟩:=vA he30
   obtain ⟨e31,he31,h1⟩:=bA h1
   obtain ⟨he31a,he31b,he31c⟩:=vA he31
   refine qC 233 [0,1,4,5,6,7,8] (fun _=>none) rfl rfl rfl (fun _ _=>xD (rA he30a (rA he30b (rA he30c (rA he31a (rA he31b he31c)))))) ?_
   refine iA ?_
   refine nA 257 [0,1,4,5,6,7,8,35] (fun _=>none) rfl (fun _ _=>rS (rA he30a (rA he30b (rA he30c (rA he31a (rA he31b he31c)))))) ?_
   refine xI h1 rfl (fun h1 hb32=>?_) (fun h1 hb32=>?_)
   ·
    obtain ⟨e33,he33,h1⟩:=bA h1
    obtain ⟨he33a,he33b,he33c⟩:=vA he33
    refine aH 361 [0,1,4,5,6,7,8] (fun _=>none) rfl rfl rfl (fun _ _=>xD (rA he30a (rA he30b (rA he30c (rA he31a (rA he31b (rA he31c (rA he33a (rA he33b he33c))))))))) ?_
    refine cA ?_
    obtain ⟨hc34,h1⟩:=pD h1
    refine nB 401 [0,1,4,5,6,7] (fun _=>none) rfl (fun _ _=>rS (rA he30a (rA he30b (rA he30c (rA he31a (rA he31b (rA he31c (rA he33a (rA he33b he33c))))))))) ?_
    refine pB (cA ?_)
    refine xE ⟨[(0,.psl 1 (List.map (tA 4 aA.enc) runs1)),(1,.psl 1 (List.map (gA .i64) vat2)),(4,.ref 0 0 0 0),(5,.ref 64 0 0 0),(6,.sl 96 (g28 + 1) 2 0 ((keys27++[(eA.mk e33.Key (decide (e30 = (e31.length : Int))))]).length)),(7,.int .i64 i26)],[(0,⟨0,true,true,5,[[.nils,.nils,.nils,.nils,.int .i64 0]]⟩),(8,⟨1,true,true,1,List.map (tA 4 aA.enc) runs1⟩),(32,⟨1,true,true,1,List.map (gA .i64) vat2⟩),(64,⟨0,true,false,5,[[.sl 8 1 1 0 runs1.length,.sl 32 1 1 0 vat2.length,.nils,.nils,.int .i64 0]]⟩),(96,⟨(g28 + 1),true,true,2,List.map eA.enc (keys27++[(eA.mk e33.Key (decide (e30 = (e31.length : Int))))])⟩)],401,[]⟩ ?_
    refine nB 425 [0,1,4,5,6,7] (fun _=>none) rfl (fun _ _=>rS (rA he30a (rA he30b (rA he30c (rA he31a (rA he31b (rA he31c (rA he33a (rA he33b he33c))))))))) ?_
    refine cA ?_
    exact ⟨⟨(fu,(IntKind.i64.wrap (i26 + 1)),(keys27++[(eA.mk e33.Key (decide (e30 = (e31.length : Int))))]),(g28 + 1)),h1⟩,⟨rF,rE,rfl,rfl,trivial,trivial⟩,Nat.lt_succ_self _⟩
   refine oA (cA ?_)
   obtain ⟨hc35,h1⟩:=pD h1
   refine nB 297 [0,1,4,5,6,7] (fun _=>none) rfl (fun _ _=>rS (rA he30a (rA he30b (rA he30c (rA he31a (rA he31b he31c)))))) ?_
   refine pB (cA ?_)
   refine xE ⟨[(0,.psl 1 (List.map (tA 4 aA.enc) runs1)),(1,.psl 1 (List.map (gA .i64) vat2)),(4,.ref 0 0 0 0),(5,.ref 64 0 0 0),(6,.sl 96 (g28 + 1) 2 0 ((keys27++[(eA.mk [] (decide (e30 = (e31.length : Int))))]).length)),(7,.int .i64 i26)],[(0,⟨0,true,true,5,[[.nils,.nils,.nils,.nils,.int .i64 0]]⟩),(8,⟨1,true,true,1,List.map (tA 4 aA.enc) runs1⟩),(32,⟨1,true,true,1,List.map (gA .i64) vat2⟩),(64,⟨0,true,false,5,[[.sl 8 1 1 0 runs1.length,.sl 32 1 1 0 vat2.length,.nils,.nils,.int .i64 0]]⟩),(96,⟨(g28 + 1),true,true,2,List.map eA.enc (keys27++[(eA.mk [] (decide (e30 = (e31.length : Int))))])⟩)],297,[]⟩ ?_
   refine nB 321 [0,1,4,5,6,7] (fun _=>none) rfl (fun _ _=>rS (rA he30a (rA he30b (rA he30c (rA he31a (rA he31b he31c)))))) ?_
   refine cA ?_
   exact ⟨⟨(fu,(IntKind.i64.wrap (i26 + 1)),(keys27++[(eA.mk [] (decide (e30 = (e31.length : Int))))]),(g28 + 1)),h1⟩,⟨rF,rE,rfl,rfl,trivial,trivial⟩,Nat.lt_succ_self _⟩
  refine dC (xA (xA (gC ?_)))
  obtain rfl:=oI h1
  exact ⟨g28,rL,⟨rF,rE,rfl,rfl,trivial,trivial⟩⟩
theorem uT {fu : Nat} {a1 : List Int} {b2 : List Int} {r : Bool} (h0 : aS fu a1 b2 = some r) : yA Tryz.prog 104 [.psl 1 (a1.map (gA .i64)),.psl 1 (b2.map (gA .i64))] (.bool r) []:=by
 refine dB Tryz.func104 rfl (by decide) rL ?_
 dsimp only [Tryz.f104]
 rw [aS] at h0
 refine xS 8 [0,1] ?_
 refine iA ?_
 refine xS 48 [0,1,10] ?_
 refine xI h0 rfl (fun h0 hb3=>?_) (fun h0 hb3=>?_)
 ·
  refine xS 56 [4] ?_
  refine jA (mA ?_)
  obtain rfl:=oI h0
  exact lA [] rG
 refine oA (cA (iA ?_))
 refine xS 56 [0,1,5] ?_
 obtain ⟨x13,hxx13,h0⟩:=bA h0
 refine pC (fun s'=>∃ o19 : Unit,x13 = .inl o19 ∧ s'.nx ≤ 88 ∧ LeN [] s' ⟨[],[],88,[]⟩) ?_ ?_
 ·
  intro s' hs
  obtain ⟨o19,rfl,hn,hs⟩:=hs
  refine cA ?_
  refine oB [] hn hs ?_
  refine xS 96 [4] ?_
  refine jA ?_
  obtain rfl:=oI h0
  exact lA [] rG
 refine lC (ι:={ p : Nat × Int // rO a1 b2 p.1 p.2 = some x13 }) (fun p=>⟨[(0,.psl 1 (List.map (gA .i64) a1)),(1,.psl 1 (List.map (gA .i64) b2)),(5,.int .i64 p.1.2)],[],56,[]⟩) (fun p=>p.1.1) ⟨(fu,0),hxx13⟩ ⟨rF,rE,rfl,rfl,trivial,trivial⟩ (fun _=>Nat.le_refl _) ?_
 rintro ⟨⟨fu,i14⟩,h1⟩
 cases fu with
 | zero =>
  replace h1 : rO a1 b2 0 i14 = some x13:=h1
  rw [rO] at h1; cases h1
 | succ fu =>
  replace h1 : rO a1 b2 (fu + 1) i14 = some x13:=h1
  rw [rO] at h1
  dsimp only
  refine iA ?_
  refine xS 88 [0,1,5,14] ?_
  refine xI h1 rfl (fun h1 hb15=>?_) (fun h1 hb15=>?_)
  ·
   refine oA (cA (iA (vB ?_)))
   obtain ⟨e16,he16,h1⟩:=bA h1
   obtain ⟨he16a,he16b,he16c⟩:=vA he16
   obtain ⟨e17,he17,h1⟩:=bA h1
   obtain ⟨he17a,he17b,he17c⟩:=vA he17
   refine qC 160 [0,1,5,25] (fun _=>none) rfl rfl rfl (fun _ _=>xD (rA he16a (rA he16b (rA he16c (rA he17a (rA he17b he17c)))))) ?_
   refine xI h1 rfl (fun h1 hb18=>?_) (fun h1 hb18=>?_)
   ·
    refine nA 168 [4] (fun _=>none) rfl (fun _ _=>rS (rA he16a (rA he16b (rA he16c (rA he17a (rA he17b he17c)))))) ?_
    refine jA ?_
    obtain rfl:=oI h1
    refine zB (mA (mA (xC (mA ?_))))
    obtain rfl:=oI h0
    refine lA [] ?_
    exact rJ (rA he16a (rA he16b (rA he16c (rA he17a (rA he17b he17c)))))
   refine oA (pB (cA ?_))
   refine nB 184 [0,1,5] (fun _=>none) rfl (fun _ _=>rS (rA he16a (rA he16b (rA he16c (rA he17a (rA he17b he17c)))))) ?_
   refine cA ?_
   exact ⟨⟨(fu,(IntKind.i64.wrap (i14 + 1))),h1⟩,⟨rF,rE,rfl,rfl,trivial,trivial⟩,Nat.lt_succ_self _⟩
  refine dC (xA (xA (gC ?_)))
  obtain rfl:=oI h1
  exact ⟨_,rfl,rL,⟨rF,rE,rfl,rfl,trivial,trivial⟩⟩
theorem zae {fu : Nat} {a1 : fB} {b2 : fB} {r : Bool} (h0 : eT fu a1 b2 = some r) : yA Tryz.prog 105 [.agg (fB.enc a1),.agg (fB.enc b2)] (.bool r) []:=by
 refine dB Tryz.func105 rfl (by decide) rL ?_
 dsimp only [Tryz.f105]
 rw [eT] at h0
 refine xS 24 [2,3] ?_
 refine iA ?_
 obtain ⟨b3,hb3,h0⟩:=bA h0
 obtain ⟨b5,hb5,h0⟩:=bA h0
 refine jC (fr':=[(2,.ref 0 0 0 0),(3,.ref 8 0 0 0),(27,.bool b5)]) (hp':=[(0,⟨0,true,true,3,[[.psl 2 (List.map eA.enc a1.Keys),.psl 1 (List.map (gA .i64) a1.Lose),.int .i64 a1.Win]]⟩),(8,⟨0,true,true,3,[[.psl 2 (List.map eA.enc b2.Keys),.psl 1 (List.map (gA .i64) b2.Lose),.int .i64 b2.Win]]⟩)]) [0,8] 200 [2,3,27] (fun | 19=>(aS fu a1.Lose b2.Lose).bind fun vr4=>some (.bool vr4,[]) | _=>none) rfl (fun Kt hK=>by
   cases hg6 : (!(decide ((a1.Keys.length : Int) = (b2.Keys.length : Int)))) with
   | false =>
    replace hb3:=sA hb3 hg6
    have hqb3:=oI hb3
    cases b3 with
    | false =>
     replace hb5:=sA hb5 rfl
     obtain ⟨vr4,hvr4,hb5⟩:=bA hb5
     have hqb5:=oI hb5
     subst hqb5
     first | exact dI (rA hg6 hqb3) hvr4 (uT hvr4) hK | exact sD (rA hg6 hqb3) hvr4 hK
    | true =>
     replace hb5:=zA hb5 rfl
     have hqb5:=oI hb5
     subst hqb5
     first | exact fJ (rA hg6 hqb3) (uT hvr4) hK | exact rW (rA hg6 hqb3) hK
   | true =>
    replace hb3:=zA hb3 hg6
    have hqb3:=oI hb3
    cases b3 with
    | false =>
     cases hqb3
    | true =>
     replace hb5:=zA hb5 rfl
     have hqb5:=oI hb5
     subst hqb5
     first | exact fJ hg6 (uT hvr4) hK | exact rW hg6 hK) ?_
 refine xI h0 rfl (fun h0 hb9=>?_) (fun h0 hb9=>?_)
 ·
  refine xS 208 [4] ?_
  refine jA (mA ?_)
  obtain rfl:=oI h0
  exact lA [] rG
 refine oA (cA (iA ?_))
 refine xS 208 [2,3,5] ?_
 obtain ⟨x19,hxx19,h0⟩:=bA h0
 refine pC (fun s'=>∃ o25 : Unit,x19 = .inl o25 ∧ s'.nx ≤ 248 ∧ LeN [] s' ⟨[],[(0,⟨0,true,true,3,[[.psl 2 (List.map eA.enc a1.Keys),.psl 1 (List.map (gA .i64) a1.Lose),.int .i64 a1.Win]]⟩),(8,⟨0,true,true,3,[[.psl 2 (List.map eA.enc b2.Keys),.psl 1 (List.map (gA .i64) b2.Lose),.int .i64 b2.Win]]⟩)],248,[]⟩) ?_ ?_
 ·
  intro s' hs
  obtain ⟨o25,rfl,hn,hs⟩:=hs
  refine cA ?_
  refine oB [] hn hs ?_
  refine xS 256 [4] ?_
  refine jA ?_
  obtain rfl:=oI h0
  exact lA [] rG
 refine lC (ι:={ p : Nat × Int // bM a1 b2 p.1 p.2 = some x19 }) (fun p=>⟨[(2,.ref 0 0 0 0),(3,.ref 8 0 0 0),(5,.int .i64 p.1.2)],[(0,⟨0,true,true,3,[[.psl 2 (List.map eA.enc a1.Keys),.psl 1 (List.map (gA .i64) a1.Lose),.int .i64 a1.Win]]⟩),(8,⟨0,true,true,3,[[.psl 2 (List.map eA.enc b2.Keys),.psl 1 (List.map (gA .i64) b2.Lose),.int .i64 b2.Win]]⟩)],208,[]⟩) (fun p=>p.1.1) ⟨(fu,0),hxx19⟩ ⟨rF,rE,rfl,rfl,trivial,trivial⟩ (fun _=>Nat.le_refl _) ?_
 rintro ⟨⟨fu,i20⟩,h1⟩
 cases fu with
 | zero =>
  replace h1 : bM a1 b2 0 i20 = some x19:=h1
  rw [bM] at h1; cases h1
 | succ fu =>
  replace h1 : bM a1 b2 (fu + 1) i20 = some x19:=h1
  rw [bM] at h1
  dsimp only
  refine iA ?_
  refine xS 248 [2,3,5,32] ?_
  refine xI h1 rfl (fun h1 hb21=>?_) (fun h1 hb21=>?_)
  ·
   refine oA (cA (iA (vB ?_)))
   obtain ⟨e22,he22,h1⟩:=bA h1
   obtain ⟨he22a,he22b,he22c⟩:=vA he22
   obtain ⟨e23,he23,h1⟩:=bA h1
   obtain ⟨he23a,he23b,he23c⟩:=vA he23
   refine qC 336 [2,3,5,45] (fun _=>none) rfl rfl rfl (fun _ _=>xD (rA he22a (rA he22b (rA he22c (rA he23a (rA he23b he23c)))))) ?_
   refine xI h1 rfl (fun h1 hb24=>?_) (fun h1 hb24=>?_)
   ·
    refine nA 344 [4] (fun _=>none) rfl (fun _ _=>rS (rA he22a (rA he22b (rA he22c (rA he23a (rA he23b he23c)))))) ?_
    refine jA ?_
    obtain rfl:=oI h1
    refine zB (mA (mA (xC (mA ?_))))
    obtain rfl:=oI h0
    refine lA [] ?_
    exact rJ (rA he22a (rA he22b (rA he22c (rA he23a (rA he23b he23c)))))
   refine oA (pB (cA ?_))
   refine nB 360 [2,3,5] (fun _=>none) rfl (fun _ _=>rS (rA he22a (rA he22b (rA he22c (rA he23a (rA he23b he23c)))))) ?_
   refine cA ?_
   exact ⟨⟨(fu,(IntKind.i64.wrap (i20 + 1))),h1⟩,⟨rF,rE,rfl,rfl,trivial,trivial⟩,Nat.lt_succ_self _⟩
  refine dC (xA (xA (gC ?_)))
  obtain rfl:=oI h1
  exact ⟨_,rfl,rL,⟨rF,rE,rfl,rfl,trivial,trivial⟩⟩
end Go.T
end
