/- A text of the proof. -/
import Derived.Test.YtnlggkiekcpahaaGreatRows
import Derived.Test.YtnlggkiekcpahaaGreatAAmZe
import Derived.Test.YtnlggkiekcpahaaGreatAGp
import Derived.Test.YtnlggkiekcpahaaGreatAGt
import Derived.ProofKit
import Derived.Carry
set_option linter.unusedSimpArgs false
set_option linter.unusedVariables false
namespace Go.Proofs.YtnlggkiekcpahaaGreat
open Go.ChangeShapes Go.WideShapes Go.ChangeAt Go.RowKit Go.AM
theorem Tryz.own : ownKnob Tryz.prog.godebug = none:=by kernel_rfl
theorem Tryz.laidOut : laidOutB Tryz.prog = true:=by kernel_rfl
open Go.T
set_option maxRecDepth 100000
def W3 (x : Int) : Prop:=(Lit.int .i64 x).wf = true
theorem dQ {n : Nat} {x : List AV} (h : oD Tryz.prog (n + 1) 3 x) : ∃ e : Int,x = (gA .i64) e ∧ W3 e:=by
  obtain ⟨b,rfl,hb⟩:=zc2 (n:=n) Tryz.underlying3 h
  exact ⟨b,rfl,hb⟩
def W9 (x : List UInt8) : Prop:=x.length ≤ maxLen
theorem zat {n : Nat} {x : List AV} (h : oD Tryz.prog (n + 1) 9 x) : ∃ e : List UInt8,x = pL e ∧ W9 e:=by
  obtain ⟨b,rfl,hb⟩:=zie (n:=n) Tryz.underlying9 h
  exact ⟨b,rfl,hb⟩
def W4 (x : Bool) : Prop:=True
theorem vZ {n : Nat} {x : List AV} (h : oD Tryz.prog (n + 1) 4 x) : ∃ e : Bool,x = xM e ∧ W4 e:=by
  obtain ⟨b,rfl⟩:=zkp (n:=n) Tryz.underlying4 h
  exact ⟨b,rfl,trivial⟩
def W2 (x : Int) : Prop:=(Lit.int .i64 x).wf = true
theorem shp2 {n : Nat} {x : List AV} (h : oD Tryz.prog (n + 1) 2 x) : ∃ e : Int,x = (gA .i64) e ∧ W2 e:=by
  obtain ⟨b,rfl,hb⟩:=zc2 (n:=n) Tryz.underlying2 h
  exact ⟨b,rfl,hb⟩
def W67 (x : aA) : Prop:=W9 x.Key ∧ W9 x.Val ∧ W4 x.Dead ∧ W2 x.Seq
theorem shp67 {n : Nat} {x : List AV} (h : oD Tryz.prog (n + 2) 67 x) : ∃ e : aA,x = aA.enc e ∧ W67 e:=by
  obtain ⟨_,_,rfl,h0,_,_,rfl,h1,_,_,rfl,h2,_,_,rfl,h3,rfl⟩:=iM (n:=n + 1) Tryz.underlying67 h
  obtain ⟨e0,rfl,w0⟩:=zat (n:=n + 0) h0
  obtain ⟨e1,rfl,w1⟩:=zat (n:=n + 0) h1
  obtain ⟨e2,rfl,w2⟩:=vZ (n:=n + 0) h2
  obtain ⟨e3,rfl,w3⟩:=shp2 (n:=n + 0) h3
  exact ⟨⟨e0,e1,e2,e3⟩,rfl,⟨w0,w1,w2,w3⟩⟩
def W55 (x : List aA) : Prop:=x.length ≤ maxLen ∧ ∀ e ∈ x,W67 e
theorem zkm : Tryz.prog.cellsOf 67 = 4:=by kernel_rfl
theorem zaV {n : Nat} {x : List AV} (h : oD Tryz.prog (n + 3) 55 x) : ∃ e : List aA,x = (tA 4 aA.enc) e ∧ W55 e:=by
  obtain ⟨es,rfl,hl,h⟩:=vS (n:=n + 2) Tryz.underlying55 h
  obtain ⟨l,rfl,hw⟩:=kR fun y hy=>shp67 (n:=n) (h y hy)
  exact ⟨l,by rw [zkm]; rfl,by simpa using hl,hw⟩
def W94 (x : gB) : Prop:=W3 x.Id ∧ W55 x.Entries
theorem shp94 {n : Nat} {x : List AV} (h : oD Tryz.prog (n + 4) 94 x) : ∃ e : gB,x = gB.enc e ∧ W94 e:=by
  obtain ⟨_,_,rfl,h0,_,_,rfl,h1,rfl⟩:=iM (n:=n + 3) Tryz.underlying94 h
  obtain ⟨e0,rfl,w0⟩:=dQ (n:=n + 2) h0
  obtain ⟨e1,rfl,w1⟩:=zaV (n:=n + 0) h1
  exact ⟨⟨e0,e1⟩,rfl,⟨w0,w1⟩⟩
def W87 (x : List gB) : Prop:=x.length ≤ maxLen ∧ ∀ e ∈ x,W94 e
theorem zhd : Tryz.prog.cellsOf 94 = 2:=by kernel_rfl
theorem shp87 {n : Nat} {x : List AV} (h : oD Tryz.prog (n + 5) 87 x) : ∃ e : List gB,x = (tA 2 gB.enc) e ∧ W87 e:=by
  obtain ⟨es,rfl,hl,h⟩:=vS (n:=n + 4) Tryz.underlying87 h
  obtain ⟨l,rfl,hw⟩:=kR fun y hy=>shp94 (n:=n) (h y hy)
  exact ⟨l,by rw [zhd]; rfl,by simpa using hl,hw⟩
def W89 (x : qA) : Prop:=W87 x.Runs
theorem shp89 {n : Nat} {x : List AV} (h : oD Tryz.prog (n + 6) 89 x) : ∃ e : qA,x = qA.enc e ∧ W89 e:=by
  obtain ⟨_,_,rfl,h0,rfl⟩:=iM (n:=n + 5) Tryz.underlying89 h
  obtain ⟨e0,rfl,w0⟩:=shp87 (n:=n + 0) h0
  exact ⟨⟨e0⟩,rfl,w0⟩
def W22 (x : List qA) : Prop:=x.length ≤ maxLen ∧ ∀ e ∈ x,W89 e
theorem zpf : Tryz.prog.cellsOf 89 = 1:=by kernel_rfl
theorem shp22 {n : Nat} {x : List AV} (h : oD Tryz.prog (n + 7) 22 x) : ∃ e : List qA,x = (tA 1 qA.enc) e ∧ W22 e:=by
  obtain ⟨es,rfl,hl,h⟩:=vS (n:=n + 6) Tryz.underlying22 h
  obtain ⟨l,rfl,hw⟩:=kR fun y hy=>shp89 (n:=n) (h y hy)
  exact ⟨l,by rw [zpf]; rfl,by simpa using hl,hw⟩
def W24 (x : eB) : Prop:=W3 x.B ∧ W22 x.Levels
theorem shp24 {n : Nat} {x : List AV} (h : oD Tryz.prog (n + 8) 24 x) : ∃ e : eB,x = eB.enc e ∧ W24 e:=by
  obtain ⟨_,_,rfl,h0,_,_,rfl,h1,rfl⟩:=iM (n:=n + 7) Tryz.underlying24 h
  obtain ⟨e0,rfl,w0⟩:=dQ (n:=n + 6) h0
  obtain ⟨e1,rfl,w1⟩:=shp22 (n:=n + 0) h1
  exact ⟨⟨e0,e1⟩,rfl,⟨w0,w1⟩⟩
def W47 (x : List (List aA)) : Prop:=x.length ≤ maxLen ∧ ∀ e ∈ x,W55 e
theorem zox : Tryz.prog.cellsOf 55 = 1:=by kernel_rfl
theorem shp47 {n : Nat} {x : List AV} (h : oD Tryz.prog (n + 4) 47 x) : ∃ e : List (List aA),x = (tA 1 (tA 4 aA.enc)) e ∧ W47 e:=by
  obtain ⟨es,rfl,hl,h⟩:=vS (n:=n + 3) Tryz.underlying47 h
  obtain ⟨l,rfl,hw⟩:=kR fun y hy=>zaV (n:=n) (h y hy)
  exact ⟨l,by rw [zox]; rfl,by simpa using hl,hw⟩
def W37 (x : List Int) : Prop:=x.length ≤ maxLen ∧ ∀ e ∈ x,W3 e
theorem zml : Tryz.prog.cellsOf 3 = 1:=by kernel_rfl
theorem zfi {n : Nat} {x : List AV} (h : oD Tryz.prog (n + 2) 37 x) : ∃ e : List Int,x = (tA 1 (gA .i64)) e ∧ W37 e:=by
  obtain ⟨es,rfl,hl,h⟩:=vS (n:=n + 1) Tryz.underlying37 h
  obtain ⟨l,rfl,hw⟩:=kR fun y hy=>dQ (n:=n) (h y hy)
  exact ⟨l,by rw [zml]; rfl,by simpa using hl,hw⟩
def W119 (x : eA) : Prop:=W9 x.Key ∧ W4 x.Done
theorem shp119 {n : Nat} {x : List AV} (h : oD Tryz.prog (n + 2) 119 x) : ∃ e : eA,x = eA.enc e ∧ W119 e:=by
  obtain ⟨_,_,rfl,h0,_,_,rfl,h1,rfl⟩:=iM (n:=n + 1) Tryz.underlying119 h
  obtain ⟨e0,rfl,w0⟩:=zat (n:=n + 0) h0
  obtain ⟨e1,rfl,w1⟩:=vZ (n:=n + 0) h1
  exact ⟨⟨e0,e1⟩,rfl,⟨w0,w1⟩⟩
def W48 (x : List eA) : Prop:=x.length ≤ maxLen ∧ ∀ e ∈ x,W119 e
theorem zpx : Tryz.prog.cellsOf 119 = 2:=by kernel_rfl
theorem shp48 {n : Nat} {x : List AV} (h : oD Tryz.prog (n + 3) 48 x) : ∃ e : List eA,x = (tA 2 eA.enc) e ∧ W48 e:=by
  obtain ⟨es,rfl,hl,h⟩:=vS (n:=n + 2) Tryz.underlying48 h
  obtain ⟨l,rfl,hw⟩:=kR fun y hy=>shp119 (n:=n) (h y hy)
  exact ⟨l,by rw [zpx]; rfl,by simpa using hl,hw⟩
def W50 (x : fB) : Prop:=W48 x.Keys ∧ W37 x.Lose ∧ W3 x.Win
theorem shp50 {n : Nat} {x : List AV} (h : oD Tryz.prog (n + 4) 50 x) : ∃ e : fB,x = fB.enc e ∧ W50 e:=by
  obtain ⟨_,_,rfl,h0,_,_,rfl,h1,_,_,rfl,h2,rfl⟩:=iM (n:=n + 3) Tryz.underlying50 h
  obtain ⟨e0,rfl,w0⟩:=shp48 (n:=n + 0) h0
  obtain ⟨e1,rfl,w1⟩:=zfi (n:=n + 1) h1
  obtain ⟨e2,rfl,w2⟩:=dQ (n:=n + 2) h2
  exact ⟨⟨e0,e1,e2⟩,rfl,⟨w0,w1,w2⟩⟩
def W52 (x : iB) : Prop:=W47 x.Runs ∧ W37 x.At ∧ W50 x.Tree
theorem shp52 {n : Nat} {x : List AV} (h : oD Tryz.prog (n + 5) 52 x) : ∃ e : iB,x = iB.enc e ∧ W52 e:=by
  obtain ⟨_,_,rfl,h0,_,_,rfl,h1,_,_,rfl,h2,rfl⟩:=iM (n:=n + 4) Tryz.underlying52 h
  obtain ⟨e0,rfl,w0⟩:=shp47 (n:=n + 0) h0
  obtain ⟨e1,rfl,w1⟩:=zfi (n:=n + 2) h1
  obtain ⟨e2,rfl,w2⟩:=shp50 (n:=n + 0) h2
  exact ⟨⟨e0,e1,e2⟩,rfl,⟨w0,w1,w2⟩⟩
def W54 (x : lB) : Prop:=W4 x.Some ∧ W9 x.Last ∧ W4 x.Bottom
theorem shp54 {n : Nat} {x : List AV} (h : oD Tryz.prog (n + 2) 54 x) : ∃ e : lB,x = lB.enc e ∧ W54 e:=by
  obtain ⟨_,_,rfl,h0,_,_,rfl,h1,_,_,rfl,h2,rfl⟩:=iM (n:=n + 1) Tryz.underlying54 h
  obtain ⟨e0,rfl,w0⟩:=vZ (n:=n + 0) h0
  obtain ⟨e1,rfl,w1⟩:=zat (n:=n + 0) h1
  obtain ⟨e2,rfl,w2⟩:=vZ (n:=n + 0) h2
  exact ⟨⟨e0,e1,e2⟩,rfl,⟨w0,w1,w2⟩⟩
def W57 (x : mB) : Prop:=W52 x.Merge ∧ W54 x.Shadow ∧ W55 x.Out ∧ W2 x.Steps
theorem shp57 {n : Nat} {x : List AV} (h : oD Tryz.prog (n + 6) 57 x) : ∃ e : mB,x = mB.enc e ∧ W57 e:=by
  obtain ⟨_,_,rfl,h0,_,_,rfl,h1,_,_,rfl,h2,_,_,rfl,h3,rfl⟩:=iM (n:=n + 5) Tryz.underlying57 h
  obtain ⟨e0,rfl,w0⟩:=shp52 (n:=n + 0) h0
  obtain ⟨e1,rfl,w1⟩:=shp54 (n:=n + 3) h1
  obtain ⟨e2,rfl,w2⟩:=zaV (n:=n + 2) h2
  obtain ⟨e3,rfl,w3⟩:=shp2 (n:=n + 4) h3
  exact ⟨⟨e0,e1,e2,e3⟩,rfl,⟨w0,w1,w2,w3⟩⟩
def W59 (x : bB) : Prop:=W3 x.Level ∧ W57 x.Work
theorem shp59 {n : Nat} {x : List AV} (h : oD Tryz.prog (n + 7) 59 x) : ∃ e : bB,x = bB.enc e ∧ W59 e:=by
  obtain ⟨_,_,rfl,h0,_,_,rfl,h1,rfl⟩:=iM (n:=n + 6) Tryz.underlying59 h
  obtain ⟨e0,rfl,w0⟩:=dQ (n:=n + 5) h0
  obtain ⟨e1,rfl,w1⟩:=shp57 (n:=n + 0) h1
  exact ⟨⟨e0,e1⟩,rfl,⟨w0,w1⟩⟩
def W25 (x : List bB) : Prop:=x.length ≤ maxLen ∧ ∀ e ∈ x,W59 e
theorem ziv : Tryz.prog.cellsOf 59 = 11:=by kernel_rfl
theorem shp25 {n : Nat} {x : List AV} (h : oD Tryz.prog (n + 8) 25 x) : ∃ e : List bB,x = (tA 11 bB.enc) e ∧ W25 e:=by
  obtain ⟨es,rfl,hl,h⟩:=vS (n:=n + 7) Tryz.underlying25 h
  obtain ⟨l,rfl,hw⟩:=kR fun y hy=>shp59 (n:=n) (h y hy)
  exact ⟨l,by rw [ziv]; rfl,by simpa using hl,hw⟩
def W27 (x : cB) : Prop:=W24 x.Levels ∧ W25 x.Jobs ∧ W3 x.NextId
theorem shp27 {n : Nat} {x : List AV} (h : oD Tryz.prog (n + 9) 27 x) : ∃ e : cB,x = cB.enc e ∧ W27 e:=by
  obtain ⟨_,_,rfl,h0,_,_,rfl,h1,_,_,rfl,h2,rfl⟩:=iM (n:=n + 8) Tryz.underlying27 h
  obtain ⟨e0,rfl,w0⟩:=shp24 (n:=n + 0) h0
  obtain ⟨e1,rfl,w1⟩:=shp25 (n:=n + 0) h1
  obtain ⟨e2,rfl,w2⟩:=dQ (n:=n + 7) h2
  exact ⟨⟨e0,e1,e2⟩,rfl,⟨w0,w1,w2⟩⟩
def zcw (f : FuncId) (args : List AV) : Prop:=∃ blks,yA Tryz.prog f args (.bool true) blks
theorem zd7 : eR Tryz.prog 2 3 = true:=by kernel_rfl
theorem zoY : eR Tryz.prog 10 27 = true:=by kernel_rfl
end Go.Proofs.YtnlggkiekcpahaaGreat
