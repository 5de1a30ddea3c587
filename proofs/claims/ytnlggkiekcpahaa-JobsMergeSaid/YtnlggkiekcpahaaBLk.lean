/- A text of the proof. -/
import Derived.Test.YtnlggkiekcpahaaRows
import Derived.Test.YtnlggkiekcpahaaBAmZe
import Derived.Test.YtnlggkiekcpahaaBGp
import Derived.Test.YtnlggkiekcpahaaBGt
import Derived.ProofKit
import Derived.Carry
set_option linter.unusedSimpArgs false
set_option linter.unusedVariables false
namespace Go.Proofs.Ytnlggkiekcpahaa
open Go.ChangeShapes Go.WideShapes Go.ChangeAt Go.RowKit Go.AM
theorem Try.own : ownKnob Try.prog.godebug = none := by kernel_rfl
theorem Try.laidOut : laidOutB Try.prog = true := by kernel_rfl
open Go.T
set_option maxRecDepth 100000
def W3 (x : Int) : Prop := (Lit.int .i64 x).wf = true
theorem shp3 {n : Nat} {x : List AV} (h : dE Try.prog (n + 1) 3 x) : ∃ e : Int, x = (dA .i64) e ∧ W3 e := by
  obtain ⟨b, rfl, hb⟩ := zby (n := n) Try.underlying3 h
  exact ⟨b, rfl, hb⟩
def W9 (x : List UInt8) : Prop := x.length ≤ maxLen
theorem shp9 {n : Nat} {x : List AV} (h : dE Try.prog (n + 1) 9 x) : ∃ e : List UInt8, x = nL e ∧ W9 e := by
  obtain ⟨b, rfl, hb⟩ := zku (n := n) Try.underlying9 h
  exact ⟨b, rfl, hb⟩
def W4 (x : Bool) : Prop := True
theorem shp4 {n : Nat} {x : List AV} (h : dE Try.prog (n + 1) 4 x) : ∃ e : Bool, x = mM e ∧ W4 e := by
  obtain ⟨b, rfl⟩ := zfz (n := n) Try.underlying4 h
  exact ⟨b, rfl, trivial⟩
def W2 (x : Int) : Prop := (Lit.int .i64 x).wf = true
theorem shp2 {n : Nat} {x : List AV} (h : dE Try.prog (n + 1) 2 x) : ∃ e : Int, x = (dA .i64) e ∧ W2 e := by
  obtain ⟨b, rfl, hb⟩ := zby (n := n) Try.underlying2 h
  exact ⟨b, rfl, hb⟩
def W71 (x : aA) : Prop := W9 x.Key ∧ W9 x.Val ∧ W4 x.Dead ∧ W2 x.Seq
theorem shp71 {n : Nat} {x : List AV} (h : dE Try.prog (n + 2) 71 x) : ∃ e : aA, x = aA.enc e ∧ W71 e := by
  obtain ⟨_, _, rfl, h0, _, _, rfl, h1, _, _, rfl, h2, _, _, rfl, h3, rfl⟩ := iW (n := n + 1) Try.underlying71 h
  obtain ⟨e0, rfl, w0⟩ := shp9 (n := n + 0) h0
  obtain ⟨e1, rfl, w1⟩ := shp9 (n := n + 0) h1
  obtain ⟨e2, rfl, w2⟩ := shp4 (n := n + 0) h2
  obtain ⟨e3, rfl, w3⟩ := shp2 (n := n + 0) h3
  exact ⟨⟨e0, e1, e2, e3⟩, rfl, ⟨w0, w1, w2, w3⟩⟩
def W39 (x : List aA) : Prop := x.length ≤ maxLen ∧ ∀ e ∈ x, W71 e
theorem zl9 : Try.prog.cellsOf 71 = 4 := by kernel_rfl
theorem shp39 {n : Nat} {x : List AV} (h : dE Try.prog (n + 3) 39 x) : ∃ e : List aA, x = (sA 4 aA.enc) e ∧ W39 e := by
  obtain ⟨es, rfl, hl, h⟩ := yW (n := n + 2) Try.underlying39 h
  obtain ⟨l, rfl, hw⟩ := bU fun y hy => shp71 (n := n) (h y hy)
  exact ⟨l, by rw [zl9]; rfl, by simpa using hl, hw⟩
def W44 (x : eB) : Prop := W3 x.Id ∧ W39 x.Entries
theorem shp44 {n : Nat} {x : List AV} (h : dE Try.prog (n + 4) 44 x) : ∃ e : eB, x = eB.enc e ∧ W44 e := by
  obtain ⟨_, _, rfl, h0, _, _, rfl, h1, rfl⟩ := iW (n := n + 3) Try.underlying44 h
  obtain ⟨e0, rfl, w0⟩ := shp3 (n := n + 2) h0
  obtain ⟨e1, rfl, w1⟩ := shp39 (n := n + 0) h1
  exact ⟨⟨e0, e1⟩, rfl, ⟨w0, w1⟩⟩
def W36 (x : List eB) : Prop := x.length ≤ maxLen ∧ ∀ e ∈ x, W44 e
theorem znC : Try.prog.cellsOf 44 = 2 := by kernel_rfl
theorem shp36 {n : Nat} {x : List AV} (h : dE Try.prog (n + 5) 36 x) : ∃ e : List eB, x = (sA 2 eB.enc) e ∧ W36 e := by
  obtain ⟨es, rfl, hl, h⟩ := yW (n := n + 4) Try.underlying36 h
  obtain ⟨l, rfl, hw⟩ := bU fun y hy => shp44 (n := n) (h y hy)
  exact ⟨l, by rw [znC]; rfl, by simpa using hl, hw⟩
def W38 (x : tA) : Prop := W36 x.Runs
theorem shp38 {n : Nat} {x : List AV} (h : dE Try.prog (n + 6) 38 x) : ∃ e : tA, x = tA.enc e ∧ W38 e := by
  obtain ⟨_, _, rfl, h0, rfl⟩ := iW (n := n + 5) Try.underlying38 h
  obtain ⟨e0, rfl, w0⟩ := shp36 (n := n + 0) h0
  exact ⟨⟨e0⟩, rfl, w0⟩
def W22 (x : List tA) : Prop := x.length ≤ maxLen ∧ ∀ e ∈ x, W38 e
theorem zeV : Try.prog.cellsOf 38 = 1 := by kernel_rfl
theorem shp22 {n : Nat} {x : List AV} (h : dE Try.prog (n + 7) 22 x) : ∃ e : List tA, x = (sA 1 tA.enc) e ∧ W22 e := by
  obtain ⟨es, rfl, hl, h⟩ := yW (n := n + 6) Try.underlying22 h
  obtain ⟨l, rfl, hw⟩ := bU fun y hy => shp38 (n := n) (h y hy)
  exact ⟨l, by rw [zeV]; rfl, by simpa using hl, hw⟩
def W24 (x : yA) : Prop := W3 x.B ∧ W22 x.Levels
theorem shp24 {n : Nat} {x : List AV} (h : dE Try.prog (n + 8) 24 x) : ∃ e : yA, x = yA.enc e ∧ W24 e := by
  obtain ⟨_, _, rfl, h0, _, _, rfl, h1, rfl⟩ := iW (n := n + 7) Try.underlying24 h
  obtain ⟨e0, rfl, w0⟩ := shp3 (n := n + 6) h0
  obtain ⟨e1, rfl, w1⟩ := shp22 (n := n + 0) h1
  exact ⟨⟨e0, e1⟩, rfl, ⟨w0, w1⟩⟩
def W5 (x : Int) : Prop := (Lit.int .u8 x).wf = true
theorem shp5 {n : Nat} {x : List AV} (h : dE Try.prog (n + 1) 5 x) : ∃ e : Int, x = (dA .u8) e ∧ W5 e := by
  obtain ⟨b, rfl, hb⟩ := zby (n := n) Try.underlying5 h
  exact ⟨b, rfl, hb⟩
def W25 (x : List Int) : Prop := x.length ≤ maxLen ∧ ∀ e ∈ x, W5 e
theorem zns : Try.prog.cellsOf 5 = 1 := by kernel_rfl
theorem shp25 {n : Nat} {x : List AV} (h : dE Try.prog (n + 2) 25 x) : ∃ e : List Int, x = (sA 1 (dA .u8)) e ∧ W25 e := by
  obtain ⟨es, rfl, hl, h⟩ := yW (n := n + 1) Try.underlying25 h
  obtain ⟨l, rfl, hw⟩ := bU fun y hy => shp5 (n := n) (h y hy)
  exact ⟨l, by rw [zns]; rfl, by simpa using hl, hw⟩
def zcH (f : FuncId) (args : List AV) : Prop := ∃ blks, jB Try.prog f args (.bool true) blks
theorem plain3 : xN Try.prog 2 3 = true := by kernel_rfl
theorem znd : xN Try.prog 9 24 = true := by kernel_rfl
theorem zij : xN Try.prog 3 25 = true := by kernel_rfl
end Go.Proofs.Ytnlggkiekcpahaa
