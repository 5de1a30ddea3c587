/- A text of the proof. -/
import Derived.Test.YtnlggkiekcpahaaGreatRows
import Derived.Test.YtnlggkiekcpahaaGreatCAmZe
import Derived.Test.YtnlggkiekcpahaaGreatCGp
import Derived.Test.YtnlggkiekcpahaaGreatCGt
import Derived.ProofKit
import Derived.Carry
set_option linter.unusedSimpArgs false
set_option linter.unusedVariables false
namespace Go.Proofs.YtnlggkiekcpahaaGreat
open Go.ChangeShapes Go.WideShapes Go.ChangeAt Go.RowKit Go.AM
theorem Tryz.own : ownKnob Tryz.prog.godebug = none := by kernel_rfl
theorem Tryz.laidOut : laidOutB Tryz.prog = true := by kernel_rfl
open Go.T
set_option maxRecDepth 100000
def W3 (x : Int) : Prop := (Lit.int .i64 x).wf = true
theorem zW {n : Nat} {x : List AV} (h : vD Tryz.prog (n + 1) 3 x) : ∃ e : Int, x = (gA .i64) e ∧ W3 e := by
  obtain ⟨b, rfl, hb⟩ := zc9 (n := n) Tryz.underlying3 h
  exact ⟨b, rfl, hb⟩
def W9 (x : List UInt8) : Prop := x.length ≤ maxLen
theorem shp9 {n : Nat} {x : List AV} (h : vD Tryz.prog (n + 1) 9 x) : ∃ e : List UInt8, x = zJ e ∧ W9 e := by
  obtain ⟨b, rfl, hb⟩ := zkG (n := n) Tryz.underlying9 h
  exact ⟨b, rfl, hb⟩
def W4 (x : Bool) : Prop := True
theorem shp4 {n : Nat} {x : List AV} (h : vD Tryz.prog (n + 1) 4 x) : ∃ e : Bool, x = cL e ∧ W4 e := by
  obtain ⟨b, rfl⟩ := zkb (n := n) Tryz.underlying4 h
  exact ⟨b, rfl, trivial⟩
def W2 (x : Int) : Prop := (Lit.int .i64 x).wf = true
theorem shp2 {n : Nat} {x : List AV} (h : vD Tryz.prog (n + 1) 2 x) : ∃ e : Int, x = (gA .i64) e ∧ W2 e := by
  obtain ⟨b, rfl, hb⟩ := zc9 (n := n) Tryz.underlying2 h
  exact ⟨b, rfl, hb⟩
def W67 (x : aA) : Prop := W9 x.Key ∧ W9 x.Val ∧ W4 x.Dead ∧ W2 x.Seq
theorem shp67 {n : Nat} {x : List AV} (h : vD Tryz.prog (n + 2) 67 x) : ∃ e : aA, x = aA.enc e ∧ W67 e := by
  obtain ⟨_, _, rfl, h0, _, _, rfl, h1, _, _, rfl, h2, _, _, rfl, h3, rfl⟩ := aX (n := n + 1) Tryz.underlying67 h
  obtain ⟨e0, rfl, w0⟩ := shp9 (n := n + 0) h0
  obtain ⟨e1, rfl, w1⟩ := shp9 (n := n + 0) h1
  obtain ⟨e2, rfl, w2⟩ := shp4 (n := n + 0) h2
  obtain ⟨e3, rfl, w3⟩ := shp2 (n := n + 0) h3
  exact ⟨⟨e0, e1, e2, e3⟩, rfl, ⟨w0, w1, w2, w3⟩⟩
def W55 (x : List aA) : Prop := x.length ≤ maxLen ∧ ∀ e ∈ x, W67 e
theorem zg6 : Tryz.prog.cellsOf 67 = 4 := by kernel_rfl
theorem shp55 {n : Nat} {x : List AV} (h : vD Tryz.prog (n + 3) 55 x) : ∃ e : List aA, x = (vA 4 aA.enc) e ∧ W55 e := by
  obtain ⟨es, rfl, hl, h⟩ := zY (n := n + 2) Tryz.underlying55 h
  obtain ⟨l, rfl, hw⟩ := yV fun y hy => shp67 (n := n) (h y hy)
  exact ⟨l, by rw [zg6]; rfl, by simpa using hl, hw⟩
def W94 (x : zA) : Prop := W3 x.Id ∧ W55 x.Entries
theorem shp94 {n : Nat} {x : List AV} (h : vD Tryz.prog (n + 4) 94 x) : ∃ e : zA, x = zA.enc e ∧ W94 e := by
  obtain ⟨_, _, rfl, h0, _, _, rfl, h1, rfl⟩ := aX (n := n + 3) Tryz.underlying94 h
  obtain ⟨e0, rfl, w0⟩ := zW (n := n + 2) h0
  obtain ⟨e1, rfl, w1⟩ := shp55 (n := n + 0) h1
  exact ⟨⟨e0, e1⟩, rfl, ⟨w0, w1⟩⟩
def W87 (x : List zA) : Prop := x.length ≤ maxLen ∧ ∀ e ∈ x, W94 e
theorem ziI : Tryz.prog.cellsOf 94 = 2 := by kernel_rfl
theorem shp87 {n : Nat} {x : List AV} (h : vD Tryz.prog (n + 5) 87 x) : ∃ e : List zA, x = (vA 2 zA.enc) e ∧ W87 e := by
  obtain ⟨es, rfl, hl, h⟩ := zY (n := n + 4) Tryz.underlying87 h
  obtain ⟨l, rfl, hw⟩ := yV fun y hy => shp94 (n := n) (h y hy)
  exact ⟨l, by rw [ziI]; rfl, by simpa using hl, hw⟩
def W89 (x : sA) : Prop := W87 x.Runs
theorem shp89 {n : Nat} {x : List AV} (h : vD Tryz.prog (n + 6) 89 x) : ∃ e : sA, x = sA.enc e ∧ W89 e := by
  obtain ⟨_, _, rfl, h0, rfl⟩ := aX (n := n + 5) Tryz.underlying89 h
  obtain ⟨e0, rfl, w0⟩ := shp87 (n := n + 0) h0
  exact ⟨⟨e0⟩, rfl, w0⟩
def W22 (x : List sA) : Prop := x.length ≤ maxLen ∧ ∀ e ∈ x, W89 e
theorem zhh : Tryz.prog.cellsOf 89 = 1 := by kernel_rfl
theorem shp22 {n : Nat} {x : List AV} (h : vD Tryz.prog (n + 7) 22 x) : ∃ e : List sA, x = (vA 1 sA.enc) e ∧ W22 e := by
  obtain ⟨es, rfl, hl, h⟩ := zY (n := n + 6) Tryz.underlying22 h
  obtain ⟨l, rfl, hw⟩ := yV fun y hy => shp89 (n := n) (h y hy)
  exact ⟨l, by rw [zhh]; rfl, by simpa using hl, hw⟩
def W24 (x : uA) : Prop := W3 x.B ∧ W22 x.Levels
theorem shp24 {n : Nat} {x : List AV} (h : vD Tryz.prog (n + 8) 24 x) : ∃ e : uA, x = uA.enc e ∧ W24 e := by
  obtain ⟨_, _, rfl, h0, _, _, rfl, h1, rfl⟩ := aX (n := n + 7) Tryz.underlying24 h
  obtain ⟨e0, rfl, w0⟩ := zW (n := n + 6) h0
  obtain ⟨e1, rfl, w1⟩ := shp22 (n := n + 0) h1
  exact ⟨⟨e0, e1⟩, rfl, ⟨w0, w1⟩⟩
def zcW (f : FuncId) (args : List AV) : Prop := ∃ blks, bB Tryz.prog f args (.bool true) blks
theorem zbi : hO Tryz.prog 2 3 = true := by kernel_rfl
theorem ziB : hO Tryz.prog 9 24 = true := by kernel_rfl
end Go.Proofs.YtnlggkiekcpahaaGreat
