/- A text of the proof. -/
import Derived.Test.YtnlggkiekcpahaaRows
import Derived.Test.YtnlggkiekcpahaaCAmZe
import Derived.Test.YtnlggkiekcpahaaCGp
import Derived.Test.YtnlggkiekcpahaaCGt
import Derived.ProofKit
import Derived.Carry
set_option linter.unusedSimpArgs false
set_option linter.unusedVariables false
namespace Go.Proofs.Ytnlggkiekcpahaa
open Go.ChangeShapes Go.WideShapes Go.ChangeAt Go.RowKit Go.AM
theorem Try.own : ownKnob Try.prog.godebug = none := by kernel_rfl
theorem Try.laidOut : laidOutB Try.prog = true := by kernel_rfl
open Go.T
set_option maxRecDepth 100000
def W3 (x : Int) : Prop := (Lit.int .i64 x).wf = true
theorem gS {n : Nat} {x : List AV} (h : fD Try.prog (n + 1) 3 x) : ∃ e : Int, x = (iA .i64) e ∧ W3 e := by
  obtain ⟨b, rfl, hb⟩ := zbb (n := n) Try.underlying3 h
  exact ⟨b, rfl, hb⟩
def W9 (x : List UInt8) : Prop := x.length ≤ maxLen
theorem dZ {n : Nat} {x : List AV} (h : fD Try.prog (n + 1) 9 x) : ∃ e : List UInt8, x = qK e ∧ W9 e := by
  obtain ⟨b, rfl, hb⟩ := zoi (n := n) Try.underlying9 h
  exact ⟨b, rfl, hb⟩
def W4 (x : Bool) : Prop := True
theorem nZ {n : Nat} {x : List AV} (h : fD Try.prog (n + 1) 4 x) : ∃ e : Bool, x = jM e ∧ W4 e := by
  obtain ⟨b, rfl⟩ := zj2 (n := n) Try.underlying4 h
  exact ⟨b, rfl, trivial⟩
def W2 (x : Int) : Prop := (Lit.int .i64 x).wf = true
theorem shp2 {n : Nat} {x : List AV} (h : fD Try.prog (n + 1) 2 x) : ∃ e : Int, x = (iA .i64) e ∧ W2 e := by
  obtain ⟨b, rfl, hb⟩ := zbb (n := n) Try.underlying2 h
  exact ⟨b, rfl, hb⟩
def W71 (x : aA) : Prop := W9 x.Key ∧ W9 x.Val ∧ W4 x.Dead ∧ W2 x.Seq
theorem shp71 {n : Nat} {x : List AV} (h : fD Try.prog (n + 2) 71 x) : ∃ e : aA, x = aA.enc e ∧ W71 e := by
  obtain ⟨_, _, rfl, h0, _, _, rfl, h1, _, _, rfl, h2, _, _, rfl, h3, rfl⟩ := pL (n := n + 1) Try.underlying71 h
  obtain ⟨e0, rfl, w0⟩ := dZ (n := n + 0) h0
  obtain ⟨e1, rfl, w1⟩ := dZ (n := n + 0) h1
  obtain ⟨e2, rfl, w2⟩ := nZ (n := n + 0) h2
  obtain ⟨e3, rfl, w3⟩ := shp2 (n := n + 0) h3
  exact ⟨⟨e0, e1, e2, e3⟩, rfl, ⟨w0, w1, w2, w3⟩⟩
def W39 (x : List aA) : Prop := x.length ≤ maxLen ∧ ∀ e ∈ x, W71 e
theorem zlb : Try.prog.cellsOf 71 = 4 := by kernel_rfl
theorem zaQ {n : Nat} {x : List AV} (h : fD Try.prog (n + 3) 39 x) : ∃ e : List aA, x = (wA 4 aA.enc) e ∧ W39 e := by
  obtain ⟨es, rfl, hl, h⟩ := xQ (n := n + 2) Try.underlying39 h
  obtain ⟨l, rfl, hw⟩ := rP fun y hy => shp71 (n := n) (h y hy)
  exact ⟨l, by rw [zlb]; rfl, by simpa using hl, hw⟩
def W44 (x : eB) : Prop := W3 x.Id ∧ W39 x.Entries
theorem shp44 {n : Nat} {x : List AV} (h : fD Try.prog (n + 4) 44 x) : ∃ e : eB, x = eB.enc e ∧ W44 e := by
  obtain ⟨_, _, rfl, h0, _, _, rfl, h1, rfl⟩ := pL (n := n + 3) Try.underlying44 h
  obtain ⟨e0, rfl, w0⟩ := gS (n := n + 2) h0
  obtain ⟨e1, rfl, w1⟩ := zaQ (n := n + 0) h1
  exact ⟨⟨e0, e1⟩, rfl, ⟨w0, w1⟩⟩
def W36 (x : List eB) : Prop := x.length ≤ maxLen ∧ ∀ e ∈ x, W44 e
theorem zom : Try.prog.cellsOf 44 = 2 := by kernel_rfl
theorem shp36 {n : Nat} {x : List AV} (h : fD Try.prog (n + 5) 36 x) : ∃ e : List eB, x = (wA 2 eB.enc) e ∧ W36 e := by
  obtain ⟨es, rfl, hl, h⟩ := xQ (n := n + 4) Try.underlying36 h
  obtain ⟨l, rfl, hw⟩ := rP fun y hy => shp44 (n := n) (h y hy)
  exact ⟨l, by rw [zom]; rfl, by simpa using hl, hw⟩
def W38 (x : sA) : Prop := W36 x.Runs
theorem shp38 {n : Nat} {x : List AV} (h : fD Try.prog (n + 6) 38 x) : ∃ e : sA, x = sA.enc e ∧ W38 e := by
  obtain ⟨_, _, rfl, h0, rfl⟩ := pL (n := n + 5) Try.underlying38 h
  obtain ⟨e0, rfl, w0⟩ := shp36 (n := n + 0) h0
  exact ⟨⟨e0⟩, rfl, w0⟩
def W22 (x : List sA) : Prop := x.length ≤ maxLen ∧ ∀ e ∈ x, W38 e
theorem zob : Try.prog.cellsOf 38 = 1 := by kernel_rfl
theorem shp22 {n : Nat} {x : List AV} (h : fD Try.prog (n + 7) 22 x) : ∃ e : List sA, x = (wA 1 sA.enc) e ∧ W22 e := by
  obtain ⟨es, rfl, hl, h⟩ := xQ (n := n + 6) Try.underlying22 h
  obtain ⟨l, rfl, hw⟩ := rP fun y hy => shp38 (n := n) (h y hy)
  exact ⟨l, by rw [zob]; rfl, by simpa using hl, hw⟩
def W24 (x : dB) : Prop := W3 x.B ∧ W22 x.Levels
theorem shp24 {n : Nat} {x : List AV} (h : fD Try.prog (n + 8) 24 x) : ∃ e : dB, x = dB.enc e ∧ W24 e := by
  obtain ⟨_, _, rfl, h0, _, _, rfl, h1, rfl⟩ := pL (n := n + 7) Try.underlying24 h
  obtain ⟨e0, rfl, w0⟩ := gS (n := n + 6) h0
  obtain ⟨e1, rfl, w1⟩ := shp22 (n := n + 0) h1
  exact ⟨⟨e0, e1⟩, rfl, ⟨w0, w1⟩⟩
def W5 (x : Int) : Prop := (Lit.int .u8 x).wf = true
theorem shp5 {n : Nat} {x : List AV} (h : fD Try.prog (n + 1) 5 x) : ∃ e : Int, x = (iA .u8) e ∧ W5 e := by
  obtain ⟨b, rfl, hb⟩ := zbb (n := n) Try.underlying5 h
  exact ⟨b, rfl, hb⟩
def W45 (x : List (List aA)) : Prop := x.length ≤ maxLen ∧ ∀ e ∈ x, W39 e
theorem znT : Try.prog.cellsOf 39 = 1 := by kernel_rfl
theorem shp45 {n : Nat} {x : List AV} (h : fD Try.prog (n + 4) 45 x) : ∃ e : List (List aA), x = (wA 1 (wA 4 aA.enc)) e ∧ W45 e := by
  obtain ⟨es, rfl, hl, h⟩ := xQ (n := n + 3) Try.underlying45 h
  obtain ⟨l, rfl, hw⟩ := rP fun y hy => zaQ (n := n) (h y hy)
  exact ⟨l, by rw [znT]; rfl, by simpa using hl, hw⟩
def W40 (x : List Int) : Prop := x.length ≤ maxLen ∧ ∀ e ∈ x, W3 e
theorem zkc : Try.prog.cellsOf 3 = 1 := by kernel_rfl
theorem zcY {n : Nat} {x : List AV} (h : fD Try.prog (n + 2) 40 x) : ∃ e : List Int, x = (wA 1 (iA .i64)) e ∧ W40 e := by
  obtain ⟨es, rfl, hl, h⟩ := xQ (n := n + 1) Try.underlying40 h
  obtain ⟨l, rfl, hw⟩ := rP fun y hy => gS (n := n) (h y hy)
  exact ⟨l, by rw [zkc]; rfl, by simpa using hl, hw⟩
def W122 (x : cA) : Prop := W9 x.Key ∧ W4 x.Done
theorem shp122 {n : Nat} {x : List AV} (h : fD Try.prog (n + 2) 122 x) : ∃ e : cA, x = cA.enc e ∧ W122 e := by
  obtain ⟨_, _, rfl, h0, _, _, rfl, h1, rfl⟩ := pL (n := n + 1) Try.underlying122 h
  obtain ⟨e0, rfl, w0⟩ := dZ (n := n + 0) h0
  obtain ⟨e1, rfl, w1⟩ := nZ (n := n + 0) h1
  exact ⟨⟨e0, e1⟩, rfl, ⟨w0, w1⟩⟩
def W51 (x : List cA) : Prop := x.length ≤ maxLen ∧ ∀ e ∈ x, W122 e
theorem zoJ : Try.prog.cellsOf 122 = 2 := by kernel_rfl
theorem shp51 {n : Nat} {x : List AV} (h : fD Try.prog (n + 3) 51 x) : ∃ e : List cA, x = (wA 2 cA.enc) e ∧ W51 e := by
  obtain ⟨es, rfl, hl, h⟩ := xQ (n := n + 2) Try.underlying51 h
  obtain ⟨l, rfl, hw⟩ := rP fun y hy => shp122 (n := n) (h y hy)
  exact ⟨l, by rw [zoJ]; rfl, by simpa using hl, hw⟩
def W53 (x : zA) : Prop := W51 x.Keys ∧ W40 x.Lose ∧ W3 x.Win
theorem shp53 {n : Nat} {x : List AV} (h : fD Try.prog (n + 4) 53 x) : ∃ e : zA, x = zA.enc e ∧ W53 e := by
  obtain ⟨_, _, rfl, h0, _, _, rfl, h1, _, _, rfl, h2, rfl⟩ := pL (n := n + 3) Try.underlying53 h
  obtain ⟨e0, rfl, w0⟩ := shp51 (n := n + 0) h0
  obtain ⟨e1, rfl, w1⟩ := zcY (n := n + 1) h1
  obtain ⟨e2, rfl, w2⟩ := gS (n := n + 2) h2
  exact ⟨⟨e0, e1, e2⟩, rfl, ⟨w0, w1, w2⟩⟩
def W55 (x : gB) : Prop := W45 x.Runs ∧ W40 x.At ∧ W53 x.Tree
theorem shp55 {n : Nat} {x : List AV} (h : fD Try.prog (n + 5) 55 x) : ∃ e : gB, x = gB.enc e ∧ W55 e := by
  obtain ⟨_, _, rfl, h0, _, _, rfl, h1, _, _, rfl, h2, rfl⟩ := pL (n := n + 4) Try.underlying55 h
  obtain ⟨e0, rfl, w0⟩ := shp45 (n := n + 0) h0
  obtain ⟨e1, rfl, w1⟩ := zcY (n := n + 2) h1
  obtain ⟨e2, rfl, w2⟩ := shp53 (n := n + 0) h2
  exact ⟨⟨e0, e1, e2⟩, rfl, ⟨w0, w1, w2⟩⟩
def W57 (x : mB) : Prop := W4 x.Some ∧ W9 x.Last ∧ W4 x.Bottom
theorem shp57 {n : Nat} {x : List AV} (h : fD Try.prog (n + 2) 57 x) : ∃ e : mB, x = mB.enc e ∧ W57 e := by
  obtain ⟨_, _, rfl, h0, _, _, rfl, h1, _, _, rfl, h2, rfl⟩ := pL (n := n + 1) Try.underlying57 h
  obtain ⟨e0, rfl, w0⟩ := nZ (n := n + 0) h0
  obtain ⟨e1, rfl, w1⟩ := dZ (n := n + 0) h1
  obtain ⟨e2, rfl, w2⟩ := nZ (n := n + 0) h2
  exact ⟨⟨e0, e1, e2⟩, rfl, ⟨w0, w1, w2⟩⟩
def W59 (x : pB) : Prop := W55 x.Merge ∧ W57 x.Shadow ∧ W39 x.Out ∧ W2 x.Steps
theorem shp59 {n : Nat} {x : List AV} (h : fD Try.prog (n + 6) 59 x) : ∃ e : pB, x = pB.enc e ∧ W59 e := by
  obtain ⟨_, _, rfl, h0, _, _, rfl, h1, _, _, rfl, h2, _, _, rfl, h3, rfl⟩ := pL (n := n + 5) Try.underlying59 h
  obtain ⟨e0, rfl, w0⟩ := shp55 (n := n + 0) h0
  obtain ⟨e1, rfl, w1⟩ := shp57 (n := n + 3) h1
  obtain ⟨e2, rfl, w2⟩ := zaQ (n := n + 2) h2
  obtain ⟨e3, rfl, w3⟩ := shp2 (n := n + 4) h3
  exact ⟨⟨e0, e1, e2, e3⟩, rfl, ⟨w0, w1, w2, w3⟩⟩
def W61 (x : xA) : Prop := W3 x.Level ∧ W59 x.Work
theorem shp61 {n : Nat} {x : List AV} (h : fD Try.prog (n + 7) 61 x) : ∃ e : xA, x = xA.enc e ∧ W61 e := by
  obtain ⟨_, _, rfl, h0, _, _, rfl, h1, rfl⟩ := pL (n := n + 6) Try.underlying61 h
  obtain ⟨e0, rfl, w0⟩ := gS (n := n + 5) h0
  obtain ⟨e1, rfl, w1⟩ := shp59 (n := n + 0) h1
  exact ⟨⟨e0, e1⟩, rfl, ⟨w0, w1⟩⟩
def W28 (x : List xA) : Prop := x.length ≤ maxLen ∧ ∀ e ∈ x, W61 e
theorem zfc : Try.prog.cellsOf 61 = 11 := by kernel_rfl
theorem shp28 {n : Nat} {x : List AV} (h : fD Try.prog (n + 8) 28 x) : ∃ e : List xA, x = (wA 11 xA.enc) e ∧ W28 e := by
  obtain ⟨es, rfl, hl, h⟩ := xQ (n := n + 7) Try.underlying28 h
  obtain ⟨l, rfl, hw⟩ := rP fun y hy => shp61 (n := n) (h y hy)
  exact ⟨l, by rw [zfc]; rfl, by simpa using hl, hw⟩
def W30 (x : bB) : Prop := W24 x.Levels ∧ W28 x.Jobs ∧ W3 x.NextId
theorem shp30 {n : Nat} {x : List AV} (h : fD Try.prog (n + 9) 30 x) : ∃ e : bB, x = bB.enc e ∧ W30 e := by
  obtain ⟨_, _, rfl, h0, _, _, rfl, h1, _, _, rfl, h2, rfl⟩ := pL (n := n + 8) Try.underlying30 h
  obtain ⟨e0, rfl, w0⟩ := shp24 (n := n + 0) h0
  obtain ⟨e1, rfl, w1⟩ := shp28 (n := n + 0) h1
  obtain ⟨e2, rfl, w2⟩ := gS (n := n + 7) h2
  exact ⟨⟨e0, e1, e2⟩, rfl, ⟨w0, w1, w2⟩⟩
def W63 (x : fE) : Prop := W5 x.e0 ∧ W5 x.e1
theorem shp63 {n : Nat} {x : List AV} (h : fD Try.prog (n + 2) 63 x) : ∃ e : fE, x = fE.enc e ∧ W63 e := by
  obtain ⟨_, _, rfl, h0, _, _, rfl, h1, rfl⟩ := zl8 (n := n + 1) Try.underlying63 h
  obtain ⟨e0, rfl, w0⟩ := shp5 (n := n + 0) h0
  obtain ⟨e1, rfl, w1⟩ := shp5 (n := n + 0) h1
  exact ⟨⟨e0, e1⟩, rfl, ⟨w0, w1⟩⟩
def zem (f : FuncId) (args : List AV) : Prop := ∃ blks, lB Try.prog f args (.bool true) blks
theorem plain3 : sO Try.prog 2 3 = true := by kernel_rfl
theorem zmU : sO Try.prog 10 30 = true := by kernel_rfl
theorem zh2 : sO Try.prog 3 63 = true := by kernel_rfl
end Go.Proofs.Ytnlggkiekcpahaa
