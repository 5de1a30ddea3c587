/- A text of the proof. -/
import Derived.Test.YtjmdbbhkgnlmmaaRows
import Derived.Test.YtjmdbbhkgnlmmaaEAmZe
import Derived.Test.YtjmdbbhkgnlmmaaEGp
import Derived.Test.YtjmdbbhkgnlmmaaEGt
import Derived.ProofKit
import Derived.Carry
set_option linter.unusedSimpArgs false
set_option linter.unusedVariables false
namespace Go.Proofs.Ytjmdbbhkgnlmmaa
open Go.ChangeShapes Go.WideShapes Go.ChangeAt Go.RowKit Go.AM
theorem Try.own : ownKnob Try.prog.godebug = none := by kernel_rfl
theorem Try.laidOut : laidOutB Try.prog = true := by kernel_rfl
open Go.T
set_option maxRecDepth 100000
def W9 (x : List UInt8) : Prop := x.length ≤ maxLen
theorem shp9 {n : Nat} {x : List AV} (h : Shp Try.prog (n + 1) 9 x) : ∃ e : List UInt8, x = encStr e ∧ W9 e := by
  obtain ⟨b, rfl, hb⟩ := shp_string (n := n) Try.underlying9 h
  exact ⟨b, rfl, hb⟩
def W4 (x : Bool) : Prop := True
theorem shp4 {n : Nat} {x : List AV} (h : Shp Try.prog (n + 1) 4 x) : ∃ e : Bool, x = encBool e ∧ W4 e := by
  obtain ⟨b, rfl⟩ := shp_bool (n := n) Try.underlying4 h
  exact ⟨b, rfl, trivial⟩
def W2 (x : Int) : Prop := (Lit.int .i64 x).wf = true
theorem shp2 {n : Nat} {x : List AV} (h : Shp Try.prog (n + 1) 2 x) : ∃ e : Int, x = (encInt .i64) e ∧ W2 e := by
  obtain ⟨b, rfl, hb⟩ := shp_int (n := n) Try.underlying2 h
  exact ⟨b, rfl, hb⟩
def W61 (x : TApiEntry) : Prop := W9 x.Key ∧ W9 x.Val ∧ W4 x.Dead ∧ W2 x.Seq
theorem shp61 {n : Nat} {x : List AV} (h : Shp Try.prog (n + 2) 61 x) : ∃ e : TApiEntry, x = TApiEntry.enc e ∧ W61 e := by
  obtain ⟨_, _, rfl, h0, _, _, rfl, h1, _, _, rfl, h2, _, _, rfl, h3, rfl⟩ := shp_struct (n := n + 1) Try.underlying61 h
  obtain ⟨e0, rfl, w0⟩ := shp9 (n := n + 0) h0
  obtain ⟨e1, rfl, w1⟩ := shp9 (n := n + 0) h1
  obtain ⟨e2, rfl, w2⟩ := shp4 (n := n + 0) h2
  obtain ⟨e3, rfl, w3⟩ := shp2 (n := n + 0) h3
  exact ⟨⟨e0, e1, e2, e3⟩, rfl, ⟨w0, w1, w2, w3⟩⟩
def W33 (x : List TApiEntry) : Prop := x.length ≤ maxLen ∧ ∀ e ∈ x, W61 e
theorem cellsN61 : Try.prog.cellsOf 61 = 4 := by kernel_rfl
theorem shp33 {n : Nat} {x : List AV} (h : Shp Try.prog (n + 3) 33 x) : ∃ e : List TApiEntry, x = (encSl 4 TApiEntry.enc) e ∧ W33 e := by
  obtain ⟨es, rfl, hl, h⟩ := shp_slice (n := n + 2) Try.underlying33 h
  obtain ⟨l, rfl, hw⟩ := list_of fun y hy => shp61 (n := n) (h y hy)
  exact ⟨l, by rw [cellsN61]; rfl, by simpa using hl, hw⟩
def W22 (x : List (List TApiEntry)) : Prop := x.length ≤ maxLen ∧ ∀ e ∈ x, W33 e
theorem cellsN33 : Try.prog.cellsOf 33 = 1 := by kernel_rfl
theorem shp22 {n : Nat} {x : List AV} (h : Shp Try.prog (n + 4) 22 x) : ∃ e : List (List TApiEntry), x = (encSl 1 (encSl 4 TApiEntry.enc)) e ∧ W22 e := by
  obtain ⟨es, rfl, hl, h⟩ := shp_slice (n := n + 3) Try.underlying22 h
  obtain ⟨l, rfl, hw⟩ := list_of fun y hy => shp33 (n := n) (h y hy)
  exact ⟨l, by rw [cellsN33]; rfl, by simpa using hl, hw⟩
def W3 (x : Int) : Prop := (Lit.int .i64 x).wf = true
theorem shp3 {n : Nat} {x : List AV} (h : Shp Try.prog (n + 1) 3 x) : ∃ e : Int, x = (encInt .i64) e ∧ W3 e := by
  obtain ⟨b, rfl, hb⟩ := shp_int (n := n) Try.underlying3 h
  exact ⟨b, rfl, hb⟩
def W25 (x : List Int) : Prop := x.length ≤ maxLen ∧ ∀ e ∈ x, W3 e
theorem cellsN3 : Try.prog.cellsOf 3 = 1 := by kernel_rfl
theorem shp25 {n : Nat} {x : List AV} (h : Shp Try.prog (n + 2) 25 x) : ∃ e : List Int, x = (encSl 1 (encInt .i64)) e ∧ W25 e := by
  obtain ⟨es, rfl, hl, h⟩ := shp_slice (n := n + 1) Try.underlying25 h
  obtain ⟨l, rfl, hw⟩ := list_of fun y hy => shp3 (n := n) (h y hy)
  exact ⟨l, by rw [cellsN3]; rfl, by simpa using hl, hw⟩
def W71 (x : TApiLsKey) : Prop := W9 x.Key ∧ W4 x.Done
theorem shp71 {n : Nat} {x : List AV} (h : Shp Try.prog (n + 2) 71 x) : ∃ e : TApiLsKey, x = TApiLsKey.enc e ∧ W71 e := by
  obtain ⟨_, _, rfl, h0, _, _, rfl, h1, rfl⟩ := shp_struct (n := n + 1) Try.underlying71 h
  obtain ⟨e0, rfl, w0⟩ := shp9 (n := n + 0) h0
  obtain ⟨e1, rfl, w1⟩ := shp4 (n := n + 0) h1
  exact ⟨⟨e0, e1⟩, rfl, ⟨w0, w1⟩⟩
def W26 (x : List TApiLsKey) : Prop := x.length ≤ maxLen ∧ ∀ e ∈ x, W71 e
theorem cellsN71 : Try.prog.cellsOf 71 = 2 := by kernel_rfl
theorem shp26 {n : Nat} {x : List AV} (h : Shp Try.prog (n + 3) 26 x) : ∃ e : List TApiLsKey, x = (encSl 2 TApiLsKey.enc) e ∧ W26 e := by
  obtain ⟨es, rfl, hl, h⟩ := shp_slice (n := n + 2) Try.underlying26 h
  obtain ⟨l, rfl, hw⟩ := list_of fun y hy => shp71 (n := n) (h y hy)
  exact ⟨l, by rw [cellsN71]; rfl, by simpa using hl, hw⟩
def W28 (x : TApiLsTree) : Prop := W26 x.Keys ∧ W25 x.Lose ∧ W3 x.Win
theorem shp28 {n : Nat} {x : List AV} (h : Shp Try.prog (n + 4) 28 x) : ∃ e : TApiLsTree, x = TApiLsTree.enc e ∧ W28 e := by
  obtain ⟨_, _, rfl, h0, _, _, rfl, h1, _, _, rfl, h2, rfl⟩ := shp_struct (n := n + 3) Try.underlying28 h
  obtain ⟨e0, rfl, w0⟩ := shp26 (n := n + 0) h0
  obtain ⟨e1, rfl, w1⟩ := shp25 (n := n + 1) h1
  obtain ⟨e2, rfl, w2⟩ := shp3 (n := n + 2) h2
  exact ⟨⟨e0, e1, e2⟩, rfl, ⟨w0, w1, w2⟩⟩
def W30 (x : TApiMgState) : Prop := W22 x.Runs ∧ W25 x.At ∧ W28 x.Tree
theorem shp30 {n : Nat} {x : List AV} (h : Shp Try.prog (n + 5) 30 x) : ∃ e : TApiMgState, x = TApiMgState.enc e ∧ W30 e := by
  obtain ⟨_, _, rfl, h0, _, _, rfl, h1, _, _, rfl, h2, rfl⟩ := shp_struct (n := n + 4) Try.underlying30 h
  obtain ⟨e0, rfl, w0⟩ := shp22 (n := n + 0) h0
  obtain ⟨e1, rfl, w1⟩ := shp25 (n := n + 2) h1
  obtain ⟨e2, rfl, w2⟩ := shp28 (n := n + 0) h2
  exact ⟨⟨e0, e1, e2⟩, rfl, ⟨w0, w1, w2⟩⟩
def W32 (x : TApiShState) : Prop := W4 x.Some ∧ W9 x.Last ∧ W4 x.Bottom
theorem shp32 {n : Nat} {x : List AV} (h : Shp Try.prog (n + 2) 32 x) : ∃ e : TApiShState, x = TApiShState.enc e ∧ W32 e := by
  obtain ⟨_, _, rfl, h0, _, _, rfl, h1, _, _, rfl, h2, rfl⟩ := shp_struct (n := n + 1) Try.underlying32 h
  obtain ⟨e0, rfl, w0⟩ := shp4 (n := n + 0) h0
  obtain ⟨e1, rfl, w1⟩ := shp9 (n := n + 0) h1
  obtain ⟨e2, rfl, w2⟩ := shp4 (n := n + 0) h2
  exact ⟨⟨e0, e1, e2⟩, rfl, ⟨w0, w1, w2⟩⟩
def W35 (x : TApiSlState) : Prop := W30 x.Merge ∧ W32 x.Shadow ∧ W33 x.Out ∧ W2 x.Steps
theorem shp35 {n : Nat} {x : List AV} (h : Shp Try.prog (n + 6) 35 x) : ∃ e : TApiSlState, x = TApiSlState.enc e ∧ W35 e := by
  obtain ⟨_, _, rfl, h0, _, _, rfl, h1, _, _, rfl, h2, _, _, rfl, h3, rfl⟩ := shp_struct (n := n + 5) Try.underlying35 h
  obtain ⟨e0, rfl, w0⟩ := shp30 (n := n + 0) h0
  obtain ⟨e1, rfl, w1⟩ := shp32 (n := n + 3) h1
  obtain ⟨e2, rfl, w2⟩ := shp33 (n := n + 2) h2
  obtain ⟨e3, rfl, w3⟩ := shp2 (n := n + 4) h3
  exact ⟨⟨e0, e1, e2, e3⟩, rfl, ⟨w0, w1, w2, w3⟩⟩
def W5 (x : Int) : Prop := (Lit.int .u8 x).wf = true
theorem shp5 {n : Nat} {x : List AV} (h : Shp Try.prog (n + 1) 5 x) : ∃ e : Int, x = (encInt .u8) e ∧ W5 e := by
  obtain ⟨b, rfl, hb⟩ := shp_int (n := n) Try.underlying5 h
  exact ⟨b, rfl, hb⟩
def W54 (x : T2Uint8) : Prop := W5 x.e0 ∧ W5 x.e1
theorem shp54 {n : Nat} {x : List AV} (h : Shp Try.prog (n + 2) 54 x) : ∃ e : T2Uint8, x = T2Uint8.enc e ∧ W54 e := by
  obtain ⟨_, _, rfl, h0, _, _, rfl, h1, rfl⟩ := shp_array (n := n + 1) Try.underlying54 h
  obtain ⟨e0, rfl, w0⟩ := shp5 (n := n + 0) h0
  obtain ⟨e1, rfl, w1⟩ := shp5 (n := n + 0) h1
  exact ⟨⟨e0, e1⟩, rfl, ⟨w0, w1⟩⟩
def wcall (f : FuncId) (args : List AV) : Prop := ∃ blks, PCall Try.prog f args (.bool true) blks
theorem plain35 : plainB Try.prog 7 35 = true := by kernel_rfl
theorem plain54 : plainB Try.prog 3 54 = true := by kernel_rfl
end Go.Proofs.Ytjmdbbhkgnlmmaa
