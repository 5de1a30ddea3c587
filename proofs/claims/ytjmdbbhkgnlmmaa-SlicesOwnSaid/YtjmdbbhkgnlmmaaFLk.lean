/- A text of the proof. -/
import Derived.Test.YtjmdbbhkgnlmmaaRows
import Derived.Test.YtjmdbbhkgnlmmaaFAmZe
import Derived.Test.YtjmdbbhkgnlmmaaFGp
import Derived.Test.YtjmdbbhkgnlmmaaFGt
import Derived.ProofKit
import Derived.Carry
set_option linter.unusedSimpArgs false
set_option linter.unusedVariables false
namespace Go.Proofs.Ytjmdbbhkgnlmmaa
open Go.ChangeShapes Go.WideShapes Go.ChangeAt Go.RowKit Go.AM
theorem Try.own : ownKnob Try.prog.godebug = none := by kernel_rfl
theorem Try.laidOut : laidOutB Try.prog = true := by kernel_rfl
open Go.T
set_option maxRecDepth 100000
def W9 (x : List UInt8) : Prop := x.length ≤ maxLen
theorem shp9 {n : Nat} {x : List AV} (h : Shp Try.prog (n + 1) 9 x) : ∃ e : List UInt8, x = encStr e ∧ W9 e := by
  obtain ⟨b, rfl, hb⟩ := shp_string (n := n) Try.underlying9 h
  exact ⟨b, rfl, hb⟩
def W4 (x : Bool) : Prop := True
theorem shp4 {n : Nat} {x : List AV} (h : Shp Try.prog (n + 1) 4 x) : ∃ e : Bool, x = encBool e ∧ W4 e := by
  obtain ⟨b, rfl⟩ := shp_bool (n := n) Try.underlying4 h
  exact ⟨b, rfl, trivial⟩
def W2 (x : Int) : Prop := (Lit.int .i64 x).wf = true
theorem shp2 {n : Nat} {x : List AV} (h : Shp Try.prog (n + 1) 2 x) : ∃ e : Int, x = (encInt .i64) e ∧ W2 e := by
  obtain ⟨b, rfl, hb⟩ := shp_int (n := n) Try.underlying2 h
  exact ⟨b, rfl, hb⟩
def W61 (x : TApiEntry) : Prop := W9 x.Key ∧ W9 x.Val ∧ W4 x.Dead ∧ W2 x.Seq
theorem shp61 {n : Nat} {x : List AV} (h : Shp Try.prog (n + 2) 61 x) : ∃ e : TApiEntry, x = TApiEntry.enc e ∧ W61 e := by
  obtain ⟨_, _, rfl, h0, _, _, rfl, h1, _, _, rfl, h2, _, _, rfl, h3, rfl⟩ := shp_struct (n := n + 1) Try.underlying61 h
  obtain ⟨e0, rfl, w0⟩ := shp9 (n := n + 0) h0
  obtain ⟨e1, rfl, w1⟩ := shp9 (n := n + 0) h1
  obtain ⟨e2, rfl, w2⟩ := shp4 (n := n + 0) h2
  obtain ⟨e3, rfl, w3⟩ := shp2 (n := n + 0) h3
  exact ⟨⟨e0, e1, e2, e3⟩, rfl, ⟨w0, w1, w2, w3⟩⟩
def W33 (x : List TApiEntry) : Prop := x.length ≤ maxLen ∧ ∀ e ∈ x, W61 e
theorem cellsN61 : Try.prog.cellsOf 61 = 4 := by kernel_rfl
theorem shp33 {n : Nat} {x : List AV} (h : Shp Try.prog (n + 3) 33 x) : ∃ e : List TApiEntry, x = (encSl 4 TApiEntry.enc) e ∧ W33 e := by
  obtain ⟨es, rfl, hl, h⟩ := shp_slice (n := n + 2) Try.underlying33 h
  obtain ⟨l, rfl, hw⟩ := list_of fun y hy => shp61 (n := n) (h y hy)
  exact ⟨l, by rw [cellsN61]; rfl, by simpa using hl, hw⟩
def W22 (x : List (List TApiEntry)) : Prop := x.length ≤ maxLen ∧ ∀ e ∈ x, W33 e
theorem cellsN33 : Try.prog.cellsOf 33 = 1 := by kernel_rfl
theorem shp22 {n : Nat} {x : List AV} (h : Shp Try.prog (n + 4) 22 x) : ∃ e : List (List TApiEntry), x = (encSl 1 (encSl 4 TApiEntry.enc)) e ∧ W22 e := by
  obtain ⟨es, rfl, hl, h⟩ := shp_slice (n := n + 3) Try.underlying22 h
  obtain ⟨l, rfl, hw⟩ := list_of fun y hy => shp33 (n := n) (h y hy)
  exact ⟨l, by rw [cellsN33]; rfl, by simpa using hl, hw⟩
def W5 (x : Int) : Prop := (Lit.int .u8 x).wf = true
theorem shp5 {n : Nat} {x : List AV} (h : Shp Try.prog (n + 1) 5 x) : ∃ e : Int, x = (encInt .u8) e ∧ W5 e := by
  obtain ⟨b, rfl, hb⟩ := shp_int (n := n) Try.underlying5 h
  exact ⟨b, rfl, hb⟩
def W54 (x : T2Uint8) : Prop := W5 x.e0 ∧ W5 x.e1
theorem shp54 {n : Nat} {x : List AV} (h : Shp Try.prog (n + 2) 54 x) : ∃ e : T2Uint8, x = T2Uint8.enc e ∧ W54 e := by
  obtain ⟨_, _, rfl, h0, _, _, rfl, h1, rfl⟩ := shp_array (n := n + 1) Try.underlying54 h
  obtain ⟨e0, rfl, w0⟩ := shp5 (n := n + 0) h0
  obtain ⟨e1, rfl, w1⟩ := shp5 (n := n + 0) h1
  exact ⟨⟨e0, e1⟩, rfl, ⟨w0, w1⟩⟩
def wcall (f : FuncId) (args : List AV) : Prop := ∃ blks, PCall Try.prog f args (.bool true) blks
theorem plain4 : plainB Try.prog 2 4 = true := by kernel_rfl
theorem plain22 : plainB Try.prog 5 22 = true := by kernel_rfl
theorem plain54 : plainB Try.prog 3 54 = true := by kernel_rfl
end Go.Proofs.Ytjmdbbhkgnlmmaa
