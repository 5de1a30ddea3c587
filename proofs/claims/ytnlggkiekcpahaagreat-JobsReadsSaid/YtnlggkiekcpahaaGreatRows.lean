/-
  No cell of these rows narrows 'for every input' (looked for: loops, veiled, ifaces, maps, wideKeys, modest, calm, conditions, laid).
  DERIVED. THE GIVEN ROWS OF THIS SEAT. 3 by the template 'for every input the law returns true; each argument reads behind the call as it read before'; 0 by the template 'total and deterministic' (their statements: YtnlggkiekcpahaaGreatTotals.lean).
  GIVEN WITH THE SEED: the statements are not yours to turn. If you find one false, say at which input.
  Laid BY PROGRAM, IN A SANDBOX (cutbox-rows.mjs): the forced cells as the released guide's own fill.sh prints them over the translation a7ebef2a44aff7f6… (all of the seat's roots in one cut). By AI agents, Wed Nov 11 2026. No macro, syntax, notation, axiom, sorry.
-/
import Derived.Test.YtnlggkiekcpahaaGreatChecked
import GoSem.Claim
import GoSem.ClaimJoined
import GoSem.ClaimMapViews
import Derived.JoinedTies
import Derived.KernelRfl
namespace Go.Proofs.YtnlggkiekcpahaaGreat
/- THE CELL 'sum', in the pinned program and in every row, IS THE sha256 OF THE DUMP (.gsa) THAT YtnlggkiekcpahaaGreatProg.lean LOADS. Nothing in Lean hashes anything: it is a label: what it is worth is what the hold of that sum in a sandbox is worth. -/
noncomputable def Tryz.pinned : Pinned := { name := "ytnlggkiekcpahaagreat", sum := "a7ebef2a44aff7f6c4f69782426ae2608b77bc8653e997b1d0d891f8fcfa6290", checked := Tryz.checked }
namespace Rows
def none {H : Type} : Left H := { results := [], args := [] }

/-- 'bookendlaw16.JobsReads': WHATEVER THE INPUT: true; the input reads as it did. -/
def jobsReadsSpec : ChangeSpec := { name := "jobsReads", fn := fun _ => fun
  | [d1, d2, d3] => { results := [.lit (.bool true)], args := [d1, d2, d3] }
  | _ => none }
def jobsReadsRow : OpenClaim := { program := "ytnlggkiekcpahaagreat", sum := "a7ebef2a44aff7f6c4f69782426ae2608b77bc8653e997b1d0d891f8fcfa6290", func := "bookend/bookendlaw16.JobsReads", spec := "jobsReads", unfollowed := true, recurses := true, apart := false }
def JobsReadsSaid : Prop := jobsReadsRow.holds Tryz.pinned (OpenSpec.ofChange jobsReadsSpec)

/-- ITS FALSE NEIGHBOUR: 'it returns false'. Refute it at one input. -/
def jobsReadsWrong : ChangeSpec := { name := "jobsReads", fn := fun _ => fun
  | [d1, d2, d3] => { results := [.lit (.bool false)], args := [d1, d2, d3] }
  | _ => none }
def JobsReadsWrongFalsely : Prop := jobsReadsRow.holds Tryz.pinned (OpenSpec.ofChange jobsReadsWrong)

/-- 'bookendlaw16.JobsChecks': WHATEVER THE INPUT: true; the input reads as it did. -/
def jobsChecksSpec : ChangeSpec := { name := "jobsChecks", fn := fun _ => fun
  | [d1, d2] => { results := [.lit (.bool true)], args := [d1, d2] }
  | _ => none }
def jobsChecksRow : OpenClaim := { program := "ytnlggkiekcpahaagreat", sum := "a7ebef2a44aff7f6c4f69782426ae2608b77bc8653e997b1d0d891f8fcfa6290", func := "bookend/bookendlaw16.JobsChecks", spec := "jobsChecks", unfollowed := true, recurses := true, apart := false }
def JobsChecksSaid : Prop := jobsChecksRow.holds Tryz.pinned (OpenSpec.ofChange jobsChecksSpec)

/-- ITS FALSE NEIGHBOUR: 'it returns false'. Refute it at one input. -/
def jobsChecksWrong : ChangeSpec := { name := "jobsChecks", fn := fun _ => fun
  | [d1, d2] => { results := [.lit (.bool false)], args := [d1, d2] }
  | _ => none }
def JobsChecksWrongFalsely : Prop := jobsChecksRow.holds Tryz.pinned (OpenSpec.ofChange jobsChecksWrong)

/-- 'bookendlaw16.JobsMakes': WHATEVER THE INPUT: true; the input reads as it did. -/
def jobsMakesSpec : ChangeSpec := { name := "jobsMakes", fn := fun _ => fun
  | [d1, d2, d3] => { results := [.lit (.bool true)], args := [d1, d2, d3] }
  | _ => none }
def jobsMakesRow : OpenClaim := { program := "ytnlggkiekcpahaagreat", sum := "a7ebef2a44aff7f6c4f69782426ae2608b77bc8653e997b1d0d891f8fcfa6290", func := "bookend/bookendlaw16.JobsMakes", spec := "jobsMakes", unfollowed := true, recurses := true, apart := false }
def JobsMakesSaid : Prop := jobsMakesRow.holds Tryz.pinned (OpenSpec.ofChange jobsMakesSpec)

/-- ITS FALSE NEIGHBOUR: 'it returns false'. Refute it at one input. -/
def jobsMakesWrong : ChangeSpec := { name := "jobsMakes", fn := fun _ => fun
  | [d1, d2, d3] => { results := [.lit (.bool false)], args := [d1, d2, d3] }
  | _ => none }
def JobsMakesWrongFalsely : Prop := jobsMakesRow.holds Tryz.pinned (OpenSpec.ofChange jobsMakesWrong)

/- THE SECOND FORM. 'bulk': how many values and letters a reading holds, each counted each time it is reached (what is shared counts as often as it is met; a slice's spare places count too). A statement '..UptoSaid' is the law's where the arguments, and the package variables that the reading takes, are together of bulk at most 1048576: NARROWER than '..Said'. Prove '..Said' where nothing that the law and all that it calls make is longer than what came in: it says more and counts as full. Else prove '..UptoSaid'. A law counts once. -/
mutual
def uptoBulk {H : Type} : DataW H → Nat
  | .lit (.string bytes) => bytes.length + 1
  | .lit _ => 1
  | .nil => 1
  | .ptr d => uptoBulk d + 1
  | .slice elems spare => uptoBulkAll elems + uptoBulkAll spare + 1
  | .agg parts => uptoBulkAll parts + 1
  | .iface _ d => uptoBulk d + 1
  | .map entries => uptoBulkEntries entries + 1
  | .held _ => 1
def uptoBulkAll {H : Type} : List (DataW H) → Nat
  | [] => 0
  | d :: r => uptoBulk d + uptoBulkAll r
def uptoBulkEntries {H : Type} : List (Lit × DataW H) → Nat
  | [] => 0
  | x :: r => uptoBulkEntry x + uptoBulkEntries r
def uptoBulkEntry {H : Type} : Lit × DataW H → Nat
  | (.string bytes, d) => bytes.length + uptoBulk d + 1
  | (_, d) => uptoBulk d + 1
 end
def uptoSmall : (H : Type) → List (DataW H) → Bool := fun _ ds => decide (uptoBulkAll ds ≤ 1048576)
def OpenSpec.upto (s : _root_.Go.ChangeSpec) : _root_.Go.OpenSpec := { _root_.Go.OpenSpec.ofChange s with cond := some uptoSmall }

/-- 'bookendlaw16.JobsReads', WHERE WHAT IT READS IS OF BULK AT MOST 1048576: true; the input reads as it did. -/
def jobsReadsUptoRow : OpenClaim := { program := "ytnlggkiekcpahaagreat", sum := "a7ebef2a44aff7f6c4f69782426ae2608b77bc8653e997b1d0d891f8fcfa6290", func := "bookend/bookendlaw16.JobsReads", spec := "jobsReads", unfollowed := true, recurses := true, apart := false, narrowed := true }
def JobsReadsUptoSaid : Prop := jobsReadsUptoRow.holds Tryz.pinned (OpenSpec.upto jobsReadsSpec)

/-- 'bookendlaw16.JobsChecks', WHERE WHAT IT READS IS OF BULK AT MOST 1048576: true; the input reads as it did. -/
def jobsChecksUptoRow : OpenClaim := { program := "ytnlggkiekcpahaagreat", sum := "a7ebef2a44aff7f6c4f69782426ae2608b77bc8653e997b1d0d891f8fcfa6290", func := "bookend/bookendlaw16.JobsChecks", spec := "jobsChecks", unfollowed := true, recurses := true, apart := false, narrowed := true }
def JobsChecksUptoSaid : Prop := jobsChecksUptoRow.holds Tryz.pinned (OpenSpec.upto jobsChecksSpec)

/-- 'bookendlaw16.JobsMakes', WHERE WHAT IT READS IS OF BULK AT MOST 1048576: true; the input reads as it did. -/
def jobsMakesUptoRow : OpenClaim := { program := "ytnlggkiekcpahaagreat", sum := "a7ebef2a44aff7f6c4f69782426ae2608b77bc8653e997b1d0d891f8fcfa6290", func := "bookend/bookendlaw16.JobsMakes", spec := "jobsMakes", unfollowed := true, recurses := true, apart := false, narrowed := true }
def JobsMakesUptoSaid : Prop := jobsMakesUptoRow.holds Tryz.pinned (OpenSpec.upto jobsMakesSpec)

end Rows
end Go.Proofs.YtnlggkiekcpahaaGreat
