/-
  NARROWER THAN 'FOR EVERY INPUT', by the rows' own cells (each row's printed sentence says how): StatsBounds: laid.
  DERIVED. THE GIVEN ROWS OF THIS SEAT. 1 by the template 'for every input the law returns true; each argument reads behind the call as it read before'; 0 by the template 'total and deterministic' (their statements: YtaeifdlkolfdjaaGreatDoorTotals.lean).
  GIVEN WITH THE SEED: the statements are not yours to turn. If you find one false, say at which input.
  Laid BY PROGRAM, IN A SANDBOX (cutbox-rows.mjs): the forced cells as the released guide's own fill.sh prints them over the translation 8d5175ed0620d22a… (all of the seat's roots in one cut). By AI agents, Wed Nov 11 2026. No macro, syntax, notation, axiom, sorry.
-/
import Derived.Test.YtaeifdlkolfdjaaGreatDoorChecked
import GoSem.Claim
import GoSem.ClaimJoined
import GoSem.ClaimMapViews
import Derived.JoinedTies
import Derived.KernelRfl
namespace Go.Proofs.YtaeifdlkolfdjaaGreatDoor
/- THE CELL 'sum', in the pinned program and in every row, IS THE sha256 OF THE DUMP (.gsa) THAT YtaeifdlkolfdjaaGreatDoorProg.lean LOADS. Nothing in Lean hashes anything: it is a label: what it is worth is what the hold of that sum in a sandbox is worth. -/
noncomputable def Tryz.pinned : Pinned := { name := "ytaeifdlkolfdjaagreatdoor", sum := "8d5175ed0620d22a8d438b06be6248037ea0a0a12cda8020d119e1e7efaf1449", checked := Tryz.checked }
namespace Rows
def none {H : Type} : Left H := { results := [], args := [] }

/- WHAT THE LISTED PACKAGE-LEVEL VARIABLES READ AS WHEN THE CALL BEGINS. Each datum BY PROGRAM (the guide's laid-datum.mjs) off the statement by which the dump's own 'gosem.cut.vars' lays the variable. In a bare row this is a premise. The card (YtaeifdlkolfdjaaGreatDoorCards.lean) ties it to the program's text. -/
def laid_errors_errorType {H : Type} : DataW H := .iface "internal/reflectlite.rtype" (.agg [.ptr (.lit (.string [101, 114, 114, 111, 114]))])
def laid_bookend_ops_table {H : Type} : DataW H := .agg [.agg [.lit (.string []), .lit (.string [])], .agg [.lit (.string [112, 117, 116]), .lit (.string [107, 118])], .agg [.lit (.string [100, 101, 108]), .lit (.string [107])], .agg [.lit (.string [98, 97, 116, 99, 104]), .lit (.string [119])], .agg [.lit (.string [103, 101, 116]), .lit (.string [104, 107])], .agg [.lit (.string [102, 108, 111, 111, 114]), .lit (.string [104, 107])], .agg [.lit (.string [99, 101, 105, 108, 105, 110, 103]), .lit (.string [104, 107])], .agg [.lit (.string [99, 111, 117, 110, 116]), .lit (.string [104, 114])], .agg [.lit (.string [112, 105, 110]), .lit (.string [])], .agg [.lit (.string [117, 110, 112, 105, 110]), .lit (.string [104])], .agg [.lit (.string [111, 112, 101, 110]), .lit (.string [104, 114])], .agg [.lit (.string [110, 101, 120, 116]), .lit (.string [104])], .agg [.lit (.string [112, 114, 101, 118]), .lit (.string [104])], .agg [.lit (.string [115, 104, 117, 116]), .lit (.string [104])], .agg [.lit (.string [100, 105, 102, 102]), .lit (.string [104, 111])], .agg [.lit (.string [119, 111, 114, 107]), .lit (.string [])], .agg [.lit (.string [99, 111, 109, 112, 97, 99, 116]), .lit (.string [])], .agg [.lit (.string [115, 116, 97, 116, 115]), .lit (.string [])]]
def laid_bookend_debt_errSettled {H : Type} : DataW H := .iface "*errors.errorString" (.ptr (.agg [.lit (.string [115, 101, 116, 116, 108, 101, 100])]))
def laid_bookend_store_errBusy {H : Type} : DataW H := .iface "*errors.errorString" (.ptr (.agg [.lit (.string [98, 117, 115, 121])]))

/-- 'bookendlaw31.StatsBounds': WHATEVER THE INPUT: true; the input reads as it did. -/
def statsBoundsSpec : ChangeSpec := { name := "statsBounds", fn := fun _ => fun
  | [d] => { results := [.lit (.bool true)], args := [d] }
  | _ => none }
def statsBoundsRow : OpenClaim := { program := "ytaeifdlkolfdjaagreatdoor", sum := "8d5175ed0620d22a8d438b06be6248037ea0a0a12cda8020d119e1e7efaf1449", func := "bookend/bookendlaw31.StatsBounds", spec := "statsBounds", inPlace := ["internal/abi.NoEscape", "internal/reflectlite.ValueOf", "(internal/reflectlite.Value).Type", "(internal/reflectlite.Value).IsNil", "internal/reflectlite.TypeOf", "(internal/reflectlite.Value).Elem", "(internal/reflectlite.Value).Set", "internal/bytealg.abigen_runtime_cmpstring"], unfollowed := true, recurses := true, named := ["bookend/store.errBusy", "bookend/ops.table", "bookend/debt.errSettled", "errors.errorType"], apart := false, laid := [("errors.errorType", laid_errors_errorType), ("bookend/ops.table", laid_bookend_ops_table), ("bookend/debt.errSettled", laid_bookend_debt_errSettled), ("bookend/store.errBusy", laid_bookend_store_errBusy)] }
def StatsBoundsSaid : Prop := statsBoundsRow.holds Tryz.pinned (OpenSpec.ofChange statsBoundsSpec)

/-- ITS FALSE NEIGHBOUR: 'it returns false'. Refute it at one input. -/
def statsBoundsWrong : ChangeSpec := { name := "statsBounds", fn := fun _ => fun
  | [d] => { results := [.lit (.bool false)], args := [d] }
  | _ => none }
def StatsBoundsWrongFalsely : Prop := statsBoundsRow.holds Tryz.pinned (OpenSpec.ofChange statsBoundsWrong)

/- THE SECOND FORM. 'bulk': how many values and letters a reading holds, each counted each time it is reached (what is shared counts as often as it is met; a slice's spare places count too). A statement '..UptoSaid' is the law's where the arguments, and the package variables that the reading takes, are together of bulk at most 1048576: NARROWER than '..Said'. Prove '..Said' where nothing that the law and all that it calls make is longer than what came in: it says more and counts as full. Else prove '..UptoSaid'. A law counts once. -/
mutual
def uptoBulk {H : Type} : DataW H → Nat
  | .lit (.string bytes) => bytes.length + 1
  | .lit _ => 1
  | .nil => 1
  | .ptr d => uptoBulk d + 1
  | .slice elems spare => uptoBulkAll elems + uptoBulkAll spare + 1
  | .agg parts => uptoBulkAll parts + 1
  | .iface _ d => uptoBulk d + 1
  | .map entries => uptoBulkEntries entries + 1
  | .held _ => 1
def uptoBulkAll {H : Type} : List (DataW H) → Nat
  | [] => 0
  | d :: r => uptoBulk d + uptoBulkAll r
def uptoBulkEntries {H : Type} : List (Lit × DataW H) → Nat
  | [] => 0
  | x :: r => uptoBulkEntry x + uptoBulkEntries r
def uptoBulkEntry {H : Type} : Lit × DataW H → Nat
  | (.string bytes, d) => bytes.length + uptoBulk d + 1
  | (_, d) => uptoBulk d + 1
 end
def uptoSmall : (H : Type) → List (DataW H) → Bool := fun _ ds => decide (uptoBulkAll ds ≤ 1048576)
def OpenSpec.upto (s : _root_.Go.ChangeSpec) : _root_.Go.OpenSpec := { _root_.Go.OpenSpec.ofChange s with cond := some uptoSmall }

/-- 'bookendlaw31.StatsBounds', WHERE WHAT IT READS IS OF BULK AT MOST 1048576: true; the input reads as it did. -/
def statsBoundsUptoRow : OpenClaim := { program := "ytaeifdlkolfdjaagreatdoor", sum := "8d5175ed0620d22a8d438b06be6248037ea0a0a12cda8020d119e1e7efaf1449", func := "bookend/bookendlaw31.StatsBounds", spec := "statsBounds", inPlace := ["internal/abi.NoEscape", "internal/reflectlite.ValueOf", "(internal/reflectlite.Value).Type", "(internal/reflectlite.Value).IsNil", "internal/reflectlite.TypeOf", "(internal/reflectlite.Value).Elem", "(internal/reflectlite.Value).Set", "internal/bytealg.abigen_runtime_cmpstring"], unfollowed := true, recurses := true, named := ["bookend/store.errBusy", "bookend/ops.table", "bookend/debt.errSettled", "errors.errorType"], apart := false, laid := [("errors.errorType", laid_errors_errorType), ("bookend/ops.table", laid_bookend_ops_table), ("bookend/debt.errSettled", laid_bookend_debt_errSettled), ("bookend/store.errBusy", laid_bookend_store_errBusy)], narrowed := true }
def StatsBoundsUptoSaid : Prop := statsBoundsUptoRow.holds Tryz.pinned (OpenSpec.upto statsBoundsSpec)

end Rows
end Go.Proofs.YtaeifdlkolfdjaaGreatDoor
