/-
  No cell of these rows narrows 'for every input' (looked for: loops, veiled, ifaces, maps, wideKeys, modest, calm, conditions, laid).
  DERIVED. THE GIVEN ROWS OF THIS SEAT. 6 by the template 'for every input the law returns true; each argument reads behind the call as it read before'; 0 by the template 'total and deterministic' (their statements: YtjmdbbhkgnlmmaaTotals.lean).
  GIVEN WITH THE SEED: the statements are not yours to turn. If you find one false, say at which input.
  Laid BY PROGRAM, IN A SANDBOX (cutbox-rows.mjs): the forced cells as the released guide's own fill.sh prints them over the translation 82abdb0132a79581… (all of the seat's roots in one cut). By AI agents, Wed Nov 11 2026. No macro, syntax, notation, axiom, sorry.
-/
import Derived.Test.YtjmdbbhkgnlmmaaChecked
import GoSem.Claim
import GoSem.ClaimJoined
import GoSem.ClaimMapViews
import Derived.JoinedTies
import Derived.KernelRfl
namespace Go.Proofs.Ytjmdbbhkgnlmmaa
/- THE CELL 'sum', in the pinned program and in every row, IS THE sha256 OF THE DUMP (.gsa) THAT YtjmdbbhkgnlmmaaProg.lean LOADS. Nothing in Lean hashes anything: it is a label: what it is worth is what the hold of that sum in a sandbox is worth. -/
noncomputable def Try.pinned : Pinned := { name := "ytjmdbbhkgnlmmaa", sum := "82abdb0132a795812d8705d81b420ff639dd6c52eeb1bebc9af4446621f64e56", checked := Try.checked }
namespace Rows
def none {H : Type} : Left H := { results := [], args := [] }

/-- 'bookendlaw13.SlicesBegins': WHATEVER THE INPUT: true; the input reads as it did. -/
def slicesBeginsSpec : ChangeSpec := { name := "slicesBegins", fn := fun _ => fun
  | [d1, d2] => { results := [.lit (.bool true)], args := [d1, d2] }
  | _ => none }
def slicesBeginsRow : OpenClaim := { program := "ytjmdbbhkgnlmmaa", sum := "82abdb0132a795812d8705d81b420ff639dd6c52eeb1bebc9af4446621f64e56", func := "bookend/bookendlaw13.SlicesBegins", spec := "slicesBegins", unfollowed := true, recurses := true, apart := false }
def SlicesBeginsSaid : Prop := slicesBeginsRow.holds Try.pinned (OpenSpec.ofChange slicesBeginsSpec)

/-- ITS FALSE NEIGHBOUR: 'it returns false'. Refute it at one input. -/
def slicesBeginsWrong : ChangeSpec := { name := "slicesBegins", fn := fun _ => fun
  | [d1, d2] => { results := [.lit (.bool false)], args := [d1, d2] }
  | _ => none }
def SlicesBeginsWrongFalsely : Prop := slicesBeginsRow.holds Try.pinned (OpenSpec.ofChange slicesBeginsWrong)

/-- 'bookendlaw13.SlicesStates': WHATEVER THE INPUT: true; the input reads as it did. -/
def slicesStatesSpec : ChangeSpec := { name := "slicesStates", fn := fun _ => fun
  | [d1, d2] => { results := [.lit (.bool true)], args := [d1, d2] }
  | _ => none }
def slicesStatesRow : OpenClaim := { program := "ytjmdbbhkgnlmmaa", sum := "82abdb0132a795812d8705d81b420ff639dd6c52eeb1bebc9af4446621f64e56", func := "bookend/bookendlaw13.SlicesStates", spec := "slicesStates", unfollowed := true, recurses := true, apart := false }
def SlicesStatesSaid : Prop := slicesStatesRow.holds Try.pinned (OpenSpec.ofChange slicesStatesSpec)

/-- ITS FALSE NEIGHBOUR: 'it returns false'. Refute it at one input. -/
def slicesStatesWrong : ChangeSpec := { name := "slicesStates", fn := fun _ => fun
  | [d1, d2] => { results := [.lit (.bool false)], args := [d1, d2] }
  | _ => none }
def SlicesStatesWrongFalsely : Prop := slicesStatesRow.holds Try.pinned (OpenSpec.ofChange slicesStatesWrong)

/-- 'bookendlaw13.SlicesCuts': WHATEVER THE INPUT: true; the input reads as it did. -/
def slicesCutsSpec : ChangeSpec := { name := "slicesCuts", fn := fun _ => fun
  | [d1, d2, d3] => { results := [.lit (.bool true)], args := [d1, d2, d3] }
  | _ => none }
def slicesCutsRow : OpenClaim := { program := "ytjmdbbhkgnlmmaa", sum := "82abdb0132a795812d8705d81b420ff639dd6c52eeb1bebc9af4446621f64e56", func := "bookend/bookendlaw13.SlicesCuts", spec := "slicesCuts", unfollowed := true, recurses := true, apart := false }
def SlicesCutsSaid : Prop := slicesCutsRow.holds Try.pinned (OpenSpec.ofChange slicesCutsSpec)

/-- ITS FALSE NEIGHBOUR: 'it returns false'. Refute it at one input. -/
def slicesCutsWrong : ChangeSpec := { name := "slicesCuts", fn := fun _ => fun
  | [d1, d2, d3] => { results := [.lit (.bool false)], args := [d1, d2, d3] }
  | _ => none }
def SlicesCutsWrongFalsely : Prop := slicesCutsRow.holds Try.pinned (OpenSpec.ofChange slicesCutsWrong)

/-- 'bookendlaw13.SlicesSums': WHATEVER THE INPUT: true; the input reads as it did. -/
def slicesSumsSpec : ChangeSpec := { name := "slicesSums", fn := fun _ => fun
  | [d1, d2] => { results := [.lit (.bool true)], args := [d1, d2] }
  | _ => none }
def slicesSumsRow : OpenClaim := { program := "ytjmdbbhkgnlmmaa", sum := "82abdb0132a795812d8705d81b420ff639dd6c52eeb1bebc9af4446621f64e56", func := "bookend/bookendlaw13.SlicesSums", spec := "slicesSums", unfollowed := true, recurses := true, apart := false }
def SlicesSumsSaid : Prop := slicesSumsRow.holds Try.pinned (OpenSpec.ofChange slicesSumsSpec)

/-- ITS FALSE NEIGHBOUR: 'it returns false'. Refute it at one input. -/
def slicesSumsWrong : ChangeSpec := { name := "slicesSums", fn := fun _ => fun
  | [d1, d2] => { results := [.lit (.bool false)], args := [d1, d2] }
  | _ => none }
def SlicesSumsWrongFalsely : Prop := slicesSumsRow.holds Try.pinned (OpenSpec.ofChange slicesSumsWrong)

/-- 'bookendlaw13.SlicesOutputs': WHATEVER THE INPUT: true; the input reads as it did. -/
def slicesOutputsSpec : ChangeSpec := { name := "slicesOutputs", fn := fun _ => fun
  | [d1, d2] => { results := [.lit (.bool true)], args := [d1, d2] }
  | _ => none }
def slicesOutputsRow : OpenClaim := { program := "ytjmdbbhkgnlmmaa", sum := "82abdb0132a795812d8705d81b420ff639dd6c52eeb1bebc9af4446621f64e56", func := "bookend/bookendlaw13.SlicesOutputs", spec := "slicesOutputs", unfollowed := true, recurses := true, apart := false }
def SlicesOutputsSaid : Prop := slicesOutputsRow.holds Try.pinned (OpenSpec.ofChange slicesOutputsSpec)

/-- ITS FALSE NEIGHBOUR: 'it returns false'. Refute it at one input. -/
def slicesOutputsWrong : ChangeSpec := { name := "slicesOutputs", fn := fun _ => fun
  | [d1, d2] => { results := [.lit (.bool false)], args := [d1, d2] }
  | _ => none }
def SlicesOutputsWrongFalsely : Prop := slicesOutputsRow.holds Try.pinned (OpenSpec.ofChange slicesOutputsWrong)

/-- 'bookendlaw13.SlicesOwn': WHATEVER THE INPUT: true; the input reads as it did. -/
def slicesOwnSpec : ChangeSpec := { name := "slicesOwn", fn := fun _ => fun
  | [d1, d2, d3] => { results := [.lit (.bool true)], args := [d1, d2, d3] }
  | _ => none }
def slicesOwnRow : OpenClaim := { program := "ytjmdbbhkgnlmmaa", sum := "82abdb0132a795812d8705d81b420ff639dd6c52eeb1bebc9af4446621f64e56", func := "bookend/bookendlaw13.SlicesOwn", spec := "slicesOwn", unfollowed := true, recurses := true, apart := false }
def SlicesOwnSaid : Prop := slicesOwnRow.holds Try.pinned (OpenSpec.ofChange slicesOwnSpec)

/-- ITS FALSE NEIGHBOUR: 'it returns false'. Refute it at one input. -/
def slicesOwnWrong : ChangeSpec := { name := "slicesOwn", fn := fun _ => fun
  | [d1, d2, d3] => { results := [.lit (.bool false)], args := [d1, d2, d3] }
  | _ => none }
def SlicesOwnWrongFalsely : Prop := slicesOwnRow.holds Try.pinned (OpenSpec.ofChange slicesOwnWrong)

/- THE SECOND FORM. 'bulk': how many values and letters a reading holds, each counted each time it is reached (what is shared counts as often as it is met; a slice's spare places count too). A statement '..UptoSaid' is the law's where the arguments, and the package variables that the reading takes, are together of bulk at most 1048576: NARROWER than '..Said'. Prove '..Said' where nothing that the law and all that it calls make is longer than what came in: it says more and counts as full. Else prove '..UptoSaid'. A law counts once. -/
mutual
def uptoBulk {H : Type} : DataW H → Nat
  | .lit (.string bytes) => bytes.length + 1
  | .lit _ => 1
  | .nil => 1
  | .ptr d => uptoBulk d + 1
  | .slice elems spare => uptoBulkAll elems + uptoBulkAll spare + 1
  | .agg parts => uptoBulkAll parts + 1
  | .iface _ d => uptoBulk d + 1
  | .map entries => uptoBulkEntries entries + 1
  | .held _ => 1
def uptoBulkAll {H : Type} : List (DataW H) → Nat
  | [] => 0
  | d :: r => uptoBulk d + uptoBulkAll r
def uptoBulkEntries {H : Type} : List (Lit × DataW H) → Nat
  | [] => 0
  | x :: r => uptoBulkEntry x + uptoBulkEntries r
def uptoBulkEntry {H : Type} : Lit × DataW H → Nat
  | (.string bytes, d) => bytes.length + uptoBulk d + 1
  | (_, d) => uptoBulk d + 1
 end
def uptoSmall : (H : Type) → List (DataW H) → Bool := fun _ ds => decide (uptoBulkAll ds ≤ 1048576)
def OpenSpec.upto (s : _root_.Go.ChangeSpec) : _root_.Go.OpenSpec := { _root_.Go.OpenSpec.ofChange s with cond := some uptoSmall }

/-- 'bookendlaw13.SlicesBegins', WHERE WHAT IT READS IS OF BULK AT MOST 1048576: true; the input reads as it did. -/
def slicesBeginsUptoRow : OpenClaim := { program := "ytjmdbbhkgnlmmaa", sum := "82abdb0132a795812d8705d81b420ff639dd6c52eeb1bebc9af4446621f64e56", func := "bookend/bookendlaw13.SlicesBegins", spec := "slicesBegins", unfollowed := true, recurses := true, apart := false, narrowed := true }
def SlicesBeginsUptoSaid : Prop := slicesBeginsUptoRow.holds Try.pinned (OpenSpec.upto slicesBeginsSpec)

/-- 'bookendlaw13.SlicesStates', WHERE WHAT IT READS IS OF BULK AT MOST 1048576: true; the input reads as it did. -/
def slicesStatesUptoRow : OpenClaim := { program := "ytjmdbbhkgnlmmaa", sum := "82abdb0132a795812d8705d81b420ff639dd6c52eeb1bebc9af4446621f64e56", func := "bookend/bookendlaw13.SlicesStates", spec := "slicesStates", unfollowed := true, recurses := true, apart := false, narrowed := true }
def SlicesStatesUptoSaid : Prop := slicesStatesUptoRow.holds Try.pinned (OpenSpec.upto slicesStatesSpec)

/-- 'bookendlaw13.SlicesCuts', WHERE WHAT IT READS IS OF BULK AT MOST 1048576: true; the input reads as it did. -/
def slicesCutsUptoRow : OpenClaim := { program := "ytjmdbbhkgnlmmaa", sum := "82abdb0132a795812d8705d81b420ff639dd6c52eeb1bebc9af4446621f64e56", func := "bookend/bookendlaw13.SlicesCuts", spec := "slicesCuts", unfollowed := true, recurses := true, apart := false, narrowed := true }
def SlicesCutsUptoSaid : Prop := slicesCutsUptoRow.holds Try.pinned (OpenSpec.upto slicesCutsSpec)

/-- 'bookendlaw13.SlicesSums', WHERE WHAT IT READS IS OF BULK AT MOST 1048576: true; the input reads as it did. -/
def slicesSumsUptoRow : OpenClaim := { program := "ytjmdbbhkgnlmmaa", sum := "82abdb0132a795812d8705d81b420ff639dd6c52eeb1bebc9af4446621f64e56", func := "bookend/bookendlaw13.SlicesSums", spec := "slicesSums", unfollowed := true, recurses := true, apart := false, narrowed := true }
def SlicesSumsUptoSaid : Prop := slicesSumsUptoRow.holds Try.pinned (OpenSpec.upto slicesSumsSpec)

/-- 'bookendlaw13.SlicesOutputs', WHERE WHAT IT READS IS OF BULK AT MOST 1048576: true; the input reads as it did. -/
def slicesOutputsUptoRow : OpenClaim := { program := "ytjmdbbhkgnlmmaa", sum := "82abdb0132a795812d8705d81b420ff639dd6c52eeb1bebc9af4446621f64e56", func := "bookend/bookendlaw13.SlicesOutputs", spec := "slicesOutputs", unfollowed := true, recurses := true, apart := false, narrowed := true }
def SlicesOutputsUptoSaid : Prop := slicesOutputsUptoRow.holds Try.pinned (OpenSpec.upto slicesOutputsSpec)

/-- 'bookendlaw13.SlicesOwn', WHERE WHAT IT READS IS OF BULK AT MOST 1048576: true; the input reads as it did. -/
def slicesOwnUptoRow : OpenClaim := { program := "ytjmdbbhkgnlmmaa", sum := "82abdb0132a795812d8705d81b420ff639dd6c52eeb1bebc9af4446621f64e56", func := "bookend/bookendlaw13.SlicesOwn", spec := "slicesOwn", unfollowed := true, recurses := true, apart := false, narrowed := true }
def SlicesOwnUptoSaid : Prop := slicesOwnUptoRow.holds Try.pinned (OpenSpec.upto slicesOwnSpec)

end Rows
end Go.Proofs.Ytjmdbbhkgnlmmaa
