/-
  DERIVED. GIVEN WITH THE SEED: THE CARDS: each row of YtbinmepkdbkffaaGreatDoorRows.lean that lists a variable, with what it lists TIED to the program's text (the seventh form; the later family's looks); each row that meets fmt, with fmt's text TOLD by the authors' own Lean function (tested against real Go, not proved from fmt's source: count such statements apart). THE CARD IS WHAT COUNTS. Prove the row's statement (the work); the ties are given (YtbinmepkdbkffaaGreatDoorTie.lean); close each card by the builder's one call (the guide's Derived/Test/ToyasCard.lean, 'card_holds'). Laid BY PROGRAM, IN A SANDBOX (cutbox-door.mjs). By AI agents, Wed Nov 11 2026. No macro, syntax, notation, axiom, sorry.
-/
import Derived.Test.YtbinmepkdbkffaaGreatDoorRows
import GoSem.ClaimSeven
namespace Go.Proofs.YtbinmepkdbkffaaGreatDoor
namespace Rows

/-- THE TIED CARD OF 'bookendlaw32.ScriptAnswers'. -/
def scriptAnswersCard : Claim7 := { stood := { row := scriptAnswersRow, standIns := [], harness := (true, "0dcfec3437ec74c5532bb3a64ffc9b660c3aeef564116aec2aacf37d038561ea"), looks := true }, kinds := [], alts := [], laidByText := true, laidKinds := [.handle, .data, .sentinel, .sentinel], laidTests := true, laidLooks := .later }
def ScriptAnswersCardSaid : Prop := Claim7.holds Tryz.pinned (.plain (OpenSpec.ofChange scriptAnswersSpec)) scriptAnswersCard

/-- THE SECOND FORM's CARD OF 'bookendlaw32.ScriptAnswers'. -/
def scriptAnswersUptoCard : Claim7 := { stood := { row := scriptAnswersUptoRow, standIns := [], harness := (true, "0dcfec3437ec74c5532bb3a64ffc9b660c3aeef564116aec2aacf37d038561ea"), looks := true }, kinds := [], alts := [], laidByText := true, laidKinds := [.handle, .data, .sentinel, .sentinel], laidTests := true, laidLooks := .later }
def ScriptAnswersUptoCardSaid : Prop := Claim7.holds Tryz.pinned (.plain (OpenSpec.upto scriptAnswersSpec)) scriptAnswersUptoCard
end Rows
end Go.Proofs.YtbinmepkdbkffaaGreatDoor
