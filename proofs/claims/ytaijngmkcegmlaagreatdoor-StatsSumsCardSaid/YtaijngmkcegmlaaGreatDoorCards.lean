/-
  DERIVED. GIVEN WITH THE SEED: THE CARDS: each row of YtaijngmkcegmlaaGreatDoorRows.lean that lists a variable, with what it lists TIED to the program's text (the seventh form; the later family's looks); each row that meets fmt, with fmt's text TOLD by the authors' own Lean function (tested against real Go, not proved from fmt's source: count such statements apart). THE CARD IS WHAT COUNTS. Prove the row's statement (the work); the ties are given (YtaijngmkcegmlaaGreatDoorTie.lean); close each card by the builder's one call (the guide's Derived/Test/ToyasCard.lean, 'card_holds'). Laid BY PROGRAM, IN A SANDBOX (cutbox-door.mjs). By AI agents, Wed Nov 11 2026. No macro, syntax, notation, axiom, sorry.
-/
import Derived.Test.YtaijngmkcegmlaaGreatDoorRows
import GoSem.ClaimSeven
namespace Go.Proofs.YtaijngmkcegmlaaGreatDoor
namespace Rows

/-- THE TIED CARD OF 'bookendlaw31.StatsSums'. -/
def statsSumsCard : Claim7 := { stood := { row := statsSumsRow, standIns := [], harness := (true, "6b9c75a1bbe45d2e703f5098aa0e88a3827372f73f66006def148234564ec849"), looks := true }, kinds := [], alts := [], laidByText := true, laidKinds := [.handle, .data, .sentinel, .sentinel], laidTests := true, laidLooks := .later }
def StatsSumsCardSaid : Prop := Claim7.holds Tryz.pinned (.plain (OpenSpec.ofChange statsSumsSpec)) statsSumsCard

/-- THE SECOND FORM's CARD OF 'bookendlaw31.StatsSums'. -/
def statsSumsUptoCard : Claim7 := { stood := { row := statsSumsUptoRow, standIns := [], harness := (true, "6b9c75a1bbe45d2e703f5098aa0e88a3827372f73f66006def148234564ec849"), looks := true }, kinds := [], alts := [], laidByText := true, laidKinds := [.handle, .data, .sentinel, .sentinel], laidTests := true, laidLooks := .later }
def StatsSumsUptoCardSaid : Prop := Claim7.holds Tryz.pinned (.plain (OpenSpec.upto statsSumsSpec)) statsSumsUptoCard
end Rows
end Go.Proofs.YtaijngmkcegmlaaGreatDoor
