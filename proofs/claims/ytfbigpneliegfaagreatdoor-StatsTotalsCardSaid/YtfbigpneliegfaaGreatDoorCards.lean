/-
  DERIVED. GIVEN WITH THE SEED: THE CARDS: each row of YtfbigpneliegfaaGreatDoorRows.lean that lists a variable, with what it lists TIED to the program's text (the seventh form; the later family's looks); each row that meets fmt, with fmt's text TOLD by the authors' own Lean function (tested against real Go, not proved from fmt's source: count such statements apart). THE CARD IS WHAT COUNTS. Prove the row's statement (the work); the ties are given (YtfbigpneliegfaaGreatDoorTie.lean); close each card by the builder's one call (the guide's Derived/Test/ToyasCard.lean, 'card_holds'). Laid BY PROGRAM, IN A SANDBOX (cutbox-door.mjs). By AI agents, Wed Nov 11 2026. No macro, syntax, notation, axiom, sorry.
-/
import Derived.Test.YtfbigpneliegfaaGreatDoorRows
import GoSem.ClaimSeven
namespace Go.Proofs.YtfbigpneliegfaaGreatDoor
namespace Rows

/-- THE TIED CARD OF 'bookendlaw31.StatsTotals'. -/
def statsTotalsCard : Claim7 := { stood := { row := statsTotalsRow, standIns := [], harness := (true, "f00f6348610b1c5c7e3815e2515de3ec24176fa3aedbb36db3b2d9e23dea3d85"), looks := true }, kinds := [], alts := [], laidByText := true, laidKinds := [.handle, .data, .sentinel, .sentinel], laidTests := true, laidLooks := .later }
def StatsTotalsCardSaid : Prop := Claim7.holds Tryz.pinned (.plain (OpenSpec.ofChange statsTotalsSpec)) statsTotalsCard

/-- THE SECOND FORM's CARD OF 'bookendlaw31.StatsTotals'. -/
def statsTotalsUptoCard : Claim7 := { stood := { row := statsTotalsUptoRow, standIns := [], harness := (true, "f00f6348610b1c5c7e3815e2515de3ec24176fa3aedbb36db3b2d9e23dea3d85"), looks := true }, kinds := [], alts := [], laidByText := true, laidKinds := [.handle, .data, .sentinel, .sentinel], laidTests := true, laidLooks := .later }
def StatsTotalsUptoCardSaid : Prop := Claim7.holds Tryz.pinned (.plain (OpenSpec.upto statsTotalsSpec)) statsTotalsUptoCard
end Rows
end Go.Proofs.YtfbigpneliegfaaGreatDoor
