/-
  DERIVED. GIVEN WITH THE SEED: THE CARDS: each row of YtaeifdlkolfdjaaGreatDoorRows.lean that lists a variable, with what it lists TIED to the program's text (the seventh form; the later family's looks); each row that meets fmt, with fmt's text TOLD by the authors' own Lean function (tested against real Go, not proved from fmt's source: count such statements apart). THE CARD IS WHAT COUNTS. Prove the row's statement (the work); the ties are given (YtaeifdlkolfdjaaGreatDoorTie.lean); close each card by the builder's one call (the guide's Derived/Test/ToyasCard.lean, 'card_holds'). Laid BY PROGRAM, IN A SANDBOX (cutbox-door.mjs). By AI agents, Wed Nov 11 2026. No macro, syntax, notation, axiom, sorry.
-/
import Derived.Test.YtaeifdlkolfdjaaGreatDoorRows
import GoSem.ClaimSeven
namespace Go.Proofs.YtaeifdlkolfdjaaGreatDoor
namespace Rows

/-- THE TIED CARD OF 'bookendlaw31.StatsBounds'. -/
def statsBoundsCard : Claim7 := { stood := { row := statsBoundsRow, standIns := [], harness := (true, "589e61d3068263f109c4f3bfbde104e924aac86fa1b61701e0c1baea54a8a6e4"), looks := true }, kinds := [], alts := [], laidByText := true, laidKinds := [.handle, .data, .sentinel, .sentinel], laidTests := true, laidLooks := .later }
def StatsBoundsCardSaid : Prop := Claim7.holds Tryz.pinned (.plain (OpenSpec.ofChange statsBoundsSpec)) statsBoundsCard

/-- THE SECOND FORM's CARD OF 'bookendlaw31.StatsBounds'. -/
def statsBoundsUptoCard : Claim7 := { stood := { row := statsBoundsUptoRow, standIns := [], harness := (true, "589e61d3068263f109c4f3bfbde104e924aac86fa1b61701e0c1baea54a8a6e4"), looks := true }, kinds := [], alts := [], laidByText := true, laidKinds := [.handle, .data, .sentinel, .sentinel], laidTests := true, laidLooks := .later }
def StatsBoundsUptoCardSaid : Prop := Claim7.holds Tryz.pinned (.plain (OpenSpec.upto statsBoundsSpec)) statsBoundsUptoCard
end Rows
end Go.Proofs.YtaeifdlkolfdjaaGreatDoor
