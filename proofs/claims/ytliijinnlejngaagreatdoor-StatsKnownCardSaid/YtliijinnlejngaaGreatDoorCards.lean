/-
  DERIVED. GIVEN WITH THE SEED: THE CARDS: each row of YtliijinnlejngaaGreatDoorRows.lean that lists a variable, with what it lists TIED to the program's text (the seventh form; the later family's looks); each row that meets fmt, with fmt's text TOLD by the authors' own Lean function (tested against real Go, not proved from fmt's source: count such statements apart). THE CARD IS WHAT COUNTS. Prove the row's statement (the work); the ties are given (YtliijinnlejngaaGreatDoorTie.lean); close each card by the builder's one call (the guide's Derived/Test/ToyasCard.lean, 'card_holds'). Laid BY PROGRAM, IN A SANDBOX (cutbox-door.mjs). By AI agents, Wed Nov 11 2026. No macro, syntax, notation, axiom, sorry.
-/
import Derived.Test.YtliijinnlejngaaGreatDoorRows
import GoSem.ClaimSeven
namespace Go.Proofs.YtliijinnlejngaaGreatDoor
namespace Rows

/-- THE TIED CARD OF 'bookendlaw31.StatsKnown'. -/
def statsKnownCard : Claim7 := { stood := { row := statsKnownRow, standIns := [], harness := (true, "927df295d82a1d7950a6ece00eb42fff3f3a0e7448e4f98e04c0db223cf171ef"), looks := true }, kinds := [], alts := [], laidByText := true, laidKinds := [.handle, .data, .sentinel, .sentinel], laidTests := true, laidLooks := .later }
def StatsKnownCardSaid : Prop := Claim7.holds Tryz.pinned (.plain (OpenSpec.ofChange statsKnownSpec)) statsKnownCard

/-- THE SECOND FORM's CARD OF 'bookendlaw31.StatsKnown'. -/
def statsKnownUptoCard : Claim7 := { stood := { row := statsKnownUptoRow, standIns := [], harness := (true, "927df295d82a1d7950a6ece00eb42fff3f3a0e7448e4f98e04c0db223cf171ef"), looks := true }, kinds := [], alts := [], laidByText := true, laidKinds := [.handle, .data, .sentinel, .sentinel], laidTests := true, laidLooks := .later }
def StatsKnownUptoCardSaid : Prop := Claim7.holds Tryz.pinned (.plain (OpenSpec.upto statsKnownSpec)) statsKnownUptoCard
end Rows
end Go.Proofs.YtliijinnlejngaaGreatDoor
