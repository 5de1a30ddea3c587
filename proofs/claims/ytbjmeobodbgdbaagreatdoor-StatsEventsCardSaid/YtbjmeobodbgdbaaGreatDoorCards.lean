/-
  DERIVED. GIVEN WITH THE SEED: THE CARDS: each row of YtbjmeobodbgdbaaGreatDoorRows.lean that lists a variable, with what it lists TIED to the program's text (the seventh form; the later family's looks); each row that meets fmt, with fmt's text TOLD by the authors' own Lean function (tested against real Go, not proved from fmt's source: count such statements apart). THE CARD IS WHAT COUNTS. Prove the row's statement (the work); the ties are given (YtbjmeobodbgdbaaGreatDoorTie.lean); close each card by the builder's one call (the guide's Derived/Test/ToyasCard.lean, 'card_holds'). Laid BY PROGRAM, IN A SANDBOX (cutbox-door.mjs). By AI agents, Wed Nov 11 2026. No macro, syntax, notation, axiom, sorry.
-/
import Derived.Test.YtbjmeobodbgdbaaGreatDoorRows
import GoSem.ClaimSeven
namespace Go.Proofs.YtbjmeobodbgdbaaGreatDoor
namespace Rows

/-- THE TIED CARD OF 'bookendlaw31.StatsEvents'. -/
def statsEventsCard : Claim7 := { stood := { row := statsEventsRow, standIns := [], harness := (true, "1474ed841e86d643a80f8ed5c159fdaf2547286a51fb495f6584edcff527633b"), looks := true }, kinds := [], alts := [], laidByText := true, laidKinds := [.handle, .data, .sentinel, .sentinel], laidTests := true, laidLooks := .later }
def StatsEventsCardSaid : Prop := Claim7.holds Tryz.pinned (.plain (OpenSpec.ofChange statsEventsSpec)) statsEventsCard

/-- THE SECOND FORM's CARD OF 'bookendlaw31.StatsEvents'. -/
def statsEventsUptoCard : Claim7 := { stood := { row := statsEventsUptoRow, standIns := [], harness := (true, "1474ed841e86d643a80f8ed5c159fdaf2547286a51fb495f6584edcff527633b"), looks := true }, kinds := [], alts := [], laidByText := true, laidKinds := [.handle, .data, .sentinel, .sentinel], laidTests := true, laidLooks := .later }
def StatsEventsUptoCardSaid : Prop := Claim7.holds Tryz.pinned (.plain (OpenSpec.upto statsEventsSpec)) statsEventsUptoCard
end Rows
end Go.Proofs.YtbjmeobodbgdbaaGreatDoor
