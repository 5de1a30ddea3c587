/- DeskKnown holds: the examples of the document, run through the whole program; no conditions beyond the row's own (the package variables that it lays). -/
import Derived.Test.YtdompcjalogoaaaGreatDoorKDo
import Derived.Test.YtdompcjalogoaaaGreatDoorKCo
set_option linter.unusedSimpArgs false
set_option linter.unusedVariables false
section
namespace Go.Proofs.YtdompcjalogoaaaGreatDoor
open Go
theorem deskKnown : Rows.DeskKnownCardSaid :=
  deskKnown_card (fun ad off h1 h2 => ⟨_, Go.AM.ranAll ad off Go.AM.pok (Go.AM.base0_ok ad off h1 h2)⟩)
end Go.Proofs.YtdompcjalogoaaaGreatDoor
end
