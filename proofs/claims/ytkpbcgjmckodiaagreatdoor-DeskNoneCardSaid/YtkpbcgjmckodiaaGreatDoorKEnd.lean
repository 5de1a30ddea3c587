/- DeskNone holds for every line: a desk that is nil, or that was not returned by New, answers as the document says; no conditions beyond the row's own (the package variables that it lays). -/
import Derived.Test.YtkpbcgjmckodiaaGreatDoorKDo
import Derived.Test.YtkpbcgjmckodiaaGreatDoorKCo
set_option linter.unusedSimpArgs false
set_option linter.unusedVariables false
section
namespace Go.Proofs.YtkpbcgjmckodiaaGreatDoor
open Go
theorem deskNone : Rows.DeskNoneCardSaid :=
  deskNone_card (fun ad off h1 h2 x0 w0 => ⟨_, Go.AM.ranAll ad off Go.AM.pok (Go.AM.base0_ok ad off h1 h2) x0 (Nat.le_trans w0 (by decide))⟩)
end Go.Proofs.YtkpbcgjmckodiaaGreatDoor
end
