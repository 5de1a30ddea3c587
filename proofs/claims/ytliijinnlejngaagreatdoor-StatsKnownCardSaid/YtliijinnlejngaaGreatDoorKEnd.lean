/- The examples of the document on statistics (law 31) come out as it says: the closed example returns true; the package variables hold at the start what the program's text lays into them. -/
import Derived.Test.YtliijinnlejngaaGreatDoorKDo
import Derived.Test.YtliijinnlejngaaGreatDoorKCo
set_option linter.unusedSimpArgs false
set_option linter.unusedVariables false
section
namespace Go.Proofs.YtliijinnlejngaaGreatDoor
open Go
theorem statsKnown : Rows.StatsKnownCardSaid :=
  statsKnown_card Go.AM.ran
end Go.Proofs.YtliijinnlejngaaGreatDoor
end
