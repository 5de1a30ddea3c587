/- Operations on a small state are answered as they must be: the closed example of law 29 returns true; the package variables hold at the start what the program's text lays into them. -/
import Derived.Test.YtpiffhfafeghgaaGreatDoorKDo
import Derived.Test.YtpiffhfafeghgaaGreatDoorKCo
set_option linter.unusedSimpArgs false
set_option linter.unusedVariables false
section
namespace Go.Proofs.YtpiffhfafeghgaaGreatDoor
open Go
theorem storeKnown : Rows.StoreKnownCardSaid :=
  storeKnown_card Go.AM.ran
end Go.Proofs.YtpiffhfafeghgaaGreatDoor
end
