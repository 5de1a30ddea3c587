/- The examples of the document on scripts (law 32) come out as it says: the closed example returns true; the package variables hold at the start what the program's text lays into them. -/
import Derived.Test.YtcdlljbjaibohaaGreatDoorKDo
import Derived.Test.YtcdlljbjaibohaaGreatDoorKCo
set_option linter.unusedSimpArgs false
set_option linter.unusedVariables false
section
namespace Go.Proofs.YtcdlljbjaibohaaGreatDoor
open Go
theorem scriptKnown : Rows.ScriptKnownCardSaid :=
  scriptKnown_card Go.AM.ran
end Go.Proofs.YtcdlljbjaibohaaGreatDoor
end
