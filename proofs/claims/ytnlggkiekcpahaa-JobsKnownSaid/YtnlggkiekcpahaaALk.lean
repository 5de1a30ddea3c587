/- A text of the proof. -/
import Derived.Test.YtnlggkiekcpahaaRows
import Derived.Test.YtnlggkiekcpahaaAAmZe
import Derived.Test.YtnlggkiekcpahaaAGp
import Derived.Test.YtnlggkiekcpahaaAGt
import Derived.ProofKit
import Derived.Carry
set_option linter.unusedSimpArgs false
set_option linter.unusedVariables false
namespace Go.Proofs.Ytnlggkiekcpahaa
open Go.ChangeShapes Go.WideShapes Go.ChangeAt Go.RowKit Go.AM
theorem Try.own : ownKnob Try.prog.godebug = none := by kernel_rfl
open Go.T
set_option maxRecDepth 100000
def wcall (f : FuncId) (args : List AV) : Prop := ∃ blks, PCall Try.prog f args (.bool true) blks
end Go.Proofs.Ytnlggkiekcpahaa
