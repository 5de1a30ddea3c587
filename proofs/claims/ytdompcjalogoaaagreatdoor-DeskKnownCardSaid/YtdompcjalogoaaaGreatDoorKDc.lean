/- A text of the proof. -/
import Derived.Test.YtdompcjalogoaaaGreatDoorRows
import Derived.Test.YtdompcjalogoaaaGreatDoorKDb
import Derived.KernelRfl
import Derived.JoinedOf
namespace Go.Proofs.YtdompcjalogoaaaGreatDoor
open Go
theorem j_inPlace : Tryz.prog.inPlace 3 = Rows.deskKnownRow.inPlace := by unfold Program.inPlace; rw [clo]; kernel_rfl
theorem j_unfollowed : Tryz.prog.unfollowed 3 = true := by unfold Program.unfollowed; rw [clo]; kernel_rfl
theorem j_recurses : Tryz.prog.recurses 3 = true := by unfold Program.recurses; rw [j_unfollowed]; kernel_rfl
theorem j_named : Tryz.prog.varsNamed 3 = Rows.deskKnownRow.named := by unfold Program.varsNamed; rw [clo]; kernel_rfl
end Go.Proofs.YtdompcjalogoaaaGreatDoor
