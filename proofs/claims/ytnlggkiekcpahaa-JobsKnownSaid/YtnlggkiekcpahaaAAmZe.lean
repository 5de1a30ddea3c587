/- A text of the proof. -/
import Derived.Test.YtnlggkiekcpahaaAAmZd
import Derived.ChangeArms
set_option linter.unusedSimpArgs false
set_option linter.unusedVariables false
namespace Go.AM
open Go Go.RowKit
def oldF (W : World) (b : Nat) : Prop := b < W.heap.size ∧ ∀ o, W.heap[b]? = some o → isRec o = false
theorem oldF_ok (W : World) : FOk (oldF W) W := fun _ h => h
theorem VRels.len {w : World} {F : Nat → Prop} {φ : Emb} : ∀ {as : List AV} {vs : List Value}, VRels w F φ as vs → as.length = vs.length
  | [], vs, h => by simp only [VRels] at h; subst h; rfl
  | a :: as, vs, h => by
    simp only [VRels] at h
    obtain ⟨v, vs', rfl, -, h2⟩ := h
    simp [VRels.len h2]
end Go.AM
