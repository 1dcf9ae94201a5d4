/- Texts in a row. -/
import Derived.Test.YtbnelgniekcjdaaGreatDoorCKit
import Derived.Test.YtbnelgniekcjdaaGreatDoorCOwn
import Derived.Test.YtbnelgniekcjdaaGreatDoorProg
set_option linter.unusedSimpArgs false
set_option linter.unusedVariables false
namespace Go.Proofs.YtbnelgniekcjdaaGreatDoor
open Go.RowKit Cap
theorem info_strR : InfoIs Tryz.prog 9 (.string ⟨#[]⟩) 1 16 := by unfold InfoIs; kernel_rfl
theorem encS_lenR (x : ByteArray) : (encS x).length = 1 := rfl
theorem one_SR (x : ByteArray) : ∀ u ∈ encS x, u.oneCell' = true := fun u hu => by
  simp [encS] at hu
  subst hu
  rfl
end Go.Proofs.YtbnelgniekcjdaaGreatDoor
