/-
  What is proved here: a part of: rotuluslaw16.SearchNone answers true (a closed law). No conditions.
-/
import Derived.Test.YtjlpocmikddobaaGreatDoorTie
import Derived.Test.YtjlpocmikddobaaGreatDoorCards
import Derived.Test.YtjlpocmikddobaaGreatDoorSearchNoneB
import Derived.Test.YtjlpocmikddobaaGreatDoorSearchNoneK
import Derived.WalkKit
import Derived.ProofKit
import Derived.OpenShut
import Derived.Lay
import Derived.LaidOnce
import Derived.SevenTiedAt
namespace Go.Proofs.YtjlpocmikddobaaGreatDoor.searchNone
open Go.ChangeShapes Go.WideShapes Go.ChangeAt Go.RowKit
set_option linter.unusedVariables false
theorem over : Rows.SearchNoneSaid :=
  OpenClaim.holds_of_wide 3 Tryz.f3 rfl rfl rfl rfl rfl rfl rfl ⟨rfl, rfl, rfl, rfl, rfl⟩ rfl rfl rfl rfl rfl (by kernel_rfl) Tryz.func3 closed
    (of_decide_eq_true (by kernel_rfl)) (by unfold Func.isWrapper; first | (rw [if_pos (by decide +kernel)]; kernel_rfl) | (rw [if_neg (by decide +kernel)]; exact ⟨rfl, rfl⟩))
    (fun os started H enc _ => lifted os started H enc)
end Go.Proofs.YtjlpocmikddobaaGreatDoor.searchNone
