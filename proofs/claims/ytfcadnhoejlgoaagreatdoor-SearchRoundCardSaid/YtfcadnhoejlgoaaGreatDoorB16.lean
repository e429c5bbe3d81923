/-
  What is proved here: rotuluslaw16.begun answers true in every world, and turns nothing of what was there. No conditions.
-/
import Derived.Test.YtfcadnhoejlgoaaGreatDoorSA
set_option linter.unusedVariables false
set_option linter.unusedSimpArgs false
namespace Go.Proofs.YtfcadnhoejlgoaaGreatDoor
open Go.RowKit
theorem XIb:Tryz.prog.follows .mixedOrders=true:=X4l
theorem XIc (w:World) (ht:Vai.TW w):Calls Tryz.prog 9 #[] w fun e w'=>e=.returned (.bool true)∧Below w.heap.size w w':=said9 w ht
end Go.Proofs.YtfcadnhoejlgoaaGreatDoor
