/-
  What is proved here: rotuluslaw14.begun answers true in every world, and turns nothing of what was there. No conditions.
-/
import Derived.Test.YtiebldaihnbkmaaGreatDoorProg
import Derived.Test.YtiebldaihnbkmaaGreatDoorVO
import Derived.KernelRfl
set_option linter.unusedVariables false
set_option linter.unusedSimpArgs false
namespace Go.Proofs.YtiebldaihnbkmaaGreatDoor
open Go.RowKit
theorem XBl:Tryz.prog.follows .mixedOrders=true:=by kernel_rfl
set_option maxRecDepth 100000 in
theorem X7t:Vai.X93 (Vai.XDq Tryz.prog Vai.noOv 1000000 (.func 16) [] Vai.h0)=true:=by kernel_rfl
theorem XG5 (w:World) (ht:Vai.TW w):Calls Tryz.prog 16 #[] w fun e w'=>e=.returned (.bool true)∧Below w.heap.size w w':=Vai.XA0 XBl (args:=[]) rfl X7t w ht
end Go.Proofs.YtiebldaihnbkmaaGreatDoor
