/-
  What is proved here: rotuluslaw1.Begun answers true in every world, and turns nothing of what was there. No conditions.
-/
import Derived.Test.YtjlpocmikddobaaGreatDoorProg
import Derived.Test.YtjlpocmikddobaaGreatDoorVO
import Derived.KernelRfl
namespace Go.Proofs.YtjlpocmikddobaaGreatDoor
open Go.RowKit
theorem mixedP : Tryz.prog.follows .mixedOrders = true := by kernel_rfl
set_option maxRecDepth 100000 in
theorem runs149 : Vai.okTrue (Vai.runN' Tryz.prog Vai.noOv 1000000 (.func 149) [] Vai.h0) = true := by kernel_rfl
theorem said149 : Vai.Said Tryz.prog 149 #[] (.bool true) := Vai.closed_said mixedP Vai.noOv_ok (args := []) rfl runs149
end Go.Proofs.YtjlpocmikddobaaGreatDoor
