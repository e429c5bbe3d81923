/-
  What is proved here: a part of: rotuluslaw16.SearchNone answers true (a closed law): the facts of its card, one by one. No conditions.
-/
import Derived.Test.YtjlpocmikddobaaGreatDoorCards
import Derived.SevenTiedAt
import Derived.KernelRfl
namespace Go.Proofs.YtjlpocmikddobaaGreatDoor.searchNone
set_option maxRecDepth 100000 in
theorem t1 : Rows.searchNoneRow.wfByText (OpenSpec.ofChange Rows.searchNoneSpec) = true := by kernel_rfl
set_option maxRecDepth 100000 in
theorem t2 : Tryz.prog.mainIs = some (true, "c4a3bc98ad8b4d6263371a7ea04d2f98d81c925f987ac7017c1906f799ad4247".toList) := by kernel_rfl
set_option maxRecDepth 100000 in
theorem t3 : false = Tryz.prog.looks [] := by kernel_rfl
set_option maxRecDepth 100000 in
theorem t4 : false = Rows.searchNoneRow.goesBy Tryz.prog := by kernel_rfl
set_option maxRecDepth 100000 in
theorem t5 : Tryz.prog.funcNamed "rotulus/rotuluslaw16.SearchNone" = some 3 := by kernel_rfl
end Go.Proofs.YtjlpocmikddobaaGreatDoor.searchNone
