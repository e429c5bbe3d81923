/-
  What is proved here: rotuluslaw16.begun answers true in every world, and turns nothing of what was there. No conditions.
-/
import Derived.Test.YtjlpocmikddobaaGreatDoorProg
import Derived.Test.YtjlpocmikddobaaGreatDoorVO
import Derived.KernelRfl
import Derived.Test.YtjlpocmikddobaaGreatDoorSD
import Derived.Test.YtjlpocmikddobaaGreatDoorSE
namespace Go.Proofs.YtjlpocmikddobaaGreatDoor
open Go.RowKit
set_option maxRecDepth 100000 in
theorem runs12 : Vai.okTrue (Vai.runN' Tryz.prog (Vai.ovk [48, 49] tbl) 1000000 (.func 12) [] Vai.h0) = true := by kernel_rfl
theorem said12 : Vai.Said Tryz.prog 12 #[] (.bool true) := Vai.closed_said mixedP (Vai.ovk_ok (l := [48, 49]) (fun f hf => by simp only [List.mem_cons, List.not_mem_nil, or_false] at hf; rcases hf with rfl | rfl <;> first  | exact said48 | exact said49) mixedP Vai.noOv_ok tbl_ok) (args := []) rfl runs12
end Go.Proofs.YtjlpocmikddobaaGreatDoor
