/-
  What is proved here: rotuluslaw7.Begun answers true in every world, and turns nothing of what was there. No conditions.
-/
import Derived.Test.YtjlpocmikddobaaGreatDoorProg
import Derived.Test.YtjlpocmikddobaaGreatDoorVO
import Derived.KernelRfl
import Derived.Test.YtjlpocmikddobaaGreatDoorSB
namespace Go.Proofs.YtjlpocmikddobaaGreatDoor
open Go.RowKit
set_option maxRecDepth 100000 in
theorem runs141 : Vai.okTrue (Vai.runN' Tryz.prog (Vai.ovs [149, 263]) 1000000 (.func 141) [] Vai.h0) = true := by kernel_rfl
theorem said141 : Vai.Said Tryz.prog 141 #[] (.bool true) := Vai.closed_said mixedP (Vai.ovs_ok (l := [149, 263]) (fun f hf => by simp only [List.mem_cons, List.not_mem_nil, or_false] at hf; rcases hf with rfl | rfl <;> first  | exact said149 | exact said263)) (args := []) rfl runs141
end Go.Proofs.YtjlpocmikddobaaGreatDoor
