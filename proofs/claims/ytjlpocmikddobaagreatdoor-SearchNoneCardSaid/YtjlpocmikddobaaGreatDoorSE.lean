/-
  What is proved here: rotuluslaw14.Begun answers true in every world, and turns nothing of what was there. No conditions.
-/
import Derived.Test.YtjlpocmikddobaaGreatDoorProg
import Derived.Test.YtjlpocmikddobaaGreatDoorVO
import Derived.KernelRfl
import Derived.Test.YtjlpocmikddobaaGreatDoorSA
namespace Go.Proofs.YtjlpocmikddobaaGreatDoor
open Go.RowKit
set_option maxRecDepth 100000 in
theorem runs49 : Vai.okTrue (Vai.runN' Tryz.prog (Vai.ovs [149]) 1000000 (.func 49) [] Vai.h0) = true := by kernel_rfl
theorem said49 : Vai.Said Tryz.prog 49 #[] (.bool true) := Vai.closed_said mixedP (Vai.ovs_ok (l := [149]) (fun f hf => by simp only [List.mem_singleton] at hf; subst hf; exact said149)) (args := []) rfl runs49
end Go.Proofs.YtjlpocmikddobaaGreatDoor
