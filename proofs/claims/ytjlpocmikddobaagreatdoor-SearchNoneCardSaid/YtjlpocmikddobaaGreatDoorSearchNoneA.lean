/-
  What is proved here: a part of: rotuluslaw16.SearchNone answers true (a closed law). No conditions.
-/
import Derived.Test.YtjlpocmikddobaaGreatDoorTie
import Derived.Test.YtjlpocmikddobaaGreatDoorCards
import Derived.Test.YtjlpocmikddobaaGreatDoorSF
import Derived.WalkKit
import Derived.ProofKit
import Derived.OpenShut
import Derived.Lay
import Derived.LaidOnce
import Derived.SevenTiedAt
namespace Go.Proofs.YtjlpocmikddobaaGreatDoor.searchNone
open Go.ChangeShapes Go.WideShapes Go.ChangeAt Go.RowKit
set_option linter.unusedVariables false
set_option maxRecDepth 100000 in
theorem runs : Vai.okTrue (Vai.runN' Tryz.prog (Vai.ovs [12]) 1000000 (.func 3) [] Vai.h0) = true := by kernel_rfl
theorem walk (w : World) : Calls Tryz.prog 3 #[] w fun e w' => e = .returned (.bool true) ∧ Below w.heap.size w w' :=
  Vai.closed_said mixedP (Vai.ovs_ok (l := [12]) (fun f hf => by simp only [List.mem_singleton] at hf; subst hf; exact said12)) (args := []) rfl runs w

end Go.Proofs.YtjlpocmikddobaaGreatDoor.searchNone
