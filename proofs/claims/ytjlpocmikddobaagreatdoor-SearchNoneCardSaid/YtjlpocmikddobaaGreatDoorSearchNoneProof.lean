/-
  What is proved here: rotuluslaw16.SearchNone answers true (a closed law). No conditions.
-/
import Derived.Test.YtjlpocmikddobaaGreatDoorTie
import Derived.Test.YtjlpocmikddobaaGreatDoorCards
import Derived.Test.YtjlpocmikddobaaGreatDoorSearchNoneC
import Derived.Test.YtjlpocmikddobaaGreatDoorSearchNoneD
import Derived.WalkKit
import Derived.ProofKit
import Derived.OpenShut
import Derived.Lay
import Derived.LaidOnce
import Derived.SevenTiedAt
namespace Go.Proofs.YtjlpocmikddobaaGreatDoor.searchNone
open Go.ChangeShapes Go.WideShapes Go.ChangeAt Go.RowKit
set_option linter.unusedVariables false
theorem card : Rows.SearchNoneCardSaid :=
  Claim7.holds_tied_plain_at .later [] [.data, .data, .data, .data, .pinned] true (true, "c4a3bc98ad8b4d6263371a7ea04d2f98d81c925f987ac7017c1906f799ad4247") false over (fun _ h => by cases h) t1 (fun _ h => by cases h) searchNone_row_tie rfl ⟨rfl, rfl⟩ t2 rfl
    (fun f fn hf hfn => by
      obtain rfl : f = 3 := Option.some.inj (t5.symm.trans hf) |>.symm
      obtain rfl : fn = Tryz.f3 := (Option.some.inj (Tryz.func3.symm.trans hfn)).symm
      exact ⟨t3, fun j t ht => by
        rw [Tryz.params3] at ht
        have hm : t ∈ ([] : List Nat) := by simpa using Array.mem_of_getElem? ht
        cases hm⟩)
    t4
end Go.Proofs.YtjlpocmikddobaaGreatDoor.searchNone
namespace Go.Proofs.YtjlpocmikddobaaGreatDoor
theorem searchNone_holds : Rows.SearchNoneCardSaid := searchNone.card
end Go.Proofs.YtjlpocmikddobaaGreatDoor
