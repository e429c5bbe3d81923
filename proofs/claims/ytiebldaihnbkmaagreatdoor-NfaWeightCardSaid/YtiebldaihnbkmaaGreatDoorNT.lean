/-
  What is proved here: what functions of the pattern's package come to (walks that a program of mine has printed). No conditions.
-/
import Derived.Test.YtiebldaihnbkmaaGreatDoorNR
import Derived.Test.YtiebldaihnbkmaaGreatDoorRJ
import Derived.Test.YtiebldaihnbkmaaGreatDoorNQ
import Derived.Test.YtiebldaihnbkmaaGreatDoorRI
set_option linter.unusedVariables false
set_option linter.unusedSimpArgs false
set_option linter.unusedVariables false
set_option linter.unusedSimpArgs false
set_option maxRecDepth 100000
set_option maxHeartbeats 4000000
namespace Go.Proofs.YtiebldaihnbkmaaGreatDoor
open Go.Vai Go.Nfa
noncomputable section
theorem Size_ok (n : Nat) (cs : List D) (first sz : Int) : FnD P ov 28 [.loc 0 0] [.box [.sl 9 n cs, .int .i64 first, .int .i64 sz]] (fun r L1 => r = .int .i64 sz ∧ L1 = [.box [.sl 9 n cs, .int .i64 first, .int .i64 sz]]) := by
 refine FnD.intro (by kernel_rfl) (fn := Tryz.f28) (by kernel_rfl) rfl (by kernel_rfl) fun M a0 g0 hg0 => ?_
 refine CD.seq (CD.region ?_)
 refine OD.rE 1 [(0, .loc 0 0)] ?_
 refine OD.nil (CD.seq (CD.seq (CD.region ?_)))
 refine OD.rE 2 [(0, .loc 0 0), (4, .bool false)] ?_
 refine OD.nil ?_
 refine CD.condF rfl ?_
 refine CD.skip (CD.seq (CD.region ?_))
 refine OD.rE 5 [(2, .int .i64 sz)] ?_
 refine OD.nil (CD.ret ?_)
 (try dsimp only); first | refine resP_r ?_ | refine resP_n ?_
 exact rO 1 (.int .i64 sz) [.box [.sl 9 n cs, .int .i64 first, .int .i64 sz]] (⟨rfl, rfl⟩)
end
end Go.Proofs.YtiebldaihnbkmaaGreatDoor
