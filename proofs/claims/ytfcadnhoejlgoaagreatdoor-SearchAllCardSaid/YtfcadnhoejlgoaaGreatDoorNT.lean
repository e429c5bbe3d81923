/-
  What is proved here: what functions of the pattern's package come to (walks that a program of mine has printed). No conditions.
-/
import Derived.Test.YtfcadnhoejlgoaaGreatDoorNR
import Derived.Test.YtfcadnhoejlgoaaGreatDoorRJ
import Derived.Test.YtfcadnhoejlgoaaGreatDoorNQ
import Derived.Test.YtfcadnhoejlgoaaGreatDoorRI
set_option linter.unusedVariables false
set_option linter.unusedSimpArgs false
set_option maxRecDepth 100000
set_option maxHeartbeats 4000000
namespace Go.Proofs.YtfcadnhoejlgoaaGreatDoor
open Go.Vai Go.Nfa
noncomputable section
theorem XGk (s:ByteArray) (c:Nat):FnD P ov 26 [.str s,.i64 c] [] (fun r L1=>(fun r=>r=.str (s.extract 0 (min s.size c))) r∧L1=[]):=by
 refine FnD.intro (by kernel_rfl) (fn:=Tryz.f26) (by kernel_rfl) rfl (by kernel_rfl) fun M a0 g0 hg0=>?_
 refine CD.seq (CD.region ?_)
 refine OD.rE 1 [(0,.str s),(1,.i64 c)] ?_
 refine OD.nil (CD.seq (CD.region ?_))
 refine OD.rE 5 [(5,.str s),(9,.i64 (min (((s.size:Nat):Int):Int) ((c:Nat):Int)))] ?_
 refine OD.is 9 rfl X6b ?_
 refine OD.rE 0 [(5,.str s),(9,.i64 ((min s.size c:Nat):Int))] ?_
 refine OD.slS (lw:=0) (u:=(min s.size c)) rfl (by kernel_rfl) (.inl ⟨rfl,rfl⟩) (.inr ⟨_,_,rfl,rfl⟩) (by omega) (by omega) ?_
 refine OD.rE 1 [(4,.str (s.extract 0 (min s.size c)))] ?_
 refine OD.nil (CD.ret ?_)
 (try dsimp only);first | refine X01 ?_ | refine X02 ?_
 exact rO 0 (.str (s.extract 0 (min s.size c))) [] (⟨rfl,rfl⟩)
end
end Go.Proofs.YtfcadnhoejlgoaaGreatDoor
