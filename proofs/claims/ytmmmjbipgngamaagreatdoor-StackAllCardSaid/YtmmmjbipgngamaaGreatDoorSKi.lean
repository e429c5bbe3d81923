/-
  What is proved here: what a text's OSC is made of; what is found after one push. what goes to the outside is, decoded, what was taken (a walk that a program of mine has printed). No conditions but those that the theorems state.
-/
import Derived.Test.YtmmmjbipgngamaaGreatDoorSKg
set_option linter.unusedVariables false
set_option linter.unusedSimpArgs false
namespace Go.Proofs.YtmmmjbipgngamaaGreatDoor
open Go.Vai Go.RowKit
noncomputable section
theorem XDj (room:Int) (n0:Nat) (l rest:List X0A):FnD P ov 12 [.loc 0 0,.str ByteArray.empty] [.box [.int .i64 room,.int .i64 ((n0:Nat):Int),.row 1 0 l.length (l.length+rest.length)],.row 3 (l.length+rest.length) ((l++rest).flatMap X04)]
  fun r L1=>r=.str ByteArray.empty∧L1=[.box [.int .i64 room,.int .i64 ((n0:Nat):Int),.row 1 0 l.length (l.length+rest.length)],.row 3 (l.length+rest.length) ((l++rest).flatMap X04)]:=by
 refine FnD.intro (by kernel_rfl) (fn:=Tryz.f12) (by kernel_rfl) rfl (by kernel_rfl) fun M a0 g0 hg0=>?_
 refine CD.seq ?_
 refine CD.region ?_
 refine OD.runE 1 [0,1] (E':=[(0,.loc 0 0),(1,.str ByteArray.empty)]) (by kernel_rfl) ?_
 refine OD.nil ?_
 refine CD.seq ?_
 refine CD.seq ?_
 refine CD.region ?_
 refine OD.runE 6 [0,1,12] (E':=[(0,.loc 0 0),(1,.str ByteArray.empty),(12,.bool true)]) (by kernel_rfl) ?_
 refine OD.nil ?_
 refine CD.condT rfl ?_
 refine CD.seq ?_
 refine CD.region ?_
 refine OD.runE 1 [4] (E':=[(4,.str ByteArray.empty)]) (by kernel_rfl) ?_
 refine OD.nil ?_
 refine CD.ret ?_
 first | refine X06 ?_ | refine X07 ?_ | (dsimp only;first | refine X06 ?_ | refine X07 ?_)
 refine X26 2 (r:=.str ByteArray.empty) (L':=[.box [.int .i64 room,.int .i64 ((n0:Nat):Int),.row 1 0 l.length (l.length+rest.length)],.row 3 (l.length+rest.length) ((l++rest).flatMap X04)]) (by kernel_rfl) ?_ ?_ (by kernel_rfl) (by kernel_rfl) ?_
 · exact Nat.le_of_ble_eq_true (by kernel_rfl)
 · exact Nat.le_of_ble_eq_true (by kernel_rfl)
 · exact⟨rfl,rfl⟩
end
end Go.Proofs.YtmmmjbipgngamaaGreatDoor
set_option maxRecDepth 100000
set_option maxHeartbeats 4000000
namespace Go.Proofs.YtmmmjbipgngamaaGreatDoor
open Go.Vai Go.RowKit
noncomputable section
theorem X9s (s:ByteArray) (c:Nat):X2G P ov 11 [.str s,.int .i64 ((c:Nat):Int)] (.str (s.extract 0 (min s.size c))):=by
 refine FnD.intro (by kernel_rfl) (fn:=Tryz.f11) (by kernel_rfl) rfl (by kernel_rfl) fun M a0 g0 hg0=>?_
 refine CD.seq ?_
 refine CD.region ?_
 refine OD.runE 1 [0,1] (E':=[(0,.str s),(1,.int .i64 ((c:Nat):Int))]) (by kernel_rfl) ?_
 refine OD.nil ?_
 refine CD.seq ?_
 refine CD.region ?_
 refine OD.runE 5 [5,9] (E':=[(5,.str s),(9,.int .i64 (min (((s.size:Nat):Int):Int) ((c:Nat):Int)))]) (by kernel_rfl) ?_
 refine OD.is 9 rfl XFT ?_
 refine OD.runE 0 [5,9] (E':=[(5,.str s),(9,.int .i64 ((min s.size c:Nat):Int))]) (by kernel_rfl) ?_
 refine OD.slS (lw:=0) (u:=(min s.size c)) rfl (by kernel_rfl) (.inl ⟨rfl,rfl⟩) (.inr ⟨_,_,rfl,rfl⟩) (by omega) (by omega) ?_
 refine OD.runE 1 [4] (E':=[(4,.str (s.extract 0 (min s.size c)))]) (by kernel_rfl) ?_
 refine OD.nil ?_
 refine CD.ret ?_
 exact X36 (by kernel_rfl) (by kernel_rfl) (r:=.str (s.extract 0 (min s.size c))) (rfl)
end
end Go.Proofs.YtmmmjbipgngamaaGreatDoor
