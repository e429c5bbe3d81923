/-
  What is proved here: what functions of the pattern's package come to (walks that a program of mine has printed). No conditions. What is proved here: what functions of the pattern's package come to (walks that a program of mine has printed). No conditions. What is proved here: what functions of the pattern's package come to (walks that a program of mine has printed). No conditions.
-/
import Derived.Test.YtiebldaihnbkmaaGreatDoorNA
import Derived.Test.YtiebldaihnbkmaaGreatDoorProg
import Derived.KernelRfl
import Derived.Lib.ValidU
import Derived.Test.YtiebldaihnbkmaaGreatDoorRI
set_option linter.unusedVariables false
set_option linter.unusedSimpArgs false
set_option linter.unusedVariables false
set_option linter.unusedSimpArgs false
set_option maxRecDepth 100000
set_option maxHeartbeats 4000000
namespace Go.Proofs.YtiebldaihnbkmaaGreatDoor
open Go.Vai Go.Nfa
noncomputable section
noncomputable abbrev P := Tryz.prog
def vsFn : List Value → Heap → Option (Value × Heap) := fun args h => match args with
 | [.string s] => match decide (s.size ≤ 9223372036854775807) with
  | true => some (.bool (Lib.validD s.data.toList), h)
  | false => none
 | _ => none
def ov : Ov := fun f => match Nat.beq f 54 with
 | true => some vsFn
 | false => ovs [16] f
theorem validRune_ok (r : Int) : PureD P ov 125 [.int .i32 r] (.bool (validB r)) := by
 refine FnD.intro (by kernel_rfl) (fn := Tryz.f125) (by kernel_rfl) rfl (by kernel_rfl) fun M a0 g0 hg0 => ?_
 refine CD.seq (CD.region ?_)
 refine OD.rE 1 [(0, .int .i32 r)] ?_
 refine OD.nil (CD.seq (CD.block (CD.seq (CD.region ?_))))
 refine OD.rE 3 [(0, .int .i32 r), (6, .bool (decide ((0 : Int) ≤ r)))] ?_
 refine OD.ifP 6 rfl (fun h1 => ?_) (fun h1 => ?_)
 ·
  refine OD.rE 4 [(0, .int .i32 r), (3, .bool (decide ((r : Int) < 55296)))] ?_
  refine OD.nil ?_
  refine CD.condP rfl (fun h2 => ?_) (fun h2 => ?_)
  ·
   refine CD.seq (CD.region ?_)
   refine OD.rE 1 [(2, .bool true)] ?_
   refine OD.nil (CD.ret ?_)
   exact rP (.bool true) (by first | (exfalso; omega) | (simp only [h1, h2, validB, bs, decide_true, decide_false, if_true, if_false, reduceIte] <;> rfl))
  ·
   refine CD.seq (CD.region ?_)
   refine OD.rE 3 [(0, .int .i32 r), (13, .bool (decide ((57343 : Int) < r)))] ?_
   refine OD.ifP 13 rfl (fun h3 => ?_) (fun h3 => ?_)
   ·
    refine OD.rE 4 [(10, .bool (decide ((r : Int) ≤ 1114111)))] ?_
    refine OD.nil ?_
    refine CD.condP rfl (fun h4 => ?_) (fun h4 => ?_)
    ·
     refine CD.seq (CD.region ?_)
     refine OD.rE 1 [(2, .bool true)] ?_
     refine OD.nil (CD.ret ?_)
     exact rP (.bool true) (by first | (exfalso; omega) | (simp only [h1, h2, h3, h4, validB, bs, decide_true, decide_false, if_true, if_false, reduceIte] <;> rfl))
    ·
     refine CD.skip (CD.seq (CD.region ?_))
     refine OD.rE 1 [(2, .bool false)] ?_
     refine OD.nil (CD.ret ?_)
     exact rP (.bool false) (by first | (exfalso; omega) | (simp only [h1, h2, h3, h4, validB, bs, decide_true, decide_false, if_true, if_false, reduceIte] <;> rfl))
   ·
    refine OD.rE 4 [(10, .bool false)] ?_
    refine OD.nil ?_
    refine CD.condF rfl ?_
    refine CD.skip (CD.seq (CD.region ?_))
    refine OD.rE 1 [(2, .bool false)] ?_
    refine OD.nil (CD.ret ?_)
    exact rP (.bool false) (by first | (exfalso; omega) | (simp only [h1, h2, h3, validB, bs, decide_true, decide_false, if_true, if_false, reduceIte] <;> rfl))
 ·
  refine OD.rE 4 [(0, .int .i32 r), (3, .bool false)] ?_
  refine OD.nil ?_
  refine CD.condF rfl ?_
  refine CD.seq (CD.region ?_)
  refine OD.rE 3 [(0, .int .i32 r), (13, .bool (decide ((57343 : Int) < r)))] ?_
  refine OD.ifP 13 rfl (fun h5 => ?_) (fun h5 => ?_)
  ·
   refine OD.rE 4 [(10, .bool (decide ((r : Int) ≤ 1114111)))] ?_
   refine OD.nil ?_
   refine CD.condP rfl (fun h6 => ?_) (fun h6 => ?_)
   ·
    refine CD.seq (CD.region ?_)
    refine OD.rE 1 [(2, .bool true)] ?_
    refine OD.nil (CD.ret ?_)
    exact rP (.bool true) (by first | (exfalso; omega) | (simp only [h1, h5, h6, validB, bs, decide_true, decide_false, if_true, if_false, reduceIte] <;> rfl))
   ·
    refine CD.skip (CD.seq (CD.region ?_))
    refine OD.rE 1 [(2, .bool false)] ?_
    refine OD.nil (CD.ret ?_)
    exact rP (.bool false) (by first | (exfalso; omega) | (simp only [h1, h5, h6, validB, bs, decide_true, decide_false, if_true, if_false, reduceIte] <;> rfl))
  ·
   refine OD.rE 4 [(10, .bool false)] ?_
   refine OD.nil ?_
   refine CD.condF rfl ?_
   refine CD.skip (CD.seq (CD.region ?_))
   refine OD.rE 1 [(2, .bool false)] ?_
   refine OD.nil (CD.ret ?_)
   exact rP (.bool false) (by first | (exfalso; omega) | (simp only [h1, h5, validB, bs, decide_true, decide_false, if_true, if_false, reduceIte] <;> rfl))
end
end Go.Proofs.YtiebldaihnbkmaaGreatDoor
set_option linter.unusedVariables false
set_option linter.unusedSimpArgs false
set_option maxRecDepth 100000
set_option maxHeartbeats 4000000
namespace Go.Proofs.YtiebldaihnbkmaaGreatDoor
open Go.Vai Go.Nfa
noncomputable section
end
end Go.Proofs.YtiebldaihnbkmaaGreatDoor
set_option linter.unusedVariables false
set_option linter.unusedSimpArgs false
set_option maxRecDepth 100000
set_option maxHeartbeats 4000000
namespace Go.Proofs.YtiebldaihnbkmaaGreatDoor
open Go.Vai Go.Nfa
noncomputable section
end
end Go.Proofs.YtiebldaihnbkmaaGreatDoor
