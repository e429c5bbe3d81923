/-
 What is proved here: what functions of the pattern's package come to (walks that a program of mine has printed). No conditions. What is proved here: what functions of the pattern's package come to (walks that a program of mine has printed). No conditions. What is proved here: what functions of the pattern's package come to (walks that a program of mine has printed). No conditions.
-/
import Derived.Test.YtiebldaihnbkmaaGreatDoorNA
import Derived.Test.YtiebldaihnbkmaaGreatDoorProg
import Derived.KernelRfl
set_option linter.unusedVariables false
set_option linter.unusedSimpArgs false
set_option linter.unusedVariables false
set_option linter.unusedSimpArgs false
set_option maxRecDepth 100000
set_option maxHeartbeats 4000000
namespace Go.Proofs.YtiebldaihnbkmaaGreatDoor
open Go.Vai Go.Nfa
noncomputable section
noncomputable abbrev P := Tryz.prog
def ov : Ov := ovs [16]
theorem validRune_ok (r : Int) : PureD P ov 125 [.int .i32 r] (.bool (validB r)) := by
 refine FnD.intro (by kernel_rfl) (fn := Tryz.f125) (by kernel_rfl) rfl (by kernel_rfl) fun M a0 g0 hg0 => ?_
 refine CD.seq (CD.region ?_)
 refine OD.runE 1 [0] (E' := [(0, .int .i32 r)]) (by kernel_rfl) ?_
 refine OD.nil (CD.seq (CD.block (CD.seq (CD.region ?_))))
 refine OD.runE 3 [0, 6] (E' := [(0, .int .i32 r), (6, .bool (decide ((0 : Int) ≤ r)))]) (by kernel_rfl) ?_
 refine OD.ifP 6 rfl (fun h1 => ?_) (fun h1 => ?_)
 ·
  refine OD.runE 4 [0, 3] (E' := [(0, .int .i32 r), (3, .bool (decide ((r : Int) < 55296)))]) (by kernel_rfl) ?_
  refine OD.nil ?_
  refine CD.condP rfl (fun h2 => ?_) (fun h2 => ?_)
  ·
   refine CD.seq (CD.region ?_)
   refine OD.runE 1 [2] (E' := [(2, .bool true)]) (by kernel_rfl) ?_
   refine OD.nil (CD.ret ?_)
   exact retP (by kernel_rfl) (by kernel_rfl) (r := .bool true) (by first | (exfalso; omega) | (simp only [h1, h2, validB, decide_true, decide_false, Bool.true_and, Bool.false_and, Bool.and_true, Bool.and_false, Bool.true_or, Bool.false_or, Bool.or_true, Bool.or_false, Bool.not_true, Bool.not_false, if_true, if_false, not_true, not_false_eq_true, and_true, true_and, or_true, true_or, or_false, false_or, and_false, false_and, ite_true, ite_false, reduceIte, Bool.false_eq_true] <;> rfl))
  ·
   refine CD.seq (CD.region ?_)
   refine OD.runE 3 [0, 13] (E' := [(0, .int .i32 r), (13, .bool (decide ((57343 : Int) < r)))]) (by kernel_rfl) ?_
   refine OD.ifP 13 rfl (fun h3 => ?_) (fun h3 => ?_)
   ·
    refine OD.runE 4 [10] (E' := [(10, .bool (decide ((r : Int) ≤ 1114111)))]) (by kernel_rfl) ?_
    refine OD.nil ?_
    refine CD.condP rfl (fun h4 => ?_) (fun h4 => ?_)
    ·
     refine CD.seq (CD.region ?_)
     refine OD.runE 1 [2] (E' := [(2, .bool true)]) (by kernel_rfl) ?_
     refine OD.nil (CD.ret ?_)
     exact retP (by kernel_rfl) (by kernel_rfl) (r := .bool true) (by first | (exfalso; omega) | (simp only [h1, h2, h3, h4, validB, decide_true, decide_false, Bool.true_and, Bool.false_and, Bool.and_true, Bool.and_false, Bool.true_or, Bool.false_or, Bool.or_true, Bool.or_false, Bool.not_true, Bool.not_false, if_true, if_false, not_true, not_false_eq_true, and_true, true_and, or_true, true_or, or_false, false_or, and_false, false_and, ite_true, ite_false, reduceIte, Bool.false_eq_true] <;> rfl))
    ·
     refine CD.skip (CD.seq (CD.region ?_))
     refine OD.runE 1 [2] (E' := [(2, .bool false)]) (by kernel_rfl) ?_
     refine OD.nil (CD.ret ?_)
     exact retP (by kernel_rfl) (by kernel_rfl) (r := .bool false) (by first | (exfalso; omega) | (simp only [h1, h2, h3, h4, validB, decide_true, decide_false, Bool.true_and, Bool.false_and, Bool.and_true, Bool.and_false, Bool.true_or, Bool.false_or, Bool.or_true, Bool.or_false, Bool.not_true, Bool.not_false, if_true, if_false, not_true, not_false_eq_true, and_true, true_and, or_true, true_or, or_false, false_or, and_false, false_and, ite_true, ite_false, reduceIte, Bool.false_eq_true] <;> rfl))
   ·
    refine OD.runE 4 [10] (E' := [(10, .bool false)]) (by kernel_rfl) ?_
    refine OD.nil ?_
    refine CD.condF rfl ?_
    refine CD.skip (CD.seq (CD.region ?_))
    refine OD.runE 1 [2] (E' := [(2, .bool false)]) (by kernel_rfl) ?_
    refine OD.nil (CD.ret ?_)
    exact retP (by kernel_rfl) (by kernel_rfl) (r := .bool false) (by first | (exfalso; omega) | (simp only [h1, h2, h3, validB, decide_true, decide_false, Bool.true_and, Bool.false_and, Bool.and_true, Bool.and_false, Bool.true_or, Bool.false_or, Bool.or_true, Bool.or_false, Bool.not_true, Bool.not_false, if_true, if_false, not_true, not_false_eq_true, and_true, true_and, or_true, true_or, or_false, false_or, and_false, false_and, ite_true, ite_false, reduceIte, Bool.false_eq_true] <;> rfl))
 ·
  refine OD.runE 4 [0, 3] (E' := [(0, .int .i32 r), (3, .bool false)]) (by kernel_rfl) ?_
  refine OD.nil ?_
  refine CD.condF rfl ?_
  refine CD.seq (CD.region ?_)
  refine OD.runE 3 [0, 13] (E' := [(0, .int .i32 r), (13, .bool (decide ((57343 : Int) < r)))]) (by kernel_rfl) ?_
  refine OD.ifP 13 rfl (fun h5 => ?_) (fun h5 => ?_)
  ·
   refine OD.runE 4 [10] (E' := [(10, .bool (decide ((r : Int) ≤ 1114111)))]) (by kernel_rfl) ?_
   refine OD.nil ?_
   refine CD.condP rfl (fun h6 => ?_) (fun h6 => ?_)
   ·
    refine CD.seq (CD.region ?_)
    refine OD.runE 1 [2] (E' := [(2, .bool true)]) (by kernel_rfl) ?_
    refine OD.nil (CD.ret ?_)
    exact retP (by kernel_rfl) (by kernel_rfl) (r := .bool true) (by first | (exfalso; omega) | (simp only [h1, h5, h6, validB, decide_true, decide_false, Bool.true_and, Bool.false_and, Bool.and_true, Bool.and_false, Bool.true_or, Bool.false_or, Bool.or_true, Bool.or_false, Bool.not_true, Bool.not_false, if_true, if_false, not_true, not_false_eq_true, and_true, true_and, or_true, true_or, or_false, false_or, and_false, false_and, ite_true, ite_false, reduceIte, Bool.false_eq_true] <;> rfl))
   ·
    refine CD.skip (CD.seq (CD.region ?_))
    refine OD.runE 1 [2] (E' := [(2, .bool false)]) (by kernel_rfl) ?_
    refine OD.nil (CD.ret ?_)
    exact retP (by kernel_rfl) (by kernel_rfl) (r := .bool false) (by first | (exfalso; omega) | (simp only [h1, h5, h6, validB, decide_true, decide_false, Bool.true_and, Bool.false_and, Bool.and_true, Bool.and_false, Bool.true_or, Bool.false_or, Bool.or_true, Bool.or_false, Bool.not_true, Bool.not_false, if_true, if_false, not_true, not_false_eq_true, and_true, true_and, or_true, true_or, or_false, false_or, and_false, false_and, ite_true, ite_false, reduceIte, Bool.false_eq_true] <;> rfl))
  ·
   refine OD.runE 4 [10] (E' := [(10, .bool false)]) (by kernel_rfl) ?_
   refine OD.nil ?_
   refine CD.condF rfl ?_
   refine CD.skip (CD.seq (CD.region ?_))
   refine OD.runE 1 [2] (E' := [(2, .bool false)]) (by kernel_rfl) ?_
   refine OD.nil (CD.ret ?_)
   exact retP (by kernel_rfl) (by kernel_rfl) (r := .bool false) (by first | (exfalso; omega) | (simp only [h1, h5, validB, decide_true, decide_false, Bool.true_and, Bool.false_and, Bool.and_true, Bool.and_false, Bool.true_or, Bool.false_or, Bool.or_true, Bool.or_false, Bool.not_true, Bool.not_false, if_true, if_false, not_true, not_false_eq_true, and_true, true_and, or_true, true_or, or_false, false_or, and_false, false_and, ite_true, ite_false, reduceIte, Bool.false_eq_true] <;> rfl))
theorem sign_ok (r : Int) : PureD P ov 118 [.int .i32 r] (.bool (signB r)) := by
 refine FnD.intro (by kernel_rfl) (fn := Tryz.f118) (by kernel_rfl) rfl (by kernel_rfl) fun M a0 g0 hg0 => ?_
 refine CD.seq (CD.region ?_)
 refine OD.runE 1 [0] (E' := [(0, .int .i32 r)]) (by kernel_rfl) ?_
 refine OD.nil (CD.seq (CD.region ?_))
 refine OD.runE 1 [0, 3] (E' := [(0, .int .i32 r), (3, .int .i32 r)]) (by kernel_rfl) ?_
 refine OD.callE (validRune_ok r) rfl (by kernel_rfl) (by kernel_rfl) (by kernel_rfl) ?_
 refine OD.runE 1 [0, 5] (E' := [(0, .int .i32 r), (5, .bool (validB r))]) (by kernel_rfl) ?_
 refine OD.ifB 5 rfl (fun h1 => ?_) (fun h1 => ?_)
 ·
  refine OD.runE 4 [2] (E' := [(2, .bool (decide (¬ (r : Int) = 65533)))]) (by kernel_rfl) ?_
  refine OD.nil (CD.ret ?_)
  exact retP (by kernel_rfl) (by kernel_rfl) (r := .bool (decide (¬ (r : Int) = 65533))) (by first | (exfalso; omega) | (simp only [h1, signB, decide_true, decide_false, Bool.true_and, Bool.false_and, Bool.and_true, Bool.and_false, Bool.true_or, Bool.false_or, Bool.or_true, Bool.or_false, Bool.not_true, Bool.not_false, if_true, if_false, not_true, not_false_eq_true, and_true, true_and, or_true, true_or, or_false, false_or, and_false, false_and, ite_true, ite_false, reduceIte, Bool.false_eq_true] <;> rfl))
 ·
  refine OD.runE 4 [2] (E' := [(2, .bool false)]) (by kernel_rfl) ?_
  refine OD.nil (CD.ret ?_)
  exact retP (by kernel_rfl) (by kernel_rfl) (r := .bool false) (by first | (exfalso; omega) | (simp only [h1, signB, decide_true, decide_false, Bool.true_and, Bool.false_and, Bool.and_true, Bool.and_false, Bool.true_or, Bool.false_or, Bool.or_true, Bool.or_false, Bool.not_true, Bool.not_false, if_true, if_false, not_true, not_false_eq_true, and_true, true_and, or_true, true_or, or_false, false_or, and_false, false_and, ite_true, ite_false, reduceIte, Bool.false_eq_true] <;> rfl))
theorem ranged_ok (r : Int × Int) : PureD P ov 110 [.agg [.int .i32 r.1, .int .i32 r.2]] (.bool (rangedB r)) := by
 refine FnD.intro (by kernel_rfl) (fn := Tryz.f110) (by kernel_rfl) rfl (by kernel_rfl) fun M a0 g0 hg0 => ?_
 refine CD.seq (CD.region ?_)
 refine OD.run 2 [1] (E' := [(1, .loc 0 0)]) (L' := [.box [.int .i32 r.1, .int .i32 r.2]]) (by kernel_rfl) ?_
 refine OD.nil (CD.seq (CD.region ?_))
 refine OD.runE 2 [1, 4] (E' := [(1, .loc 0 0), (4, .int .i32 r.1)]) (by kernel_rfl) ?_
 refine OD.callE (sign_ok r.1) rfl (by kernel_rfl) (by kernel_rfl) (by kernel_rfl) ?_
 refine OD.runE 1 [1, 6] (E' := [(1, .loc 0 0), (6, .bool (signB r.1))]) (by kernel_rfl) ?_
 refine OD.ifB 6 rfl (fun h1 => ?_) (fun h1 => ?_)
 ·
  refine OD.runE 2 [1, 6, 8] (E' := [(1, .loc 0 0), (6, .bool true), (8, .int .i32 r.2)]) (by kernel_rfl) ?_
  refine OD.guard rfl rfl ?_
  refine OD.callE (sign_ok r.2) rfl (by kernel_rfl) (by kernel_rfl) (by kernel_rfl) ?_
  refine OD.runE 2 [1, 11] (E' := [(1, .loc 0 0), (11, .bool (signB r.2))]) (by kernel_rfl) ?_
  refine OD.ifB 11 rfl (fun h2 => ?_) (fun h2 => ?_)
  ·
   refine OD.runE 7 [2] (E' := [(2, .bool (decide ((r.1 : Int) ≤ r.2)))]) (by kernel_rfl) ?_
   refine OD.nil (CD.ret ?_)
   exact retP (by kernel_rfl) (by kernel_rfl) (r := .bool (decide ((r.1 : Int) ≤ r.2))) (by first | (exfalso; omega) | (simp only [h1, h2, rangedB, decide_true, decide_false, Bool.true_and, Bool.false_and, Bool.and_true, Bool.and_false, Bool.true_or, Bool.false_or, Bool.or_true, Bool.or_false, Bool.not_true, Bool.not_false, if_true, if_false, not_true, not_false_eq_true, and_true, true_and, or_true, true_or, or_false, false_or, and_false, false_and, ite_true, ite_false, reduceIte, Bool.false_eq_true] <;> rfl))
  ·
   refine OD.runE 7 [2] (E' := [(2, .bool false)]) (by kernel_rfl) ?_
   refine OD.nil (CD.ret ?_)
   exact retP (by kernel_rfl) (by kernel_rfl) (r := .bool false) (by first | (exfalso; omega) | (simp only [h1, h2, rangedB, decide_true, decide_false, Bool.true_and, Bool.false_and, Bool.and_true, Bool.and_false, Bool.true_or, Bool.false_or, Bool.or_true, Bool.or_false, Bool.not_true, Bool.not_false, if_true, if_false, not_true, not_false_eq_true, and_true, true_and, or_true, true_or, or_false, false_or, and_false, false_and, ite_true, ite_false, reduceIte, Bool.false_eq_true] <;> rfl))
 ·
  refine OD.runE 12 [2] (E' := [(2, .bool false)]) (by kernel_rfl) ?_
  refine OD.nil (CD.ret ?_)
  exact retP (by kernel_rfl) (by kernel_rfl) (r := .bool false) (by first | (exfalso; omega) | (simp only [h1, rangedB, decide_true, decide_false, Bool.true_and, Bool.false_and, Bool.and_true, Bool.and_false, Bool.true_or, Bool.false_or, Bool.or_true, Bool.or_false, Bool.not_true, Bool.not_false, if_true, if_false, not_true, not_false_eq_true, and_true, true_and, or_true, true_or, or_false, false_or, and_false, false_and, ite_true, ite_false, reduceIte, Bool.false_eq_true] <;> rfl))
theorem one1_ok (r : Int × Int) : PureD P ov 109 [.agg [.int .i32 r.1, .int .i32 r.2]] (.bool (!rangedB r)) := by
 refine FnD.intro (by kernel_rfl) (fn := Tryz.f109) (by kernel_rfl) rfl (by kernel_rfl) fun M a0 g0 hg0 => ?_
 refine CD.seq (CD.region ?_)
 refine OD.run 2 [1] (E' := [(1, .loc 0 0)]) (L' := [.box [.int .i32 r.1, .int .i32 r.2]]) (by kernel_rfl) ?_
 refine OD.nil (CD.seq (CD.region ?_))
 refine OD.runE 1 [3] (E' := [(3, .agg [.int .i32 r.1, .int .i32 r.2])]) (by kernel_rfl) ?_
 refine OD.callE (ranged_ok (r.1, r.2)) rfl (by kernel_rfl) (by kernel_rfl) (by kernel_rfl) ?_
 refine OD.runE 2 [2] (E' := [(2, .bool (!(rangedB (r.1, r.2))))]) (by kernel_rfl) ?_
 refine OD.nil (CD.ret ?_)
 exact retP (by kernel_rfl) (by kernel_rfl) (r := .bool (!(rangedB (r.1, r.2)))) (by first | (exfalso; omega) | (simp only [decide_true, decide_false, Bool.true_and, Bool.false_and, Bool.and_true, Bool.and_false, Bool.true_or, Bool.false_or, Bool.or_true, Bool.or_false, Bool.not_true, Bool.not_false, if_true, if_false, not_true, not_false_eq_true, and_true, true_and, or_true, true_or, or_false, false_or, and_false, false_and, ite_true, ite_false, reduceIte, Bool.false_eq_true] <;> rfl))
theorem bare_ok (k : Int) (set : List (Int × Int)) (no : Bool) (kids : List Nd) (mn mx : Int) : PureD P ov 93 [.agg [.int .i64 k, .sl 2 set.length (set.flatMap encR), .bool no, .sl 6 kids.length (encNs kids), .int .i64 mn, .int .i64 mx]] (.bool (bareB (.mk k set no kids mn mx))) := by
 refine FnD.intro (by kernel_rfl) (fn := Tryz.f93) (by kernel_rfl) rfl (by kernel_rfl) fun M a0 g0 hg0 => ?_
 refine CD.seq (CD.region ?_)
 refine OD.run 2 [1] (E' := [(1, .loc 0 0)]) (L' := [.box [.int .i64 k, .sl 2 set.length (set.flatMap encR), .bool no, .sl 6 kids.length (encNs kids), .int .i64 mn, .int .i64 mx]]) (by kernel_rfl) ?_
 refine OD.nil (CD.seq (CD.region ?_))
 refine OD.runE 4 [1, 8] (E' := [(1, .loc 0 0), (8, .bool (decide ((k : Int) = 2)))]) (by kernel_rfl) ?_
 refine OD.ifP 8 rfl (fun h1 => ?_) (fun h1 => ?_)
 ·
  refine OD.runE 11 [1, 3] (E' := [(1, .loc 0 0), (3, .bool true)]) (by kernel_rfl) ?_
  refine OD.nil (CD.seq (CD.region ?_))
  refine OD.runE 4 [1, 3, 22] (E' := [(1, .loc 0 0), (3, .bool true), (22, .bool (decide ((k : Int) = 5)))]) (by kernel_rfl) ?_
  refine OD.ifP 22 rfl (fun h2 => ?_) (fun h2 => ?_)
  ·
   refine OD.runE 10 [3, 4] (E' := [(3, .bool true), (4, .bool true)]) (by kernel_rfl) ?_
   refine OD.nil (CD.seq (CD.region ?_))
   refine OD.runE 5 [2] (E' := [(2, .bool true)]) (by kernel_rfl) ?_
   refine OD.nil (CD.ret ?_)
   exact retP (by kernel_rfl) (by kernel_rfl) (r := .bool true) (by first | (exfalso; omega) | (simp only [h1, h2, bareB, decide_true, decide_false, Bool.true_and, Bool.false_and, Bool.and_true, Bool.and_false, Bool.true_or, Bool.false_or, Bool.or_true, Bool.or_false, Bool.not_true, Bool.not_false, if_true, if_false, not_true, not_false_eq_true, and_true, true_and, or_true, true_or, or_false, false_or, and_false, false_and, ite_true, ite_false, reduceIte, Bool.false_eq_true] <;> rfl))
  ·
   refine OD.runE 4 [1, 3, 22, 26] (E' := [(1, .loc 0 0), (3, .bool true), (22, .bool false), (26, .bool (decide ((mn : Int) = 0)))]) (by kernel_rfl) ?_
   refine OD.ifP 26 rfl (fun h3 => ?_) (fun h3 => ?_)
   ·
    refine OD.runE 6 [3, 4] (E' := [(3, .bool true), (4, .bool (decide ((mx : Int) = 0)))]) (by kernel_rfl) ?_
    refine OD.nil (CD.seq (CD.region ?_))
    refine OD.runE 5 [2] (E' := [(2, .bool (decide ((mx : Int) = 0)))]) (by kernel_rfl) ?_
    refine OD.nil (CD.ret ?_)
    exact retP (by kernel_rfl) (by kernel_rfl) (r := .bool (decide ((mx : Int) = 0))) (by first | (exfalso; omega) | (simp only [h1, h2, h3, bareB, decide_true, decide_false, Bool.true_and, Bool.false_and, Bool.and_true, Bool.and_false, Bool.true_or, Bool.false_or, Bool.or_true, Bool.or_false, Bool.not_true, Bool.not_false, if_true, if_false, not_true, not_false_eq_true, and_true, true_and, or_true, true_or, or_false, false_or, and_false, false_and, ite_true, ite_false, reduceIte, Bool.false_eq_true] <;> rfl))
   ·
    refine OD.runE 6 [3, 4] (E' := [(3, .bool true), (4, .bool false)]) (by kernel_rfl) ?_
    refine OD.nil (CD.seq (CD.region ?_))
    refine OD.runE 5 [2] (E' := [(2, .bool false)]) (by kernel_rfl) ?_
    refine OD.nil (CD.ret ?_)
    exact retP (by kernel_rfl) (by kernel_rfl) (r := .bool false) (by first | (exfalso; omega) | (simp only [h1, h2, h3, bareB, decide_true, decide_false, Bool.true_and, Bool.false_and, Bool.and_true, Bool.and_false, Bool.true_or, Bool.false_or, Bool.or_true, Bool.or_false, Bool.not_true, Bool.not_false, if_true, if_false, not_true, not_false_eq_true, and_true, true_and, or_true, true_or, or_false, false_or, and_false, false_and, ite_true, ite_false, reduceIte, Bool.false_eq_true] <;> rfl))
 ·
  refine OD.runE 5 [1, 8, 13] (E' := [(1, .loc 0 0), (8, .bool false), (13, .bool (decide ((((set.length : Nat) : Int) : Int) = 0)))]) (by kernel_rfl) ?_
  refine OD.ifP 13 rfl (fun h4 => ?_) (fun h4 => ?_)
  ·
   refine OD.runE 6 [1, 3] (E' := [(1, .loc 0 0), (3, .bool (!no))]) (by kernel_rfl) ?_
   refine OD.nil (CD.seq (CD.region ?_))
   refine OD.runE 4 [1, 3, 22] (E' := [(1, .loc 0 0), (3, .bool (!no)), (22, .bool (decide ((k : Int) = 5)))]) (by kernel_rfl) ?_
   refine OD.ifP 22 rfl (fun h5 => ?_) (fun h5 => ?_)
   ·
    refine OD.runE 10 [3, 4] (E' := [(3, .bool (!no)), (4, .bool true)]) (by kernel_rfl) ?_
    refine OD.nil (CD.seq (CD.region ?_))
    refine OD.runE 2 [4, 33] (E' := [(4, .bool true), (33, .bool (!no))]) (by kernel_rfl) ?_
    refine OD.ifB 33 rfl (fun h6 => ?_) (fun h6 => ?_)
    ·
     have h6 := ndt' h6
     refine OD.runE 3 [2] (E' := [(2, .bool true)]) (by kernel_rfl) ?_
     refine OD.nil (CD.ret ?_)
     exact retP (by kernel_rfl) (by kernel_rfl) (r := .bool true) (by first | (exfalso; omega) | (simp only [h1, h4, h5, h6, bareB, decide_true, decide_false, Bool.true_and, Bool.false_and, Bool.and_true, Bool.and_false, Bool.true_or, Bool.false_or, Bool.or_true, Bool.or_false, Bool.not_true, Bool.not_false, if_true, if_false, not_true, not_false_eq_true, and_true, true_and, or_true, true_or, or_false, false_or, and_false, false_and, ite_true, ite_false, reduceIte, Bool.false_eq_true] <;> rfl))
    ·
     have h6 := ndf' h6
     refine OD.runE 3 [2] (E' := [(2, .bool false)]) (by kernel_rfl) ?_
     refine OD.nil (CD.ret ?_)
     exact retP (by kernel_rfl) (by kernel_rfl) (r := .bool false) (by first | (exfalso; omega) | (simp only [h1, h4, h5, h6, bareB, decide_true, decide_false, Bool.true_and, Bool.false_and, Bool.and_true, Bool.and_false, Bool.true_or, Bool.false_or, Bool.or_true, Bool.or_false, Bool.not_true, Bool.not_false, if_true, if_false, not_true, not_false_eq_true, and_true, true_and, or_true, true_or, or_false, false_or, and_false, false_and, ite_true, ite_false, reduceIte, Bool.false_eq_true] <;> rfl))
   ·
    refine OD.runE 4 [1, 3, 22, 26] (E' := [(1, .loc 0 0), (3, .bool (!no)), (22, .bool false), (26, .bool (decide ((mn : Int) = 0)))]) (by kernel_rfl) ?_
    refine OD.ifP 26 rfl (fun h7 => ?_) (fun h7 => ?_)
    ·
     refine OD.runE 6 [3, 4] (E' := [(3, .bool (!no)), (4, .bool (decide ((mx : Int) = 0)))]) (by kernel_rfl) ?_
     refine OD.nil (CD.seq (CD.region ?_))
     refine OD.runE 2 [4, 33] (E' := [(4, .bool (decide ((mx : Int) = 0))), (33, .bool (!no))]) (by kernel_rfl) ?_
     refine OD.ifB 33 rfl (fun h8 => ?_) (fun h8 => ?_)
     ·
      have h8 := ndt' h8
      refine OD.runE 3 [2] (E' := [(2, .bool (decide ((mx : Int) = 0)))]) (by kernel_rfl) ?_
      refine OD.nil (CD.ret ?_)
      exact retP (by kernel_rfl) (by kernel_rfl) (r := .bool (decide ((mx : Int) = 0))) (by first | (exfalso; omega) | (simp only [h1, h4, h5, h7, h8, bareB, decide_true, decide_false, Bool.true_and, Bool.false_and, Bool.and_true, Bool.and_false, Bool.true_or, Bool.false_or, Bool.or_true, Bool.or_false, Bool.not_true, Bool.not_false, if_true, if_false, not_true, not_false_eq_true, and_true, true_and, or_true, true_or, or_false, false_or, and_false, false_and, ite_true, ite_false, reduceIte, Bool.false_eq_true] <;> rfl))
     ·
      have h8 := ndf' h8
      refine OD.runE 3 [2] (E' := [(2, .bool false)]) (by kernel_rfl) ?_
      refine OD.nil (CD.ret ?_)
      exact retP (by kernel_rfl) (by kernel_rfl) (r := .bool false) (by first | (exfalso; omega) | (simp only [h1, h4, h5, h7, h8, bareB, decide_true, decide_false, Bool.true_and, Bool.false_and, Bool.and_true, Bool.and_false, Bool.true_or, Bool.false_or, Bool.or_true, Bool.or_false, Bool.not_true, Bool.not_false, if_true, if_false, not_true, not_false_eq_true, and_true, true_and, or_true, true_or, or_false, false_or, and_false, false_and, ite_true, ite_false, reduceIte, Bool.false_eq_true] <;> rfl))
    ·
     refine OD.runE 6 [3, 4] (E' := [(3, .bool (!no)), (4, .bool false)]) (by kernel_rfl) ?_
     refine OD.nil (CD.seq (CD.region ?_))
     refine OD.runE 2 [4, 33] (E' := [(4, .bool false), (33, .bool (!no))]) (by kernel_rfl) ?_
     refine OD.ifB 33 rfl (fun h9 => ?_) (fun h9 => ?_)
     ·
      have h9 := ndt' h9
      refine OD.runE 3 [2] (E' := [(2, .bool false)]) (by kernel_rfl) ?_
      refine OD.nil (CD.ret ?_)
      exact retP (by kernel_rfl) (by kernel_rfl) (r := .bool false) (by first | (exfalso; omega) | (simp only [h1, h4, h5, h7, h9, bareB, decide_true, decide_false, Bool.true_and, Bool.false_and, Bool.and_true, Bool.and_false, Bool.true_or, Bool.false_or, Bool.or_true, Bool.or_false, Bool.not_true, Bool.not_false, if_true, if_false, not_true, not_false_eq_true, and_true, true_and, or_true, true_or, or_false, false_or, and_false, false_and, ite_true, ite_false, reduceIte, Bool.false_eq_true] <;> rfl))
     ·
      have h9 := ndf' h9
      refine OD.runE 3 [2] (E' := [(2, .bool false)]) (by kernel_rfl) ?_
      refine OD.nil (CD.ret ?_)
      exact retP (by kernel_rfl) (by kernel_rfl) (r := .bool false) (by first | (exfalso; omega) | (simp only [h1, h4, h5, h7, h9, bareB, decide_true, decide_false, Bool.true_and, Bool.false_and, Bool.and_true, Bool.and_false, Bool.true_or, Bool.false_or, Bool.or_true, Bool.or_false, Bool.not_true, Bool.not_false, if_true, if_false, not_true, not_false_eq_true, and_true, true_and, or_true, true_or, or_false, false_or, and_false, false_and, ite_true, ite_false, reduceIte, Bool.false_eq_true] <;> rfl))
  ·
   refine OD.runE 6 [1, 3] (E' := [(1, .loc 0 0), (3, .bool false)]) (by kernel_rfl) ?_
   refine OD.nil (CD.seq (CD.region ?_))
   refine OD.runE 4 [1, 3, 22] (E' := [(1, .loc 0 0), (3, .bool false), (22, .bool (decide ((k : Int) = 5)))]) (by kernel_rfl) ?_
   refine OD.ifP 22 rfl (fun h10 => ?_) (fun h10 => ?_)
   ·
    refine OD.runE 10 [3, 4] (E' := [(3, .bool false), (4, .bool true)]) (by kernel_rfl) ?_
    refine OD.nil (CD.seq (CD.region ?_))
    refine OD.runE 5 [2] (E' := [(2, .bool false)]) (by kernel_rfl) ?_
    refine OD.nil (CD.ret ?_)
    exact retP (by kernel_rfl) (by kernel_rfl) (r := .bool false) (by first | (exfalso; omega) | (simp only [h1, h4, h10, bareB, decide_true, decide_false, Bool.true_and, Bool.false_and, Bool.and_true, Bool.and_false, Bool.true_or, Bool.false_or, Bool.or_true, Bool.or_false, Bool.not_true, Bool.not_false, if_true, if_false, not_true, not_false_eq_true, and_true, true_and, or_true, true_or, or_false, false_or, and_false, false_and, ite_true, ite_false, reduceIte, Bool.false_eq_true] <;> rfl))
   ·
    refine OD.runE 4 [1, 3, 22, 26] (E' := [(1, .loc 0 0), (3, .bool false), (22, .bool false), (26, .bool (decide ((mn : Int) = 0)))]) (by kernel_rfl) ?_
    refine OD.ifP 26 rfl (fun h11 => ?_) (fun h11 => ?_)
    ·
     refine OD.runE 6 [3, 4] (E' := [(3, .bool false), (4, .bool (decide ((mx : Int) = 0)))]) (by kernel_rfl) ?_
     refine OD.nil (CD.seq (CD.region ?_))
     refine OD.runE 5 [2] (E' := [(2, .bool false)]) (by kernel_rfl) ?_
     refine OD.nil (CD.ret ?_)
     exact retP (by kernel_rfl) (by kernel_rfl) (r := .bool false) (by first | (exfalso; omega) | (simp only [h1, h4, h10, h11, bareB, decide_true, decide_false, Bool.true_and, Bool.false_and, Bool.and_true, Bool.and_false, Bool.true_or, Bool.false_or, Bool.or_true, Bool.or_false, Bool.not_true, Bool.not_false, if_true, if_false, not_true, not_false_eq_true, and_true, true_and, or_true, true_or, or_false, false_or, and_false, false_and, ite_true, ite_false, reduceIte, Bool.false_eq_true] <;> rfl))
    ·
     refine OD.runE 6 [3, 4] (E' := [(3, .bool false), (4, .bool false)]) (by kernel_rfl) ?_
     refine OD.nil (CD.seq (CD.region ?_))
     refine OD.runE 5 [2] (E' := [(2, .bool false)]) (by kernel_rfl) ?_
     refine OD.nil (CD.ret ?_)
     exact retP (by kernel_rfl) (by kernel_rfl) (r := .bool false) (by first | (exfalso; omega) | (simp only [h1, h4, h10, h11, bareB, decide_true, decide_false, Bool.true_and, Bool.false_and, Bool.and_true, Bool.and_false, Bool.true_or, Bool.false_or, Bool.or_true, Bool.or_false, Bool.not_true, Bool.not_false, if_true, if_false, not_true, not_false_eq_true, and_true, true_and, or_true, true_or, or_false, false_or, and_false, false_and, ite_true, ite_false, reduceIte, Bool.false_eq_true] <;> rfl))
theorem badF_ok (set : List (Int × Int)) (hsz : set.length < 4611686018427387904) : PureD P ov 117 [.sl 2 set.length (set.flatMap encR), .fn 109] (.int .i64 (badF set 0)) := by
 refine FnD.intro (by kernel_rfl) (fn := Tryz.f117) (by kernel_rfl) rfl (by kernel_rfl) fun M a0 g0 hg0 => ?_
 refine CD.seq (CD.region ?_)
 refine OD.runE 1 [0, 1] (E' := [(0, .sl 2 set.length (set.flatMap encR)), (1, .fn 109)]) (by kernel_rfl) ?_
 refine OD.nil (CD.seq (CD.seq (CD.region ?_)))
 refine OD.runE 3 [0, 1, 7, 8] (E' := [(0, .sl 2 set.length (set.flatMap encR)), (1, .fn 109), (7, .int .i64 set.length), (8, .int .i64 0)]) (by kernel_rfl) ?_
 refine OD.nil (CD.block ?_)
 refine CD.weak [0, 1, 7, 8] 0 (E' := [(0, .sl 2 set.length (set.flatMap encR)), (1, .fn 109), (7, .int .i64 set.length), (8, .int .i64 0)]) (by kernel_rfl) (by simp [hg0]) (by kernel_rfl) ?_
 refine CD.loop (fun m σ => ∃ (i : Nat), σ = ⟨[(0, .sl 2 set.length (set.flatMap encR)), (1, .fn 109), (7, .int .i64 set.length), (8, .int .i64 i)], []⟩ ∧ (i ≤ set.length) ∧ (badF set 0 = badF (set.drop i) i) ∧ m = set.length - i) (fun m σ hI => ?_) _ ⟨0, (by kernel_rfl), Nat.zero_le _, rfl, rfl⟩
 obtain ⟨i, e, hi, hr, hm⟩ := hI
 subst e hm
 refine CD.seq (CD.region ?_)
 refine OD.runE 1 [0, 1, 7, 8, 9] (E' := [(0, .sl 2 set.length (set.flatMap encR)), (1, .fn 109), (7, .int .i64 set.length), (8, .int .i64 i), (9, .bool (decide ((((i : Nat) : Int) : Int) < ((set.length : Nat) : Int))))]) (by kernel_rfl) ?_
 refine OD.nil (CD.seq ?_)
 refine CD.condP rfl (fun h1 => ?_) (fun h1 => ?_)
 ·
  obtain ⟨x, hx, hd⟩ := nth (l := set) (i := i) (by omega)
  refine CD.skip (CD.seq (CD.block (CD.seq (CD.region ?_))))
  refine OD.runE 2 [0, 1, 5, 7, 8] (E' := [(0, .sl 2 set.length (set.flatMap encR)), (1, .fn 109), (5, .int .i64 i), (7, .int .i64 set.length), (8, .int .i64 i)]) (by kernel_rfl) ?_
  refine OD.nil (CD.seq (CD.region ?_))
  refine OD.runE 3 [0, 1, 5, 7, 8, 11, 12, 13] (E' := [(0, .sl 2 set.length (set.flatMap encR)), (1, .fn 109), (5, .int .i64 i), (7, .int .i64 set.length), (8, .int .i64 i), (11, .fn 109), (12, .sl 2 set.length (set.flatMap encR)), (13, .int .i64 i)]) (by kernel_rfl) ?_
  refine OD.idx rfl rfl (by kernel_rfl) (by omega) (by omega) ?_
  refine OD.runE 0 [0, 1, 5, 7, 8, 11, 14] (E' := [(0, .sl 2 set.length (set.flatMap encR)), (1, .fn 109), (5, .int .i64 i), (7, .int .i64 set.length), (8, .int .i64 i), (11, .fn 109), (14, .ep 2 set.length (set.flatMap encR) ((((i : Nat) : Int) : Int).toNat * 2))]) (by kernel_rfl) ?_
  refine OD.ldA rfl (by kernel_rfl) (by kernel_rfl) (rPart hx) rfl (by decide) ?_
  refine OD.runE 0 [0, 1, 5, 7, 8, 11, 15] (E' := [(0, .sl 2 set.length (set.flatMap encR)), (1, .fn 109), (5, .int .i64 i), (7, .int .i64 set.length), (8, .int .i64 i), (11, .fn 109), (15, .agg [.int .i32 x.1, .int .i32 x.2])]) (by kernel_rfl) ?_
  refine OD.callE (one1_ok x) rfl (by kernel_rfl) (by kernel_rfl) (by kernel_rfl) ?_
  refine OD.runE 0 [0, 1, 5, 7, 8, 16] (E' := [(0, .sl 2 set.length (set.flatMap encR)), (1, .fn 109), (5, .int .i64 i), (7, .int .i64 set.length), (8, .int .i64 i), (16, .bool (!(rangedB x)))]) (by kernel_rfl) ?_
  refine OD.nil ?_
  refine CD.condB rfl (fun h2 => ?_) (fun h2 => ?_)
  ·
   have h2 := ndt' h2
   refine CD.seq (CD.region ?_)
   refine OD.runE 2 [4] (E' := [(4, .int .i64 i)]) (by kernel_rfl) ?_
   refine OD.nil (CD.ret ?_)
   exact retP (by kernel_rfl) (by kernel_rfl) (r := .int .i64 i) (by rw [hr, hd, badF, if_neg (by simpa using h2)])
  ·
   have h2 := ndf' h2
   refine CD.skip (CD.region ?_)
   refine OD.runE 1 [0, 1, 7, 18] (E' := [(0, .sl 2 set.length (set.flatMap encR)), (1, .fn 109), (7, .int .i64 set.length), (18, .int .i64 (wrapQ .i64 (((i : Nat) : Int) + 1)))]) (by kernel_rfl) ?_
   refine OD.is 18 rfl (wrn (m := i + 1) (by omega) (by omega)) ?_
   refine OD.runE 1 [0, 1, 7, 8] (E' := [(0, .sl 2 set.length (set.flatMap encR)), (1, .fn 109), (7, .int .i64 set.length), (8, .int .i64 ((i + 1 : Nat) : Int))]) (by kernel_rfl) ?_
   refine OD.nil ?_
   exact ⟨_, by omega, i + 1, (by kernel_rfl), by omega, by rw [hr, hd, badF, if_pos (by simpa using h2)], rfl⟩
 ·
  refine CD.exit ?_
  refine CD.seq (CD.region ?_)
  refine OD.runE 1 [4] (E' := [(4, .int .i64 (-1))]) (by kernel_rfl) ?_
  refine OD.nil (CD.ret ?_)
  exact retP (by kernel_rfl) (by kernel_rfl) (r := .int .i64 (-1)) (by rw [hr, List.drop_eq_nil_of_le (by omega)]; rfl)
theorem contF_ok (set : List (Int × Int)) (hsz : set.length < 4611686018427387904) : PureD P ov 108 [.sl 2 set.length (set.flatMap encR), .fn 109] (.bool (!set.all rangedB)) := by
 refine FnD.intro (by kernel_rfl) (fn := Tryz.f108) (by kernel_rfl) rfl (by kernel_rfl) fun M a0 g0 hg0 => ?_
 refine CD.seq (CD.region ?_)
 refine OD.runE 1 [0, 1] (E' := [(0, .sl 2 set.length (set.flatMap encR)), (1, .fn 109)]) (by kernel_rfl) ?_
 refine OD.nil (CD.seq (CD.region ?_))
 refine OD.runE 2 [5, 6] (E' := [(5, .sl 2 set.length (set.flatMap encR)), (6, .fn 109)]) (by kernel_rfl) ?_
 refine OD.callE (badF_ok set hsz) rfl (by kernel_rfl) (by kernel_rfl) (by kernel_rfl) ?_
 refine OD.runE 2 [4] (E' := [(4, .bool (decide ((0 : Int) ≤ (badF set 0))))]) (by kernel_rfl) ?_
 refine OD.nil (CD.ret ?_)
 exact retP (by kernel_rfl) (by kernel_rfl) (r := .bool (decide ((0 : Int) ≤ (badF set 0)))) (by rw [badF_all])
theorem one_ok (k : Int) (set : List (Int × Int)) (no : Bool) (kids : List Nd) (mn mx : Int) (hsz : set.length < 4611686018427387904) : PureD P ov 94 [.agg [.int .i64 k, .sl 2 set.length (set.flatMap encR), .bool no, .sl 6 kids.length (encNs kids), .int .i64 mn, .int .i64 mx]] (.bool (oneB (.mk k set no kids mn mx))) := by
 refine FnD.intro (by kernel_rfl) (fn := Tryz.f94) (by kernel_rfl) rfl (by kernel_rfl) fun M a0 g0 hg0 => ?_
 refine CD.seq (CD.region ?_)
 refine OD.run 2 [1] (E' := [(1, .loc 0 0)]) (L' := [.box [.int .i64 k, .sl 2 set.length (set.flatMap encR), .bool no, .sl 6 kids.length (encNs kids), .int .i64 mn, .int .i64 mx]]) (by kernel_rfl) ?_
 refine OD.nil (CD.seq (CD.region ?_))
 refine OD.runE 4 [1, 3] (E' := [(1, .loc 0 0), (3, .int .i64 kids.length)]) (by kernel_rfl) ?_
 refine OD.nil (CD.seq (CD.seq (CD.region ?_)))
 refine OD.runE 2 [1, 3, 8] (E' := [(1, .loc 0 0), (3, .int .i64 kids.length), (8, .int .i64 k)]) (by kernel_rfl) ?_
 refine OD.nil (CD.block (CD.seq (CD.region ?_)))
 refine OD.runE 2 [1, 3, 8, 9] (E' := [(1, .loc 0 0), (3, .int .i64 kids.length), (8, .int .i64 k), (9, .bool (decide ((k : Int) = 2)))]) (by kernel_rfl) ?_
 refine OD.nil ?_
 refine CD.condP rfl (fun h1 => ?_) (fun h1 => ?_)
 ·
  refine CD.seq (CD.region ?_)
  refine OD.runE 3 [1, 13] (E' := [(1, .loc 0 0), (13, .bool (decide ((((kids.length : Nat) : Int) : Int) = 0)))]) (by kernel_rfl) ?_
  refine OD.ifP 13 rfl (fun h2 => ?_) (fun h2 => ?_)
  ·
   refine OD.runE 5 [1, 13, 18] (E' := [(1, .loc 0 0), (13, .bool true), (18, .bool (decide ((0 : Int) < ((set.length : Nat) : Int))))]) (by kernel_rfl) ?_
   refine OD.ifP 18 rfl (fun h3 => ?_) (fun h3 => ?_)
   ·
    refine OD.runE 7 [23, 25] (E' := [(23, .bool true), (25, .sl 2 set.length (set.flatMap encR))]) (by kernel_rfl) ?_
    refine OD.guard rfl rfl ?_
    refine OD.callE (contF_ok set hsz) rfl (by kernel_rfl) (by kernel_rfl) (by kernel_rfl) ?_
    refine OD.runE 3 [2] (E' := [(2, .bool (!(!set.all rangedB)))]) (by kernel_rfl) ?_
    refine OD.nil (CD.ret ?_)
    exact retP (by kernel_rfl) (by kernel_rfl) (r := .bool (!(!set.all rangedB))) (by first | (exfalso; omega) | (simp only [h1, h2, h3, oneB, Bool.not_not, decide_true, decide_false, Bool.true_and, Bool.false_and, Bool.and_true, Bool.and_false, Bool.true_or, Bool.false_or, Bool.or_true, Bool.or_false, Bool.not_true, Bool.not_false, if_true, if_false, not_true, not_false_eq_true, and_true, true_and, or_true, true_or, or_false, false_or, and_false, false_and, ite_true, ite_false, reduceIte, Bool.false_eq_true] <;> rfl))
   ·
    refine OD.runE 5 [1, 23] (E' := [(1, .loc 0 0), (23, .bool no)]) (by kernel_rfl) ?_
    refine OD.ifB 23 rfl (fun h4 => ?_) (fun h4 => ?_)
    ·
     refine OD.runE 2 [23, 25] (E' := [(23, .bool true), (25, .sl 2 set.length (set.flatMap encR))]) (by kernel_rfl) ?_
     refine OD.guard rfl rfl ?_
     refine OD.callE (contF_ok set hsz) rfl (by kernel_rfl) (by kernel_rfl) (by kernel_rfl) ?_
     refine OD.runE 3 [2] (E' := [(2, .bool (!(!set.all rangedB)))]) (by kernel_rfl) ?_
     refine OD.nil (CD.ret ?_)
     exact retP (by kernel_rfl) (by kernel_rfl) (r := .bool (!(!set.all rangedB))) (by first | (exfalso; omega) | (simp only [h1, h2, h3, h4, oneB, Bool.not_not, decide_true, decide_false, Bool.true_and, Bool.false_and, Bool.and_true, Bool.and_false, Bool.true_or, Bool.false_or, Bool.or_true, Bool.or_false, Bool.not_true, Bool.not_false, if_true, if_false, not_true, not_false_eq_true, and_true, true_and, or_true, true_or, or_false, false_or, and_false, false_and, ite_true, ite_false, reduceIte, Bool.false_eq_true] <;> rfl))
    ·
     refine OD.runE 6 [2] (E' := [(2, .bool false)]) (by kernel_rfl) ?_
     refine OD.nil (CD.ret ?_)
     exact retP (by kernel_rfl) (by kernel_rfl) (r := .bool false) (by first | (exfalso; omega) | (simp only [h1, h2, h3, h4, oneB, Bool.not_not, decide_true, decide_false, Bool.true_and, Bool.false_and, Bool.and_true, Bool.and_false, Bool.true_or, Bool.false_or, Bool.or_true, Bool.or_false, Bool.not_true, Bool.not_false, if_true, if_false, not_true, not_false_eq_true, and_true, true_and, or_true, true_or, or_false, false_or, and_false, false_and, ite_true, ite_false, reduceIte, Bool.false_eq_true] <;> rfl))
  ·
   refine OD.runE 16 [2] (E' := [(2, .bool false)]) (by kernel_rfl) ?_
   refine OD.nil (CD.ret ?_)
   exact retP (by kernel_rfl) (by kernel_rfl) (r := .bool false) (by first | (exfalso; omega) | (simp only [h1, h2, oneB, Bool.not_not, decide_true, decide_false, Bool.true_and, Bool.false_and, Bool.and_true, Bool.and_false, Bool.true_or, Bool.false_or, Bool.or_true, Bool.or_false, Bool.not_true, Bool.not_false, if_true, if_false, not_true, not_false_eq_true, and_true, true_and, or_true, true_or, or_false, false_or, and_false, false_and, ite_true, ite_false, reduceIte, Bool.false_eq_true] <;> rfl))
 ·
  refine CD.seq (CD.seq (CD.region ?_))
  refine OD.runE 2 [1, 3, 8, 29] (E' := [(1, .loc 0 0), (3, .int .i64 kids.length), (8, .int .i64 k), (29, .bool (decide ((k : Int) = 3)))]) (by kernel_rfl) ?_
  refine OD.nil ?_
  refine CD.condS rfl (fun h5 => ?_) (fun h5 => ?_)
  ·
   refine CD.skip ?_
   refine CD.condT rfl ?_
   refine CD.seq (CD.region ?_)
   refine OD.runE 3 [2] (E' := [(2, .bool (decide ((2 : Int) ≤ ((kids.length : Nat) : Int))))]) (by kernel_rfl) ?_
   refine OD.nil (CD.ret ?_)
   exact retP (by kernel_rfl) (by kernel_rfl) (r := .bool (decide ((2 : Int) ≤ ((kids.length : Nat) : Int)))) (by first | (exfalso; omega) | (simp only [h1, h5, oneB, Bool.not_not, decide_true, decide_false, Bool.true_and, Bool.false_and, Bool.and_true, Bool.and_false, Bool.true_or, Bool.false_or, Bool.or_true, Bool.or_false, Bool.not_true, Bool.not_false, if_true, if_false, not_true, not_false_eq_true, and_true, true_and, or_true, true_or, or_false, false_or, and_false, false_and, ite_true, ite_false, reduceIte, Bool.false_eq_true] <;> rfl))
  ·
   refine CD.region ?_
   refine OD.runE 2 [1, 3, 8, 29] (E' := [(1, .loc 0 0), (3, .int .i64 kids.length), (8, .int .i64 k), (29, .bool (decide ((k : Int) = 4)))]) (by kernel_rfl) ?_
   refine OD.nil ?_
   refine CD.condP rfl (fun h6 => ?_) (fun h6 => ?_)
   ·
    refine CD.seq (CD.region ?_)
    refine OD.runE 3 [2] (E' := [(2, .bool (decide ((2 : Int) ≤ ((kids.length : Nat) : Int))))]) (by kernel_rfl) ?_
    refine OD.nil (CD.ret ?_)
    exact retP (by kernel_rfl) (by kernel_rfl) (r := .bool (decide ((2 : Int) ≤ ((kids.length : Nat) : Int)))) (by first | (exfalso; omega) | (simp only [h1, h5, h6, oneB, Bool.not_not, decide_true, decide_false, Bool.true_and, Bool.false_and, Bool.and_true, Bool.and_false, Bool.true_or, Bool.false_or, Bool.or_true, Bool.or_false, Bool.not_true, Bool.not_false, if_true, if_false, not_true, not_false_eq_true, and_true, true_and, or_true, true_or, or_false, false_or, and_false, false_and, ite_true, ite_false, reduceIte, Bool.false_eq_true] <;> rfl))
   ·
    refine CD.seq (CD.region ?_)
    refine OD.runE 2 [1, 3, 8, 34] (E' := [(1, .loc 0 0), (3, .int .i64 kids.length), (8, .int .i64 k), (34, .bool (decide ((k : Int) = 5)))]) (by kernel_rfl) ?_
    refine OD.nil ?_
    refine CD.condP rfl (fun h7 => ?_) (fun h7 => ?_)
    ·
     refine CD.seq (CD.region ?_)
     refine OD.runE 3 [1, 38] (E' := [(1, .loc 0 0), (38, .bool (decide ((((kids.length : Nat) : Int) : Int) = 1)))]) (by kernel_rfl) ?_
     refine OD.ifP 38 rfl (fun h8 => ?_) (fun h8 => ?_)
     ·
      refine OD.runE 5 [1, 43] (E' := [(1, .loc 0 0), (43, .bool (decide ((0 : Int) ≤ mn)))]) (by kernel_rfl) ?_
      refine OD.ifP 43 rfl (fun h9 => ?_) (fun h9 => ?_)
      ·
       refine OD.runE 5 [1, 48] (E' := [(1, .loc 0 0), (48, .bool (decide ((mn : Int) ≤ 9)))]) (by kernel_rfl) ?_
       refine OD.ifP 48 rfl (fun h10 => ?_) (fun h10 => ?_)
       ·
        refine OD.runE 5 [1, 53] (E' := [(1, .loc 0 0), (53, .bool (decide ((mx : Int) ≤ 9)))]) (by kernel_rfl) ?_
        refine OD.ifP 53 rfl (fun h11 => ?_) (fun h11 => ?_)
        ·
         refine OD.runE 4 [1, 53, 57] (E' := [(1, .loc 0 0), (53, .bool true), (57, .bool (decide ((mx : Int) = (-1))))]) (by kernel_rfl) ?_
         refine OD.ifP 57 rfl (fun h12 => ?_) (fun h12 => ?_)
         ·
          refine OD.runE 8 [2] (E' := [(2, .bool true)]) (by kernel_rfl) ?_
          refine OD.nil (CD.ret ?_)
          exact retP (by kernel_rfl) (by kernel_rfl) (r := .bool true) (by first | (exfalso; omega) | (simp only [h1, h5, h6, h7, h8, h9, h10, h11, h12, oneB, Bool.not_not, decide_true, decide_false, Bool.true_and, Bool.false_and, Bool.and_true, Bool.and_false, Bool.true_or, Bool.false_or, Bool.or_true, Bool.or_false, Bool.not_true, Bool.not_false, if_true, if_false, not_true, not_false_eq_true, and_true, true_and, or_true, true_or, or_false, false_or, and_false, false_and, ite_true, ite_false, reduceIte, Bool.false_eq_true] <;> rfl))
         ·
          refine OD.runE 8 [2] (E' := [(2, .bool (decide ((mn : Int) ≤ mx)))]) (by kernel_rfl) ?_
          refine OD.nil (CD.ret ?_)
          exact retP (by kernel_rfl) (by kernel_rfl) (r := .bool (decide ((mn : Int) ≤ mx))) (by first | (exfalso; omega) | (simp only [h1, h5, h6, h7, h8, h9, h10, h11, h12, oneB, Bool.not_not, decide_true, decide_false, Bool.true_and, Bool.false_and, Bool.and_true, Bool.and_false, Bool.true_or, Bool.false_or, Bool.or_true, Bool.or_false, Bool.not_true, Bool.not_false, if_true, if_false, not_true, not_false_eq_true, and_true, true_and, or_true, true_or, or_false, false_or, and_false, false_and, ite_true, ite_false, reduceIte, Bool.false_eq_true] <;> rfl))
        ·
         refine OD.runE 12 [2] (E' := [(2, .bool false)]) (by kernel_rfl) ?_
         refine OD.nil (CD.ret ?_)
         exact retP (by kernel_rfl) (by kernel_rfl) (r := .bool false) (by first | (exfalso; omega) | (simp only [h1, h5, h6, h7, h8, h9, h10, h11, oneB, Bool.not_not, decide_true, decide_false, Bool.true_and, Bool.false_and, Bool.and_true, Bool.and_false, Bool.true_or, Bool.false_or, Bool.or_true, Bool.or_false, Bool.not_true, Bool.not_false, if_true, if_false, not_true, not_false_eq_true, and_true, true_and, or_true, true_or, or_false, false_or, and_false, false_and, ite_true, ite_false, reduceIte, Bool.false_eq_true] <;> rfl))
       ·
        refine OD.runE 17 [2] (E' := [(2, .bool false)]) (by kernel_rfl) ?_
        refine OD.nil (CD.ret ?_)
        exact retP (by kernel_rfl) (by kernel_rfl) (r := .bool false) (by first | (exfalso; omega) | (simp only [h1, h5, h6, h7, h8, h9, h10, oneB, Bool.not_not, decide_true, decide_false, Bool.true_and, Bool.false_and, Bool.and_true, Bool.and_false, Bool.true_or, Bool.false_or, Bool.or_true, Bool.or_false, Bool.not_true, Bool.not_false, if_true, if_false, not_true, not_false_eq_true, and_true, true_and, or_true, true_or, or_false, false_or, and_false, false_and, ite_true, ite_false, reduceIte, Bool.false_eq_true] <;> rfl))
      ·
       refine OD.runE 22 [2] (E' := [(2, .bool false)]) (by kernel_rfl) ?_
       refine OD.nil (CD.ret ?_)
       exact retP (by kernel_rfl) (by kernel_rfl) (r := .bool false) (by first | (exfalso; omega) | (simp only [h1, h5, h6, h7, h8, h9, oneB, Bool.not_not, decide_true, decide_false, Bool.true_and, Bool.false_and, Bool.and_true, Bool.and_false, Bool.true_or, Bool.false_or, Bool.or_true, Bool.or_false, Bool.not_true, Bool.not_false, if_true, if_false, not_true, not_false_eq_true, and_true, true_and, or_true, true_or, or_false, false_or, and_false, false_and, ite_true, ite_false, reduceIte, Bool.false_eq_true] <;> rfl))
     ·
      refine OD.runE 27 [2] (E' := [(2, .bool false)]) (by kernel_rfl) ?_
      refine OD.nil (CD.ret ?_)
      exact retP (by kernel_rfl) (by kernel_rfl) (r := .bool false) (by first | (exfalso; omega) | (simp only [h1, h5, h6, h7, h8, oneB, Bool.not_not, decide_true, decide_false, Bool.true_and, Bool.false_and, Bool.and_true, Bool.and_false, Bool.true_or, Bool.false_or, Bool.or_true, Bool.or_false, Bool.not_true, Bool.not_false, if_true, if_false, not_true, not_false_eq_true, and_true, true_and, or_true, true_or, or_false, false_or, and_false, false_and, ite_true, ite_false, reduceIte, Bool.false_eq_true] <;> rfl))
    ·
     refine CD.seq (CD.seq (CD.region ?_))
     refine OD.runE 2 [3, 8, 65] (E' := [(3, .int .i64 kids.length), (8, .int .i64 k), (65, .bool (decide ((k : Int) = 6)))]) (by kernel_rfl) ?_
     refine OD.nil ?_
     refine CD.condS rfl (fun h13 => ?_) (fun h13 => ?_)
     ·
      refine CD.skip ?_
      refine CD.condT rfl ?_
      refine CD.seq (CD.region ?_)
      refine OD.runE 3 [2] (E' := [(2, .bool (decide ((((kids.length : Nat) : Int) : Int) = 0)))]) (by kernel_rfl) ?_
      refine OD.nil (CD.ret ?_)
      exact retP (by kernel_rfl) (by kernel_rfl) (r := .bool (decide ((((kids.length : Nat) : Int) : Int) = 0))) (by first | (exfalso; omega) | (simp only [h1, h5, h6, h7, h13, oneB, Bool.not_not, decide_true, decide_false, Bool.true_and, Bool.false_and, Bool.and_true, Bool.and_false, Bool.true_or, Bool.false_or, Bool.or_true, Bool.or_false, Bool.not_true, Bool.not_false, if_true, if_false, not_true, not_false_eq_true, and_true, true_and, or_true, true_or, or_false, false_or, and_false, false_and, ite_true, ite_false, reduceIte, Bool.false_eq_true] <;> rfl))
     ·
      refine CD.region ?_
      refine OD.runE 2 [3, 65] (E' := [(3, .int .i64 kids.length), (65, .bool (decide ((k : Int) = 7)))]) (by kernel_rfl) ?_
      refine OD.nil ?_
      refine CD.condP rfl (fun h14 => ?_) (fun h14 => ?_)
      ·
       refine CD.seq (CD.region ?_)
       refine OD.runE 3 [2] (E' := [(2, .bool (decide ((((kids.length : Nat) : Int) : Int) = 0)))]) (by kernel_rfl) ?_
       refine OD.nil (CD.ret ?_)
       exact retP (by kernel_rfl) (by kernel_rfl) (r := .bool (decide ((((kids.length : Nat) : Int) : Int) = 0))) (by first | (exfalso; omega) | (simp only [h1, h5, h6, h7, h13, h14, oneB, Bool.not_not, decide_true, decide_false, Bool.true_and, Bool.false_and, Bool.and_true, Bool.and_false, Bool.true_or, Bool.false_or, Bool.or_true, Bool.or_false, Bool.not_true, Bool.not_false, if_true, if_false, not_true, not_false_eq_true, and_true, true_and, or_true, true_or, or_false, false_or, and_false, false_and, ite_true, ite_false, reduceIte, Bool.false_eq_true] <;> rfl))
      ·
       refine CD.skip (CD.seq (CD.region ?_))
       refine OD.runE 1 [2] (E' := [(2, .bool false)]) (by kernel_rfl) ?_
       refine OD.nil (CD.ret ?_)
       exact retP (by kernel_rfl) (by kernel_rfl) (r := .bool false) (by first | (exfalso; omega) | (simp only [h1, h5, h6, h7, h13, h14, oneB, Bool.not_not, decide_true, decide_false, Bool.true_and, Bool.false_and, Bool.and_true, Bool.and_false, Bool.true_or, Bool.false_or, Bool.or_true, Bool.or_false, Bool.not_true, Bool.not_false, if_true, if_false, not_true, not_false_eq_true, and_true, true_and, or_true, true_or, or_false, false_or, and_false, false_and, ite_true, ite_false, reduceIte, Bool.false_eq_true] <;> rfl))
theorem count_ok : ∀ (m : Nat) (k : Int) (set : List (Int × Int)) (no : Bool) (kids : List Nd) (mn mx : Int) (d : Nat), size (.mk k set no kids mn mx) ≤ m → fit (.mk k set no kids mn mx) → (d ≤ 41) → PureD P ov 62 [.agg [.int .i64 k, .sl 2 set.length (set.flatMap encR), .bool no, .sl 6 kids.length (encNs kids), .int .i64 mn, .int .i64 mx], .int .i64 d] (.int .i64 ((Nfa.cnt locB (.mk k set no kids mn mx) d : Nat) : Int)) := by
 intro m
 induction m with
 | zero => intro k set no kids mn mx d hs; exact absurd hs (by have := size_pos (.mk k set no kids mn mx); omega)
 | succ m ih =>
  intro k set no kids mn mx d hs hf hh
  have hf1 := hf.1
  have hf2 := hf.2.1
  have hf3 := hf.2.2.1
  have hf4 := hf.2.2.2.1
  refine FnD.intro (by kernel_rfl) (fn := Tryz.f62) (by kernel_rfl) rfl (by kernel_rfl) fun M a0 g0 hg0 => ?_
  refine CD.seq (CD.region ?_)
  refine OD.run 2 [1, 2] (E' := [(1, .int .i64 d), (2, .loc 0 0)]) (L' := [.box [.int .i64 k, .sl 2 set.length (set.flatMap encR), .bool no, .sl 6 kids.length (encNs kids), .int .i64 mn, .int .i64 mx]]) (by kernel_rfl) ?_
  refine OD.nil (CD.seq (CD.seq (CD.region ?_)))
  refine OD.runE 3 [1, 2, 10] (E' := [(1, .int .i64 d), (2, .loc 0 0), (10, .bool (decide ((40 : Int) < ((d : Nat) : Int))))]) (by kernel_rfl) ?_
  refine OD.ifP 10 rfl (fun h1 => ?_) (fun h1 => ?_)
  ·
   refine OD.runE 9 [1, 2, 19] (E' := [(1, .int .i64 d), (2, .loc 0 0), (19, .bool true)]) (by kernel_rfl) ?_
   refine OD.nil ?_
   refine CD.condT rfl ?_
   refine CD.seq (CD.region ?_)
   refine OD.runE 1 [4] (E' := [(4, .int .i64 2001)]) (by kernel_rfl) ?_
   refine OD.nil (CD.ret ?_)
   exact retP (by kernel_rfl) (by kernel_rfl) (r := .int .i64 2001) (by rw [cnt_mk, if_pos (.inl (by omega))]; rfl)
  ·
   refine OD.runE 1 [1, 2, 10, 11] (E' := [(1, .int .i64 d), (2, .loc 0 0), (10, .bool false), (11, .agg [.int .i64 k, .sl 2 set.length (set.flatMap encR), .bool no, .sl 6 kids.length (encNs kids), .int .i64 mn, .int .i64 mx])]) (by kernel_rfl) ?_
   refine OD.guard rfl rfl ?_
   refine OD.callE (bare_ok k set no kids mn mx) rfl (by kernel_rfl) (by kernel_rfl) (by kernel_rfl) ?_
   refine OD.runE 3 [1, 2, 15] (E' := [(1, .int .i64 d), (2, .loc 0 0), (15, .bool (!(bareB (.mk k set no kids mn mx))))]) (by kernel_rfl) ?_
   refine OD.ifB 15 rfl (fun h2 => ?_) (fun h2 => ?_)
   ·
    have h2 := ndt' h2
    refine OD.runE 4 [1, 2, 19] (E' := [(1, .int .i64 d), (2, .loc 0 0), (19, .bool true)]) (by kernel_rfl) ?_
    refine OD.nil ?_
    refine CD.condT rfl ?_
    refine CD.seq (CD.region ?_)
    refine OD.runE 1 [4] (E' := [(4, .int .i64 2001)]) (by kernel_rfl) ?_
    refine OD.nil (CD.ret ?_)
    exact retP (by kernel_rfl) (by kernel_rfl) (r := .int .i64 2001) (by rw [cnt_mk, if_pos (.inr (by simp [locB, *]))]; rfl)
   ·
    have h2 := ndf' h2
    refine OD.runE 1 [1, 2, 15, 16] (E' := [(1, .int .i64 d), (2, .loc 0 0), (15, .bool false), (16, .agg [.int .i64 k, .sl 2 set.length (set.flatMap encR), .bool no, .sl 6 kids.length (encNs kids), .int .i64 mn, .int .i64 mx])]) (by kernel_rfl) ?_
    refine OD.guard rfl rfl ?_
    refine OD.callE (one_ok k set no kids mn mx hf.1) rfl (by kernel_rfl) (by kernel_rfl) (by kernel_rfl) ?_
    refine OD.runE 2 [1, 2, 19] (E' := [(1, .int .i64 d), (2, .loc 0 0), (19, .bool (!(oneB (.mk k set no kids mn mx))))]) (by kernel_rfl) ?_
    refine OD.nil ?_
    refine CD.condB rfl (fun h3 => ?_) (fun h3 => ?_)
    ·
     have h3 := ndt' h3
     refine CD.seq (CD.region ?_)
     refine OD.runE 1 [4] (E' := [(4, .int .i64 2001)]) (by kernel_rfl) ?_
     refine OD.nil (CD.ret ?_)
     exact retP (by kernel_rfl) (by kernel_rfl) (r := .int .i64 2001) (by rw [cnt_mk, if_pos (.inr (by simp [locB, *]))]; rfl)
    ·
     have h3 := ndf' h3
     refine CD.skip (CD.seq (CD.region ?_))
     refine OD.runE 1 [1, 2, 5] (E' := [(1, .int .i64 d), (2, .loc 0 0), (5, .int .i64 1)]) (by kernel_rfl) ?_
     refine OD.nil (CD.seq (CD.seq (CD.region ?_)))
     refine OD.runE 4 [1, 5, 21, 22, 23] (E' := [(1, .int .i64 d), (5, .int .i64 1), (21, .sl 6 kids.length (encNs kids)), (22, .int .i64 kids.length), (23, .int .i64 0)]) (by kernel_rfl) ?_
     refine OD.nil (CD.block ?_)
     refine CD.weak [1, 5, 21, 22, 23] 1 (E' := [(1, .int .i64 d), (5, .int .i64 1), (21, .sl 6 kids.length (encNs kids)), (22, .int .i64 kids.length), (23, .int .i64 0)]) (by kernel_rfl) (by simp [hg0]) (by kernel_rfl) ?_
     refine CD.loop (fun m σ => ∃ (i : Nat) (all : Nat), σ = ⟨[(1, .int .i64 d), (5, .int .i64 all), (21, .sl 6 kids.length (encNs kids)), (22, .int .i64 kids.length), (23, .int .i64 i)], [.box [.int .i64 k, .sl 2 set.length (set.flatMap encR), .bool no, .sl 6 kids.length (encNs kids), .int .i64 mn, .int .i64 mx]]⟩ ∧ (i ≤ kids.length) ∧ (all ≤ 2000) ∧ (Nfa.cnt locB (.mk k set no kids mn mx) d = cntL locB (kids.drop i) d all) ∧ m = kids.length - i) (fun m σ hI => ?_) _ ⟨0, 1, (by kernel_rfl), Nat.zero_le _, by omega, by rw [cnt_mk, if_neg (by simp [locB, *]; omega)]; rfl, rfl⟩
     obtain ⟨i, all, e, hi, ha, hr, hm⟩ := hI
     subst e hm
     refine CD.seq (CD.region ?_)
     refine OD.runE 1 [1, 5, 21, 22, 23, 24] (E' := [(1, .int .i64 d), (5, .int .i64 all), (21, .sl 6 kids.length (encNs kids)), (22, .int .i64 kids.length), (23, .int .i64 i), (24, .bool (decide ((((i : Nat) : Int) : Int) < ((kids.length : Nat) : Int))))]) (by kernel_rfl) ?_
     refine OD.nil (CD.seq ?_)
     refine CD.condP rfl (fun h4 => ?_) (fun h4 => ?_)
     ·
      obtain ⟨⟨k1, set1, no1, kids1, mn1, mx1⟩, hx, hd⟩ := nth (l := kids) (i := i) (by omega)
      have hc := cnt_le locB (.mk k1 set1 no1 kids1 mn1 mx1) (d + 1)
      refine CD.skip (CD.seq (CD.block (CD.seq (CD.region ?_))))
      refine OD.idx rfl rfl (by kernel_rfl) (by omega) (by omega) ?_
      refine OD.runE 0 [1, 5, 21, 22, 23, 25] (E' := [(1, .int .i64 d), (5, .int .i64 all), (21, .sl 6 kids.length (encNs kids)), (22, .int .i64 kids.length), (23, .int .i64 i), (25, .ep 6 kids.length (encNs kids) ((((i : Nat) : Int) : Int).toNat * 6))]) (by kernel_rfl) ?_
      refine OD.ldA rfl (by kernel_rfl) (by kernel_rfl) (nPart hx) rfl (by decide) ?_
      refine OD.run 2 [1, 5, 7, 21, 22, 23] (E' := [(1, .int .i64 d), (5, .int .i64 all), (7, .loc 1 0), (21, .sl 6 kids.length (encNs kids)), (22, .int .i64 kids.length), (23, .int .i64 i)]) (L' := [.box [.int .i64 k, .sl 2 set.length (set.flatMap encR), .bool no, .sl 6 kids.length (encNs kids), .int .i64 mn, .int .i64 mx], .box [.int .i64 k1, .sl 2 set1.length (set1.flatMap encR), .bool no1, .sl 6 kids1.length (encNs kids1), .int .i64 mn1, .int .i64 mx1]]) (by kernel_rfl) ?_
      refine OD.nil (CD.seq (CD.region ?_))
      refine OD.runE 4 [1, 21, 22, 23, 27, 28, 30] (E' := [(1, .int .i64 d), (21, .sl 6 kids.length (encNs kids)), (22, .int .i64 kids.length), (23, .int .i64 i), (27, .int .i64 all), (28, .agg [.int .i64 k1, .sl 2 set1.length (set1.flatMap encR), .bool no1, .sl 6 kids1.length (encNs kids1), .int .i64 mn1, .int .i64 mx1]), (30, .int .i64 (wrapQ .i64 (((d : Nat) : Int) + 1)))]) (by kernel_rfl) ?_
      refine OD.is 30 rfl (wrn (m := d + 1) (by omega) (by omega)) ?_
      refine OD.runE 0 [1, 21, 22, 23, 27, 28, 30] (E' := [(1, .int .i64 d), (21, .sl 6 kids.length (encNs kids)), (22, .int .i64 kids.length), (23, .int .i64 i), (27, .int .i64 all), (28, .agg [.int .i64 k1, .sl 2 set1.length (set1.flatMap encR), .bool no1, .sl 6 kids1.length (encNs kids1), .int .i64 mn1, .int .i64 mx1]), (30, .int .i64 ((d + 1 : Nat) : Int))]) (by kernel_rfl) ?_
      refine OD.callE (ih k1 set1 no1 kids1 mn1 mx1 (d + 1) (size_kid hs hx) (fit_kid hf hx) (by omega)) rfl (by kernel_rfl) (by kernel_rfl) (by kernel_rfl) ?_
      refine OD.runE 1 [1, 21, 22, 23, 32] (E' := [(1, .int .i64 d), (21, .sl 6 kids.length (encNs kids)), (22, .int .i64 kids.length), (23, .int .i64 i), (32, .int .i64 (wrapQ .i64 (((all : Nat) : Int) + ((Nfa.cnt locB (.mk k1 set1 no1 kids1 mn1 mx1) (d + 1) : Nat) : Int))))]) (by kernel_rfl) ?_
      refine OD.is 32 rfl (wrn (m := all + (Nfa.cnt locB (.mk k1 set1 no1 kids1 mn1 mx1) (d + 1))) (by omega) (by omega)) ?_
      refine OD.runE 1 [1, 5, 21, 22, 23] (E' := [(1, .int .i64 d), (5, .int .i64 ((all + (Nfa.cnt locB (.mk k1 set1 no1 kids1 mn1 mx1) (d + 1)) : Nat) : Int)), (21, .sl 6 kids.length (encNs kids)), (22, .int .i64 kids.length), (23, .int .i64 i)]) (by kernel_rfl) ?_
      refine OD.nil (CD.seq (CD.region ?_))
      refine OD.runE 2 [1, 5, 21, 22, 23, 34] (E' := [(1, .int .i64 d), (5, .int .i64 ((all + (Nfa.cnt locB (.mk k1 set1 no1 kids1 mn1 mx1) (d + 1)) : Nat) : Int)), (21, .sl 6 kids.length (encNs kids)), (22, .int .i64 kids.length), (23, .int .i64 i), (34, .bool (decide ((2000 : Int) < ((all + (Nfa.cnt locB (.mk k1 set1 no1 kids1 mn1 mx1) (d + 1)) : Nat) : Int))))]) (by kernel_rfl) ?_
      refine OD.nil ?_
      refine CD.condP rfl (fun h5 => ?_) (fun h5 => ?_)
      ·
       refine CD.seq (CD.region ?_)
       refine OD.runE 1 [4] (E' := [(4, .int .i64 2001)]) (by kernel_rfl) ?_
       refine OD.nil (CD.ret ?_)
       exact retP (by kernel_rfl) (by kernel_rfl) (r := .int .i64 2001) (by rw [hr, hd, cntL, if_pos (by omega)]; rfl)
      ·
       refine CD.skip (CD.region ?_)
       refine OD.runE 1 [1, 5, 21, 22, 35] (E' := [(1, .int .i64 d), (5, .int .i64 ((all + (Nfa.cnt locB (.mk k1 set1 no1 kids1 mn1 mx1) (d + 1)) : Nat) : Int)), (21, .sl 6 kids.length (encNs kids)), (22, .int .i64 kids.length), (35, .int .i64 (wrapQ .i64 (((i : Nat) : Int) + 1)))]) (by kernel_rfl) ?_
       refine OD.is 35 rfl (wrn (m := i + 1) (by omega) (by omega)) ?_
       refine OD.runE 1 [1, 5, 21, 22, 23] (E' := [(1, .int .i64 d), (5, .int .i64 ((all + (Nfa.cnt locB (.mk k1 set1 no1 kids1 mn1 mx1) (d + 1)) : Nat) : Int)), (21, .sl 6 kids.length (encNs kids)), (22, .int .i64 kids.length), (23, .int .i64 ((i + 1 : Nat) : Int))]) (by kernel_rfl) ?_
       refine OD.nilW [1, 5, 21, 22, 23] 1 (E' := [(1, .int .i64 d), (5, .int .i64 ((all + (Nfa.cnt locB (.mk k1 set1 no1 kids1 mn1 mx1) (d + 1)) : Nat) : Int)), (21, .sl 6 kids.length (encNs kids)), (22, .int .i64 kids.length), (23, .int .i64 ((i + 1 : Nat) : Int))]) (by kernel_rfl) (by simp [hg0]) (by kernel_rfl) ?_
       exact ⟨_, by omega, i + 1, all + Nfa.cnt locB (.mk k1 set1 no1 kids1 mn1 mx1) (d + 1), (by kernel_rfl), by omega, by omega, by rw [hr, hd, cntL, if_neg (by omega)], rfl⟩
     ·
      refine CD.exit ?_
      refine CD.seq (CD.region ?_)
      refine OD.runE 2 [4] (E' := [(4, .int .i64 all)]) (by kernel_rfl) ?_
      refine OD.nil (CD.ret ?_)
      exact retP (by kernel_rfl) (by kernel_rfl) (r := .int .i64 all) (by rw [hr, List.drop_eq_nil_of_le (by omega)]; rfl)
theorem may_ok (k : Int) (set : List (Int × Int)) (no : Bool) (kids : List Nd) (mn mx : Int) (hf : fit (.mk k set no kids mn mx)) : PureD P ov 40 [.agg [.int .i64 k, .sl 2 set.length (set.flatMap encR), .bool no, .sl 6 kids.length (encNs kids), .int .i64 mn, .int .i64 mx]] (.bool (decide (Nfa.cnt locB (.mk k set no kids mn mx) 1 ≤ 2000))) := by
 refine FnD.intro (by kernel_rfl) (fn := Tryz.f40) (by kernel_rfl) rfl (by kernel_rfl) fun M a0 g0 hg0 => ?_
 refine CD.seq (CD.region ?_)
 refine OD.run 2 [1] (E' := [(1, .loc 0 0)]) (L' := [.box [.int .i64 k, .sl 2 set.length (set.flatMap encR), .bool no, .sl 6 kids.length (encNs kids), .int .i64 mn, .int .i64 mx]]) (by kernel_rfl) ?_
 refine OD.nil (CD.seq (CD.region ?_))
 refine OD.runE 1 [3] (E' := [(3, .agg [.int .i64 k, .sl 2 set.length (set.flatMap encR), .bool no, .sl 6 kids.length (encNs kids), .int .i64 mn, .int .i64 mx])]) (by kernel_rfl) ?_
 refine OD.callE (count_ok _ k set no kids mn mx 1 (Nat.le_refl _) hf (by omega)) rfl (by kernel_rfl) (by kernel_rfl) (by kernel_rfl) ?_
 refine OD.runE 2 [2] (E' := [(2, .bool (decide ((((Nfa.cnt locB (.mk k set no kids mn mx) 1 : Nat) : Int) : Int) ≤ 2000)))]) (by kernel_rfl) ?_
 refine OD.nil (CD.ret ?_)
 exact retP (by kernel_rfl) (by kernel_rfl) (r := .bool (decide ((((Nfa.cnt locB (.mk k set no kids mn mx) 1 : Nat) : Int) : Int) ≤ 2000))) (congrArg D.bool (decide_eq_decide.2 (by omega)))
theorem weight_ok : ∀ (m : Nat) (k : Int) (set : List (Int × Int)) (no : Bool) (kids : List Nd) (mn mx : Int), size (.mk k set no kids mn mx) ≤ m → fit (.mk k set no kids mn mx) → (size (.mk k set no kids mn mx) ≤ 2000) → (allLoc locB (.mk k set no kids mn mx)) → PureD P ov 45 [.agg [.int .i64 k, .sl 2 set.length (set.flatMap encR), .bool no, .sl 6 kids.length (encNs kids), .int .i64 mn, .int .i64 mx]] (.int .i64 ((wp K14 20001 (.mk k set no kids mn mx) : Nat) : Int)) := by
 intro m
 induction m with
 | zero => intro k set no kids mn mx hs; exact absurd hs (by have := size_pos (.mk k set no kids mn mx); omega)
 | succ m ih =>
  intro k set no kids mn mx hs hf hz hl
  have hf1 := hf.1
  have hf2 := hf.2.1
  have hf3 := hf.2.2.1
  have hf4 := hf.2.2.2.1
  have hlen := length_size (k := k) (set := set) (no := no) (kids := kids) (mn := mn) (mx := mx)
  refine FnD.intro (by kernel_rfl) (fn := Tryz.f45) (by kernel_rfl) rfl (by kernel_rfl) fun M a0 g0 hg0 => ?_
  refine CD.seq (CD.region ?_)
  refine OD.run 2 [1] (E' := [(1, .loc 0 0)]) (L' := [.box [.int .i64 k, .sl 2 set.length (set.flatMap encR), .bool no, .sl 6 kids.length (encNs kids), .int .i64 mn, .int .i64 mx]]) (by kernel_rfl) ?_
  refine OD.nil (CD.seq (CD.region ?_))
  refine OD.runE 1 [1, 3] (E' := [(1, .loc 0 0), (3, .int .i64 0)]) (by kernel_rfl) ?_
  refine OD.nil (CD.seq (CD.seq (CD.region ?_)))
  refine OD.runE 4 [1, 3, 8, 9, 10] (E' := [(1, .loc 0 0), (3, .int .i64 0), (8, .sl 6 kids.length (encNs kids)), (9, .int .i64 kids.length), (10, .int .i64 0)]) (by kernel_rfl) ?_
  refine OD.nil (CD.block ?_)
  refine CD.weak [1, 3, 8, 9, 10] 1 (E' := [(1, .loc 0 0), (3, .int .i64 0), (8, .sl 6 kids.length (encNs kids)), (9, .int .i64 kids.length), (10, .int .i64 0)]) (by kernel_rfl) (by simp [hg0]) (by kernel_rfl) ?_
  refine CD.loop (fun m σ => ∃ (i : Nat) (w : Nat), σ = ⟨[(1, .loc 0 0), (3, .int .i64 w), (8, .sl 6 kids.length (encNs kids)), (9, .int .i64 kids.length), (10, .int .i64 i)], [.box [.int .i64 k, .sl 2 set.length (set.flatMap encR), .bool no, .sl 6 kids.length (encNs kids), .int .i64 mn, .int .i64 mx]]⟩ ∧ (i ≤ kids.length) ∧ (w ≤ i * 20001) ∧ (wpL K14 20001 kids 0 = wpL K14 20001 (kids.drop i) w) ∧ m = kids.length - i) (fun m σ hI => ?_) _ ⟨0, 0, (by kernel_rfl), Nat.zero_le _, by omega, rfl, rfl⟩
  obtain ⟨i, w, e, hi, hw, hr, hm⟩ := hI
  subst e hm
  refine CD.seq (CD.region ?_)
  refine OD.runE 1 [1, 3, 8, 9, 10, 11] (E' := [(1, .loc 0 0), (3, .int .i64 w), (8, .sl 6 kids.length (encNs kids)), (9, .int .i64 kids.length), (10, .int .i64 i), (11, .bool (decide ((((i : Nat) : Int) : Int) < ((kids.length : Nat) : Int))))]) (by kernel_rfl) ?_
  refine OD.nil (CD.seq ?_)
  refine CD.condP rfl (fun h1 => ?_) (fun h1 => ?_)
  ·
   obtain ⟨⟨k1, set1, no1, kids1, mn1, mx1⟩, hx, hd⟩ := nth (l := kids) (i := i) (by omega)
   have hc := wp_le K14 20001 (.mk k1 set1 no1 kids1 mn1 mx1)
   refine CD.skip (CD.seq (CD.block (CD.seq (CD.region ?_))))
   refine OD.idx rfl rfl (by kernel_rfl) (by omega) (by omega) ?_
   refine OD.runE 0 [1, 3, 8, 9, 10, 12] (E' := [(1, .loc 0 0), (3, .int .i64 w), (8, .sl 6 kids.length (encNs kids)), (9, .int .i64 kids.length), (10, .int .i64 i), (12, .ep 6 kids.length (encNs kids) ((((i : Nat) : Int) : Int).toNat * 6))]) (by kernel_rfl) ?_
   refine OD.ldA rfl (by kernel_rfl) (by kernel_rfl) (nPart hx) rfl (by decide) ?_
   refine OD.run 2 [1, 3, 5, 8, 9, 10] (E' := [(1, .loc 0 0), (3, .int .i64 w), (5, .loc 1 0), (8, .sl 6 kids.length (encNs kids)), (9, .int .i64 kids.length), (10, .int .i64 i)]) (L' := [.box [.int .i64 k, .sl 2 set.length (set.flatMap encR), .bool no, .sl 6 kids.length (encNs kids), .int .i64 mn, .int .i64 mx], .box [.int .i64 k1, .sl 2 set1.length (set1.flatMap encR), .bool no1, .sl 6 kids1.length (encNs kids1), .int .i64 mn1, .int .i64 mx1]]) (by kernel_rfl) ?_
   refine OD.nil (CD.region ?_)
   refine OD.runE 2 [1, 8, 9, 10, 14, 15] (E' := [(1, .loc 0 0), (8, .sl 6 kids.length (encNs kids)), (9, .int .i64 kids.length), (10, .int .i64 i), (14, .int .i64 w), (15, .agg [.int .i64 k1, .sl 2 set1.length (set1.flatMap encR), .bool no1, .sl 6 kids1.length (encNs kids1), .int .i64 mn1, .int .i64 mx1])]) (by kernel_rfl) ?_
   refine OD.callE (ih k1 set1 no1 kids1 mn1 mx1 (size_kid hs hx) (fit_kid hf hx) (Nat.le_trans (size_kid (Nat.le_trans (Nat.le_refl _) (Nat.le_succ_of_le (Nat.le_refl _))) hx) (by omega)) (allLoc_kid hl hx)) rfl (by kernel_rfl) (by kernel_rfl) (by kernel_rfl) ?_
   refine OD.runE 1 [1, 8, 9, 10, 17] (E' := [(1, .loc 0 0), (8, .sl 6 kids.length (encNs kids)), (9, .int .i64 kids.length), (10, .int .i64 i), (17, .int .i64 (wrapQ .i64 (((w : Nat) : Int) + ((wp K14 20001 (.mk k1 set1 no1 kids1 mn1 mx1) : Nat) : Int))))]) (by kernel_rfl) ?_
   refine OD.is 17 rfl (wrn (m := w + (wp K14 20001 (.mk k1 set1 no1 kids1 mn1 mx1))) (by omega) (by omega)) ?_
   refine OD.runE 1 [1, 3, 8, 9, 10] (E' := [(1, .loc 0 0), (3, .int .i64 ((w + (wp K14 20001 (.mk k1 set1 no1 kids1 mn1 mx1)) : Nat) : Int)), (8, .sl 6 kids.length (encNs kids)), (9, .int .i64 kids.length), (10, .int .i64 i)]) (by kernel_rfl) ?_
   refine OD.nil (CD.region ?_)
   refine OD.runE 1 [1, 3, 8, 9, 18] (E' := [(1, .loc 0 0), (3, .int .i64 ((w + (wp K14 20001 (.mk k1 set1 no1 kids1 mn1 mx1)) : Nat) : Int)), (8, .sl 6 kids.length (encNs kids)), (9, .int .i64 kids.length), (18, .int .i64 (wrapQ .i64 (((i : Nat) : Int) + 1)))]) (by kernel_rfl) ?_
   refine OD.is 18 rfl (wrn (m := i + 1) (by omega) (by omega)) ?_
   refine OD.runE 1 [1, 3, 8, 9, 10] (E' := [(1, .loc 0 0), (3, .int .i64 ((w + (wp K14 20001 (.mk k1 set1 no1 kids1 mn1 mx1)) : Nat) : Int)), (8, .sl 6 kids.length (encNs kids)), (9, .int .i64 kids.length), (10, .int .i64 ((i + 1 : Nat) : Int))]) (by kernel_rfl) ?_
   refine OD.nilW [1, 3, 8, 9, 10] 1 (E' := [(1, .loc 0 0), (3, .int .i64 ((w + (wp K14 20001 (.mk k1 set1 no1 kids1 mn1 mx1)) : Nat) : Int)), (8, .sl 6 kids.length (encNs kids)), (9, .int .i64 kids.length), (10, .int .i64 ((i + 1 : Nat) : Int))]) (by kernel_rfl) (by simp [hg0]) (by kernel_rfl) ?_
   exact ⟨_, by omega, i + 1, w + wp K14 20001 (.mk k1 set1 no1 kids1 mn1 mx1), (by kernel_rfl), by omega, by have := wp_le K14 20001 (.mk k1 set1 no1 kids1 mn1 mx1); omega, by rw [hr, hd, wpL], rfl⟩
  ·
   refine CD.exit ?_
   refine CD.seq (CD.seq (CD.region ?_))
   refine OD.runE 2 [1, 3, 20] (E' := [(1, .loc 0 0), (3, .int .i64 w), (20, .int .i64 k)]) (by kernel_rfl) ?_
   refine OD.nil (CD.block (CD.seq (CD.seq (CD.region ?_))))
   refine OD.runE 2 [1, 3, 20, 21] (E' := [(1, .loc 0 0), (3, .int .i64 w), (20, .int .i64 k), (21, .bool (decide ((k : Int) = 2)))]) (by kernel_rfl) ?_
   refine OD.nil ?_
   refine CD.condS rfl (fun h2 => ?_) (fun h2 => ?_)
   ·
    refine CD.skip ?_
    refine CD.condT rfl ?_
    refine CD.region ?_
    refine OD.runE 1 [3] (E' := [(3, .int .i64 1)]) (by kernel_rfl) ?_
    refine OD.nil (CD.seq (CD.region ?_))
    refine OD.runE 3 [2] (E' := [(2, .int .i64 1)]) (by kernel_rfl) ?_
    refine OD.nil (CD.ret ?_)
    rw [List.drop_eq_nil_of_le (by omega), wpL_nil] at hr
    exact retP (by kernel_rfl) (by kernel_rfl) (r := .int .i64 1) (congrArg (D.int .i64) (by have hkk := loc_kind hl; rw [wp_mk, hr]; simp only [K14, h1, h2, reduceIte, Int.reduceEq] <;> omega))
   ·
    refine CD.seq (CD.region ?_)
    refine OD.runE 2 [1, 3, 20, 21] (E' := [(1, .loc 0 0), (3, .int .i64 w), (20, .int .i64 k), (21, .bool (decide ((k : Int) = 6)))]) (by kernel_rfl) ?_
    refine OD.nil ?_
    refine CD.condS rfl (fun h3 => ?_) (fun h3 => ?_)
    ·
     refine CD.skip ?_
     refine CD.condT rfl ?_
     refine CD.region ?_
     refine OD.runE 1 [3] (E' := [(3, .int .i64 1)]) (by kernel_rfl) ?_
     refine OD.nil (CD.seq (CD.region ?_))
     refine OD.runE 3 [2] (E' := [(2, .int .i64 1)]) (by kernel_rfl) ?_
     refine OD.nil (CD.ret ?_)
     rw [List.drop_eq_nil_of_le (by omega), wpL_nil] at hr
     exact retP (by kernel_rfl) (by kernel_rfl) (r := .int .i64 1) (congrArg (D.int .i64) (by have hkk := loc_kind hl; rw [wp_mk, hr]; simp only [K14, h1, h2, h3, reduceIte, Int.reduceEq] <;> omega))
    ·
     refine CD.region ?_
     refine OD.runE 2 [1, 3, 20, 21] (E' := [(1, .loc 0 0), (3, .int .i64 w), (20, .int .i64 k), (21, .bool (decide ((k : Int) = 7)))]) (by kernel_rfl) ?_
     refine OD.nil ?_
     refine CD.condP rfl (fun h4 => ?_) (fun h4 => ?_)
     ·
      refine CD.region ?_
      refine OD.runE 1 [3] (E' := [(3, .int .i64 1)]) (by kernel_rfl) ?_
      refine OD.nil (CD.seq (CD.region ?_))
      refine OD.runE 3 [2] (E' := [(2, .int .i64 1)]) (by kernel_rfl) ?_
      refine OD.nil (CD.ret ?_)
      rw [List.drop_eq_nil_of_le (by omega), wpL_nil] at hr
      exact retP (by kernel_rfl) (by kernel_rfl) (r := .int .i64 1) (congrArg (D.int .i64) (by have hkk := loc_kind hl; rw [wp_mk, hr]; simp only [K14, h1, h2, h3, h4, reduceIte, Int.reduceEq] <;> omega))
     ·
      refine CD.seq (CD.region ?_)
      refine OD.runE 2 [1, 3, 20, 25] (E' := [(1, .loc 0 0), (3, .int .i64 w), (20, .int .i64 k), (25, .bool (decide ((k : Int) = 4)))]) (by kernel_rfl) ?_
      refine OD.nil ?_
      refine CD.condP rfl (fun h5 => ?_) (fun h5 => ?_)
      ·
       refine CD.region ?_
       refine OD.runE 2 [28] (E' := [(28, .int .i64 (wrapQ .i64 (((w : Nat) : Int) + 1)))]) (by kernel_rfl) ?_
       refine OD.is 28 rfl (wrn (m := w + 1) (by omega) (by omega)) ?_
       refine OD.runE 1 [3] (E' := [(3, .int .i64 ((w + 1 : Nat) : Int))]) (by kernel_rfl) ?_
       refine OD.nil (CD.seq (CD.region ?_))
       refine OD.runE 2 [43] (E' := [(43, .int .i64 (min (((w + 1 : Nat) : Int) : Int) 20001))]) (by kernel_rfl) ?_
       refine OD.is 43 rfl castmin ?_
       refine OD.runE 1 [2] (E' := [(2, .int .i64 ((min (w + 1) 20001 : Nat) : Int))]) (by kernel_rfl) ?_
       refine OD.nil (CD.ret ?_)
       rw [List.drop_eq_nil_of_le (by omega), wpL_nil] at hr
       exact retP (by kernel_rfl) (by kernel_rfl) (r := .int .i64 ((min (w + 1) 20001 : Nat) : Int)) (congrArg (D.int .i64) (by have hkk := loc_kind hl; rw [wp_mk, hr]; simp only [K14, h1, h2, h3, h4, h5, reduceIte, Int.reduceEq] <;> omega))
      ·
       refine CD.seq (CD.region ?_)
       refine OD.runE 2 [1, 3, 29] (E' := [(1, .loc 0 0), (3, .int .i64 w), (29, .bool (decide ((k : Int) = 5)))]) (by kernel_rfl) ?_
       refine OD.nil ?_
       refine CD.condP rfl (fun h6 => ?_) (fun h6 => ?_)
       ·
        have hk : 0 ≤ mn ∧ mn ≤ 9 ∧ mx ≤ 9 ∧ (mx = -1 ∨ mn ≤ mx) := by subst h6; exact loc_rep hl
        refine CD.seq (CD.region ?_)
        refine OD.runE 3 [1, 3, 6] (E' := [(1, .loc 0 0), (3, .int .i64 w), (6, .int .i64 mx)]) (by kernel_rfl) ?_
        refine OD.nil (CD.seq (CD.seq (CD.region ?_)))
        refine OD.runE 2 [1, 3, 6, 34] (E' := [(1, .loc 0 0), (3, .int .i64 w), (6, .int .i64 mx), (34, .bool (decide ((mx : Int) < 0)))]) (by kernel_rfl) ?_
        refine OD.nil ?_
        refine CD.condP rfl (fun h7 => ?_) (fun h7 => ?_)
        ·
         refine CD.region ?_
         refine OD.runE 3 [3, 37] (E' := [(3, .int .i64 w), (37, .int .i64 (wrapQ .i64 (mn + 1)))]) (by kernel_rfl) ?_
         refine OD.is 37 rfl (wr64 (by omega) (by omega)) ?_
         refine OD.runE 1 [3, 6] (E' := [(3, .int .i64 w), (6, .int .i64 (mn + 1))]) (by kernel_rfl) ?_
         refine OD.nil (CD.region ?_)
         refine OD.runE 3 [40] (E' := [(40, .int .i64 (wrapQ .i64 (((w : Nat) : Int) * (mn + 1))))]) (by kernel_rfl) ?_
         have hmul := mul_bd (a := (w : Int)) (b := ((mn + 1))) (A := 40002000) (B := 10) (by omega) (by omega) (by omega) (by omega)
         refine OD.is 40 rfl (wr64 (by omega) (by omega)) ?_
         refine OD.runE 1 [41] (E' := [(41, .int .i64 (wrapQ .i64 ((((w : Nat) : Int) * (mn + 1)) + 1)))]) (by kernel_rfl) ?_
         refine OD.is 41 rfl (wr64 (by omega) (by omega)) ?_
         refine OD.runE 1 [3] (E' := [(3, .int .i64 ((((w : Nat) : Int) * (mn + 1)) + 1))]) (by kernel_rfl) ?_
         refine OD.nil (CD.seq (CD.region ?_))
         refine OD.runE 3 [2] (E' := [(2, .int .i64 (min ((((w : Nat) : Int) * (mn + 1)) + 1 : Int) 20001))]) (by kernel_rfl) ?_
         refine OD.nil (CD.ret ?_)
         rw [List.drop_eq_nil_of_le (by omega), wpL_nil] at hr
         exact retP (by kernel_rfl) (by kernel_rfl) (r := .int .i64 (min ((((w : Nat) : Int) * (mn + 1)) + 1 : Int) 20001)) (congrArg (D.int .i64) (by have hkk := loc_kind hl; rw [wp_mk, hr]; simp only [K14, h1, h2, h3, h4, h5, h6, h7, reduceIte, Int.reduceEq]; have := toNat_mul (w := w) (t := (mn + 1)) (by omega); omega))
        ·
         refine CD.skip (CD.region ?_)
         refine OD.runE 3 [40] (E' := [(40, .int .i64 (wrapQ .i64 (((w : Nat) : Int) * mx)))]) (by kernel_rfl) ?_
         have hmul := mul_bd (a := (w : Int)) (b := (mx)) (A := 40002000) (B := 10) (by omega) (by omega) (by omega) (by omega)
         refine OD.is 40 rfl (wr64 (by omega) (by omega)) ?_
         refine OD.runE 1 [41] (E' := [(41, .int .i64 (wrapQ .i64 ((((w : Nat) : Int) * mx) + 1)))]) (by kernel_rfl) ?_
         refine OD.is 41 rfl (wr64 (by omega) (by omega)) ?_
         refine OD.runE 1 [3] (E' := [(3, .int .i64 ((((w : Nat) : Int) * mx) + 1))]) (by kernel_rfl) ?_
         refine OD.nil (CD.seq (CD.region ?_))
         refine OD.runE 3 [2] (E' := [(2, .int .i64 (min ((((w : Nat) : Int) * mx) + 1 : Int) 20001))]) (by kernel_rfl) ?_
         refine OD.nil (CD.ret ?_)
         rw [List.drop_eq_nil_of_le (by omega), wpL_nil] at hr
         exact retP (by kernel_rfl) (by kernel_rfl) (r := .int .i64 (min ((((w : Nat) : Int) * mx) + 1 : Int) 20001)) (congrArg (D.int .i64) (by have hkk := loc_kind hl; rw [wp_mk, hr]; simp only [K14, h1, h2, h3, h4, h5, h6, h7, reduceIte, Int.reduceEq]; have := toNat_mul (w := w) (t := mx) (by omega); omega))
       ·
        refine CD.skip (CD.seq (CD.region ?_))
        refine OD.runE 2 [43] (E' := [(43, .int .i64 (min (((w : Nat) : Int) : Int) 20001))]) (by kernel_rfl) ?_
        refine OD.is 43 rfl castmin ?_
        refine OD.runE 1 [2] (E' := [(2, .int .i64 ((min w 20001 : Nat) : Int))]) (by kernel_rfl) ?_
        refine OD.nil (CD.ret ?_)
        rw [List.drop_eq_nil_of_le (by omega), wpL_nil] at hr
        exact retP (by kernel_rfl) (by kernel_rfl) (r := .int .i64 ((min w 20001 : Nat) : Int)) (congrArg (D.int .i64) (by have hkk := loc_kind hl; rw [wp_mk, hr]; have hq : k = 3 := (by omega); subst hq; simp only [K14, reduceIte] <;> omega))
end
end Go.Proofs.YtiebldaihnbkmaaGreatDoor
set_option linter.unusedVariables false
set_option linter.unusedSimpArgs false
set_option maxRecDepth 100000
set_option maxHeartbeats 4000000
namespace Go.Proofs.YtiebldaihnbkmaaGreatDoor
open Go.Vai Go.Nfa
noncomputable section
theorem Count_ok : ∀ (m : Nat) (k : Int) (set : List (Int × Int)) (no : Bool) (kids : List Nd) (mn mx : Int), size (.mk k set no kids mn mx) ≤ m → fit (.mk k set no kids mn mx) → (size (.mk k set no kids mn mx) < 4611686018427387904) → PureD P ov 22 [.agg [.int .i64 k, .sl 2 set.length (set.flatMap encR), .bool no, .sl 6 kids.length (encNs kids), .int .i64 mn, .int .i64 mx]] (.int .i64 ((size (.mk k set no kids mn mx) : Nat) : Int)) := by
 intro m
 induction m with
 | zero => intro k set no kids mn mx hs; exact absurd hs (by have := size_pos (.mk k set no kids mn mx); omega)
 | succ m ih =>
  intro k set no kids mn mx hs hf hz
  have hf1 := hf.1
  have hf2 := hf.2.1
  have hf3 := hf.2.2.1
  have hf4 := hf.2.2.2.1
  have hlen := length_size (k := k) (set := set) (no := no) (kids := kids) (mn := mn) (mx := mx)
  have hsz := size_mk k set no kids mn mx
  refine FnD.intro (by kernel_rfl) (fn := Tryz.f22) (by kernel_rfl) rfl (by kernel_rfl) fun M a0 g0 hg0 => ?_
  refine CD.seq (CD.region ?_)
  refine OD.run 2 [1] (E' := [(1, .loc 0 0)]) (L' := [.box [.int .i64 k, .sl 2 set.length (set.flatMap encR), .bool no, .sl 6 kids.length (encNs kids), .int .i64 mn, .int .i64 mx]]) (by kernel_rfl) ?_
  refine OD.nil (CD.seq (CD.region ?_))
  refine OD.runE 1 [1, 3] (E' := [(1, .loc 0 0), (3, .int .i64 1)]) (by kernel_rfl) ?_
  refine OD.nil (CD.seq (CD.seq (CD.region ?_)))
  refine OD.runE 1 [1, 3, 4] (E' := [(1, .loc 0 0), (3, .int .i64 1), (4, .int .i64 0)]) (by kernel_rfl) ?_
  refine OD.nil (CD.block ?_)
  refine CD.weak [1, 3, 4] 1 (E' := [(1, .loc 0 0), (3, .int .i64 1), (4, .int .i64 0)]) (by kernel_rfl) (by simp [hg0]) (by kernel_rfl) ?_
  refine CD.loop (fun m σ => ∃ (i : Nat) (c : Nat), σ = ⟨[(1, .loc 0 0), (3, .int .i64 c), (4, .int .i64 i)], [.box [.int .i64 k, .sl 2 set.length (set.flatMap encR), .bool no, .sl 6 kids.length (encNs kids), .int .i64 mn, .int .i64 mx]]⟩ ∧ (i ≤ kids.length) ∧ (size (.mk k set no kids mn mx) = c + sizeL (kids.drop i)) ∧ m = kids.length - i) (fun m σ hI => ?_) _ ⟨0, 1, (by kernel_rfl), Nat.zero_le _, hsz, rfl⟩
  obtain ⟨i, c, e, hi, hr, hm⟩ := hI
  subst e hm
  refine CD.seq (CD.seq (CD.region ?_))
  refine OD.runE 5 [1, 3, 4, 9] (E' := [(1, .loc 0 0), (3, .int .i64 c), (4, .int .i64 i), (9, .bool (decide ((((i : Nat) : Int) : Int) < ((kids.length : Nat) : Int))))]) (by kernel_rfl) ?_
  refine OD.nil ?_
  refine CD.condP rfl (fun h1 => ?_) (fun h1 => ?_)
  ·
   obtain ⟨⟨k1, set1, no1, kids1, mn1, mx1⟩, hx, hd⟩ := nth (l := kids) (i := i) (by omega)
   rw [hd, sizeL] at hr
   have hcp := size_pos (.mk k1 set1 no1 kids1 mn1 mx1)
   refine CD.skip (CD.seq (CD.block (CD.region ?_)))
   refine OD.runE 4 [1, 4, 12, 14, 15] (E' := [(1, .loc 0 0), (4, .int .i64 i), (12, .int .i64 c), (14, .sl 6 kids.length (encNs kids)), (15, .int .i64 i)]) (by kernel_rfl) ?_
   refine OD.idx rfl rfl (by kernel_rfl) (by omega) (by omega) ?_
   refine OD.runE 0 [1, 4, 12, 16] (E' := [(1, .loc 0 0), (4, .int .i64 i), (12, .int .i64 c), (16, .ep 6 kids.length (encNs kids) ((((i : Nat) : Int) : Int).toNat * 6))]) (by kernel_rfl) ?_
   refine OD.ldA rfl (by kernel_rfl) (by kernel_rfl) (nPart hx) rfl (by decide) ?_
   refine OD.runE 0 [1, 4, 12, 17] (E' := [(1, .loc 0 0), (4, .int .i64 i), (12, .int .i64 c), (17, .agg [.int .i64 k1, .sl 2 set1.length (set1.flatMap encR), .bool no1, .sl 6 kids1.length (encNs kids1), .int .i64 mn1, .int .i64 mx1])]) (by kernel_rfl) ?_
   refine OD.callE (ih k1 set1 no1 kids1 mn1 mx1 (size_kid hs hx) (fit_kid hf hx) (by have := sizeL_get hx; omega)) rfl (by kernel_rfl) (by kernel_rfl) (by kernel_rfl) ?_
   refine OD.runE 1 [1, 4, 19] (E' := [(1, .loc 0 0), (4, .int .i64 i), (19, .int .i64 (wrapQ .i64 (((c : Nat) : Int) + ((size (.mk k1 set1 no1 kids1 mn1 mx1) : Nat) : Int))))]) (by kernel_rfl) ?_
   refine OD.is 19 rfl (wrn (m := c + (size (.mk k1 set1 no1 kids1 mn1 mx1))) (by omega) (by omega)) ?_
   refine OD.runE 1 [1, 3, 4] (E' := [(1, .loc 0 0), (3, .int .i64 ((c + (size (.mk k1 set1 no1 kids1 mn1 mx1)) : Nat) : Int)), (4, .int .i64 i)]) (by kernel_rfl) ?_
   refine OD.nil (CD.region ?_)
   refine OD.runE 2 [1, 3, 11] (E' := [(1, .loc 0 0), (3, .int .i64 ((c + (size (.mk k1 set1 no1 kids1 mn1 mx1)) : Nat) : Int)), (11, .int .i64 (wrapQ .i64 (((i : Nat) : Int) + 1)))]) (by kernel_rfl) ?_
   refine OD.is 11 rfl (wrn (m := i + 1) (by omega) (by omega)) ?_
   refine OD.runE 1 [1, 3, 4] (E' := [(1, .loc 0 0), (3, .int .i64 ((c + (size (.mk k1 set1 no1 kids1 mn1 mx1)) : Nat) : Int)), (4, .int .i64 ((i + 1 : Nat) : Int))]) (by kernel_rfl) ?_
   refine OD.nil ?_
   exact ⟨_, by omega, i + 1, c + size (.mk k1 set1 no1 kids1 mn1 mx1), (by kernel_rfl), by omega, by omega, rfl⟩
  ·
   refine CD.exit ?_
   refine CD.seq (CD.region ?_)
   refine OD.runE 2 [2] (E' := [(2, .int .i64 c)]) (by kernel_rfl) ?_
   refine OD.nil (CD.ret ?_)
   exact retP (by kernel_rfl) (by kernel_rfl) (r := .int .i64 c) (congrArg (D.int .i64) (by rw [hr, List.drop_eq_nil_of_le (by omega), sizeL]; omega))
theorem Deep_ok : ∀ (m : Nat) (k : Int) (set : List (Int × Int)) (no : Bool) (kids : List Nd) (mn mx : Int), size (.mk k set no kids mn mx) ≤ m → fit (.mk k set no kids mn mx) → (size (.mk k set no kids mn mx) < 4611686018427387904) → PureD P ov 23 [.agg [.int .i64 k, .sl 2 set.length (set.flatMap encR), .bool no, .sl 6 kids.length (encNs kids), .int .i64 mn, .int .i64 mx]] (.int .i64 ((deep (.mk k set no kids mn mx) : Nat) : Int)) := by
 intro m
 induction m with
 | zero => intro k set no kids mn mx hs; exact absurd hs (by have := size_pos (.mk k set no kids mn mx); omega)
 | succ m ih =>
  intro k set no kids mn mx hs hf hz
  have hf1 := hf.1
  have hf2 := hf.2.1
  have hf3 := hf.2.2.1
  have hf4 := hf.2.2.2.1
  have hlen := length_size (k := k) (set := set) (no := no) (kids := kids) (mn := mn) (mx := mx)
  have hsz := size_mk k set no kids mn mx
  have hds := deepL_size kids
  have hdm := deep_mk k set no kids mn mx
  refine FnD.intro (by kernel_rfl) (fn := Tryz.f23) (by kernel_rfl) rfl (by kernel_rfl) fun M a0 g0 hg0 => ?_
  refine CD.seq (CD.region ?_)
  refine OD.run 2 [1] (E' := [(1, .loc 0 0)]) (L' := [.box [.int .i64 k, .sl 2 set.length (set.flatMap encR), .bool no, .sl 6 kids.length (encNs kids), .int .i64 mn, .int .i64 mx]]) (by kernel_rfl) ?_
  refine OD.nil (CD.seq (CD.region ?_))
  refine OD.runE 1 [1, 3] (E' := [(1, .loc 0 0), (3, .int .i64 0)]) (by kernel_rfl) ?_
  refine OD.nil (CD.seq (CD.seq (CD.region ?_)))
  refine OD.runE 1 [1, 3, 4] (E' := [(1, .loc 0 0), (3, .int .i64 0), (4, .int .i64 0)]) (by kernel_rfl) ?_
  refine OD.nil (CD.block ?_)
  refine CD.weak [1, 3, 4] 1 (E' := [(1, .loc 0 0), (3, .int .i64 0), (4, .int .i64 0)]) (by kernel_rfl) (by simp [hg0]) (by kernel_rfl) ?_
  refine CD.loop (fun m σ => ∃ (i : Nat) (c : Nat), σ = ⟨[(1, .loc 0 0), (3, .int .i64 c), (4, .int .i64 i)], [.box [.int .i64 k, .sl 2 set.length (set.flatMap encR), .bool no, .sl 6 kids.length (encNs kids), .int .i64 mn, .int .i64 mx]]⟩ ∧ (i ≤ kids.length) ∧ (deepL kids = max c (deepL (kids.drop i))) ∧ m = kids.length - i) (fun m σ hI => ?_) _ ⟨0, 0, (by kernel_rfl), Nat.zero_le _, by rw [List.drop_zero]; omega, rfl⟩
  obtain ⟨i, c, e, hi, hr, hm⟩ := hI
  subst e hm
  refine CD.seq (CD.seq (CD.region ?_))
  refine OD.runE 5 [1, 3, 4, 9] (E' := [(1, .loc 0 0), (3, .int .i64 c), (4, .int .i64 i), (9, .bool (decide ((((i : Nat) : Int) : Int) < ((kids.length : Nat) : Int))))]) (by kernel_rfl) ?_
  refine OD.nil ?_
  refine CD.condP rfl (fun h1 => ?_) (fun h1 => ?_)
  ·
   obtain ⟨⟨k1, set1, no1, kids1, mn1, mx1⟩, hx, hd⟩ := nth (l := kids) (i := i) (by omega)
   refine CD.skip (CD.seq (CD.block (CD.region ?_)))
   refine OD.runE 4 [1, 4, 12, 14, 15] (E' := [(1, .loc 0 0), (4, .int .i64 i), (12, .int .i64 c), (14, .sl 6 kids.length (encNs kids)), (15, .int .i64 i)]) (by kernel_rfl) ?_
   refine OD.idx rfl rfl (by kernel_rfl) (by omega) (by omega) ?_
   refine OD.runE 0 [1, 4, 12, 16] (E' := [(1, .loc 0 0), (4, .int .i64 i), (12, .int .i64 c), (16, .ep 6 kids.length (encNs kids) ((((i : Nat) : Int) : Int).toNat * 6))]) (by kernel_rfl) ?_
   refine OD.ldA rfl (by kernel_rfl) (by kernel_rfl) (nPart hx) rfl (by decide) ?_
   refine OD.runE 0 [1, 4, 12, 17] (E' := [(1, .loc 0 0), (4, .int .i64 i), (12, .int .i64 c), (17, .agg [.int .i64 k1, .sl 2 set1.length (set1.flatMap encR), .bool no1, .sl 6 kids1.length (encNs kids1), .int .i64 mn1, .int .i64 mx1])]) (by kernel_rfl) ?_
   refine OD.callE (ih k1 set1 no1 kids1 mn1 mx1 (size_kid hs hx) (fit_kid hf hx) (by have := sizeL_get hx; omega)) rfl (by kernel_rfl) (by kernel_rfl) (by kernel_rfl) ?_
   refine OD.runE 1 [1, 4, 19] (E' := [(1, .loc 0 0), (4, .int .i64 i), (19, .int .i64 (max (((c : Nat) : Int) : Int) ((deep (.mk k1 set1 no1 kids1 mn1 mx1) : Nat) : Int)))]) (by kernel_rfl) ?_
   refine OD.is 19 rfl castmax ?_
   refine OD.runE 1 [1, 3, 4] (E' := [(1, .loc 0 0), (3, .int .i64 ((max c (deep (.mk k1 set1 no1 kids1 mn1 mx1)) : Nat) : Int)), (4, .int .i64 i)]) (by kernel_rfl) ?_
   refine OD.nil (CD.region ?_)
   refine OD.runE 2 [1, 3, 11] (E' := [(1, .loc 0 0), (3, .int .i64 ((max c (deep (.mk k1 set1 no1 kids1 mn1 mx1)) : Nat) : Int)), (11, .int .i64 (wrapQ .i64 (((i : Nat) : Int) + 1)))]) (by kernel_rfl) ?_
   refine OD.is 11 rfl (wrn (m := i + 1) (by omega) (by omega)) ?_
   refine OD.runE 1 [1, 3, 4] (E' := [(1, .loc 0 0), (3, .int .i64 ((max c (deep (.mk k1 set1 no1 kids1 mn1 mx1)) : Nat) : Int)), (4, .int .i64 ((i + 1 : Nat) : Int))]) (by kernel_rfl) ?_
   refine OD.nil ?_
   exact ⟨_, by omega, i + 1, max c (deep (.mk k1 set1 no1 kids1 mn1 mx1)), (by kernel_rfl), by omega, by rw [hr, hd, deepL]; omega, rfl⟩
  ·
   refine CD.exit ?_
   refine CD.seq (CD.region ?_)
   refine OD.runE 2 [21] (E' := [(21, .int .i64 (wrapQ .i64 (((c : Nat) : Int) + 1)))]) (by kernel_rfl) ?_
   refine OD.is 21 rfl (wrn (m := c + 1) (by omega) (by omega)) ?_
   refine OD.runE 1 [2] (E' := [(2, .int .i64 ((c + 1 : Nat) : Int))]) (by kernel_rfl) ?_
   refine OD.nil (CD.ret ?_)
   exact retP (by kernel_rfl) (by kernel_rfl) (r := .int .i64 ((c + 1 : Nat) : Int)) (congrArg (D.int .i64) (by rw [List.drop_eq_nil_of_le (by omega), deepL] at hr; omega))
theorem Sign1_ok (r : Int) : PureD P ov 57 [.int .i32 r] (.bool (validB r)) := by
 refine FnD.intro (by kernel_rfl) (fn := Tryz.f57) (by kernel_rfl) rfl (by kernel_rfl) fun M a0 g0 hg0 => ?_
 refine CD.seq (CD.region ?_)
 refine OD.runE 1 [0] (E' := [(0, .int .i32 r)]) (by kernel_rfl) ?_
 refine OD.nil (CD.seq (CD.region ?_))
 refine OD.runE 3 [0, 5] (E' := [(0, .int .i32 r), (5, .bool (decide ((0 : Int) ≤ r)))]) (by kernel_rfl) ?_
 refine OD.ifP 5 rfl (fun h1 => ?_) (fun h1 => ?_)
 ·
  refine OD.runE 4 [0, 9] (E' := [(0, .int .i32 r), (9, .bool (decide ((r : Int) ≤ 1114111)))]) (by kernel_rfl) ?_
  refine OD.ifP 9 rfl (fun h2 => ?_) (fun h2 => ?_)
  ·
   refine OD.runE 3 [0, 9, 12] (E' := [(0, .int .i32 r), (9, .bool true), (12, .bool (decide ((r : Int) < 55296)))]) (by kernel_rfl) ?_
   refine OD.ifP 12 rfl (fun h3 => ?_) (fun h3 => ?_)
   ·
    refine OD.runE 5 [2] (E' := [(2, .bool true)]) (by kernel_rfl) ?_
    refine OD.nil (CD.ret ?_)
    exact retP (by kernel_rfl) (by kernel_rfl) (r := .bool true) (boolEq (by simp only [validB, Bool.or_eq_true, Bool.and_eq_true, decide_eq_true_eq, Bool.false_eq_true, eq_self, true_iff, false_iff, not_and, not_or] <;> omega))
   ·
    refine OD.runE 5 [2] (E' := [(2, .bool (decide ((57343 : Int) < r)))]) (by kernel_rfl) ?_
    refine OD.nil (CD.ret ?_)
    exact retP (by kernel_rfl) (by kernel_rfl) (r := .bool (decide ((57343 : Int) < r))) (boolEq (by simp only [validB, Bool.or_eq_true, Bool.and_eq_true, decide_eq_true_eq, Bool.false_eq_true, eq_self, true_iff, false_iff, not_and, not_or] <;> omega))
  ·
   refine OD.runE 8 [2] (E' := [(2, .bool false)]) (by kernel_rfl) ?_
   refine OD.nil (CD.ret ?_)
   exact retP (by kernel_rfl) (by kernel_rfl) (r := .bool false) (boolEq (by simp only [validB, Bool.or_eq_true, Bool.and_eq_true, decide_eq_true_eq, Bool.false_eq_true, eq_self, true_iff, false_iff, not_and, not_or] <;> omega))
 ·
  refine OD.runE 12 [2] (E' := [(2, .bool false)]) (by kernel_rfl) ?_
  refine OD.nil (CD.ret ?_)
  exact retP (by kernel_rfl) (by kernel_rfl) (r := .bool false) (boolEq (by simp only [validB, Bool.or_eq_true, Bool.and_eq_true, decide_eq_true_eq, Bool.false_eq_true, eq_self, true_iff, false_iff, not_and, not_or] <;> omega))
theorem rsign_ok (r : Int) : PureD P ov 66 [.int .i32 r] (.bool (signB r)) := by
 refine FnD.intro (by kernel_rfl) (fn := Tryz.f66) (by kernel_rfl) rfl (by kernel_rfl) fun M a0 g0 hg0 => ?_
 refine CD.seq (CD.region ?_)
 refine OD.runE 1 [0] (E' := [(0, .int .i32 r)]) (by kernel_rfl) ?_
 refine OD.nil (CD.seq (CD.region ?_))
 refine OD.runE 1 [0, 3] (E' := [(0, .int .i32 r), (3, .int .i32 r)]) (by kernel_rfl) ?_
 refine OD.callE (Sign1_ok r) rfl (by kernel_rfl) (by kernel_rfl) (by kernel_rfl) ?_
 refine OD.runE 1 [0, 5] (E' := [(0, .int .i32 r), (5, .bool (validB r))]) (by kernel_rfl) ?_
 refine OD.ifB 5 rfl (fun h1 => ?_) (fun h1 => ?_)
 ·
  refine OD.runE 4 [2] (E' := [(2, .bool (decide (¬ (r : Int) = 65533)))]) (by kernel_rfl) ?_
  refine OD.nil (CD.ret ?_)
  exact retP (by kernel_rfl) (by kernel_rfl) (r := .bool (decide (¬ (r : Int) = 65533))) (by first | (exfalso; omega) | (simp only [h1, signB, decide_true, decide_false, Bool.true_and, Bool.false_and, Bool.and_true, Bool.and_false, Bool.true_or, Bool.false_or, Bool.or_true, Bool.or_false, Bool.not_true, Bool.not_false, if_true, if_false, not_true, not_false_eq_true, and_true, true_and, or_true, true_or, or_false, false_or, and_false, false_and, ite_true, ite_false, reduceIte, Bool.false_eq_true] <;> rfl))
 ·
  refine OD.runE 4 [2] (E' := [(2, .bool false)]) (by kernel_rfl) ?_
  refine OD.nil (CD.ret ?_)
  exact retP (by kernel_rfl) (by kernel_rfl) (r := .bool false) (by first | (exfalso; omega) | (simp only [h1, signB, decide_true, decide_false, Bool.true_and, Bool.false_and, Bool.and_true, Bool.and_false, Bool.true_or, Bool.false_or, Bool.or_true, Bool.or_false, Bool.not_true, Bool.not_false, if_true, if_false, not_true, not_false_eq_true, and_true, true_and, or_true, true_or, or_false, false_or, and_false, false_and, ite_true, ite_false, reduceIte, Bool.false_eq_true] <;> rfl))
theorem in_ok (set : List (Int × Int)) (no : Bool) (ks : List D) (n : Nat) (k mn mx r : Int) (hsz : set.length < 4611686018427387904) : PureD P ov 67 [.agg [.int .i64 k, .sl 2 set.length (set.flatMap encR), .bool no, .sl 6 n ks, .int .i64 mn, .int .i64 mx], .int .i32 r] (.bool (inSet set no r)) := by
 refine FnD.intro (by kernel_rfl) (fn := Tryz.f67) (by kernel_rfl) rfl (by kernel_rfl) fun M a0 g0 hg0 => ?_
 refine CD.seq (CD.region ?_)
 refine OD.run 2 [1, 2] (E' := [(1, .int .i32 r), (2, .loc 0 0)]) (L' := [.box [.int .i64 k, .sl 2 set.length (set.flatMap encR), .bool no, .sl 6 n ks, .int .i64 mn, .int .i64 mx]]) (by kernel_rfl) ?_
 refine OD.nil (CD.seq (CD.seq (CD.region ?_)))
 refine OD.runE 4 [1, 2, 8, 9, 10] (E' := [(1, .int .i32 r), (2, .loc 0 0), (8, .sl 2 set.length (set.flatMap encR)), (9, .int .i64 set.length), (10, .int .i64 0)]) (by kernel_rfl) ?_
 refine OD.nil (CD.block ?_)
 refine CD.weak [1, 2, 8, 9, 10] 1 (E' := [(1, .int .i32 r), (2, .loc 0 0), (8, .sl 2 set.length (set.flatMap encR)), (9, .int .i64 set.length), (10, .int .i64 0)]) (by kernel_rfl) (by simp [hg0]) (by kernel_rfl) ?_
 refine CD.loop (fun m σ => ∃ (i : Nat), σ = ⟨[(1, .int .i32 r), (2, .loc 0 0), (8, .sl 2 set.length (set.flatMap encR)), (9, .int .i64 set.length), (10, .int .i64 i)], [.box [.int .i64 k, .sl 2 set.length (set.flatMap encR), .bool no, .sl 6 n ks, .int .i64 mn, .int .i64 mx]]⟩ ∧ (i ≤ set.length) ∧ (inSet set no r = inSet (set.drop i) no r) ∧ m = set.length - i) (fun m σ hI => ?_) _ ⟨0, (by kernel_rfl), Nat.zero_le _, rfl, rfl⟩
 obtain ⟨i, e, hi, hr, hm⟩ := hI
 subst e hm
 refine CD.seq (CD.region ?_)
 refine OD.runE 1 [1, 2, 8, 9, 10, 11] (E' := [(1, .int .i32 r), (2, .loc 0 0), (8, .sl 2 set.length (set.flatMap encR)), (9, .int .i64 set.length), (10, .int .i64 i), (11, .bool (decide ((((i : Nat) : Int) : Int) < ((set.length : Nat) : Int))))]) (by kernel_rfl) ?_
 refine OD.nil (CD.seq ?_)
 refine CD.condP rfl (fun h1 => ?_) (fun h1 => ?_)
 ·
  obtain ⟨x, hx, hd⟩ := nth (l := set) (i := i) (by omega)
  refine CD.skip (CD.seq (CD.block (CD.seq (CD.region ?_))))
  refine OD.idx rfl rfl (by kernel_rfl) (by omega) (by omega) ?_
  refine OD.runE 0 [1, 2, 8, 9, 10, 12] (E' := [(1, .int .i32 r), (2, .loc 0 0), (8, .sl 2 set.length (set.flatMap encR)), (9, .int .i64 set.length), (10, .int .i64 i), (12, .ep 2 set.length (set.flatMap encR) ((((i : Nat) : Int) : Int).toNat * 2))]) (by kernel_rfl) ?_
  refine OD.ldA rfl (by kernel_rfl) (by kernel_rfl) (rPart hx) rfl (by decide) ?_
  refine OD.run 2 [1, 2, 6, 8, 9, 10] (E' := [(1, .int .i32 r), (2, .loc 0 0), (6, .loc 1 0), (8, .sl 2 set.length (set.flatMap encR)), (9, .int .i64 set.length), (10, .int .i64 i)]) (L' := [.box [.int .i64 k, .sl 2 set.length (set.flatMap encR), .bool no, .sl 6 n ks, .int .i64 mn, .int .i64 mx], .box [.int .i32 x.1, .int .i32 x.2]]) (by kernel_rfl) ?_
  refine OD.nil (CD.seq (CD.region ?_))
  refine OD.runE 5 [1, 2, 6, 8, 9, 10, 18] (E' := [(1, .int .i32 r), (2, .loc 0 0), (6, .loc 1 0), (8, .sl 2 set.length (set.flatMap encR)), (9, .int .i64 set.length), (10, .int .i64 i), (18, .bool (decide ((x.1 : Int) ≤ r)))]) (by kernel_rfl) ?_
  refine OD.ifP 18 rfl (fun h2 => ?_) (fun h2 => ?_)
  ·
   refine OD.runE 5 [1, 2, 8, 9, 10, 23] (E' := [(1, .int .i32 r), (2, .loc 0 0), (8, .sl 2 set.length (set.flatMap encR)), (9, .int .i64 set.length), (10, .int .i64 i), (23, .bool (decide ((r : Int) ≤ x.2)))]) (by kernel_rfl) ?_
   refine OD.nil ?_
   refine CD.condP rfl (fun h3 => ?_) (fun h3 => ?_)
   ·
    refine CD.seq (CD.region ?_)
    refine OD.runE 4 [4] (E' := [(4, .bool (!no))]) (by kernel_rfl) ?_
    refine OD.nil (CD.ret ?_)
    exact retP (by kernel_rfl) (by kernel_rfl) (r := .bool (!no)) (by rw [hr, hd, inSet_cons]; simp only [h1, h2, h3, decide_true, decide_false, Bool.true_and, Bool.false_and, Bool.and_true, Bool.and_false, Bool.true_or, Bool.false_or, Bool.or_true, Bool.or_false, Bool.not_true, Bool.not_false, if_true, if_false, not_true, not_false_eq_true, and_true, true_and, or_true, true_or, or_false, false_or, and_false, false_and, ite_true, ite_false, reduceIte, Bool.false_eq_true])
   ·
    refine CD.skip (CD.region ?_)
    refine OD.runE 1 [1, 2, 8, 9, 27] (E' := [(1, .int .i32 r), (2, .loc 0 0), (8, .sl 2 set.length (set.flatMap encR)), (9, .int .i64 set.length), (27, .int .i64 (wrapQ .i64 (((i : Nat) : Int) + 1)))]) (by kernel_rfl) ?_
    refine OD.is 27 rfl (wrn (m := i + 1) (by omega) (by omega)) ?_
    refine OD.runE 1 [1, 2, 8, 9, 10] (E' := [(1, .int .i32 r), (2, .loc 0 0), (8, .sl 2 set.length (set.flatMap encR)), (9, .int .i64 set.length), (10, .int .i64 ((i + 1 : Nat) : Int))]) (by kernel_rfl) ?_
    refine OD.nilW [1, 2, 8, 9, 10] 1 (E' := [(1, .int .i32 r), (2, .loc 0 0), (8, .sl 2 set.length (set.flatMap encR)), (9, .int .i64 set.length), (10, .int .i64 ((i + 1 : Nat) : Int))]) (by kernel_rfl) (by simp [hg0]) (by kernel_rfl) ?_
    exact ⟨_, by omega, i + 1, (by kernel_rfl), by omega, by rw [hr, hd, inSet_cons]; simp only [h1, h2, h3, decide_true, decide_false, Bool.true_and, Bool.false_and, Bool.and_true, Bool.and_false, Bool.true_or, Bool.false_or, Bool.or_true, Bool.or_false, Bool.not_true, Bool.not_false, if_true, if_false, not_true, not_false_eq_true, and_true, true_and, or_true, true_or, or_false, false_or, and_false, false_and, ite_true, ite_false, reduceIte, Bool.false_eq_true], rfl⟩
  ·
   refine OD.runE 5 [1, 2, 8, 9, 10, 23] (E' := [(1, .int .i32 r), (2, .loc 0 0), (8, .sl 2 set.length (set.flatMap encR)), (9, .int .i64 set.length), (10, .int .i64 i), (23, .bool false)]) (by kernel_rfl) ?_
   refine OD.nil ?_
   refine CD.condF rfl ?_
   refine CD.skip (CD.region ?_)
   refine OD.runE 1 [1, 2, 8, 9, 27] (E' := [(1, .int .i32 r), (2, .loc 0 0), (8, .sl 2 set.length (set.flatMap encR)), (9, .int .i64 set.length), (27, .int .i64 (wrapQ .i64 (((i : Nat) : Int) + 1)))]) (by kernel_rfl) ?_
   refine OD.is 27 rfl (wrn (m := i + 1) (by omega) (by omega)) ?_
   refine OD.runE 1 [1, 2, 8, 9, 10] (E' := [(1, .int .i32 r), (2, .loc 0 0), (8, .sl 2 set.length (set.flatMap encR)), (9, .int .i64 set.length), (10, .int .i64 ((i + 1 : Nat) : Int))]) (by kernel_rfl) ?_
   refine OD.nilW [1, 2, 8, 9, 10] 1 (E' := [(1, .int .i32 r), (2, .loc 0 0), (8, .sl 2 set.length (set.flatMap encR)), (9, .int .i64 set.length), (10, .int .i64 ((i + 1 : Nat) : Int))]) (by kernel_rfl) (by simp [hg0]) (by kernel_rfl) ?_
   exact ⟨_, by omega, i + 1, (by kernel_rfl), by omega, by rw [hr, hd, inSet_cons]; simp only [h1, h2, decide_true, decide_false, Bool.true_and, Bool.false_and, Bool.and_true, Bool.and_false, Bool.true_or, Bool.false_or, Bool.or_true, Bool.or_false, Bool.not_true, Bool.not_false, if_true, if_false, not_true, not_false_eq_true, and_true, true_and, or_true, true_or, or_false, false_or, and_false, false_and, ite_true, ite_false, reduceIte, Bool.false_eq_true], rfl⟩
 ·
  refine CD.exit ?_
  refine CD.seq (CD.region ?_)
  refine OD.runE 3 [4] (E' := [(4, .bool no)]) (by kernel_rfl) ?_
  refine OD.nil (CD.ret ?_)
  exact retP (by kernel_rfl) (by kernel_rfl) (r := .bool no) (by rw [hr, List.drop_eq_nil_of_le (by omega)]; rfl)
theorem rin_ok (set : List (Int × Int)) (no : Bool) (ks : List D) (n : Nat) (k mn mx r : Int) (hsz : set.length < 4611686018427387904) : PureD P ov 68 [.agg [.int .i64 k, .sl 2 set.length (set.flatMap encR), .bool no, .sl 6 n ks, .int .i64 mn, .int .i64 mx], .int .i32 r] (.bool (inSet set no r)) := by
 refine FnD.intro (by kernel_rfl) (fn := Tryz.f68) (by kernel_rfl) rfl (by kernel_rfl) fun M a0 g0 hg0 => ?_
 refine CD.seq (CD.region ?_)
 refine OD.run 2 [1, 2] (E' := [(1, .int .i32 r), (2, .loc 0 0)]) (L' := [.box [.int .i64 k, .sl 2 set.length (set.flatMap encR), .bool no, .sl 6 n ks, .int .i64 mn, .int .i64 mx]]) (by kernel_rfl) ?_
 refine OD.nil (CD.seq (CD.seq (CD.region ?_)))
 refine OD.runE 1 [1, 2, 5] (E' := [(1, .int .i32 r), (2, .loc 0 0), (5, .int .i64 0)]) (by kernel_rfl) ?_
 refine OD.nil (CD.block ?_)
 refine CD.weak [1, 2, 5] 1 (E' := [(1, .int .i32 r), (2, .loc 0 0), (5, .int .i64 0)]) (by kernel_rfl) (by simp [hg0]) (by kernel_rfl) ?_
 refine CD.loop (fun m σ => ∃ (i : Nat), σ = ⟨[(1, .int .i32 r), (2, .loc 0 0), (5, .int .i64 i)], [.box [.int .i64 k, .sl 2 set.length (set.flatMap encR), .bool no, .sl 6 n ks, .int .i64 mn, .int .i64 mx]]⟩ ∧ (i ≤ set.length) ∧ (inSet set no r = inSet (set.drop i) no r) ∧ m = set.length - i) (fun m σ hI => ?_) _ ⟨0, (by kernel_rfl), Nat.zero_le _, rfl, rfl⟩
 obtain ⟨i, e, hi, hr, hm⟩ := hI
 subst e hm
 refine CD.seq (CD.seq (CD.region ?_))
 refine OD.runE 5 [1, 2, 5, 10] (E' := [(1, .int .i32 r), (2, .loc 0 0), (5, .int .i64 i), (10, .bool (decide ((((i : Nat) : Int) : Int) < ((set.length : Nat) : Int))))]) (by kernel_rfl) ?_
 refine OD.nil ?_
 refine CD.condP rfl (fun h1 => ?_) (fun h1 => ?_)
 ·
  obtain ⟨x, hx, hd⟩ := nth (l := set) (i := i) (by omega)
  refine CD.skip (CD.seq (CD.block (CD.seq (CD.region ?_))))
  refine OD.runE 4 [1, 2, 5, 13, 15, 16] (E' := [(1, .int .i32 r), (2, .loc 0 0), (5, .int .i64 i), (13, .int .i32 r), (15, .sl 2 set.length (set.flatMap encR)), (16, .int .i64 i)]) (by kernel_rfl) ?_
  refine OD.idx rfl rfl (by kernel_rfl) (by omega) (by omega) ?_
  refine OD.runE 1 [1, 2, 5, 13, 18] (E' := [(1, .int .i32 r), (2, .loc 0 0), (5, .int .i64 i), (13, .int .i32 r), (18, .ep 2 set.length (set.flatMap encR) ((((i : Nat) : Int) : Int).toNat * 2 + 0))]) (by kernel_rfl) ?_
  refine OD.ldL rfl (by kernel_rfl) (rLeaf0 hx) ?_
  refine OD.runE 2 [1, 2, 5, 21] (E' := [(1, .int .i32 r), (2, .loc 0 0), (5, .int .i64 i), (21, .bool (decide ((x.1 : Int) ≤ r)))]) (by kernel_rfl) ?_
  refine OD.ifP 21 rfl (fun h2 => ?_) (fun h2 => ?_)
  ·
   refine OD.runE 4 [1, 2, 5, 21, 22, 24, 25] (E' := [(1, .int .i32 r), (2, .loc 0 0), (5, .int .i64 i), (21, .bool true), (22, .int .i32 r), (24, .sl 2 set.length (set.flatMap encR)), (25, .int .i64 i)]) (by kernel_rfl) ?_
   refine OD.guard rfl rfl ?_
   refine OD.idx rfl rfl (by kernel_rfl) (by omega) (by omega) ?_
   refine OD.runE 1 [1, 2, 5, 21, 22, 27] (E' := [(1, .int .i32 r), (2, .loc 0 0), (5, .int .i64 i), (21, .bool true), (22, .int .i32 r), (27, .ep 2 set.length (set.flatMap encR) ((((i : Nat) : Int) : Int).toNat * 2 + 1))]) (by kernel_rfl) ?_
   refine OD.guard rfl rfl ?_
   refine OD.ldL rfl (by kernel_rfl) (rLeaf1 hx) ?_
   refine OD.runE 2 [1, 2, 5, 30] (E' := [(1, .int .i32 r), (2, .loc 0 0), (5, .int .i64 i), (30, .bool (decide ((r : Int) ≤ x.2)))]) (by kernel_rfl) ?_
   refine OD.nil ?_
   refine CD.condP rfl (fun h3 => ?_) (fun h3 => ?_)
   ·
    refine CD.seq (CD.region ?_)
    refine OD.runE 4 [4] (E' := [(4, .bool (!no))]) (by kernel_rfl) ?_
    refine OD.nil (CD.ret ?_)
    exact retP (by kernel_rfl) (by kernel_rfl) (r := .bool (!no)) (by rw [hr, hd, inSet_cons]; simp only [h1, h2, h3, decide_true, decide_false, Bool.true_and, Bool.false_and, Bool.and_true, Bool.and_false, Bool.true_or, Bool.false_or, Bool.or_true, Bool.or_false, Bool.not_true, Bool.not_false, if_true, if_false, not_true, not_false_eq_true, and_true, true_and, or_true, true_or, or_false, false_or, and_false, false_and, ite_true, ite_false, reduceIte, Bool.false_eq_true])
   ·
    refine CD.skip (CD.region ?_)
    refine OD.runE 2 [1, 2, 12] (E' := [(1, .int .i32 r), (2, .loc 0 0), (12, .int .i64 (wrapQ .i64 (((i : Nat) : Int) + 1)))]) (by kernel_rfl) ?_
    refine OD.is 12 rfl (wrn (m := i + 1) (by omega) (by omega)) ?_
    refine OD.runE 1 [1, 2, 5] (E' := [(1, .int .i32 r), (2, .loc 0 0), (5, .int .i64 ((i + 1 : Nat) : Int))]) (by kernel_rfl) ?_
    refine OD.nil ?_
    exact ⟨_, by omega, i + 1, (by kernel_rfl), by omega, by rw [hr, hd, inSet_cons]; simp only [h1, h2, h3, decide_true, decide_false, Bool.true_and, Bool.false_and, Bool.and_true, Bool.and_false, Bool.true_or, Bool.false_or, Bool.or_true, Bool.or_false, Bool.not_true, Bool.not_false, if_true, if_false, not_true, not_false_eq_true, and_true, true_and, or_true, true_or, or_false, false_or, and_false, false_and, ite_true, ite_false, reduceIte, Bool.false_eq_true], rfl⟩
  ·
   refine OD.runE 9 [1, 2, 5, 30] (E' := [(1, .int .i32 r), (2, .loc 0 0), (5, .int .i64 i), (30, .bool false)]) (by kernel_rfl) ?_
   refine OD.nil ?_
   refine CD.condF rfl ?_
   refine CD.skip (CD.region ?_)
   refine OD.runE 2 [1, 2, 12] (E' := [(1, .int .i32 r), (2, .loc 0 0), (12, .int .i64 (wrapQ .i64 (((i : Nat) : Int) + 1)))]) (by kernel_rfl) ?_
   refine OD.is 12 rfl (wrn (m := i + 1) (by omega) (by omega)) ?_
   refine OD.runE 1 [1, 2, 5] (E' := [(1, .int .i32 r), (2, .loc 0 0), (5, .int .i64 ((i + 1 : Nat) : Int))]) (by kernel_rfl) ?_
   refine OD.nil ?_
   exact ⟨_, by omega, i + 1, (by kernel_rfl), by omega, by rw [hr, hd, inSet_cons]; simp only [h1, h2, decide_true, decide_false, Bool.true_and, Bool.false_and, Bool.and_true, Bool.and_false, Bool.true_or, Bool.false_or, Bool.or_true, Bool.or_false, Bool.not_true, Bool.not_false, if_true, if_false, not_true, not_false_eq_true, and_true, true_and, or_true, true_or, or_false, false_or, and_false, false_and, ite_true, ite_false, reduceIte, Bool.false_eq_true], rfl⟩
 ·
  refine CD.exit ?_
  refine CD.seq (CD.region ?_)
  refine OD.runE 3 [4] (E' := [(4, .bool no)]) (by kernel_rfl) ?_
  refine OD.nil (CD.ret ?_)
  exact retP (by kernel_rfl) (by kernel_rfl) (r := .bool no) (by rw [hr, List.drop_eq_nil_of_le (by omega)]; rfl)
end
end Go.Proofs.YtiebldaihnbkmaaGreatDoor
set_option linter.unusedVariables false
set_option linter.unusedSimpArgs false
set_option maxRecDepth 100000
set_option maxHeartbeats 4000000
namespace Go.Proofs.YtiebldaihnbkmaaGreatDoor
open Go.Vai Go.Nfa
noncomputable section
theorem rmay_ok : ∀ (m : Nat) (k : Int) (set : List (Int × Int)) (no : Bool) (kids : List Nd) (mn mx : Int), size (.mk k set no kids mn mx) ≤ m → fit (.mk k set no kids mn mx) → PureD P ov 48 [.agg [.int .i64 k, .sl 2 set.length (set.flatMap encR), .bool no, .sl 6 kids.length (encNs kids), .int .i64 mn, .int .i64 mx]] (.bool (mayR (.mk k set no kids mn mx))) := by
 intro m
 induction m with
 | zero => intro k set no kids mn mx hs; exact absurd hs (by have := size_pos (.mk k set no kids mn mx); omega)
 | succ m ih =>
  intro k set no kids mn mx hs hf
  have hf1 := hf.1
  have hf2 := hf.2.1
  have hf3 := hf.2.2.1
  have hf4 := hf.2.2.2.1
  refine FnD.intro (by kernel_rfl) (fn := Tryz.f48) (by kernel_rfl) rfl (by kernel_rfl) fun M a0 g0 hg0 => ?_
  refine CD.seq (CD.region ?_)
  refine OD.run 2 [1] (E' := [(1, .loc 0 0)]) (L' := [.box [.int .i64 k, .sl 2 set.length (set.flatMap encR), .bool no, .sl 6 kids.length (encNs kids), .int .i64 mn, .int .i64 mx]]) (by kernel_rfl) ?_
  refine OD.nil (CD.seq (CD.seq (CD.region ?_)))
  refine OD.runE 1 [1, 3] (E' := [(1, .loc 0 0), (3, .int .i64 0)]) (by kernel_rfl) ?_
  refine OD.nil (CD.block ?_)
  refine CD.weak [1, 3] 1 (E' := [(1, .loc 0 0), (3, .int .i64 0)]) (by kernel_rfl) (by simp [hg0]) (by kernel_rfl) ?_
  refine CD.loop (fun m σ => ∃ (i : Nat), σ = ⟨[(1, .loc 0 0), (3, .int .i64 i)], [.box [.int .i64 k, .sl 2 set.length (set.flatMap encR), .bool no, .sl 6 kids.length (encNs kids), .int .i64 mn, .int .i64 mx]]⟩ ∧ (i ≤ kids.length) ∧ (mayRL kids = mayRL (kids.drop i)) ∧ m = kids.length - i) (fun m σ hI => ?_) _ ⟨0, (by kernel_rfl), Nat.zero_le _, rfl, rfl⟩
  obtain ⟨i, e, hi, hr, hm⟩ := hI
  subst e hm
  refine CD.seq (CD.seq (CD.region ?_))
  refine OD.runE 5 [1, 3, 12] (E' := [(1, .loc 0 0), (3, .int .i64 i), (12, .bool (decide ((((i : Nat) : Int) : Int) < ((kids.length : Nat) : Int))))]) (by kernel_rfl) ?_
  refine OD.nil ?_
  refine CD.condP rfl (fun h1 => ?_) (fun h1 => ?_)
  ·
   obtain ⟨⟨k1, set1, no1, kids1, mn1, mx1⟩, hx, hd⟩ := nth (l := kids) (i := i) (by omega)
   refine CD.skip (CD.seq (CD.block (CD.seq (CD.region ?_))))
   refine OD.runE 3 [1, 3, 16, 17] (E' := [(1, .loc 0 0), (3, .int .i64 i), (16, .sl 6 kids.length (encNs kids)), (17, .int .i64 i)]) (by kernel_rfl) ?_
   refine OD.idx rfl rfl (by kernel_rfl) (by omega) (by omega) ?_
   refine OD.runE 0 [1, 3, 18] (E' := [(1, .loc 0 0), (3, .int .i64 i), (18, .ep 6 kids.length (encNs kids) ((((i : Nat) : Int) : Int).toNat * 6))]) (by kernel_rfl) ?_
   refine OD.ldA rfl (by kernel_rfl) (by kernel_rfl) (nPart hx) rfl (by decide) ?_
   refine OD.runE 0 [1, 3, 19] (E' := [(1, .loc 0 0), (3, .int .i64 i), (19, .agg [.int .i64 k1, .sl 2 set1.length (set1.flatMap encR), .bool no1, .sl 6 kids1.length (encNs kids1), .int .i64 mn1, .int .i64 mx1])]) (by kernel_rfl) ?_
   refine OD.callE (ih k1 set1 no1 kids1 mn1 mx1 (size_kid hs hx) (fit_kid hf hx)) rfl (by kernel_rfl) (by kernel_rfl) (by kernel_rfl) ?_
   refine OD.runE 1 [1, 3, 21] (E' := [(1, .loc 0 0), (3, .int .i64 i), (21, .bool (!(mayR (.mk k1 set1 no1 kids1 mn1 mx1))))]) (by kernel_rfl) ?_
   refine OD.nil ?_
   refine CD.condB rfl (fun h2 => ?_) (fun h2 => ?_)
   ·
    have h2 := ndt' h2
    refine CD.seq (CD.region ?_)
    refine OD.runE 1 [2] (E' := [(2, .bool false)]) (by kernel_rfl) ?_
    refine OD.nil (CD.ret ?_)
    exact retP (by kernel_rfl) (by kernel_rfl) (r := .bool false) (by rw [mayR_mk, hr, hd, mayRL, h2]; rfl)
   ·
    have h2 := ndf' h2
    refine CD.skip (CD.region ?_)
    refine OD.runE 2 [1, 14] (E' := [(1, .loc 0 0), (14, .int .i64 (wrapQ .i64 (((i : Nat) : Int) + 1)))]) (by kernel_rfl) ?_
    refine OD.is 14 rfl (wrn (m := i + 1) (by omega) (by omega)) ?_
    refine OD.runE 1 [1, 3] (E' := [(1, .loc 0 0), (3, .int .i64 ((i + 1 : Nat) : Int))]) (by kernel_rfl) ?_
    refine OD.nil ?_
    exact ⟨_, by omega, i + 1, (by kernel_rfl), by omega, by rw [hr, hd, mayRL, h2, Bool.true_and], rfl⟩
  ·
   refine CD.exit ?_
   refine CD.seqM (fun σ => σ = ⟨[(1, .loc 0 0), (4, .bool (decide (mn = 0) && decide (mx = 0)))], [.box [.int .i64 k, .sl 2 set.length (set.flatMap encR), .bool no, .sl 6 kids.length (encNs kids), .int .i64 mn, .int .i64 mx]]⟩) ?_ (fun σ e => ?_)
   ·
    refine CD.region ?_
    refine OD.runE 4 [1, 25] (E' := [(1, .loc 0 0), (25, .bool (decide ((mn : Int) = 0)))]) (by kernel_rfl) ?_
    refine OD.ifP 25 rfl (fun h3 => ?_) (fun h3 => ?_)
    ·
     refine OD.runE 5 [1, 4] (E' := [(1, .loc 0 0), (4, .bool (decide ((mx : Int) = 0)))]) (by kernel_rfl) ?_
     refine OD.nil ?_
     first | (exfalso; omega) | (simp only [h3, decide_true, decide_false, Bool.true_and, Bool.false_and, Bool.and_true, Bool.and_false, Bool.true_or, Bool.false_or, Bool.or_true, Bool.or_false, Bool.not_true, Bool.not_false, if_true, if_false, not_true, not_false_eq_true, and_true, true_and, or_true, true_or, or_false, false_or, and_false, false_and, ite_true, ite_false, reduceIte, Bool.false_eq_true] <;> rfl)
    ·
     refine OD.runE 5 [1, 4] (E' := [(1, .loc 0 0), (4, .bool false)]) (by kernel_rfl) ?_
     refine OD.nil ?_
     first | (exfalso; omega) | (simp only [h3, decide_true, decide_false, Bool.true_and, Bool.false_and, Bool.and_true, Bool.and_false, Bool.true_or, Bool.false_or, Bool.or_true, Bool.or_false, Bool.not_true, Bool.not_false, if_true, if_false, not_true, not_false_eq_true, and_true, true_and, or_true, true_or, or_false, false_or, and_false, false_and, ite_true, ite_false, reduceIte, Bool.false_eq_true] <;> rfl)
   ·
    subst e
    refine CD.seqM (fun σ => σ = ⟨[(1, .loc 0 0), (4, .bool (decide (mn = 0) && decide (mx = 0))), (5, .bool (decide (((set.length : Nat) : Int) = 0) && !no))], [.box [.int .i64 k, .sl 2 set.length (set.flatMap encR), .bool no, .sl 6 kids.length (encNs kids), .int .i64 mn, .int .i64 mx]]⟩) ?_ (fun σ e => ?_)
    ·
     refine CD.region ?_
     refine OD.runE 5 [1, 4, 34] (E' := [(1, .loc 0 0), (4, .bool (decide (mn = 0) && decide (mx = 0))), (34, .bool (decide ((((set.length : Nat) : Int) : Int) = 0)))]) (by kernel_rfl) ?_
     refine OD.ifP 34 rfl (fun h4 => ?_) (fun h4 => ?_)
     ·
      refine OD.runE 5 [1, 4, 5] (E' := [(1, .loc 0 0), (4, .bool (decide (mn = 0) && decide (mx = 0))), (5, .bool (!no))]) (by kernel_rfl) ?_
      refine OD.nil ?_
      first | (exfalso; omega) | (simp only [h4, decide_true, decide_false, Bool.true_and, Bool.false_and, Bool.and_true, Bool.and_false, Bool.true_or, Bool.false_or, Bool.or_true, Bool.or_false, Bool.not_true, Bool.not_false, if_true, if_false, not_true, not_false_eq_true, and_true, true_and, or_true, true_or, or_false, false_or, and_false, false_and, ite_true, ite_false, reduceIte, Bool.false_eq_true] <;> rfl)
     ·
      refine OD.runE 5 [1, 4, 5] (E' := [(1, .loc 0 0), (4, .bool (decide (mn = 0) && decide (mx = 0))), (5, .bool false)]) (by kernel_rfl) ?_
      refine OD.nil ?_
      first | (exfalso; omega) | (simp only [h4, decide_true, decide_false, Bool.true_and, Bool.false_and, Bool.and_true, Bool.and_false, Bool.true_or, Bool.false_or, Bool.or_true, Bool.or_false, Bool.not_true, Bool.not_false, if_true, if_false, not_true, not_false_eq_true, and_true, true_and, or_true, true_or, or_false, false_or, and_false, false_and, ite_true, ite_false, reduceIte, Bool.false_eq_true] <;> rfl)
    ·
     subst e
     refine CD.seq (CD.seq (CD.region ?_))
     refine OD.runE 2 [1, 4, 5, 40] (E' := [(1, .loc 0 0), (4, .bool (decide (mn = 0) && decide (mx = 0))), (5, .bool (decide (((set.length : Nat) : Int) = 0) && !no)), (40, .int .i64 k)]) (by kernel_rfl) ?_
     refine OD.nil (CD.block (CD.seq (CD.region ?_)))
     refine OD.runE 2 [1, 4, 5, 40, 41] (E' := [(1, .loc 0 0), (4, .bool (decide (mn = 0) && decide (mx = 0))), (5, .bool (decide (((set.length : Nat) : Int) = 0) && !no)), (40, .int .i64 k), (41, .bool (decide ((k : Int) = 2)))]) (by kernel_rfl) ?_
     refine OD.nil ?_
     refine CD.condP rfl (fun h5 => ?_) (fun h5 => ?_)
     ·
      refine CD.seq (CD.seq (CD.region ?_))
      refine OD.runE 1 [1, 4, 6] (E' := [(1, .loc 0 0), (4, .bool (decide (mn = 0) && decide (mx = 0))), (6, .int .i64 0)]) (by kernel_rfl) ?_
      refine OD.nil (CD.block ?_)
      refine CD.weak [1, 4, 6] 1 (E' := [(1, .loc 0 0), (4, .bool (decide (mn = 0) && decide (mx = 0))), (6, .int .i64 0)]) (by kernel_rfl) (by simp [hg0]) (by kernel_rfl) ?_
      refine CD.loop (fun m σ => ∃ (j : Nat), σ = ⟨[(1, .loc 0 0), (4, .bool (decide (mn = 0) && decide (mx = 0))), (6, .int .i64 j)], [.box [.int .i64 k, .sl 2 set.length (set.flatMap encR), .bool no, .sl 6 kids.length (encNs kids), .int .i64 mn, .int .i64 mx]]⟩ ∧ (j ≤ set.length) ∧ (set.all rangedB = (set.drop j).all rangedB) ∧ m = set.length - j) (fun m σ hI => ?_) _ ⟨0, (by kernel_rfl), Nat.zero_le _, rfl, rfl⟩
      obtain ⟨j, e, hj, hr2, hm⟩ := hI
      subst e hm
      refine CD.seq (CD.seq (CD.region ?_))
      refine OD.runE 5 [1, 4, 6, 47] (E' := [(1, .loc 0 0), (4, .bool (decide (mn = 0) && decide (mx = 0))), (6, .int .i64 j), (47, .bool (decide ((((j : Nat) : Int) : Int) < ((set.length : Nat) : Int))))]) (by kernel_rfl) ?_
      refine OD.nil ?_
      refine CD.condP rfl (fun h6 => ?_) (fun h6 => ?_)
      ·
       obtain ⟨x, hx, hd2⟩ := nth (l := set) (i := j) (by omega)
       refine CD.skip (CD.seq (CD.block (CD.seq (CD.region ?_))))
       refine OD.runE 3 [1, 4, 6, 51, 52] (E' := [(1, .loc 0 0), (4, .bool (decide (mn = 0) && decide (mx = 0))), (6, .int .i64 j), (51, .sl 2 set.length (set.flatMap encR)), (52, .int .i64 j)]) (by kernel_rfl) ?_
       refine OD.idx rfl rfl (by kernel_rfl) (by omega) (by omega) ?_
       refine OD.runE 0 [1, 4, 6, 53] (E' := [(1, .loc 0 0), (4, .bool (decide (mn = 0) && decide (mx = 0))), (6, .int .i64 j), (53, .ep 2 set.length (set.flatMap encR) ((((j : Nat) : Int) : Int).toNat * 2))]) (by kernel_rfl) ?_
       refine OD.ldA rfl (by kernel_rfl) (by kernel_rfl) (rPart hx) rfl (by decide) ?_
       refine OD.run 2 [1, 4, 6, 7] (E' := [(1, .loc 0 0), (4, .bool (decide (mn = 0) && decide (mx = 0))), (6, .int .i64 j), (7, .loc 1 0)]) (L' := [.box [.int .i64 k, .sl 2 set.length (set.flatMap encR), .bool no, .sl 6 kids.length (encNs kids), .int .i64 mn, .int .i64 mx], .box [.int .i32 x.1, .int .i32 x.2]]) (by kernel_rfl) ?_
       refine OD.nil (CD.seq (CD.region ?_))
       refine OD.runE 6 [1, 4, 6, 7, 60] (E' := [(1, .loc 0 0), (4, .bool (decide (mn = 0) && decide (mx = 0))), (6, .int .i64 j), (7, .loc 1 0), (60, .bool (decide ((x.2 : Int) < x.1)))]) (by kernel_rfl) ?_
       refine OD.ifP 60 rfl (fun h7 => ?_) (fun h7 => ?_)
       ·
        refine OD.runE 11 [1, 4, 6, 71] (E' := [(1, .loc 0 0), (4, .bool (decide (mn = 0) && decide (mx = 0))), (6, .int .i64 j), (71, .bool true)]) (by kernel_rfl) ?_
        refine OD.nil ?_
        refine CD.condT rfl ?_
        refine CD.seq (CD.region ?_)
        refine OD.runE 1 [2] (E' := [(2, .bool false)]) (by kernel_rfl) ?_
        refine OD.nil (CD.ret ?_)
        rw [List.drop_eq_nil_of_le (by omega), mayRL] at hr
        exact retP (by kernel_rfl) (by kernel_rfl) (r := .bool false) (by rw [mayR_mk, hr, Bool.true_and]; simp only [h1, h5, h6, h7, locB, bareB, oneB, reduceIte, hr2, hd2, List.all_cons, rangedB, decide_true, decide_false, Bool.true_and, Bool.false_and, Bool.and_true, Bool.and_false, Bool.true_or, Bool.false_or, Bool.or_true, Bool.or_false, Bool.not_true, Bool.not_false, if_true, if_false, not_true, not_false_eq_true, and_true, true_and, or_true, true_or, or_false, false_or, and_false, false_and, ite_true, ite_false, reduceIte, Bool.false_eq_true] <;> first | rfl | (rw [decide_eq_false (show ¬ x.1 ≤ x.2 by omega)]; simp only [decide_true, decide_false, Bool.true_and, Bool.false_and, Bool.and_true, Bool.and_false, Bool.true_or, Bool.false_or, Bool.or_true, Bool.or_false, Bool.not_true, Bool.not_false, if_true, if_false, not_true, not_false_eq_true, and_true, true_and, or_true, true_or, or_false, false_or, and_false, false_and, ite_true, ite_false, reduceIte, Bool.false_eq_true]))
       ·
        refine OD.runE 2 [1, 4, 6, 7, 60, 62] (E' := [(1, .loc 0 0), (4, .bool (decide (mn = 0) && decide (mx = 0))), (6, .int .i64 j), (7, .loc 1 0), (60, .bool false), (62, .int .i32 x.1)]) (by kernel_rfl) ?_
        refine OD.guard rfl rfl ?_
        refine OD.callE (rsign_ok x.1) rfl (by kernel_rfl) (by kernel_rfl) (by kernel_rfl) ?_
        refine OD.runE 3 [1, 4, 6, 7, 66] (E' := [(1, .loc 0 0), (4, .bool (decide (mn = 0) && decide (mx = 0))), (6, .int .i64 j), (7, .loc 1 0), (66, .bool (!(signB x.1)))]) (by kernel_rfl) ?_
        refine OD.ifB 66 rfl (fun h8 => ?_) (fun h8 => ?_)
        ·
         have h8 := ndt' h8
         refine OD.runE 5 [1, 4, 6, 71] (E' := [(1, .loc 0 0), (4, .bool (decide (mn = 0) && decide (mx = 0))), (6, .int .i64 j), (71, .bool true)]) (by kernel_rfl) ?_
         refine OD.nil ?_
         refine CD.condT rfl ?_
         refine CD.seq (CD.region ?_)
         refine OD.runE 1 [2] (E' := [(2, .bool false)]) (by kernel_rfl) ?_
         refine OD.nil (CD.ret ?_)
         rw [List.drop_eq_nil_of_le (by omega), mayRL] at hr
         exact retP (by kernel_rfl) (by kernel_rfl) (r := .bool false) (by rw [mayR_mk, hr, Bool.true_and]; simp only [h1, h5, h6, h7, h8, locB, bareB, oneB, reduceIte, hr2, hd2, List.all_cons, rangedB, decide_true, decide_false, Bool.true_and, Bool.false_and, Bool.and_true, Bool.and_false, Bool.true_or, Bool.false_or, Bool.or_true, Bool.or_false, Bool.not_true, Bool.not_false, if_true, if_false, not_true, not_false_eq_true, and_true, true_and, or_true, true_or, or_false, false_or, and_false, false_and, ite_true, ite_false, reduceIte, Bool.false_eq_true] <;> first | rfl | (rw [decide_eq_false (show ¬ x.1 ≤ x.2 by omega)]; simp only [decide_true, decide_false, Bool.true_and, Bool.false_and, Bool.and_true, Bool.and_false, Bool.true_or, Bool.false_or, Bool.or_true, Bool.or_false, Bool.not_true, Bool.not_false, if_true, if_false, not_true, not_false_eq_true, and_true, true_and, or_true, true_or, or_false, false_or, and_false, false_and, ite_true, ite_false, reduceIte, Bool.false_eq_true]))
        ·
         have h8 := ndf' h8
         refine OD.runE 2 [1, 4, 6, 66, 68] (E' := [(1, .loc 0 0), (4, .bool (decide (mn = 0) && decide (mx = 0))), (6, .int .i64 j), (66, .bool false), (68, .int .i32 x.2)]) (by kernel_rfl) ?_
         refine OD.guard rfl rfl ?_
         refine OD.callE (rsign_ok x.2) rfl (by kernel_rfl) (by kernel_rfl) (by kernel_rfl) ?_
         refine OD.runE 2 [1, 4, 6, 71] (E' := [(1, .loc 0 0), (4, .bool (decide (mn = 0) && decide (mx = 0))), (6, .int .i64 j), (71, .bool (!(signB x.2)))]) (by kernel_rfl) ?_
         refine OD.nil ?_
         refine CD.condB rfl (fun h9 => ?_) (fun h9 => ?_)
         ·
          have h9 := ndt' h9
          refine CD.seq (CD.region ?_)
          refine OD.runE 1 [2] (E' := [(2, .bool false)]) (by kernel_rfl) ?_
          refine OD.nil (CD.ret ?_)
          rw [List.drop_eq_nil_of_le (by omega), mayRL] at hr
          exact retP (by kernel_rfl) (by kernel_rfl) (r := .bool false) (by rw [mayR_mk, hr, Bool.true_and]; simp only [h1, h5, h6, h7, h8, h9, locB, bareB, oneB, reduceIte, hr2, hd2, List.all_cons, rangedB, decide_true, decide_false, Bool.true_and, Bool.false_and, Bool.and_true, Bool.and_false, Bool.true_or, Bool.false_or, Bool.or_true, Bool.or_false, Bool.not_true, Bool.not_false, if_true, if_false, not_true, not_false_eq_true, and_true, true_and, or_true, true_or, or_false, false_or, and_false, false_and, ite_true, ite_false, reduceIte, Bool.false_eq_true] <;> first | rfl | (rw [decide_eq_false (show ¬ x.1 ≤ x.2 by omega)]; simp only [decide_true, decide_false, Bool.true_and, Bool.false_and, Bool.and_true, Bool.and_false, Bool.true_or, Bool.false_or, Bool.or_true, Bool.or_false, Bool.not_true, Bool.not_false, if_true, if_false, not_true, not_false_eq_true, and_true, true_and, or_true, true_or, or_false, false_or, and_false, false_and, ite_true, ite_false, reduceIte, Bool.false_eq_true]))
         ·
          have h9 := ndf' h9
          refine CD.skip (CD.region ?_)
          refine OD.runE 2 [1, 4, 49] (E' := [(1, .loc 0 0), (4, .bool (decide (mn = 0) && decide (mx = 0))), (49, .int .i64 (wrapQ .i64 (((j : Nat) : Int) + 1)))]) (by kernel_rfl) ?_
          refine OD.is 49 rfl (wrn (m := j + 1) (by omega) (by omega)) ?_
          refine OD.runE 1 [1, 4, 6] (E' := [(1, .loc 0 0), (4, .bool (decide (mn = 0) && decide (mx = 0))), (6, .int .i64 ((j + 1 : Nat) : Int))]) (by kernel_rfl) ?_
          refine OD.nilW [1, 4, 6] 1 (E' := [(1, .loc 0 0), (4, .bool (decide (mn = 0) && decide (mx = 0))), (6, .int .i64 ((j + 1 : Nat) : Int))]) (by kernel_rfl) (by simp [hg0]) (by kernel_rfl) ?_
          exact ⟨_, by omega, j + 1, (by kernel_rfl), by omega, by rw [hr2, hd2, List.all_cons]; simp only [h1, h5, h6, h7, h8, h9, rangedB, decide_true, decide_false, Bool.true_and, Bool.false_and, Bool.and_true, Bool.and_false, Bool.true_or, Bool.false_or, Bool.or_true, Bool.or_false, Bool.not_true, Bool.not_false, if_true, if_false, not_true, not_false_eq_true, and_true, true_and, or_true, true_or, or_false, false_or, and_false, false_and, ite_true, ite_false, reduceIte, Bool.false_eq_true] <;> (rw [decide_eq_true (by omega)]; simp only [decide_true, decide_false, Bool.true_and, Bool.false_and, Bool.and_true, Bool.and_false, Bool.true_or, Bool.false_or, Bool.or_true, Bool.or_false, Bool.not_true, Bool.not_false, if_true, if_false, not_true, not_false_eq_true, and_true, true_and, or_true, true_or, or_false, false_or, and_false, false_and, ite_true, ite_false, reduceIte, Bool.false_eq_true]), rfl⟩
      ·
       refine CD.exit ?_
       refine CD.seq (CD.region ?_)
       refine OD.runE 2 [1, 73] (E' := [(1, .loc 0 0), (73, .bool (decide (mn = 0) && decide (mx = 0)))]) (by kernel_rfl) ?_
       refine OD.ifB 73 rfl (fun h10 => ?_) (fun h10 => ?_)
       ·
        refine OD.runE 6 [1, 79] (E' := [(1, .loc 0 0), (79, .bool (decide ((((kids.length : Nat) : Int) : Int) = 0)))]) (by kernel_rfl) ?_
        refine OD.ifP 79 rfl (fun h11 => ?_) (fun h11 => ?_)
        ·
         refine OD.runE 5 [1, 79, 84] (E' := [(1, .loc 0 0), (79, .bool true), (84, .bool (decide ((0 : Int) < ((set.length : Nat) : Int))))]) (by kernel_rfl) ?_
         refine OD.ifP 84 rfl (fun h12 => ?_) (fun h12 => ?_)
         ·
          refine OD.runE 5 [2] (E' := [(2, .bool true)]) (by kernel_rfl) ?_
          refine OD.nil (CD.ret ?_)
          rw [List.drop_eq_nil_of_le (by omega), mayRL] at hr
          exact retP (by kernel_rfl) (by kernel_rfl) (r := .bool true) (by rw [List.drop_eq_nil_of_le (by omega), List.all_nil] at hr2; rw [mayR_mk, hr, Bool.true_and]; simp only [h1, h5, h6, h10, h11, h12, locB, bareB, oneB, reduceIte, hr2, decide_true, decide_false, Bool.true_and, Bool.false_and, Bool.and_true, Bool.and_false, Bool.true_or, Bool.false_or, Bool.or_true, Bool.or_false, Bool.not_true, Bool.not_false, if_true, if_false, not_true, not_false_eq_true, and_true, true_and, or_true, true_or, or_false, false_or, and_false, false_and, ite_true, ite_false, reduceIte, Bool.false_eq_true] <;> first | rfl | skip)
         ·
          refine OD.runE 5 [2] (E' := [(2, .bool no)]) (by kernel_rfl) ?_
          refine OD.nil (CD.ret ?_)
          rw [List.drop_eq_nil_of_le (by omega), mayRL] at hr
          exact retP (by kernel_rfl) (by kernel_rfl) (r := .bool no) (by rw [List.drop_eq_nil_of_le (by omega), List.all_nil] at hr2; rw [mayR_mk, hr, Bool.true_and]; simp only [h1, h5, h6, h10, h11, h12, locB, bareB, oneB, reduceIte, hr2, decide_true, decide_false, Bool.true_and, Bool.false_and, Bool.and_true, Bool.and_false, Bool.true_or, Bool.false_or, Bool.or_true, Bool.or_false, Bool.not_true, Bool.not_false, if_true, if_false, not_true, not_false_eq_true, and_true, true_and, or_true, true_or, or_false, false_or, and_false, false_and, ite_true, ite_false, reduceIte, Bool.false_eq_true] <;> first | rfl | skip)
        ·
         refine OD.runE 10 [2] (E' := [(2, .bool false)]) (by kernel_rfl) ?_
         refine OD.nil (CD.ret ?_)
         rw [List.drop_eq_nil_of_le (by omega), mayRL] at hr
         exact retP (by kernel_rfl) (by kernel_rfl) (r := .bool false) (by rw [List.drop_eq_nil_of_le (by omega), List.all_nil] at hr2; rw [mayR_mk, hr, Bool.true_and]; simp only [h1, h5, h6, h10, h11, locB, bareB, oneB, reduceIte, hr2, decide_true, decide_false, Bool.true_and, Bool.false_and, Bool.and_true, Bool.and_false, Bool.true_or, Bool.false_or, Bool.or_true, Bool.or_false, Bool.not_true, Bool.not_false, if_true, if_false, not_true, not_false_eq_true, and_true, true_and, or_true, true_or, or_false, false_or, and_false, false_and, ite_true, ite_false, reduceIte, Bool.false_eq_true] <;> first | rfl | skip)
       ·
        refine OD.runE 16 [2] (E' := [(2, .bool false)]) (by kernel_rfl) ?_
        refine OD.nil (CD.ret ?_)
        rw [List.drop_eq_nil_of_le (by omega), mayRL] at hr
        exact retP (by kernel_rfl) (by kernel_rfl) (r := .bool false) (by rw [List.drop_eq_nil_of_le (by omega), List.all_nil] at hr2; rw [mayR_mk, hr, Bool.true_and]; simp only [h1, h5, h6, h10, locB, bareB, oneB, reduceIte, hr2, decide_true, decide_false, Bool.true_and, Bool.false_and, Bool.and_true, Bool.and_false, Bool.true_or, Bool.false_or, Bool.or_true, Bool.or_false, Bool.not_true, Bool.not_false, if_true, if_false, not_true, not_false_eq_true, and_true, true_and, or_true, true_or, or_false, false_or, and_false, false_and, ite_true, ite_false, reduceIte, Bool.false_eq_true] <;> first | rfl | skip)
     ·
      refine CD.seq (CD.seq (CD.region ?_))
      refine OD.runE 2 [1, 4, 5, 40, 89] (E' := [(1, .loc 0 0), (4, .bool (decide (mn = 0) && decide (mx = 0))), (5, .bool (decide (((set.length : Nat) : Int) = 0) && !no)), (40, .int .i64 k), (89, .bool (decide ((k : Int) = 3)))]) (by kernel_rfl) ?_
      refine OD.nil ?_
      refine CD.condS rfl (fun h13 => ?_) (fun h13 => ?_)
      ·
       refine CD.skip ?_
       refine CD.condT rfl ?_
       refine CD.seq (CD.region ?_)
       refine OD.runE 2 [1, 5, 93] (E' := [(1, .loc 0 0), (5, .bool (decide (((set.length : Nat) : Int) = 0) && !no)), (93, .bool (decide (mn = 0) && decide (mx = 0)))]) (by kernel_rfl) ?_
       refine OD.ifB 93 rfl (fun h14 => ?_) (fun h14 => ?_)
       ·
        refine OD.runE 3 [1, 96] (E' := [(1, .loc 0 0), (96, .bool (decide (((set.length : Nat) : Int) = 0) && !no))]) (by kernel_rfl) ?_
        refine OD.ifB 96 rfl (fun h15 => ?_) (fun h15 => ?_)
        ·
         refine OD.runE 6 [2] (E' := [(2, .bool (decide ((2 : Int) ≤ ((kids.length : Nat) : Int))))]) (by kernel_rfl) ?_
         refine OD.nil (CD.ret ?_)
         rw [List.drop_eq_nil_of_le (by omega), mayRL] at hr
         exact retP (by kernel_rfl) (by kernel_rfl) (r := .bool (decide ((2 : Int) ≤ ((kids.length : Nat) : Int)))) (by rw [mayR_mk, hr, Bool.true_and]; simp only [h1, h5, h13, h14, h15, locB, bareB, oneB, reduceIte, Int.reduceEq, or_self, decide_true, decide_false, Bool.true_and, Bool.false_and, Bool.and_true, Bool.and_false, Bool.true_or, Bool.false_or, Bool.or_true, Bool.or_false, Bool.not_true, Bool.not_false, if_true, if_false, not_true, not_false_eq_true, and_true, true_and, or_true, true_or, or_false, false_or, and_false, false_and, ite_true, ite_false, reduceIte, Bool.false_eq_true] <;> first | rfl | skip)
        ·
         refine OD.runE 6 [2] (E' := [(2, .bool false)]) (by kernel_rfl) ?_
         refine OD.nil (CD.ret ?_)
         rw [List.drop_eq_nil_of_le (by omega), mayRL] at hr
         exact retP (by kernel_rfl) (by kernel_rfl) (r := .bool false) (by rw [mayR_mk, hr, Bool.true_and]; simp only [h1, h5, h13, h14, h15, locB, bareB, oneB, reduceIte, Int.reduceEq, or_self, decide_true, decide_false, Bool.true_and, Bool.false_and, Bool.and_true, Bool.and_false, Bool.true_or, Bool.false_or, Bool.or_true, Bool.or_false, Bool.not_true, Bool.not_false, if_true, if_false, not_true, not_false_eq_true, and_true, true_and, or_true, true_or, or_false, false_or, and_false, false_and, ite_true, ite_false, reduceIte, Bool.false_eq_true] <;> first | rfl | skip)
       ·
        refine OD.runE 9 [2] (E' := [(2, .bool false)]) (by kernel_rfl) ?_
        refine OD.nil (CD.ret ?_)
        rw [List.drop_eq_nil_of_le (by omega), mayRL] at hr
        exact retP (by kernel_rfl) (by kernel_rfl) (r := .bool false) (by rw [mayR_mk, hr, Bool.true_and]; simp only [h1, h5, h13, h14, locB, bareB, oneB, reduceIte, Int.reduceEq, or_self, decide_true, decide_false, Bool.true_and, Bool.false_and, Bool.and_true, Bool.and_false, Bool.true_or, Bool.false_or, Bool.or_true, Bool.or_false, Bool.not_true, Bool.not_false, if_true, if_false, not_true, not_false_eq_true, and_true, true_and, or_true, true_or, or_false, false_or, and_false, false_and, ite_true, ite_false, reduceIte, Bool.false_eq_true] <;> first | rfl | skip)
      ·
       refine CD.region ?_
       refine OD.runE 2 [1, 4, 5, 40, 89] (E' := [(1, .loc 0 0), (4, .bool (decide (mn = 0) && decide (mx = 0))), (5, .bool (decide (((set.length : Nat) : Int) = 0) && !no)), (40, .int .i64 k), (89, .bool (decide ((k : Int) = 4)))]) (by kernel_rfl) ?_
       refine OD.nil ?_
       refine CD.condP rfl (fun h16 => ?_) (fun h16 => ?_)
       ·
        refine CD.seq (CD.region ?_)
        refine OD.runE 2 [1, 5, 93] (E' := [(1, .loc 0 0), (5, .bool (decide (((set.length : Nat) : Int) = 0) && !no)), (93, .bool (decide (mn = 0) && decide (mx = 0)))]) (by kernel_rfl) ?_
        refine OD.ifB 93 rfl (fun h17 => ?_) (fun h17 => ?_)
        ·
         refine OD.runE 3 [1, 96] (E' := [(1, .loc 0 0), (96, .bool (decide (((set.length : Nat) : Int) = 0) && !no))]) (by kernel_rfl) ?_
         refine OD.ifB 96 rfl (fun h18 => ?_) (fun h18 => ?_)
         ·
          refine OD.runE 6 [2] (E' := [(2, .bool (decide ((2 : Int) ≤ ((kids.length : Nat) : Int))))]) (by kernel_rfl) ?_
          refine OD.nil (CD.ret ?_)
          rw [List.drop_eq_nil_of_le (by omega), mayRL] at hr
          exact retP (by kernel_rfl) (by kernel_rfl) (r := .bool (decide ((2 : Int) ≤ ((kids.length : Nat) : Int)))) (by rw [mayR_mk, hr, Bool.true_and]; simp only [h1, h5, h13, h16, h17, h18, locB, bareB, oneB, reduceIte, Int.reduceEq, or_self, decide_true, decide_false, Bool.true_and, Bool.false_and, Bool.and_true, Bool.and_false, Bool.true_or, Bool.false_or, Bool.or_true, Bool.or_false, Bool.not_true, Bool.not_false, if_true, if_false, not_true, not_false_eq_true, and_true, true_and, or_true, true_or, or_false, false_or, and_false, false_and, ite_true, ite_false, reduceIte, Bool.false_eq_true] <;> first | rfl | skip)
         ·
          refine OD.runE 6 [2] (E' := [(2, .bool false)]) (by kernel_rfl) ?_
          refine OD.nil (CD.ret ?_)
          rw [List.drop_eq_nil_of_le (by omega), mayRL] at hr
          exact retP (by kernel_rfl) (by kernel_rfl) (r := .bool false) (by rw [mayR_mk, hr, Bool.true_and]; simp only [h1, h5, h13, h16, h17, h18, locB, bareB, oneB, reduceIte, Int.reduceEq, or_self, decide_true, decide_false, Bool.true_and, Bool.false_and, Bool.and_true, Bool.and_false, Bool.true_or, Bool.false_or, Bool.or_true, Bool.or_false, Bool.not_true, Bool.not_false, if_true, if_false, not_true, not_false_eq_true, and_true, true_and, or_true, true_or, or_false, false_or, and_false, false_and, ite_true, ite_false, reduceIte, Bool.false_eq_true] <;> first | rfl | skip)
        ·
         refine OD.runE 9 [2] (E' := [(2, .bool false)]) (by kernel_rfl) ?_
         refine OD.nil (CD.ret ?_)
         rw [List.drop_eq_nil_of_le (by omega), mayRL] at hr
         exact retP (by kernel_rfl) (by kernel_rfl) (r := .bool false) (by rw [mayR_mk, hr, Bool.true_and]; simp only [h1, h5, h13, h16, h17, locB, bareB, oneB, reduceIte, Int.reduceEq, or_self, decide_true, decide_false, Bool.true_and, Bool.false_and, Bool.and_true, Bool.and_false, Bool.true_or, Bool.false_or, Bool.or_true, Bool.or_false, Bool.not_true, Bool.not_false, if_true, if_false, not_true, not_false_eq_true, and_true, true_and, or_true, true_or, or_false, false_or, and_false, false_and, ite_true, ite_false, reduceIte, Bool.false_eq_true] <;> first | rfl | skip)
       ·
        refine CD.seq (CD.region ?_)
        refine OD.runE 2 [1, 4, 5, 40, 102] (E' := [(1, .loc 0 0), (4, .bool (decide (mn = 0) && decide (mx = 0))), (5, .bool (decide (((set.length : Nat) : Int) = 0) && !no)), (40, .int .i64 k), (102, .bool (decide ((k : Int) = 5)))]) (by kernel_rfl) ?_
        refine OD.nil ?_
        refine CD.condP rfl (fun h19 => ?_) (fun h19 => ?_)
        ·
         refine CD.seq (CD.region ?_)
         refine OD.runE 2 [1, 105] (E' := [(1, .loc 0 0), (105, .bool (decide (((set.length : Nat) : Int) = 0) && !no))]) (by kernel_rfl) ?_
         refine OD.ifB 105 rfl (fun h20 => ?_) (fun h20 => ?_)
         ·
          refine OD.runE 6 [1, 111] (E' := [(1, .loc 0 0), (111, .bool (decide ((((kids.length : Nat) : Int) : Int) = 1)))]) (by kernel_rfl) ?_
          refine OD.ifP 111 rfl (fun h21 => ?_) (fun h21 => ?_)
          ·
           refine OD.runE 5 [1, 116] (E' := [(1, .loc 0 0), (116, .bool (decide ((0 : Int) ≤ mn)))]) (by kernel_rfl) ?_
           refine OD.ifP 116 rfl (fun h22 => ?_) (fun h22 => ?_)
           ·
            refine OD.runE 5 [1, 121] (E' := [(1, .loc 0 0), (121, .bool (decide ((mn : Int) ≤ 9)))]) (by kernel_rfl) ?_
            refine OD.ifP 121 rfl (fun h23 => ?_) (fun h23 => ?_)
            ·
             refine OD.runE 4 [1, 121, 125] (E' := [(1, .loc 0 0), (121, .bool true), (125, .bool (decide ((mx : Int) = (-1))))]) (by kernel_rfl) ?_
             refine OD.ifP 125 rfl (fun h24 => ?_) (fun h24 => ?_)
             ·
              refine OD.runE 13 [2] (E' := [(2, .bool true)]) (by kernel_rfl) ?_
              refine OD.nil (CD.ret ?_)
              rw [List.drop_eq_nil_of_le (by omega), mayRL] at hr
              exact retP (by kernel_rfl) (by kernel_rfl) (r := .bool true) (by rw [mayR_mk, hr, Bool.true_and]; simp only [h1, h5, h13, h16, h19, h20, h21, h22, h23, h24, locB, bareB, oneB, reduceIte, Int.reduceEq, or_self, decide_true, decide_false, Bool.true_and, Bool.false_and, Bool.and_true, Bool.and_false, Bool.true_or, Bool.false_or, Bool.or_true, Bool.or_false, Bool.not_true, Bool.not_false, if_true, if_false, not_true, not_false_eq_true, and_true, true_and, or_true, true_or, or_false, false_or, and_false, false_and, ite_true, ite_false, reduceIte, Bool.false_eq_true] <;> first | rfl | skip)
             ·
              refine OD.runE 6 [1, 121, 125, 131] (E' := [(1, .loc 0 0), (121, .bool true), (125, .bool false), (131, .bool (decide ((mn : Int) ≤ mx)))]) (by kernel_rfl) ?_
              refine OD.ifP 131 rfl (fun h25 => ?_) (fun h25 => ?_)
              ·
               refine OD.runE 7 [2] (E' := [(2, .bool (decide ((mx : Int) ≤ 9)))]) (by kernel_rfl) ?_
               refine OD.nil (CD.ret ?_)
               rw [List.drop_eq_nil_of_le (by omega), mayRL] at hr
               exact retP (by kernel_rfl) (by kernel_rfl) (r := .bool (decide ((mx : Int) ≤ 9))) (by rw [mayR_mk, hr, Bool.true_and]; simp only [h1, h5, h13, h16, h19, h20, h21, h22, h23, h24, h25, locB, bareB, oneB, reduceIte, Int.reduceEq, or_self, decide_true, decide_false, Bool.true_and, Bool.false_and, Bool.and_true, Bool.and_false, Bool.true_or, Bool.false_or, Bool.or_true, Bool.or_false, Bool.not_true, Bool.not_false, if_true, if_false, not_true, not_false_eq_true, and_true, true_and, or_true, true_or, or_false, false_or, and_false, false_and, ite_true, ite_false, reduceIte, Bool.false_eq_true] <;> first | rfl | skip)
              ·
               refine OD.runE 7 [2] (E' := [(2, .bool false)]) (by kernel_rfl) ?_
               refine OD.nil (CD.ret ?_)
               rw [List.drop_eq_nil_of_le (by omega), mayRL] at hr
               exact retP (by kernel_rfl) (by kernel_rfl) (r := .bool false) (by rw [mayR_mk, hr, Bool.true_and]; simp only [h1, h5, h13, h16, h19, h20, h21, h22, h23, h24, h25, locB, bareB, oneB, reduceIte, Int.reduceEq, or_self, decide_true, decide_false, Bool.true_and, Bool.false_and, Bool.and_true, Bool.and_false, Bool.true_or, Bool.false_or, Bool.or_true, Bool.or_false, Bool.not_true, Bool.not_false, if_true, if_false, not_true, not_false_eq_true, and_true, true_and, or_true, true_or, or_false, false_or, and_false, false_and, ite_true, ite_false, reduceIte, Bool.false_eq_true] <;> first | rfl | skip)
            ·
             refine OD.runE 17 [2] (E' := [(2, .bool false)]) (by kernel_rfl) ?_
             refine OD.nil (CD.ret ?_)
             rw [List.drop_eq_nil_of_le (by omega), mayRL] at hr
             exact retP (by kernel_rfl) (by kernel_rfl) (r := .bool false) (by rw [mayR_mk, hr, Bool.true_and]; simp only [h1, h5, h13, h16, h19, h20, h21, h22, h23, locB, bareB, oneB, reduceIte, Int.reduceEq, or_self, decide_true, decide_false, Bool.true_and, Bool.false_and, Bool.and_true, Bool.and_false, Bool.true_or, Bool.false_or, Bool.or_true, Bool.or_false, Bool.not_true, Bool.not_false, if_true, if_false, not_true, not_false_eq_true, and_true, true_and, or_true, true_or, or_false, false_or, and_false, false_and, ite_true, ite_false, reduceIte, Bool.false_eq_true] <;> first | rfl | skip)
           ·
            refine OD.runE 22 [2] (E' := [(2, .bool false)]) (by kernel_rfl) ?_
            refine OD.nil (CD.ret ?_)
            rw [List.drop_eq_nil_of_le (by omega), mayRL] at hr
            exact retP (by kernel_rfl) (by kernel_rfl) (r := .bool false) (by rw [mayR_mk, hr, Bool.true_and]; simp only [h1, h5, h13, h16, h19, h20, h21, h22, locB, bareB, oneB, reduceIte, Int.reduceEq, or_self, decide_true, decide_false, Bool.true_and, Bool.false_and, Bool.and_true, Bool.and_false, Bool.true_or, Bool.false_or, Bool.or_true, Bool.or_false, Bool.not_true, Bool.not_false, if_true, if_false, not_true, not_false_eq_true, and_true, true_and, or_true, true_or, or_false, false_or, and_false, false_and, ite_true, ite_false, reduceIte, Bool.false_eq_true] <;> first | rfl | skip)
          ·
           refine OD.runE 27 [2] (E' := [(2, .bool false)]) (by kernel_rfl) ?_
           refine OD.nil (CD.ret ?_)
           rw [List.drop_eq_nil_of_le (by omega), mayRL] at hr
           exact retP (by kernel_rfl) (by kernel_rfl) (r := .bool false) (by rw [mayR_mk, hr, Bool.true_and]; simp only [h1, h5, h13, h16, h19, h20, h21, locB, bareB, oneB, reduceIte, Int.reduceEq, or_self, decide_true, decide_false, Bool.true_and, Bool.false_and, Bool.and_true, Bool.and_false, Bool.true_or, Bool.false_or, Bool.or_true, Bool.or_false, Bool.not_true, Bool.not_false, if_true, if_false, not_true, not_false_eq_true, and_true, true_and, or_true, true_or, or_false, false_or, and_false, false_and, ite_true, ite_false, reduceIte, Bool.false_eq_true] <;> first | rfl | skip)
         ·
          refine OD.runE 33 [2] (E' := [(2, .bool false)]) (by kernel_rfl) ?_
          refine OD.nil (CD.ret ?_)
          rw [List.drop_eq_nil_of_le (by omega), mayRL] at hr
          exact retP (by kernel_rfl) (by kernel_rfl) (r := .bool false) (by rw [mayR_mk, hr, Bool.true_and]; simp only [h1, h5, h13, h16, h19, h20, locB, bareB, oneB, reduceIte, Int.reduceEq, or_self, decide_true, decide_false, Bool.true_and, Bool.false_and, Bool.and_true, Bool.and_false, Bool.true_or, Bool.false_or, Bool.or_true, Bool.or_false, Bool.not_true, Bool.not_false, if_true, if_false, not_true, not_false_eq_true, and_true, true_and, or_true, true_or, or_false, false_or, and_false, false_and, ite_true, ite_false, reduceIte, Bool.false_eq_true] <;> first | rfl | skip)
        ·
         refine CD.seq (CD.seq (CD.region ?_))
         refine OD.runE 2 [1, 4, 5, 40, 138] (E' := [(1, .loc 0 0), (4, .bool (decide (mn = 0) && decide (mx = 0))), (5, .bool (decide (((set.length : Nat) : Int) = 0) && !no)), (40, .int .i64 k), (138, .bool (decide ((k : Int) = 6)))]) (by kernel_rfl) ?_
         refine OD.nil ?_
         refine CD.condS rfl (fun h26 => ?_) (fun h26 => ?_)
         ·
          refine CD.skip ?_
          refine CD.condT rfl ?_
          refine CD.seq (CD.region ?_)
          refine OD.runE 2 [1, 5, 142] (E' := [(1, .loc 0 0), (5, .bool (decide (((set.length : Nat) : Int) = 0) && !no)), (142, .bool (decide (mn = 0) && decide (mx = 0)))]) (by kernel_rfl) ?_
          refine OD.ifB 142 rfl (fun h27 => ?_) (fun h27 => ?_)
          ·
           refine OD.runE 3 [1, 145] (E' := [(1, .loc 0 0), (145, .bool (decide (((set.length : Nat) : Int) = 0) && !no))]) (by kernel_rfl) ?_
           refine OD.ifB 145 rfl (fun h28 => ?_) (fun h28 => ?_)
           ·
            refine OD.runE 6 [2] (E' := [(2, .bool (decide ((((kids.length : Nat) : Int) : Int) = 0)))]) (by kernel_rfl) ?_
            refine OD.nil (CD.ret ?_)
            rw [List.drop_eq_nil_of_le (by omega), mayRL] at hr
            exact retP (by kernel_rfl) (by kernel_rfl) (r := .bool (decide ((((kids.length : Nat) : Int) : Int) = 0))) (by rw [mayR_mk, hr, Bool.true_and]; simp only [h1, h5, h13, h16, h19, h26, h27, h28, locB, bareB, oneB, reduceIte, Int.reduceEq, or_self, decide_true, decide_false, Bool.true_and, Bool.false_and, Bool.and_true, Bool.and_false, Bool.true_or, Bool.false_or, Bool.or_true, Bool.or_false, Bool.not_true, Bool.not_false, if_true, if_false, not_true, not_false_eq_true, and_true, true_and, or_true, true_or, or_false, false_or, and_false, false_and, ite_true, ite_false, reduceIte, Bool.false_eq_true] <;> first | rfl | skip)
           ·
            refine OD.runE 6 [2] (E' := [(2, .bool false)]) (by kernel_rfl) ?_
            refine OD.nil (CD.ret ?_)
            rw [List.drop_eq_nil_of_le (by omega), mayRL] at hr
            exact retP (by kernel_rfl) (by kernel_rfl) (r := .bool false) (by rw [mayR_mk, hr, Bool.true_and]; simp only [h1, h5, h13, h16, h19, h26, h27, h28, locB, bareB, oneB, reduceIte, Int.reduceEq, or_self, decide_true, decide_false, Bool.true_and, Bool.false_and, Bool.and_true, Bool.and_false, Bool.true_or, Bool.false_or, Bool.or_true, Bool.or_false, Bool.not_true, Bool.not_false, if_true, if_false, not_true, not_false_eq_true, and_true, true_and, or_true, true_or, or_false, false_or, and_false, false_and, ite_true, ite_false, reduceIte, Bool.false_eq_true] <;> first | rfl | skip)
          ·
           refine OD.runE 9 [2] (E' := [(2, .bool false)]) (by kernel_rfl) ?_
           refine OD.nil (CD.ret ?_)
           rw [List.drop_eq_nil_of_le (by omega), mayRL] at hr
           exact retP (by kernel_rfl) (by kernel_rfl) (r := .bool false) (by rw [mayR_mk, hr, Bool.true_and]; simp only [h1, h5, h13, h16, h19, h26, h27, locB, bareB, oneB, reduceIte, Int.reduceEq, or_self, decide_true, decide_false, Bool.true_and, Bool.false_and, Bool.and_true, Bool.and_false, Bool.true_or, Bool.false_or, Bool.or_true, Bool.or_false, Bool.not_true, Bool.not_false, if_true, if_false, not_true, not_false_eq_true, and_true, true_and, or_true, true_or, or_false, false_or, and_false, false_and, ite_true, ite_false, reduceIte, Bool.false_eq_true] <;> first | rfl | skip)
         ·
          refine CD.region ?_
          refine OD.runE 2 [1, 4, 5, 138] (E' := [(1, .loc 0 0), (4, .bool (decide (mn = 0) && decide (mx = 0))), (5, .bool (decide (((set.length : Nat) : Int) = 0) && !no)), (138, .bool (decide ((k : Int) = 7)))]) (by kernel_rfl) ?_
          refine OD.nil ?_
          refine CD.condP rfl (fun h29 => ?_) (fun h29 => ?_)
          ·
           refine CD.seq (CD.region ?_)
           refine OD.runE 2 [1, 5, 142] (E' := [(1, .loc 0 0), (5, .bool (decide (((set.length : Nat) : Int) = 0) && !no)), (142, .bool (decide (mn = 0) && decide (mx = 0)))]) (by kernel_rfl) ?_
           refine OD.ifB 142 rfl (fun h30 => ?_) (fun h30 => ?_)
           ·
            refine OD.runE 3 [1, 145] (E' := [(1, .loc 0 0), (145, .bool (decide (((set.length : Nat) : Int) = 0) && !no))]) (by kernel_rfl) ?_
            refine OD.ifB 145 rfl (fun h31 => ?_) (fun h31 => ?_)
            ·
             refine OD.runE 6 [2] (E' := [(2, .bool (decide ((((kids.length : Nat) : Int) : Int) = 0)))]) (by kernel_rfl) ?_
             refine OD.nil (CD.ret ?_)
             rw [List.drop_eq_nil_of_le (by omega), mayRL] at hr
             exact retP (by kernel_rfl) (by kernel_rfl) (r := .bool (decide ((((kids.length : Nat) : Int) : Int) = 0))) (by rw [mayR_mk, hr, Bool.true_and]; simp only [h1, h5, h13, h16, h19, h26, h29, h30, h31, locB, bareB, oneB, reduceIte, Int.reduceEq, or_self, decide_true, decide_false, Bool.true_and, Bool.false_and, Bool.and_true, Bool.and_false, Bool.true_or, Bool.false_or, Bool.or_true, Bool.or_false, Bool.not_true, Bool.not_false, if_true, if_false, not_true, not_false_eq_true, and_true, true_and, or_true, true_or, or_false, false_or, and_false, false_and, ite_true, ite_false, reduceIte, Bool.false_eq_true] <;> first | rfl | skip)
            ·
             refine OD.runE 6 [2] (E' := [(2, .bool false)]) (by kernel_rfl) ?_
             refine OD.nil (CD.ret ?_)
             rw [List.drop_eq_nil_of_le (by omega), mayRL] at hr
             exact retP (by kernel_rfl) (by kernel_rfl) (r := .bool false) (by rw [mayR_mk, hr, Bool.true_and]; simp only [h1, h5, h13, h16, h19, h26, h29, h30, h31, locB, bareB, oneB, reduceIte, Int.reduceEq, or_self, decide_true, decide_false, Bool.true_and, Bool.false_and, Bool.and_true, Bool.and_false, Bool.true_or, Bool.false_or, Bool.or_true, Bool.or_false, Bool.not_true, Bool.not_false, if_true, if_false, not_true, not_false_eq_true, and_true, true_and, or_true, true_or, or_false, false_or, and_false, false_and, ite_true, ite_false, reduceIte, Bool.false_eq_true] <;> first | rfl | skip)
           ·
            refine OD.runE 9 [2] (E' := [(2, .bool false)]) (by kernel_rfl) ?_
            refine OD.nil (CD.ret ?_)
            rw [List.drop_eq_nil_of_le (by omega), mayRL] at hr
            exact retP (by kernel_rfl) (by kernel_rfl) (r := .bool false) (by rw [mayR_mk, hr, Bool.true_and]; simp only [h1, h5, h13, h16, h19, h26, h29, h30, locB, bareB, oneB, reduceIte, Int.reduceEq, or_self, decide_true, decide_false, Bool.true_and, Bool.false_and, Bool.and_true, Bool.and_false, Bool.true_or, Bool.false_or, Bool.or_true, Bool.or_false, Bool.not_true, Bool.not_false, if_true, if_false, not_true, not_false_eq_true, and_true, true_and, or_true, true_or, or_false, false_or, and_false, false_and, ite_true, ite_false, reduceIte, Bool.false_eq_true] <;> first | rfl | skip)
          ·
           refine CD.skip (CD.seq (CD.region ?_))
           refine OD.runE 1 [2] (E' := [(2, .bool false)]) (by kernel_rfl) ?_
           refine OD.nil (CD.ret ?_)
           rw [List.drop_eq_nil_of_le (by omega), mayRL] at hr
           exact retP (by kernel_rfl) (by kernel_rfl) (r := .bool false) (by rw [mayR_mk, hr, Bool.true_and]; simp only [h1, h5, h13, h16, h19, h26, h29, locB, bareB, oneB, reduceIte, Int.reduceEq, or_self, decide_true, decide_false, Bool.true_and, Bool.false_and, Bool.and_true, Bool.and_false, Bool.true_or, Bool.false_or, Bool.or_true, Bool.or_false, Bool.not_true, Bool.not_false, if_true, if_false, not_true, not_false_eq_true, and_true, true_and, or_true, true_or, or_false, false_or, and_false, false_and, ite_true, ite_false, reduceIte, Bool.false_eq_true] <;> first | rfl | skip)
theorem rMay_ok (k : Int) (set : List (Int × Int)) (no : Bool) (kids : List Nd) (mn mx : Int) (hf : fit (.mk k set no kids mn mx)) (hz : size (.mk k set no kids mn mx) < 4611686018427387904) : PureD P ov 26 [.agg [.int .i64 k, .sl 2 set.length (set.flatMap encR), .bool no, .sl 6 kids.length (encNs kids), .int .i64 mn, .int .i64 mx]] (.bool (decide (deep (.mk k set no kids mn mx) ≤ 40) && decide (size (.mk k set no kids mn mx) ≤ 2000) && mayR (.mk k set no kids mn mx))) := by
 refine FnD.intro (by kernel_rfl) (fn := Tryz.f26) (by kernel_rfl) rfl (by kernel_rfl) fun M a0 g0 hg0 => ?_
 refine CD.seq (CD.region ?_)
 refine OD.run 2 [1] (E' := [(1, .loc 0 0)]) (L' := [.box [.int .i64 k, .sl 2 set.length (set.flatMap encR), .bool no, .sl 6 kids.length (encNs kids), .int .i64 mn, .int .i64 mx]]) (by kernel_rfl) ?_
 refine OD.nil (CD.seq (CD.region ?_))
 refine OD.runE 1 [1, 3] (E' := [(1, .loc 0 0), (3, .agg [.int .i64 k, .sl 2 set.length (set.flatMap encR), .bool no, .sl 6 kids.length (encNs kids), .int .i64 mn, .int .i64 mx])]) (by kernel_rfl) ?_
 refine OD.callE (Deep_ok _ k set no kids mn mx (Nat.le_refl _) hf hz) rfl (by kernel_rfl) (by kernel_rfl) (by kernel_rfl) ?_
 refine OD.runE 2 [1, 6] (E' := [(1, .loc 0 0), (6, .bool (decide ((((deep (.mk k set no kids mn mx) : Nat) : Int) : Int) ≤ 40)))]) (by kernel_rfl) ?_
 refine OD.ifP 6 rfl (fun h1 => ?_) (fun h1 => ?_)
 ·
  refine OD.runE 1 [1, 6, 7] (E' := [(1, .loc 0 0), (6, .bool true), (7, .agg [.int .i64 k, .sl 2 set.length (set.flatMap encR), .bool no, .sl 6 kids.length (encNs kids), .int .i64 mn, .int .i64 mx])]) (by kernel_rfl) ?_
  refine OD.guard rfl rfl ?_
  refine OD.callE (Count_ok _ k set no kids mn mx (Nat.le_refl _) hf hz) rfl (by kernel_rfl) (by kernel_rfl) (by kernel_rfl) ?_
  refine OD.runE 3 [1, 11] (E' := [(1, .loc 0 0), (11, .bool (decide ((((size (.mk k set no kids mn mx) : Nat) : Int) : Int) ≤ 2000)))]) (by kernel_rfl) ?_
  refine OD.ifP 11 rfl (fun h2 => ?_) (fun h2 => ?_)
  ·
   refine OD.runE 1 [11, 12] (E' := [(11, .bool true), (12, .agg [.int .i64 k, .sl 2 set.length (set.flatMap encR), .bool no, .sl 6 kids.length (encNs kids), .int .i64 mn, .int .i64 mx])]) (by kernel_rfl) ?_
   refine OD.guard rfl rfl ?_
   refine OD.callE (rmay_ok _ k set no kids mn mx (Nat.le_refl _) hf) rfl (by kernel_rfl) (by kernel_rfl) (by kernel_rfl) ?_
   refine OD.runE 2 [2] (E' := [(2, .bool (mayR (.mk k set no kids mn mx)))]) (by kernel_rfl) ?_
   refine OD.nil (CD.ret ?_)
   exact retP (by kernel_rfl) (by kernel_rfl) (r := .bool (mayR (.mk k set no kids mn mx))) (by rw [decide_eq_true (by omega), decide_eq_true (by omega)]; simp only [decide_true, decide_false, Bool.true_and, Bool.false_and, Bool.and_true, Bool.and_false, Bool.true_or, Bool.false_or, Bool.or_true, Bool.or_false, Bool.not_true, Bool.not_false, if_true, if_false, not_true, not_false_eq_true, and_true, true_and, or_true, true_or, or_false, false_or, and_false, false_and, ite_true, ite_false, reduceIte, Bool.false_eq_true])
  ·
   refine OD.runE 4 [2] (E' := [(2, .bool false)]) (by kernel_rfl) ?_
   refine OD.nil (CD.ret ?_)
   exact retP (by kernel_rfl) (by kernel_rfl) (r := .bool false) (by rw [decide_eq_false (show ¬ size (.mk k set no kids mn mx) ≤ 2000 by omega)]; simp only [decide_true, decide_false, Bool.true_and, Bool.false_and, Bool.and_true, Bool.and_false, Bool.true_or, Bool.false_or, Bool.or_true, Bool.or_false, Bool.not_true, Bool.not_false, if_true, if_false, not_true, not_false_eq_true, and_true, true_and, or_true, true_or, or_false, false_or, and_false, false_and, ite_true, ite_false, reduceIte, Bool.false_eq_true])
 ·
  refine OD.runE 9 [2] (E' := [(2, .bool false)]) (by kernel_rfl) ?_
  refine OD.nil (CD.ret ?_)
  exact retP (by kernel_rfl) (by kernel_rfl) (r := .bool false) (by rw [decide_eq_false (show ¬ deep (.mk k set no kids mn mx) ≤ 40 by omega)]; simp only [decide_true, decide_false, Bool.true_and, Bool.false_and, Bool.and_true, Bool.and_false, Bool.true_or, Bool.false_or, Bool.or_true, Bool.or_false, Bool.not_true, Bool.not_false, if_true, if_false, not_true, not_false_eq_true, and_true, true_and, or_true, true_or, or_false, false_or, and_false, false_and, ite_true, ite_false, reduceIte, Bool.false_eq_true])
theorem Weight_ok : ∀ (m : Nat) (k : Int) (set : List (Int × Int)) (no : Bool) (kids : List Nd) (mn mx : Int), size (.mk k set no kids mn mx) ≤ m → fit (.mk k set no kids mn mx) → (allLoc locB (.mk k set no kids mn mx)) → PureD P ov 27 [.agg [.int .i64 k, .sl 2 set.length (set.flatMap encR), .bool no, .sl 6 kids.length (encNs kids), .int .i64 mn, .int .i64 mx]] (.int .i64 ((wr K14 1000000 (.mk k set no kids mn mx) : Nat) : Int)) := by
 intro m
 induction m with
 | zero => intro k set no kids mn mx hs; exact absurd hs (by have := size_pos (.mk k set no kids mn mx); omega)
 | succ m ih =>
  intro k set no kids mn mx hs hf hl
  have hf1 := hf.1
  have hf2 := hf.2.1
  have hf3 := hf.2.2.1
  have hf4 := hf.2.2.2.1
  refine FnD.intro (by kernel_rfl) (fn := Tryz.f27) (by kernel_rfl) rfl (by kernel_rfl) fun M a0 g0 hg0 => ?_
  refine CD.seq (CD.region ?_)
  refine OD.run 2 [1] (E' := [(1, .loc 0 0)]) (L' := [.box [.int .i64 k, .sl 2 set.length (set.flatMap encR), .bool no, .sl 6 kids.length (encNs kids), .int .i64 mn, .int .i64 mx]]) (by kernel_rfl) ?_
  refine OD.nil (CD.seq (CD.region ?_))
  refine OD.runE 1 [1, 3] (E' := [(1, .loc 0 0), (3, .int .i64 0)]) (by kernel_rfl) ?_
  refine OD.nil (CD.seq (CD.seq (CD.region ?_)))
  refine OD.runE 1 [1, 3, 4] (E' := [(1, .loc 0 0), (3, .int .i64 0), (4, .int .i64 0)]) (by kernel_rfl) ?_
  refine OD.nil (CD.block ?_)
  refine CD.weak [1, 3, 4] 1 (E' := [(1, .loc 0 0), (3, .int .i64 0), (4, .int .i64 0)]) (by kernel_rfl) (by simp [hg0]) (by kernel_rfl) ?_
  refine CD.loop (fun m σ => ∃ (i : Nat) (w : Nat), σ = ⟨[(1, .loc 0 0), (3, .int .i64 w), (4, .int .i64 i)], [.box [.int .i64 k, .sl 2 set.length (set.flatMap encR), .bool no, .sl 6 kids.length (encNs kids), .int .i64 mn, .int .i64 mx]]⟩ ∧ (i ≤ kids.length) ∧ (w ≤ 1000000) ∧ (wrL K14 1000000 kids 0 = wrL K14 1000000 (kids.drop i) w) ∧ m = kids.length - i) (fun m σ hI => ?_) _ ⟨0, 0, (by kernel_rfl), Nat.zero_le _, by omega, rfl, rfl⟩
  obtain ⟨i, w, e, hi, hw, hr, hm⟩ := hI
  subst e hm
  refine CD.seq (CD.seq (CD.region ?_))
  refine OD.runE 5 [1, 3, 4, 9] (E' := [(1, .loc 0 0), (3, .int .i64 w), (4, .int .i64 i), (9, .bool (decide ((((i : Nat) : Int) : Int) < ((kids.length : Nat) : Int))))]) (by kernel_rfl) ?_
  refine OD.nil ?_
  refine CD.condP rfl (fun h1 => ?_) (fun h1 => ?_)
  ·
   obtain ⟨⟨k1, set1, no1, kids1, mn1, mx1⟩, hx, hd⟩ := nth (l := kids) (i := i) (by omega)
   have hc := wr_le K14 1000000 (.mk k1 set1 no1 kids1 mn1 mx1) (by omega)
   refine CD.skip (CD.seq (CD.block (CD.region ?_)))
   refine OD.runE 4 [1, 4, 12, 14, 15] (E' := [(1, .loc 0 0), (4, .int .i64 i), (12, .int .i64 w), (14, .sl 6 kids.length (encNs kids)), (15, .int .i64 i)]) (by kernel_rfl) ?_
   refine OD.idx rfl rfl (by kernel_rfl) (by omega) (by omega) ?_
   refine OD.runE 0 [1, 4, 12, 16] (E' := [(1, .loc 0 0), (4, .int .i64 i), (12, .int .i64 w), (16, .ep 6 kids.length (encNs kids) ((((i : Nat) : Int) : Int).toNat * 6))]) (by kernel_rfl) ?_
   refine OD.ldA rfl (by kernel_rfl) (by kernel_rfl) (nPart hx) rfl (by decide) ?_
   refine OD.runE 0 [1, 4, 12, 17] (E' := [(1, .loc 0 0), (4, .int .i64 i), (12, .int .i64 w), (17, .agg [.int .i64 k1, .sl 2 set1.length (set1.flatMap encR), .bool no1, .sl 6 kids1.length (encNs kids1), .int .i64 mn1, .int .i64 mx1])]) (by kernel_rfl) ?_
   refine OD.callE (ih k1 set1 no1 kids1 mn1 mx1 (size_kid hs hx) (fit_kid hf hx) (allLoc_kid hl hx)) rfl (by kernel_rfl) (by kernel_rfl) (by kernel_rfl) ?_
   refine OD.runE 1 [1, 4, 19] (E' := [(1, .loc 0 0), (4, .int .i64 i), (19, .int .i64 (wrapQ .i64 (((w : Nat) : Int) + ((wr K14 1000000 (.mk k1 set1 no1 kids1 mn1 mx1) : Nat) : Int))))]) (by kernel_rfl) ?_
   refine OD.is 19 rfl (wrn (m := w + (wr K14 1000000 (.mk k1 set1 no1 kids1 mn1 mx1))) (by omega) (by omega)) ?_
   refine OD.runE 1 [1, 4, 20] (E' := [(1, .loc 0 0), (4, .int .i64 i), (20, .int .i64 (min (((w + (wr K14 1000000 (.mk k1 set1 no1 kids1 mn1 mx1)) : Nat) : Int) : Int) 1000000))]) (by kernel_rfl) ?_
   refine OD.is 20 rfl castmin ?_
   refine OD.runE 1 [1, 3, 4] (E' := [(1, .loc 0 0), (3, .int .i64 ((min (w + (wr K14 1000000 (.mk k1 set1 no1 kids1 mn1 mx1))) 1000000 : Nat) : Int)), (4, .int .i64 i)]) (by kernel_rfl) ?_
   refine OD.nil (CD.region ?_)
   refine OD.runE 2 [1, 3, 11] (E' := [(1, .loc 0 0), (3, .int .i64 ((min (w + (wr K14 1000000 (.mk k1 set1 no1 kids1 mn1 mx1))) 1000000 : Nat) : Int)), (11, .int .i64 (wrapQ .i64 (((i : Nat) : Int) + 1)))]) (by kernel_rfl) ?_
   refine OD.is 11 rfl (wrn (m := i + 1) (by omega) (by omega)) ?_
   refine OD.runE 1 [1, 3, 4] (E' := [(1, .loc 0 0), (3, .int .i64 ((min (w + (wr K14 1000000 (.mk k1 set1 no1 kids1 mn1 mx1))) 1000000 : Nat) : Int)), (4, .int .i64 ((i + 1 : Nat) : Int))]) (by kernel_rfl) ?_
   refine OD.nil ?_
   exact ⟨_, by omega, i + 1, min (w + wr K14 1000000 (.mk k1 set1 no1 kids1 mn1 mx1)) 1000000, (by kernel_rfl), by omega, by omega, by rw [hr, hd, wrL], rfl⟩
  ·
   refine CD.exit ?_
   refine CD.seq (CD.seq (CD.region ?_))
   refine OD.runE 2 [1, 3, 22] (E' := [(1, .loc 0 0), (3, .int .i64 w), (22, .int .i64 k)]) (by kernel_rfl) ?_
   refine OD.nil (CD.block (CD.seq (CD.region ?_)))
   refine OD.runE 2 [1, 3, 22, 23] (E' := [(1, .loc 0 0), (3, .int .i64 w), (22, .int .i64 k), (23, .bool (decide ((k : Int) = 3)))]) (by kernel_rfl) ?_
   refine OD.nil ?_
   refine CD.condP rfl (fun h2 => ?_) (fun h2 => ?_)
   ·
    refine CD.seq (CD.region ?_)
    refine OD.runE 2 [2] (E' := [(2, .int .i64 w)]) (by kernel_rfl) ?_
    refine OD.nil (CD.ret ?_)
    rw [List.drop_eq_nil_of_le (by omega), wrL_nil] at hr
    exact retP (by kernel_rfl) (by kernel_rfl) (r := .int .i64 w) (wr_cat h2 hr)
   ·
    refine CD.seq (CD.region ?_)
    refine OD.runE 2 [1, 3, 22, 26] (E' := [(1, .loc 0 0), (3, .int .i64 w), (22, .int .i64 k), (26, .bool (decide ((k : Int) = 4)))]) (by kernel_rfl) ?_
    refine OD.nil ?_
    refine CD.condP rfl (fun h3 => ?_) (fun h3 => ?_)
    ·
     refine CD.seq (CD.region ?_)
     refine OD.runE 2 [29] (E' := [(29, .int .i64 (wrapQ .i64 (((w : Nat) : Int) + 1)))]) (by kernel_rfl) ?_
     refine OD.is 29 rfl (wrn (m := w + 1) (by omega) (by omega)) ?_
     refine OD.runE 1 [2] (E' := [(2, .int .i64 ((w + 1 : Nat) : Int))]) (by kernel_rfl) ?_
     refine OD.nil (CD.ret ?_)
     rw [List.drop_eq_nil_of_le (by omega), wrL_nil] at hr
     exact retP (by kernel_rfl) (by kernel_rfl) (r := .int .i64 ((w + 1 : Nat) : Int)) (wr_alt h3 hr)
    ·
     refine CD.seq (CD.region ?_)
     refine OD.runE 2 [1, 3, 30] (E' := [(1, .loc 0 0), (3, .int .i64 w), (30, .bool (decide ((k : Int) = 5)))]) (by kernel_rfl) ?_
     refine OD.nil ?_
     refine CD.condP rfl (fun h4 => ?_) (fun h4 => ?_)
     ·
      have hk : 0 ≤ mn ∧ mn ≤ 9 ∧ mx ≤ 9 ∧ (mx = -1 ∨ mn ≤ mx) := by subst h4; exact loc_rep hl
      refine CD.seq (CD.seq (CD.region ?_))
      refine OD.runE 3 [1, 3, 34] (E' := [(1, .loc 0 0), (3, .int .i64 w), (34, .bool (decide ((mx : Int) < 0)))]) (by kernel_rfl) ?_
      refine OD.nil ?_
      refine CD.condP rfl (fun h5 => ?_) (fun h5 => ?_)
      ·
       refine CD.seq (CD.region ?_)
       refine OD.runE 4 [35, 38] (E' := [(35, .int .i64 w), (38, .int .i64 (wrapQ .i64 (mn + 1)))]) (by kernel_rfl) ?_
       refine OD.is 38 rfl (wr64 (by omega) (by omega)) ?_
       refine OD.runE 1 [39] (E' := [(39, .int .i64 (wrapQ .i64 (((w : Nat) : Int) * (mn + 1))))]) (by kernel_rfl) ?_
       have hmul := mul_bd (a := (w : Int)) (b := ((mn + 1))) (A := 1000000) (B := 10) (by omega) (by omega) (by omega) (by omega)
       refine OD.is 39 rfl (wr64 (by omega) (by omega)) ?_
       refine OD.runE 1 [40] (E' := [(40, .int .i64 (wrapQ .i64 ((((w : Nat) : Int) * (mn + 1)) + 1)))]) (by kernel_rfl) ?_
       refine OD.is 40 rfl (wr64 (by omega) (by omega)) ?_
       refine OD.runE 2 [2] (E' := [(2, .int .i64 (min ((((w : Nat) : Int) * (mn + 1)) + 1 : Int) 1000000))]) (by kernel_rfl) ?_
       refine OD.nil (CD.ret ?_)
       rw [List.drop_eq_nil_of_le (by omega), wrL_nil] at hr
       exact retP (by kernel_rfl) (by kernel_rfl) (r := .int .i64 (min ((((w : Nat) : Int) * (mn + 1)) + 1 : Int) 1000000)) (wr_rep h4 hr (by rw [if_pos h5]) (by omega) rfl)
      ·
       refine CD.skip (CD.seq (CD.region ?_))
       refine OD.runE 4 [45] (E' := [(45, .int .i64 (wrapQ .i64 (((w : Nat) : Int) * mx)))]) (by kernel_rfl) ?_
       have hmul := mul_bd (a := (w : Int)) (b := (mx)) (A := 1000000) (B := 10) (by omega) (by omega) (by omega) (by omega)
       refine OD.is 45 rfl (wr64 (by omega) (by omega)) ?_
       refine OD.runE 1 [46] (E' := [(46, .int .i64 (wrapQ .i64 ((((w : Nat) : Int) * mx) + 1)))]) (by kernel_rfl) ?_
       refine OD.is 46 rfl (wr64 (by omega) (by omega)) ?_
       refine OD.runE 2 [2] (E' := [(2, .int .i64 (min ((((w : Nat) : Int) * mx) + 1 : Int) 1000000))]) (by kernel_rfl) ?_
       refine OD.nil (CD.ret ?_)
       rw [List.drop_eq_nil_of_le (by omega), wrL_nil] at hr
       exact retP (by kernel_rfl) (by kernel_rfl) (r := .int .i64 (min ((((w : Nat) : Int) * mx) + 1 : Int) 1000000)) (wr_rep h4 hr (by rw [if_neg h5]) (by omega) rfl)
     ·
      refine CD.skip (CD.seq (CD.region ?_))
      refine OD.runE 1 [2] (E' := [(2, .int .i64 1)]) (by kernel_rfl) ?_
      refine OD.nil (CD.ret ?_)
      rw [List.drop_eq_nil_of_le (by omega), wrL_nil] at hr
      exact retP (by kernel_rfl) (by kernel_rfl) (r := .int .i64 1) (wr_one h2 h3 h4)
end
end Go.Proofs.YtiebldaihnbkmaaGreatDoor
