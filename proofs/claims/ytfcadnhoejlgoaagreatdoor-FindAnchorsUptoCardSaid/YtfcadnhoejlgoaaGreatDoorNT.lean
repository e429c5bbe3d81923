/-
  What is proved here: what functions of the pattern's package come to (walks that a program of mine has printed). No conditions.
-/
import Derived.Test.YtfcadnhoejlgoaaGreatDoorNR
import Derived.Test.YtfcadnhoejlgoaaGreatDoorRJ
import Derived.Test.YtfcadnhoejlgoaaGreatDoorNQ
import Derived.Test.YtfcadnhoejlgoaaGreatDoorRI
set_option linter.unusedVariables false
set_option linter.unusedSimpArgs false
set_option maxRecDepth 100000
set_option maxHeartbeats 4000000
namespace Go.Proofs.YtfcadnhoejlgoaaGreatDoor
open Go.Vai Go.Nfa
noncomputable section
theorem value1_ok (s : ByteArray) (hs : s.size = 1) : FnD P ov 43 [.str s] [] (fun r L1 => (fun r => ∃ z, r = .int .i32 z) r ∧ L1 = []) := by
 refine FnD.intro (by kernel_rfl) (fn := Tryz.f43) (by kernel_rfl) rfl (by kernel_rfl) fun M a0 g0 hg0 => ?_
 refine CD.seq (CD.region ?_)
 refine OD.rE 1 [(0,.str s)] ?_
 refine OD.nil (CD.seq (CD.seq (CD.region ?_)))
 refine OD.rE 2 [(0,.str s),(6,.i64 s.size)] ?_
 refine OD.is 6 rfl (congrArg (fun n : Nat => D.int .i64 (n : Int)) hs) ?_
 refine OD.rE 1 [(0,.str s),(7,.bool true)] ?_
 refine OD.nil ?_
 refine CD.condT rfl ?_
 refine CD.seq (CD.region ?_)
 refine OD.rE 1 [(8,.str s)] ?_
 refine OD.ixS (i := 0) rfl rfl (by kernel_rfl) rfl (by omega) (fun hb1 => ?_)
 refine OD.rE 1 [(10,.int .i32 (wrapQ .i32 (((sB s 0 : Nat) : Int))))] ?_
 refine OD.is 10 rfl (wr32 (by omega) (by omega)) ?_
 refine OD.rE 1 [(2,.int .i32 ((sB s 0 : Nat) : Int))] ?_
 refine OD.nil (CD.ret ?_)
 (try dsimp only); first | refine resP_r ?_ | refine resP_n ?_
 exact rO 0 (.int .i32 ((sB s 0 : Nat) : Int)) [] (⟨⟨_, rfl⟩, rfl⟩)
theorem value2_ok (s : ByteArray) (hs : s.size = 2) : FnD P ov 43 [.str s] [] (fun r L1 => (fun r => ∃ z, r = .int .i32 z) r ∧ L1 = []) := by
 refine FnD.intro (by kernel_rfl) (fn := Tryz.f43) (by kernel_rfl) rfl (by kernel_rfl) fun M a0 g0 hg0 => ?_
 refine CD.seq (CD.region ?_)
 refine OD.rE 1 [(0,.str s)] ?_
 refine OD.nil (CD.seq (CD.seq (CD.region ?_)))
 refine OD.rE 2 [(0,.str s),(6,.i64 s.size)] ?_
 refine OD.is 6 rfl (congrArg (fun n : Nat => D.int .i64 (n : Int)) hs) ?_
 refine OD.rE 1 [(0,.str s),(7,.bool false)] ?_
 refine OD.nil ?_
 refine CD.condF rfl ?_
 refine CD.skip (CD.seq (CD.region ?_))
 refine OD.rE 1 [(0,.str s),(11,.str s)] ?_
 refine OD.ixS (i := 0) rfl rfl (by kernel_rfl) rfl (by omega) (fun hb1 => ?_)
 refine OD.rE 1 [(0,.str s),(13,.int .i32 (wrapQ .i32 (((sB s 0 : Nat) : Int))))] ?_
 refine OD.is 13 rfl (wr32 (by omega) (by omega)) ?_
 refine OD.rE 2 [(0,.str s),(13,.int .i32 ((sB s 0 : Nat) : Int)),(15,.i64 s.size)] ?_
 refine OD.is 15 rfl (congrArg (fun n : Nat => D.int .i64 (n : Int)) hs) ?_
 refine OD.rE 5 [(0,.str s),(3,.int .i32 (((sB s 0) % 32 : Nat) : Int))] ?_
 refine OD.nil (CD.seq (CD.seq (CD.region ?_)))
 refine OD.rE 1 [(0,.str s),(3,.int .i32 (((sB s 0) % 32 : Nat) : Int)),(4,.i64 1)] ?_
 refine OD.nil (CD.block ?_)
 refine CD.weak [0, 3, 4] 0 (E' := [(0, .str s), (3, .int .i32 (((sB s 0) % 32 : Nat) : Int)), (4, .i64 1)]) (by kernel_rfl) (by simp [hg0]) (by kernel_rfl) ?_
 refine CD.loop (fun m σ => ∃ (i : Nat) (z : Int), σ = ⟨[(0, .str s), (3, .int .i32 z), (4, .i64 i)], []⟩ ∧ (1 ≤ i ∧ i ≤ 2) ∧ m = 2 - i) (fun m σ hI => ?_) _ ⟨1, (((sB s 0) % 32 : Nat) : Int), (by kernel_rfl), ⟨by omega, by omega⟩, rfl⟩
 obtain ⟨i, z, e, hi, hm⟩ := hI
 subst e hm
 refine CD.seq (CD.seq (CD.region ?_))
 refine OD.rE 3 [(0,.str s),(3,.int .i32 z),(4,.i64 i),(20,.i64 i),(22,.i64 s.size)] ?_
 refine OD.is 22 rfl (congrArg (fun n : Nat => D.int .i64 (n : Int)) hs) ?_
 refine OD.rE 1 [(0,.str s),(3,.int .i32 z),(4,.i64 i),(23,.bool (decide ((((i : Nat) : Int) : Int) < 2)))] ?_
 refine OD.nil ?_
 refine CD.condP rfl (fun h1 => ?_) (fun h1 => ?_)
 ·
  refine CD.skip (CD.seq (CD.block (CD.region ?_)))
  refine OD.rE 4 [(0,.str s),(4,.i64 i),(27,.int .i32 (wrapQ .i32 (z * 64))),(28,.str s),(29,.i64 i)] ?_
  refine OD.ixS (i := i) rfl rfl (by kernel_rfl) rfl (by omega) (fun hb2 => ?_)
  refine OD.rE 1 [(0,.str s),(4,.i64 i),(27,.int .i32 (wrapQ .i32 (z * 64))),(31,.int .i32 (wrapQ .i32 (((sB s i : Nat) : Int))))] ?_
  refine OD.is 31 rfl (wr32 (by omega) (by omega)) ?_
  refine OD.rE 3 [(0,.str s),(3,.int .i32 (wrapQ .i32 ((wrapQ .i32 (z * 64)) + (((sB s i) % 64 : Nat) : Int)))),(4,.i64 i)] ?_
  refine OD.nil (CD.region ?_)
  refine OD.rE 2 [(0,.str s),(3,.int .i32 (wrapQ .i32 ((wrapQ .i32 (z * 64)) + (((sB s i) % 64 : Nat) : Int)))),(25,.i64 (wrapQ .i64 (((i : Nat) : Int) + 1)))] ?_
  refine OD.is 25 rfl (wrn (m := i + 1) (by omega) (by omega)) ?_
  refine OD.rE 1 [(0,.str s),(3,.int .i32 (wrapQ .i32 ((wrapQ .i32 (z * 64)) + (((sB s i) % 64 : Nat) : Int)))),(4,.i64 ((i + 1 : Nat) : Int))] ?_
  refine OD.nil ?_
  exact ⟨_, by omega, i + 1, wrapQ .i32 ((wrapQ .i32 (z * 64)) + (((sB s i) % 64 : Nat) : Int)), (by kernel_rfl), ⟨by omega, by omega⟩, rfl⟩
 ·
  refine CD.exit ?_
  refine CD.seq (CD.region ?_)
  refine OD.rE 2 [(2,.int .i32 z)] ?_
  refine OD.nil (CD.ret ?_)
  (try dsimp only); first | refine resP_r ?_ | refine resP_n ?_
  exact rO 0 (.int .i32 z) [] (⟨⟨_, rfl⟩, rfl⟩)
theorem value3_ok (s : ByteArray) (hs : s.size = 3) : FnD P ov 43 [.str s] [] (fun r L1 => (fun r => ∃ z, r = .int .i32 z) r ∧ L1 = []) := by
 refine FnD.intro (by kernel_rfl) (fn := Tryz.f43) (by kernel_rfl) rfl (by kernel_rfl) fun M a0 g0 hg0 => ?_
 refine CD.seq (CD.region ?_)
 refine OD.rE 1 [(0,.str s)] ?_
 refine OD.nil (CD.seq (CD.seq (CD.region ?_)))
 refine OD.rE 2 [(0,.str s),(6,.i64 s.size)] ?_
 refine OD.is 6 rfl (congrArg (fun n : Nat => D.int .i64 (n : Int)) hs) ?_
 refine OD.rE 1 [(0,.str s),(7,.bool false)] ?_
 refine OD.nil ?_
 refine CD.condF rfl ?_
 refine CD.skip (CD.seq (CD.region ?_))
 refine OD.rE 1 [(0,.str s),(11,.str s)] ?_
 refine OD.ixS (i := 0) rfl rfl (by kernel_rfl) rfl (by omega) (fun hb1 => ?_)
 refine OD.rE 1 [(0,.str s),(13,.int .i32 (wrapQ .i32 (((sB s 0 : Nat) : Int))))] ?_
 refine OD.is 13 rfl (wr32 (by omega) (by omega)) ?_
 refine OD.rE 2 [(0,.str s),(13,.int .i32 ((sB s 0 : Nat) : Int)),(15,.i64 s.size)] ?_
 refine OD.is 15 rfl (congrArg (fun n : Nat => D.int .i64 (n : Int)) hs) ?_
 refine OD.rE 5 [(0,.str s),(3,.int .i32 (((sB s 0) % 16 : Nat) : Int))] ?_
 refine OD.nil (CD.seq (CD.seq (CD.region ?_)))
 refine OD.rE 1 [(0,.str s),(3,.int .i32 (((sB s 0) % 16 : Nat) : Int)),(4,.i64 1)] ?_
 refine OD.nil (CD.block ?_)
 refine CD.weak [0, 3, 4] 0 (E' := [(0, .str s), (3, .int .i32 (((sB s 0) % 16 : Nat) : Int)), (4, .i64 1)]) (by kernel_rfl) (by simp [hg0]) (by kernel_rfl) ?_
 refine CD.loop (fun m σ => ∃ (i : Nat) (z : Int), σ = ⟨[(0, .str s), (3, .int .i32 z), (4, .i64 i)], []⟩ ∧ (1 ≤ i ∧ i ≤ 3) ∧ m = 3 - i) (fun m σ hI => ?_) _ ⟨1, (((sB s 0) % 16 : Nat) : Int), (by kernel_rfl), ⟨by omega, by omega⟩, rfl⟩
 obtain ⟨i, z, e, hi, hm⟩ := hI
 subst e hm
 refine CD.seq (CD.seq (CD.region ?_))
 refine OD.rE 3 [(0,.str s),(3,.int .i32 z),(4,.i64 i),(20,.i64 i),(22,.i64 s.size)] ?_
 refine OD.is 22 rfl (congrArg (fun n : Nat => D.int .i64 (n : Int)) hs) ?_
 refine OD.rE 1 [(0,.str s),(3,.int .i32 z),(4,.i64 i),(23,.bool (decide ((((i : Nat) : Int) : Int) < 3)))] ?_
 refine OD.nil ?_
 refine CD.condP rfl (fun h1 => ?_) (fun h1 => ?_)
 ·
  refine CD.skip (CD.seq (CD.block (CD.region ?_)))
  refine OD.rE 4 [(0,.str s),(4,.i64 i),(27,.int .i32 (wrapQ .i32 (z * 64))),(28,.str s),(29,.i64 i)] ?_
  refine OD.ixS (i := i) rfl rfl (by kernel_rfl) rfl (by omega) (fun hb2 => ?_)
  refine OD.rE 1 [(0,.str s),(4,.i64 i),(27,.int .i32 (wrapQ .i32 (z * 64))),(31,.int .i32 (wrapQ .i32 (((sB s i : Nat) : Int))))] ?_
  refine OD.is 31 rfl (wr32 (by omega) (by omega)) ?_
  refine OD.rE 3 [(0,.str s),(3,.int .i32 (wrapQ .i32 ((wrapQ .i32 (z * 64)) + (((sB s i) % 64 : Nat) : Int)))),(4,.i64 i)] ?_
  refine OD.nil (CD.region ?_)
  refine OD.rE 2 [(0,.str s),(3,.int .i32 (wrapQ .i32 ((wrapQ .i32 (z * 64)) + (((sB s i) % 64 : Nat) : Int)))),(25,.i64 (wrapQ .i64 (((i : Nat) : Int) + 1)))] ?_
  refine OD.is 25 rfl (wrn (m := i + 1) (by omega) (by omega)) ?_
  refine OD.rE 1 [(0,.str s),(3,.int .i32 (wrapQ .i32 ((wrapQ .i32 (z * 64)) + (((sB s i) % 64 : Nat) : Int)))),(4,.i64 ((i + 1 : Nat) : Int))] ?_
  refine OD.nil ?_
  exact ⟨_, by omega, i + 1, wrapQ .i32 ((wrapQ .i32 (z * 64)) + (((sB s i) % 64 : Nat) : Int)), (by kernel_rfl), ⟨by omega, by omega⟩, rfl⟩
 ·
  refine CD.exit ?_
  refine CD.seq (CD.region ?_)
  refine OD.rE 2 [(2,.int .i32 z)] ?_
  refine OD.nil (CD.ret ?_)
  (try dsimp only); first | refine resP_r ?_ | refine resP_n ?_
  exact rO 0 (.int .i32 z) [] (⟨⟨_, rfl⟩, rfl⟩)
theorem value4_ok (s : ByteArray) (hs : s.size = 4) : FnD P ov 43 [.str s] [] (fun r L1 => (fun r => ∃ z, r = .int .i32 z) r ∧ L1 = []) := by
 refine FnD.intro (by kernel_rfl) (fn := Tryz.f43) (by kernel_rfl) rfl (by kernel_rfl) fun M a0 g0 hg0 => ?_
 refine CD.seq (CD.region ?_)
 refine OD.rE 1 [(0,.str s)] ?_
 refine OD.nil (CD.seq (CD.seq (CD.region ?_)))
 refine OD.rE 2 [(0,.str s),(6,.i64 s.size)] ?_
 refine OD.is 6 rfl (congrArg (fun n : Nat => D.int .i64 (n : Int)) hs) ?_
 refine OD.rE 1 [(0,.str s),(7,.bool false)] ?_
 refine OD.nil ?_
 refine CD.condF rfl ?_
 refine CD.skip (CD.seq (CD.region ?_))
 refine OD.rE 1 [(0,.str s),(11,.str s)] ?_
 refine OD.ixS (i := 0) rfl rfl (by kernel_rfl) rfl (by omega) (fun hb1 => ?_)
 refine OD.rE 1 [(0,.str s),(13,.int .i32 (wrapQ .i32 (((sB s 0 : Nat) : Int))))] ?_
 refine OD.is 13 rfl (wr32 (by omega) (by omega)) ?_
 refine OD.rE 2 [(0,.str s),(13,.int .i32 ((sB s 0 : Nat) : Int)),(15,.i64 s.size)] ?_
 refine OD.is 15 rfl (congrArg (fun n : Nat => D.int .i64 (n : Int)) hs) ?_
 refine OD.rE 5 [(0,.str s),(3,.int .i32 (((sB s 0) % 8 : Nat) : Int))] ?_
 refine OD.nil (CD.seq (CD.seq (CD.region ?_)))
 refine OD.rE 1 [(0,.str s),(3,.int .i32 (((sB s 0) % 8 : Nat) : Int)),(4,.i64 1)] ?_
 refine OD.nil (CD.block ?_)
 refine CD.weak [0, 3, 4] 0 (E' := [(0, .str s), (3, .int .i32 (((sB s 0) % 8 : Nat) : Int)), (4, .i64 1)]) (by kernel_rfl) (by simp [hg0]) (by kernel_rfl) ?_
 refine CD.loop (fun m σ => ∃ (i : Nat) (z : Int), σ = ⟨[(0, .str s), (3, .int .i32 z), (4, .i64 i)], []⟩ ∧ (1 ≤ i ∧ i ≤ 4) ∧ m = 4 - i) (fun m σ hI => ?_) _ ⟨1, (((sB s 0) % 8 : Nat) : Int), (by kernel_rfl), ⟨by omega, by omega⟩, rfl⟩
 obtain ⟨i, z, e, hi, hm⟩ := hI
 subst e hm
 refine CD.seq (CD.seq (CD.region ?_))
 refine OD.rE 3 [(0,.str s),(3,.int .i32 z),(4,.i64 i),(20,.i64 i),(22,.i64 s.size)] ?_
 refine OD.is 22 rfl (congrArg (fun n : Nat => D.int .i64 (n : Int)) hs) ?_
 refine OD.rE 1 [(0,.str s),(3,.int .i32 z),(4,.i64 i),(23,.bool (decide ((((i : Nat) : Int) : Int) < 4)))] ?_
 refine OD.nil ?_
 refine CD.condP rfl (fun h1 => ?_) (fun h1 => ?_)
 ·
  refine CD.skip (CD.seq (CD.block (CD.region ?_)))
  refine OD.rE 4 [(0,.str s),(4,.i64 i),(27,.int .i32 (wrapQ .i32 (z * 64))),(28,.str s),(29,.i64 i)] ?_
  refine OD.ixS (i := i) rfl rfl (by kernel_rfl) rfl (by omega) (fun hb2 => ?_)
  refine OD.rE 1 [(0,.str s),(4,.i64 i),(27,.int .i32 (wrapQ .i32 (z * 64))),(31,.int .i32 (wrapQ .i32 (((sB s i : Nat) : Int))))] ?_
  refine OD.is 31 rfl (wr32 (by omega) (by omega)) ?_
  refine OD.rE 3 [(0,.str s),(3,.int .i32 (wrapQ .i32 ((wrapQ .i32 (z * 64)) + (((sB s i) % 64 : Nat) : Int)))),(4,.i64 i)] ?_
  refine OD.nil (CD.region ?_)
  refine OD.rE 2 [(0,.str s),(3,.int .i32 (wrapQ .i32 ((wrapQ .i32 (z * 64)) + (((sB s i) % 64 : Nat) : Int)))),(25,.i64 (wrapQ .i64 (((i : Nat) : Int) + 1)))] ?_
  refine OD.is 25 rfl (wrn (m := i + 1) (by omega) (by omega)) ?_
  refine OD.rE 1 [(0,.str s),(3,.int .i32 (wrapQ .i32 ((wrapQ .i32 (z * 64)) + (((sB s i) % 64 : Nat) : Int)))),(4,.i64 ((i + 1 : Nat) : Int))] ?_
  refine OD.nil ?_
  exact ⟨_, by omega, i + 1, wrapQ .i32 ((wrapQ .i32 (z * 64)) + (((sB s i) % 64 : Nat) : Int)), (by kernel_rfl), ⟨by omega, by omega⟩, rfl⟩
 ·
  refine CD.exit ?_
  refine CD.seq (CD.region ?_)
  refine OD.rE 2 [(2,.int .i32 z)] ?_
  refine OD.nil (CD.ret ?_)
  (try dsimp only); first | refine resP_r ?_ | refine resP_n ?_
  exact rO 0 (.int .i32 z) [] (⟨⟨_, rfl⟩, rfl⟩)
theorem value_ok (s : ByteArray) (h0 : 1 ≤ s.size) (h1 : s.size ≤ 4) : FnD P ov 43 [.str s] [] (fun r L1 => (fun r => ∃ z, r = .int .i32 z) r ∧ L1 = []) := by
 rcases (by omega : s.size = 1 ∨ s.size = 2 ∨ s.size = 3 ∨ s.size = 4) with h | h | h | h
 · exact value1_ok s h
 · exact value2_ok s h
 · exact value3_ok s h
 · exact value4_ok s h
theorem forms_ok  : PureD P ov 65 [] (.sl 2 9 (formL.flatMap encF)) := by
 refine FnD.intro (by kernel_rfl) (fn := Tryz.f65) (by kernel_rfl) rfl (by kernel_rfl) fun M a0 g0 hg0 => ?_
 refine CD.seq (CD.region ?_)
 refine OD.rE 1 [] ?_
 refine OD.nil (CD.seq (CD.region ?_))
 refine OD.bsl (e := 1) (cs := [.int .u8 0]) rfl (by kernel_rfl) ?_
 refine OD.rE 0 [(1,.sl 1 1 [.int .u8 0])] ?_
 refine OD.bsl (e := 1) (cs := [.int .u8 127]) rfl (by kernel_rfl) ?_
 refine OD.rE 1 [(3,.agg [.sl 1 1 [.int .u8 0], .sl 1 1 [.int .u8 127]])] ?_
 refine OD.bsl (e := 1) (cs := [.int .u8 194, .int .u8 128]) rfl (by kernel_rfl) ?_
 refine OD.rE 0 [(3,.agg [.sl 1 1 [.int .u8 0], .sl 1 1 [.int .u8 127]]),(4,.sl 1 2 [.int .u8 194, .int .u8 128])] ?_
 refine OD.bsl (e := 1) (cs := [.int .u8 223, .int .u8 191]) rfl (by kernel_rfl) ?_
 refine OD.rE 1 [(3,.agg [.sl 1 1 [.int .u8 0], .sl 1 1 [.int .u8 127]]),(6,.agg [.sl 1 2 [.int .u8 194, .int .u8 128], .sl 1 2 [.int .u8 223, .int .u8 191]])] ?_
 refine OD.bsl (e := 1) (cs := [.int .u8 224, .int .u8 160, .int .u8 128]) rfl (by kernel_rfl) ?_
 refine OD.rE 0 [(3,.agg [.sl 1 1 [.int .u8 0], .sl 1 1 [.int .u8 127]]),(6,.agg [.sl 1 2 [.int .u8 194, .int .u8 128], .sl 1 2 [.int .u8 223, .int .u8 191]]),(7,.sl 1 3 [.int .u8 224, .int .u8 160, .int .u8 128])] ?_
 refine OD.bsl (e := 1) (cs := [.int .u8 224, .int .u8 191, .int .u8 191]) rfl (by kernel_rfl) ?_
 refine OD.rE 1 [(3,.agg [.sl 1 1 [.int .u8 0], .sl 1 1 [.int .u8 127]]),(6,.agg [.sl 1 2 [.int .u8 194, .int .u8 128], .sl 1 2 [.int .u8 223, .int .u8 191]]),(9,.agg [.sl 1 3 [.int .u8 224, .int .u8 160, .int .u8 128], .sl 1 3 [.int .u8 224, .int .u8 191, .int .u8 191]])] ?_
 refine OD.bsl (e := 1) (cs := [.int .u8 225, .int .u8 128, .int .u8 128]) rfl (by kernel_rfl) ?_
 refine OD.rE 0 [(3,.agg [.sl 1 1 [.int .u8 0], .sl 1 1 [.int .u8 127]]),(6,.agg [.sl 1 2 [.int .u8 194, .int .u8 128], .sl 1 2 [.int .u8 223, .int .u8 191]]),(9,.agg [.sl 1 3 [.int .u8 224, .int .u8 160, .int .u8 128], .sl 1 3 [.int .u8 224, .int .u8 191, .int .u8 191]]),(10,.sl 1 3 [.int .u8 225, .int .u8 128, .int .u8 128])] ?_
 refine OD.bsl (e := 1) (cs := [.int .u8 236, .int .u8 191, .int .u8 191]) rfl (by kernel_rfl) ?_
 refine OD.rE 1 [(3,.agg [.sl 1 1 [.int .u8 0], .sl 1 1 [.int .u8 127]]),(6,.agg [.sl 1 2 [.int .u8 194, .int .u8 128], .sl 1 2 [.int .u8 223, .int .u8 191]]),(9,.agg [.sl 1 3 [.int .u8 224, .int .u8 160, .int .u8 128], .sl 1 3 [.int .u8 224, .int .u8 191, .int .u8 191]]),(12,.agg [.sl 1 3 [.int .u8 225, .int .u8 128, .int .u8 128], .sl 1 3 [.int .u8 236, .int .u8 191, .int .u8 191]])] ?_
 refine OD.bsl (e := 1) (cs := [.int .u8 237, .int .u8 128, .int .u8 128]) rfl (by kernel_rfl) ?_
 refine OD.rE 0 [(3,.agg [.sl 1 1 [.int .u8 0], .sl 1 1 [.int .u8 127]]),(6,.agg [.sl 1 2 [.int .u8 194, .int .u8 128], .sl 1 2 [.int .u8 223, .int .u8 191]]),(9,.agg [.sl 1 3 [.int .u8 224, .int .u8 160, .int .u8 128], .sl 1 3 [.int .u8 224, .int .u8 191, .int .u8 191]]),(12,.agg [.sl 1 3 [.int .u8 225, .int .u8 128, .int .u8 128], .sl 1 3 [.int .u8 236, .int .u8 191, .int .u8 191]]),(13,.sl 1 3 [.int .u8 237, .int .u8 128, .int .u8 128])] ?_
 refine OD.bsl (e := 1) (cs := [.int .u8 237, .int .u8 159, .int .u8 191]) rfl (by kernel_rfl) ?_
 refine OD.rE 1 [(3,.agg [.sl 1 1 [.int .u8 0], .sl 1 1 [.int .u8 127]]),(6,.agg [.sl 1 2 [.int .u8 194, .int .u8 128], .sl 1 2 [.int .u8 223, .int .u8 191]]),(9,.agg [.sl 1 3 [.int .u8 224, .int .u8 160, .int .u8 128], .sl 1 3 [.int .u8 224, .int .u8 191, .int .u8 191]]),(12,.agg [.sl 1 3 [.int .u8 225, .int .u8 128, .int .u8 128], .sl 1 3 [.int .u8 236, .int .u8 191, .int .u8 191]]),(15,.agg [.sl 1 3 [.int .u8 237, .int .u8 128, .int .u8 128], .sl 1 3 [.int .u8 237, .int .u8 159, .int .u8 191]])] ?_
 refine OD.bsl (e := 1) (cs := [.int .u8 238, .int .u8 128, .int .u8 128]) rfl (by kernel_rfl) ?_
 refine OD.rE 0 [(3,.agg [.sl 1 1 [.int .u8 0], .sl 1 1 [.int .u8 127]]),(6,.agg [.sl 1 2 [.int .u8 194, .int .u8 128], .sl 1 2 [.int .u8 223, .int .u8 191]]),(9,.agg [.sl 1 3 [.int .u8 224, .int .u8 160, .int .u8 128], .sl 1 3 [.int .u8 224, .int .u8 191, .int .u8 191]]),(12,.agg [.sl 1 3 [.int .u8 225, .int .u8 128, .int .u8 128], .sl 1 3 [.int .u8 236, .int .u8 191, .int .u8 191]]),(15,.agg [.sl 1 3 [.int .u8 237, .int .u8 128, .int .u8 128], .sl 1 3 [.int .u8 237, .int .u8 159, .int .u8 191]]),(16,.sl 1 3 [.int .u8 238, .int .u8 128, .int .u8 128])] ?_
 refine OD.bsl (e := 1) (cs := [.int .u8 239, .int .u8 191, .int .u8 191]) rfl (by kernel_rfl) ?_
 refine OD.rE 1 [(3,.agg [.sl 1 1 [.int .u8 0], .sl 1 1 [.int .u8 127]]),(6,.agg [.sl 1 2 [.int .u8 194, .int .u8 128], .sl 1 2 [.int .u8 223, .int .u8 191]]),(9,.agg [.sl 1 3 [.int .u8 224, .int .u8 160, .int .u8 128], .sl 1 3 [.int .u8 224, .int .u8 191, .int .u8 191]]),(12,.agg [.sl 1 3 [.int .u8 225, .int .u8 128, .int .u8 128], .sl 1 3 [.int .u8 236, .int .u8 191, .int .u8 191]]),(15,.agg [.sl 1 3 [.int .u8 237, .int .u8 128, .int .u8 128], .sl 1 3 [.int .u8 237, .int .u8 159, .int .u8 191]]),(18,.agg [.sl 1 3 [.int .u8 238, .int .u8 128, .int .u8 128], .sl 1 3 [.int .u8 239, .int .u8 191, .int .u8 191]])] ?_
 refine OD.bsl (e := 1) (cs := [.int .u8 240, .int .u8 144, .int .u8 128, .int .u8 128]) rfl (by kernel_rfl) ?_
 refine OD.rE 0 [(3,.agg [.sl 1 1 [.int .u8 0], .sl 1 1 [.int .u8 127]]),(6,.agg [.sl 1 2 [.int .u8 194, .int .u8 128], .sl 1 2 [.int .u8 223, .int .u8 191]]),(9,.agg [.sl 1 3 [.int .u8 224, .int .u8 160, .int .u8 128], .sl 1 3 [.int .u8 224, .int .u8 191, .int .u8 191]]),(12,.agg [.sl 1 3 [.int .u8 225, .int .u8 128, .int .u8 128], .sl 1 3 [.int .u8 236, .int .u8 191, .int .u8 191]]),(15,.agg [.sl 1 3 [.int .u8 237, .int .u8 128, .int .u8 128], .sl 1 3 [.int .u8 237, .int .u8 159, .int .u8 191]]),(18,.agg [.sl 1 3 [.int .u8 238, .int .u8 128, .int .u8 128], .sl 1 3 [.int .u8 239, .int .u8 191, .int .u8 191]]),(19,.sl 1 4 [.int .u8 240, .int .u8 144, .int .u8 128, .int .u8 128])] ?_
 refine OD.bsl (e := 1) (cs := [.int .u8 240, .int .u8 191, .int .u8 191, .int .u8 191]) rfl (by kernel_rfl) ?_
 refine OD.rE 1 [(3,.agg [.sl 1 1 [.int .u8 0], .sl 1 1 [.int .u8 127]]),(6,.agg [.sl 1 2 [.int .u8 194, .int .u8 128], .sl 1 2 [.int .u8 223, .int .u8 191]]),(9,.agg [.sl 1 3 [.int .u8 224, .int .u8 160, .int .u8 128], .sl 1 3 [.int .u8 224, .int .u8 191, .int .u8 191]]),(12,.agg [.sl 1 3 [.int .u8 225, .int .u8 128, .int .u8 128], .sl 1 3 [.int .u8 236, .int .u8 191, .int .u8 191]]),(15,.agg [.sl 1 3 [.int .u8 237, .int .u8 128, .int .u8 128], .sl 1 3 [.int .u8 237, .int .u8 159, .int .u8 191]]),(18,.agg [.sl 1 3 [.int .u8 238, .int .u8 128, .int .u8 128], .sl 1 3 [.int .u8 239, .int .u8 191, .int .u8 191]]),(21,.agg [.sl 1 4 [.int .u8 240, .int .u8 144, .int .u8 128, .int .u8 128], .sl 1 4 [.int .u8 240, .int .u8 191, .int .u8 191, .int .u8 191]])] ?_
 refine OD.bsl (e := 1) (cs := [.int .u8 241, .int .u8 128, .int .u8 128, .int .u8 128]) rfl (by kernel_rfl) ?_
 refine OD.rE 0 [(3,.agg [.sl 1 1 [.int .u8 0], .sl 1 1 [.int .u8 127]]),(6,.agg [.sl 1 2 [.int .u8 194, .int .u8 128], .sl 1 2 [.int .u8 223, .int .u8 191]]),(9,.agg [.sl 1 3 [.int .u8 224, .int .u8 160, .int .u8 128], .sl 1 3 [.int .u8 224, .int .u8 191, .int .u8 191]]),(12,.agg [.sl 1 3 [.int .u8 225, .int .u8 128, .int .u8 128], .sl 1 3 [.int .u8 236, .int .u8 191, .int .u8 191]]),(15,.agg [.sl 1 3 [.int .u8 237, .int .u8 128, .int .u8 128], .sl 1 3 [.int .u8 237, .int .u8 159, .int .u8 191]]),(18,.agg [.sl 1 3 [.int .u8 238, .int .u8 128, .int .u8 128], .sl 1 3 [.int .u8 239, .int .u8 191, .int .u8 191]]),(21,.agg [.sl 1 4 [.int .u8 240, .int .u8 144, .int .u8 128, .int .u8 128], .sl 1 4 [.int .u8 240, .int .u8 191, .int .u8 191, .int .u8 191]]),(22,.sl 1 4 [.int .u8 241, .int .u8 128, .int .u8 128, .int .u8 128])] ?_
 refine OD.bsl (e := 1) (cs := [.int .u8 243, .int .u8 191, .int .u8 191, .int .u8 191]) rfl (by kernel_rfl) ?_
 refine OD.rE 1 [(3,.agg [.sl 1 1 [.int .u8 0], .sl 1 1 [.int .u8 127]]),(6,.agg [.sl 1 2 [.int .u8 194, .int .u8 128], .sl 1 2 [.int .u8 223, .int .u8 191]]),(9,.agg [.sl 1 3 [.int .u8 224, .int .u8 160, .int .u8 128], .sl 1 3 [.int .u8 224, .int .u8 191, .int .u8 191]]),(12,.agg [.sl 1 3 [.int .u8 225, .int .u8 128, .int .u8 128], .sl 1 3 [.int .u8 236, .int .u8 191, .int .u8 191]]),(15,.agg [.sl 1 3 [.int .u8 237, .int .u8 128, .int .u8 128], .sl 1 3 [.int .u8 237, .int .u8 159, .int .u8 191]]),(18,.agg [.sl 1 3 [.int .u8 238, .int .u8 128, .int .u8 128], .sl 1 3 [.int .u8 239, .int .u8 191, .int .u8 191]]),(21,.agg [.sl 1 4 [.int .u8 240, .int .u8 144, .int .u8 128, .int .u8 128], .sl 1 4 [.int .u8 240, .int .u8 191, .int .u8 191, .int .u8 191]]),(24,.agg [.sl 1 4 [.int .u8 241, .int .u8 128, .int .u8 128, .int .u8 128], .sl 1 4 [.int .u8 243, .int .u8 191, .int .u8 191, .int .u8 191]])] ?_
 refine OD.bsl (e := 1) (cs := [.int .u8 244, .int .u8 128, .int .u8 128, .int .u8 128]) rfl (by kernel_rfl) ?_
 refine OD.rE 0 [(3,.agg [.sl 1 1 [.int .u8 0], .sl 1 1 [.int .u8 127]]),(6,.agg [.sl 1 2 [.int .u8 194, .int .u8 128], .sl 1 2 [.int .u8 223, .int .u8 191]]),(9,.agg [.sl 1 3 [.int .u8 224, .int .u8 160, .int .u8 128], .sl 1 3 [.int .u8 224, .int .u8 191, .int .u8 191]]),(12,.agg [.sl 1 3 [.int .u8 225, .int .u8 128, .int .u8 128], .sl 1 3 [.int .u8 236, .int .u8 191, .int .u8 191]]),(15,.agg [.sl 1 3 [.int .u8 237, .int .u8 128, .int .u8 128], .sl 1 3 [.int .u8 237, .int .u8 159, .int .u8 191]]),(18,.agg [.sl 1 3 [.int .u8 238, .int .u8 128, .int .u8 128], .sl 1 3 [.int .u8 239, .int .u8 191, .int .u8 191]]),(21,.agg [.sl 1 4 [.int .u8 240, .int .u8 144, .int .u8 128, .int .u8 128], .sl 1 4 [.int .u8 240, .int .u8 191, .int .u8 191, .int .u8 191]]),(24,.agg [.sl 1 4 [.int .u8 241, .int .u8 128, .int .u8 128, .int .u8 128], .sl 1 4 [.int .u8 243, .int .u8 191, .int .u8 191, .int .u8 191]]),(25,.sl 1 4 [.int .u8 244, .int .u8 128, .int .u8 128, .int .u8 128])] ?_
 refine OD.bsl (e := 1) (cs := [.int .u8 244, .int .u8 143, .int .u8 191, .int .u8 191]) rfl (by kernel_rfl) ?_
 refine OD.rE 1 [(3,.agg [.sl 1 1 [.int .u8 0], .sl 1 1 [.int .u8 127]]),(6,.agg [.sl 1 2 [.int .u8 194, .int .u8 128], .sl 1 2 [.int .u8 223, .int .u8 191]]),(9,.agg [.sl 1 3 [.int .u8 224, .int .u8 160, .int .u8 128], .sl 1 3 [.int .u8 224, .int .u8 191, .int .u8 191]]),(12,.agg [.sl 1 3 [.int .u8 225, .int .u8 128, .int .u8 128], .sl 1 3 [.int .u8 236, .int .u8 191, .int .u8 191]]),(15,.agg [.sl 1 3 [.int .u8 237, .int .u8 128, .int .u8 128], .sl 1 3 [.int .u8 237, .int .u8 159, .int .u8 191]]),(18,.agg [.sl 1 3 [.int .u8 238, .int .u8 128, .int .u8 128], .sl 1 3 [.int .u8 239, .int .u8 191, .int .u8 191]]),(21,.agg [.sl 1 4 [.int .u8 240, .int .u8 144, .int .u8 128, .int .u8 128], .sl 1 4 [.int .u8 240, .int .u8 191, .int .u8 191, .int .u8 191]]),(24,.agg [.sl 1 4 [.int .u8 241, .int .u8 128, .int .u8 128, .int .u8 128], .sl 1 4 [.int .u8 243, .int .u8 191, .int .u8 191, .int .u8 191]]),(27,.agg [.sl 1 4 [.int .u8 244, .int .u8 128, .int .u8 128, .int .u8 128], .sl 1 4 [.int .u8 244, .int .u8 143, .int .u8 191, .int .u8 191]])] ?_
 refine OD.bsl (e := 2) (cs := [.sl 1 1 [.int .u8 0], .sl 1 1 [.int .u8 127], .sl 1 2 [.int .u8 194, .int .u8 128], .sl 1 2 [.int .u8 223, .int .u8 191], .sl 1 3 [.int .u8 224, .int .u8 160, .int .u8 128], .sl 1 3 [.int .u8 224, .int .u8 191, .int .u8 191], .sl 1 3 [.int .u8 225, .int .u8 128, .int .u8 128], .sl 1 3 [.int .u8 236, .int .u8 191, .int .u8 191], .sl 1 3 [.int .u8 237, .int .u8 128, .int .u8 128], .sl 1 3 [.int .u8 237, .int .u8 159, .int .u8 191], .sl 1 3 [.int .u8 238, .int .u8 128, .int .u8 128], .sl 1 3 [.int .u8 239, .int .u8 191, .int .u8 191], .sl 1 4 [.int .u8 240, .int .u8 144, .int .u8 128, .int .u8 128], .sl 1 4 [.int .u8 240, .int .u8 191, .int .u8 191, .int .u8 191], .sl 1 4 [.int .u8 241, .int .u8 128, .int .u8 128, .int .u8 128], .sl 1 4 [.int .u8 243, .int .u8 191, .int .u8 191, .int .u8 191], .sl 1 4 [.int .u8 244, .int .u8 128, .int .u8 128, .int .u8 128], .sl 1 4 [.int .u8 244, .int .u8 143, .int .u8 191, .int .u8 191]]) rfl (by kernel_rfl) ?_
 refine OD.rE 1 [(0,.sl 2 9 [.sl 1 1 [.int .u8 0], .sl 1 1 [.int .u8 127], .sl 1 2 [.int .u8 194, .int .u8 128], .sl 1 2 [.int .u8 223, .int .u8 191], .sl 1 3 [.int .u8 224, .int .u8 160, .int .u8 128], .sl 1 3 [.int .u8 224, .int .u8 191, .int .u8 191], .sl 1 3 [.int .u8 225, .int .u8 128, .int .u8 128], .sl 1 3 [.int .u8 236, .int .u8 191, .int .u8 191], .sl 1 3 [.int .u8 237, .int .u8 128, .int .u8 128], .sl 1 3 [.int .u8 237, .int .u8 159, .int .u8 191], .sl 1 3 [.int .u8 238, .int .u8 128, .int .u8 128], .sl 1 3 [.int .u8 239, .int .u8 191, .int .u8 191], .sl 1 4 [.int .u8 240, .int .u8 144, .int .u8 128, .int .u8 128], .sl 1 4 [.int .u8 240, .int .u8 191, .int .u8 191, .int .u8 191], .sl 1 4 [.int .u8 241, .int .u8 128, .int .u8 128, .int .u8 128], .sl 1 4 [.int .u8 243, .int .u8 191, .int .u8 191, .int .u8 191], .sl 1 4 [.int .u8 244, .int .u8 128, .int .u8 128, .int .u8 128], .sl 1 4 [.int .u8 244, .int .u8 143, .int .u8 191, .int .u8 191]])] ?_
 refine OD.nil (CD.ret ?_)
 exact rP (.sl 2 9 [.sl 1 1 [.int .u8 0], .sl 1 1 [.int .u8 127], .sl 1 2 [.int .u8 194, .int .u8 128], .sl 1 2 [.int .u8 223, .int .u8 191], .sl 1 3 [.int .u8 224, .int .u8 160, .int .u8 128], .sl 1 3 [.int .u8 224, .int .u8 191, .int .u8 191], .sl 1 3 [.int .u8 225, .int .u8 128, .int .u8 128], .sl 1 3 [.int .u8 236, .int .u8 191, .int .u8 191], .sl 1 3 [.int .u8 237, .int .u8 128, .int .u8 128], .sl 1 3 [.int .u8 237, .int .u8 159, .int .u8 191], .sl 1 3 [.int .u8 238, .int .u8 128, .int .u8 128], .sl 1 3 [.int .u8 239, .int .u8 191, .int .u8 191], .sl 1 4 [.int .u8 240, .int .u8 144, .int .u8 128, .int .u8 128], .sl 1 4 [.int .u8 240, .int .u8 191, .int .u8 191, .int .u8 191], .sl 1 4 [.int .u8 241, .int .u8 128, .int .u8 128, .int .u8 128], .sl 1 4 [.int .u8 243, .int .u8 191, .int .u8 191, .int .u8 191], .sl 1 4 [.int .u8 244, .int .u8 128, .int .u8 128, .int .u8 128], .sl 1 4 [.int .u8 244, .int .u8 143, .int .u8 191, .int .u8 191]]) (by rfl)
theorem one63_ok (s : ByteArray) (hsz : s.size ≤ 1048576) : FnD P ov 42 [.str s] [] (fun r L1 => (fun r => ∃ (n : Nat) (ok : Bool), r = .tup [.i64 (n : Int), .bool ok] ∧ n ≤ s.size ∧ n ≤ 4 ∧ (ok = true → 1 ≤ n)) r ∧ L1 = []) := by
 refine FnD.intro (by kernel_rfl) (fn := Tryz.f42) (by kernel_rfl) rfl (by kernel_rfl) fun M a0 g0 hg0 => ?_
 refine CD.seq (CD.region ?_)
 refine OD.rE 2 [(0,.str s)] ?_
 refine OD.nil (CD.seq (CD.region ?_))
 refine OD.cE (forms_ok) ?_
 refine OD.rE 1 [(0,.str s),(4,.sl 2 9 (formL.flatMap encF))] ?_
 refine OD.nil (CD.seq (CD.region ?_))
 refine OD.rE 1 [(0,.str s),(4,.sl 2 9 (formL.flatMap encF)),(5,.i64 0)] ?_
 refine OD.nil (CD.seq (CD.seq (CD.region ?_)))
 refine OD.rE 1 [(0,.str s),(4,.sl 2 9 (formL.flatMap encF)),(5,.i64 0),(6,.i64 0)] ?_
 refine OD.nil (CD.block ?_)
 refine CD.weak [0, 4, 5, 6] 0 (E' := [(0, .str s), (4, .sl 2 9 (formL.flatMap encF)), (5, .i64 0), (6, .i64 0)]) (by kernel_rfl) (by simp [hg0]) (by kernel_rfl) ?_
 refine CD.loop (fun m σ => ∃ (i : Nat) (b : Nat), σ = ⟨[(0, .str s), (4, .sl 2 9 (formL.flatMap encF)), (5, .i64 b), (6, .i64 i)], []⟩ ∧ (i ≤ 9) ∧ (b ≤ s.size ∧ b ≤ 4) ∧ m = 9 - i) (fun m σ hI => ?_) _ ⟨0, 0, (by kernel_rfl), by omega, by omega, rfl⟩
 obtain ⟨i, b, e, hi, hb, hm⟩ := hI
 subst e hm
 refine CD.seq (CD.seq (CD.region ?_))
 refine OD.rE 4 [(0,.str s),(4,.sl 2 9 (formL.flatMap encF)),(5,.i64 b),(6,.i64 i),(12,.bool (decide ((((i : Nat) : Int) : Int) < 9)))] ?_
 refine OD.nil ?_
 refine CD.condP rfl (fun h1 => ?_) (fun h1 => ?_)
 ·
  obtain ⟨fm, hfm⟩ := form_get (i := i) (by omega)
  have hfl := formL_ok hfm
  refine CD.skip (CD.seq (CD.block (CD.seq (CD.region ?_))))
  refine OD.rE 1 [(0,.str s),(4,.sl 2 9 (formL.flatMap encF)),(5,.i64 b),(6,.i64 i),(7,.i64 0)] ?_
  refine OD.nil (CD.seq (CD.block ?_))
  refine CD.weak [0, 4, 5, 6, 7] 0 (E' := [(0, .str s), (4, .sl 2 9 (formL.flatMap encF)), (5, .i64 b), (6, .i64 i), (7, .i64 0)]) (by kernel_rfl) (by simp [hg0]) (by kernel_rfl) ?_
  refine CD.loop (fun m σ => ∃ (j : Nat), σ = ⟨[(0, .str s), (4, .sl 2 9 (formL.flatMap encF)), (5, .i64 b), (6, .i64 i), (7, .i64 j)], []⟩ ∧ (j ≤ fm.1.length ∧ j ≤ s.size) ∧ m = fm.1.length - j + b) (fun m σ hI => ?_) _ ⟨0, (by kernel_rfl), by omega, rfl⟩
  obtain ⟨j, e, hj, hm⟩ := hI
  subst e hm
  refine CD.seq (CD.seq ?_)
  refine CD.drawn (by kernel_rfl) ?_
  refine OD.rE 3 [(0,.str s),(4,.sl 2 9 (formL.flatMap encF)),(5,.i64 b),(6,.i64 i),(7,.i64 j),(15,.i64 j),(16,.sl 2 9 (formL.flatMap encF)),(17,.i64 i)] ?_
  refine OD.idxSE (i := i) (e := 2) rfl rfl (by kernel_rfl) (by omega) (by omega) ?_
  refine OD.rE 1 [(0,.str s),(4,.sl 2 9 (formL.flatMap encF)),(5,.i64 b),(6,.i64 i),(7,.i64 j),(15,.i64 j),(19,.ep 2 9 (formL.flatMap encF) (i * 2 + 0))] ?_
  refine OD.ldL (d := .sl 1 fm.1.length (fm.1.map u8D)) rfl (by kernel_rfl) (form_cell0 hfm) ?_
  refine OD.rE 3 [(0,.str s),(4,.sl 2 9 (formL.flatMap encF)),(5,.i64 b),(6,.i64 i),(7,.i64 j),(23,.bool (decide ((((j : Nat) : Int) : Int) < ((fm.1.length : Nat) : Int))))] ?_
  refine OD.ifP 23 rfl (fun h2 => ?_) (fun h2 => ?_)
  ·
   refine OD.rE 6 [(0,.str s),(4,.sl 2 9 (formL.flatMap encF)),(5,.i64 b),(6,.i64 i),(7,.i64 j),(29,.bool (decide ((((j : Nat) : Int) : Int) < ((s.size : Nat) : Int))))] ?_
   refine OD.ifP 29 rfl (fun h3 => ?_) (fun h3 => ?_)
   ·
    refine OD.rE 2 [(0,.str s),(4,.sl 2 9 (formL.flatMap encF)),(5,.i64 b),(6,.i64 i),(7,.i64 j),(29,.bool true),(30,.str s),(31,.i64 j)] ?_
    refine OD.guard rfl rfl ?_
    refine OD.ixS (i := j) rfl rfl (by kernel_rfl) (by omega) (by omega) (fun hb1 => ?_)
    refine OD.rE 2 [(0,.str s),(4,.sl 2 9 (formL.flatMap encF)),(5,.i64 b),(6,.i64 i),(7,.i64 j),(29,.bool true),(32,.int .u8 ((sB s j : Nat) : Int)),(33,.sl 2 9 (formL.flatMap encF)),(34,.i64 i)] ?_
    refine OD.guard rfl rfl ?_
    refine OD.idxSE (i := i) (e := 2) rfl rfl (by kernel_rfl) (by omega) (by omega) ?_
    refine OD.rE 1 [(0,.str s),(4,.sl 2 9 (formL.flatMap encF)),(5,.i64 b),(6,.i64 i),(7,.i64 j),(29,.bool true),(32,.int .u8 ((sB s j : Nat) : Int)),(36,.ep 2 9 (formL.flatMap encF) (i * 2 + 0))] ?_
    refine OD.guard rfl rfl ?_
    refine OD.ldL (d := .sl 1 fm.1.length (fm.1.map u8D)) rfl (by kernel_rfl) (form_cell0 hfm) ?_
    refine OD.rE 1 [(0,.str s),(4,.sl 2 9 (formL.flatMap encF)),(5,.i64 b),(6,.i64 i),(7,.i64 j),(29,.bool true),(32,.int .u8 ((sB s j : Nat) : Int)),(37,.sl 1 fm.1.length (fm.1.map u8D)),(38,.i64 j)] ?_
    refine OD.guard rfl rfl ?_
    refine OD.idxSV (i := j) rfl rfl (by kernel_rfl) (by omega) (by omega) ?_
    refine OD.rE 0 [(0,.str s),(4,.sl 2 9 (formL.flatMap encF)),(5,.i64 b),(6,.i64 i),(7,.i64 j),(29,.bool true),(32,.int .u8 ((sB s j : Nat) : Int)),(39,.ep 1 fm.1.length (fm.1.map u8D) j)] ?_
    refine OD.guard rfl rfl ?_
    refine OD.ldSV 0 (f := u8D) (xs := fm.1) rfl (by kernel_rfl) (by first | omega | (simp <;> omega)) ?_
    refine OD.rE 3 [(0,.str s),(4,.sl 2 9 (formL.flatMap encF)),(5,.i64 b),(6,.i64 i),(7,.i64 j),(43,.bool (decide (((((fm.1.getD j 0) : Nat) : Int) : Int) ≤ ((sB s j : Nat) : Int))))] ?_
    refine OD.ifP 43 rfl (fun h4 => ?_) (fun h4 => ?_)
    ·
     refine OD.rE 2 [(0,.str s),(4,.sl 2 9 (formL.flatMap encF)),(5,.i64 b),(6,.i64 i),(7,.i64 j),(43,.bool true),(44,.str s),(45,.i64 j)] ?_
     refine OD.guard rfl rfl ?_
     refine OD.ixS (i := j) rfl rfl (by kernel_rfl) (by omega) (by omega) (fun hb2 => ?_)
     refine OD.rE 2 [(0,.str s),(4,.sl 2 9 (formL.flatMap encF)),(5,.i64 b),(6,.i64 i),(7,.i64 j),(43,.bool true),(46,.int .u8 ((sB s j : Nat) : Int)),(47,.sl 2 9 (formL.flatMap encF)),(48,.i64 i)] ?_
     refine OD.guard rfl rfl ?_
     refine OD.idxSE (i := i) (e := 2) rfl rfl (by kernel_rfl) (by omega) (by omega) ?_
     refine OD.rE 1 [(0,.str s),(4,.sl 2 9 (formL.flatMap encF)),(5,.i64 b),(6,.i64 i),(7,.i64 j),(43,.bool true),(46,.int .u8 ((sB s j : Nat) : Int)),(50,.ep 2 9 (formL.flatMap encF) (i * 2 + 1))] ?_
     refine OD.guard rfl rfl ?_
     refine OD.ldL (d := .sl 1 fm.2.length (fm.2.map u8D)) rfl (by kernel_rfl) (form_cell1 hfm) ?_
     refine OD.rE 1 [(0,.str s),(4,.sl 2 9 (formL.flatMap encF)),(5,.i64 b),(6,.i64 i),(7,.i64 j),(43,.bool true),(46,.int .u8 ((sB s j : Nat) : Int)),(51,.sl 1 fm.2.length (fm.2.map u8D)),(52,.i64 j)] ?_
     refine OD.guard rfl rfl ?_
     refine OD.idxSV (i := j) rfl rfl (by kernel_rfl) (by omega) (by omega) ?_
     refine OD.rE 0 [(0,.str s),(4,.sl 2 9 (formL.flatMap encF)),(5,.i64 b),(6,.i64 i),(7,.i64 j),(43,.bool true),(46,.int .u8 ((sB s j : Nat) : Int)),(53,.ep 1 fm.2.length (fm.2.map u8D) j)] ?_
     refine OD.guard rfl rfl ?_
     refine OD.ldSV 0 (f := u8D) (xs := fm.2) rfl (by kernel_rfl) (by first | omega | (simp <;> omega)) ?_
     refine OD.rE 2 [(0,.str s),(4,.sl 2 9 (formL.flatMap encF)),(5,.i64 b),(6,.i64 i),(7,.i64 j),(56,.bool (decide ((((sB s j : Nat) : Int) : Int) ≤ (((fm.2.getD j 0) : Nat) : Int))))] ?_
     refine OD.nil ⟨by kernel_rfl, ?_⟩
     refine CD.condP rfl (fun h5 => ?_) (fun h5 => ?_)
     ·
      refine CD.skip (CD.block (CD.region ?_))
      refine OD.rE 2 [(0,.str s),(4,.sl 2 9 (formL.flatMap encF)),(5,.i64 b),(6,.i64 i),(58,.i64 (wrapQ .i64 (((j : Nat) : Int) + 1)))] ?_
      refine OD.is 58 rfl (wrn (m := j + 1) (by omega) (by omega)) ?_
      refine OD.rE 1 [(0,.str s),(4,.sl 2 9 (formL.flatMap encF)),(5,.i64 b),(6,.i64 i),(7,.i64 ((j + 1 : Nat) : Int))] ?_
      refine OD.nil ?_
      exact ⟨_, by omega, j + 1, (by kernel_rfl), by omega, rfl⟩
     ·
      refine CD.exit ?_
      refine CD.seq (CD.seq (CD.region ?_))
      refine OD.rE 3 [(0,.str s),(4,.sl 2 9 (formL.flatMap encF)),(5,.i64 b),(6,.i64 i),(7,.i64 j),(59,.i64 j),(60,.sl 2 9 (formL.flatMap encF)),(61,.i64 i)] ?_
      refine OD.idxSE (i := i) (e := 2) rfl rfl (by kernel_rfl) (by omega) (by omega) ?_
      refine OD.rE 1 [(0,.str s),(4,.sl 2 9 (formL.flatMap encF)),(5,.i64 b),(6,.i64 i),(7,.i64 j),(59,.i64 j),(63,.ep 2 9 (formL.flatMap encF) (i * 2 + 0))] ?_
      refine OD.ldL (d := .sl 1 fm.1.length (fm.1.map u8D)) rfl (by kernel_rfl) (form_cell0 hfm) ?_
      refine OD.rE 2 [(0,.str s),(4,.sl 2 9 (formL.flatMap encF)),(5,.i64 b),(6,.i64 i),(7,.i64 j),(66,.bool (decide ((((j : Nat) : Int) : Int) = ((fm.1.length : Nat) : Int))))] ?_
      refine OD.nil ?_
      refine CD.condP rfl (fun h6 => ?_) (fun h6 => ?_)
      ·
       refine CD.seq (CD.region ?_)
       refine OD.rE 3 [(2,.i64 j),(3,.bool true)] ?_
       refine OD.nil (CD.ret ?_)
       (try dsimp only); first | refine resP_r ?_ | refine resP_n ?_
       exact rO 0 (.tup [.i64 j, .bool true]) [] (⟨⟨_, _, rfl, by omega, by omega, fun h => by omega⟩, rfl⟩)
      ·
       refine CD.skip (CD.region ?_)
       refine OD.rE 3 [(0,.str s),(4,.sl 2 9 (formL.flatMap encF)),(6,.i64 i),(70,.i64 (max (((b : Nat) : Int) : Int) ((j : Nat) : Int)))] ?_
       refine OD.is 70 rfl castmax ?_
       refine OD.rE 1 [(0,.str s),(4,.sl 2 9 (formL.flatMap encF)),(5,.i64 ((max b j : Nat) : Int)),(6,.i64 i)] ?_
       refine OD.nil (CD.region ?_)
       refine OD.rE 2 [(0,.str s),(4,.sl 2 9 (formL.flatMap encF)),(5,.i64 ((max b j : Nat) : Int)),(14,.i64 (wrapQ .i64 (((i : Nat) : Int) + 1)))] ?_
       refine OD.is 14 rfl (wrn (m := i + 1) (by omega) (by omega)) ?_
       refine OD.rE 1 [(0,.str s),(4,.sl 2 9 (formL.flatMap encF)),(5,.i64 ((max b j : Nat) : Int)),(6,.i64 ((i + 1 : Nat) : Int))] ?_
       refine OD.nil ?_
       exact ⟨_, by omega, i + 1, (max b j), (by kernel_rfl), by omega, by omega, rfl⟩
    ·
     refine OD.rE 13 [(0,.str s),(4,.sl 2 9 (formL.flatMap encF)),(5,.i64 b),(6,.i64 i),(7,.i64 j),(56,.bool false)] ?_
     refine OD.nil ⟨by kernel_rfl, ?_⟩
     refine CD.condF rfl ?_
     refine CD.exit ?_
     refine CD.seq (CD.seq (CD.region ?_))
     refine OD.rE 3 [(0,.str s),(4,.sl 2 9 (formL.flatMap encF)),(5,.i64 b),(6,.i64 i),(7,.i64 j),(59,.i64 j),(60,.sl 2 9 (formL.flatMap encF)),(61,.i64 i)] ?_
     refine OD.idxSE (i := i) (e := 2) rfl rfl (by kernel_rfl) (by omega) (by omega) ?_
     refine OD.rE 1 [(0,.str s),(4,.sl 2 9 (formL.flatMap encF)),(5,.i64 b),(6,.i64 i),(7,.i64 j),(59,.i64 j),(63,.ep 2 9 (formL.flatMap encF) (i * 2 + 0))] ?_
     refine OD.ldL (d := .sl 1 fm.1.length (fm.1.map u8D)) rfl (by kernel_rfl) (form_cell0 hfm) ?_
     refine OD.rE 2 [(0,.str s),(4,.sl 2 9 (formL.flatMap encF)),(5,.i64 b),(6,.i64 i),(7,.i64 j),(66,.bool (decide ((((j : Nat) : Int) : Int) = ((fm.1.length : Nat) : Int))))] ?_
     refine OD.nil ?_
     refine CD.condP rfl (fun h7 => ?_) (fun h7 => ?_)
     ·
      refine CD.seq (CD.region ?_)
      refine OD.rE 3 [(2,.i64 j),(3,.bool true)] ?_
      refine OD.nil (CD.ret ?_)
      (try dsimp only); first | refine resP_r ?_ | refine resP_n ?_
      exact rO 0 (.tup [.i64 j, .bool true]) [] (⟨⟨_, _, rfl, by omega, by omega, fun h => by omega⟩, rfl⟩)
     ·
      refine CD.skip (CD.region ?_)
      refine OD.rE 3 [(0,.str s),(4,.sl 2 9 (formL.flatMap encF)),(6,.i64 i),(70,.i64 (max (((b : Nat) : Int) : Int) ((j : Nat) : Int)))] ?_
      refine OD.is 70 rfl castmax ?_
      refine OD.rE 1 [(0,.str s),(4,.sl 2 9 (formL.flatMap encF)),(5,.i64 ((max b j : Nat) : Int)),(6,.i64 i)] ?_
      refine OD.nil (CD.region ?_)
      refine OD.rE 2 [(0,.str s),(4,.sl 2 9 (formL.flatMap encF)),(5,.i64 ((max b j : Nat) : Int)),(14,.i64 (wrapQ .i64 (((i : Nat) : Int) + 1)))] ?_
      refine OD.is 14 rfl (wrn (m := i + 1) (by omega) (by omega)) ?_
      refine OD.rE 1 [(0,.str s),(4,.sl 2 9 (formL.flatMap encF)),(5,.i64 ((max b j : Nat) : Int)),(6,.i64 ((i + 1 : Nat) : Int))] ?_
      refine OD.nil ?_
      exact ⟨_, by omega, i + 1, (max b j), (by kernel_rfl), by omega, by omega, rfl⟩
   ·
    refine OD.rE 27 [(0,.str s),(4,.sl 2 9 (formL.flatMap encF)),(5,.i64 b),(6,.i64 i),(7,.i64 j),(56,.bool false)] ?_
    refine OD.nil ⟨by kernel_rfl, ?_⟩
    refine CD.condF rfl ?_
    refine CD.exit ?_
    refine CD.seq (CD.seq (CD.region ?_))
    refine OD.rE 3 [(0,.str s),(4,.sl 2 9 (formL.flatMap encF)),(5,.i64 b),(6,.i64 i),(7,.i64 j),(59,.i64 j),(60,.sl 2 9 (formL.flatMap encF)),(61,.i64 i)] ?_
    refine OD.idxSE (i := i) (e := 2) rfl rfl (by kernel_rfl) (by omega) (by omega) ?_
    refine OD.rE 1 [(0,.str s),(4,.sl 2 9 (formL.flatMap encF)),(5,.i64 b),(6,.i64 i),(7,.i64 j),(59,.i64 j),(63,.ep 2 9 (formL.flatMap encF) (i * 2 + 0))] ?_
    refine OD.ldL (d := .sl 1 fm.1.length (fm.1.map u8D)) rfl (by kernel_rfl) (form_cell0 hfm) ?_
    refine OD.rE 2 [(0,.str s),(4,.sl 2 9 (formL.flatMap encF)),(5,.i64 b),(6,.i64 i),(7,.i64 j),(66,.bool (decide ((((j : Nat) : Int) : Int) = ((fm.1.length : Nat) : Int))))] ?_
    refine OD.nil ?_
    refine CD.condP rfl (fun h8 => ?_) (fun h8 => ?_)
    ·
     refine CD.seq (CD.region ?_)
     refine OD.rE 3 [(2,.i64 j),(3,.bool true)] ?_
     refine OD.nil (CD.ret ?_)
     (try dsimp only); first | refine resP_r ?_ | refine resP_n ?_
     exact rO 0 (.tup [.i64 j, .bool true]) [] (⟨⟨_, _, rfl, by omega, by omega, fun h => by omega⟩, rfl⟩)
    ·
     refine CD.skip (CD.region ?_)
     refine OD.rE 3 [(0,.str s),(4,.sl 2 9 (formL.flatMap encF)),(6,.i64 i),(70,.i64 (max (((b : Nat) : Int) : Int) ((j : Nat) : Int)))] ?_
     refine OD.is 70 rfl castmax ?_
     refine OD.rE 1 [(0,.str s),(4,.sl 2 9 (formL.flatMap encF)),(5,.i64 ((max b j : Nat) : Int)),(6,.i64 i)] ?_
     refine OD.nil (CD.region ?_)
     refine OD.rE 2 [(0,.str s),(4,.sl 2 9 (formL.flatMap encF)),(5,.i64 ((max b j : Nat) : Int)),(14,.i64 (wrapQ .i64 (((i : Nat) : Int) + 1)))] ?_
     refine OD.is 14 rfl (wrn (m := i + 1) (by omega) (by omega)) ?_
     refine OD.rE 1 [(0,.str s),(4,.sl 2 9 (formL.flatMap encF)),(5,.i64 ((max b j : Nat) : Int)),(6,.i64 ((i + 1 : Nat) : Int))] ?_
     refine OD.nil ?_
     exact ⟨_, by omega, i + 1, (max b j), (by kernel_rfl), by omega, by omega, rfl⟩
  ·
   refine OD.rE 33 [(0,.str s),(4,.sl 2 9 (formL.flatMap encF)),(5,.i64 b),(6,.i64 i),(7,.i64 j),(56,.bool false)] ?_
   refine OD.nil ⟨by kernel_rfl, ?_⟩
   refine CD.condF rfl ?_
   refine CD.exit ?_
   refine CD.seq (CD.seq (CD.region ?_))
   refine OD.rE 3 [(0,.str s),(4,.sl 2 9 (formL.flatMap encF)),(5,.i64 b),(6,.i64 i),(7,.i64 j),(59,.i64 j),(60,.sl 2 9 (formL.flatMap encF)),(61,.i64 i)] ?_
   refine OD.idxSE (i := i) (e := 2) rfl rfl (by kernel_rfl) (by omega) (by omega) ?_
   refine OD.rE 1 [(0,.str s),(4,.sl 2 9 (formL.flatMap encF)),(5,.i64 b),(6,.i64 i),(7,.i64 j),(59,.i64 j),(63,.ep 2 9 (formL.flatMap encF) (i * 2 + 0))] ?_
   refine OD.ldL (d := .sl 1 fm.1.length (fm.1.map u8D)) rfl (by kernel_rfl) (form_cell0 hfm) ?_
   refine OD.rE 2 [(0,.str s),(4,.sl 2 9 (formL.flatMap encF)),(5,.i64 b),(6,.i64 i),(7,.i64 j),(66,.bool (decide ((((j : Nat) : Int) : Int) = ((fm.1.length : Nat) : Int))))] ?_
   refine OD.nil ?_
   refine CD.condP rfl (fun h9 => ?_) (fun h9 => ?_)
   ·
    refine CD.seq (CD.region ?_)
    refine OD.rE 3 [(2,.i64 j),(3,.bool true)] ?_
    refine OD.nil (CD.ret ?_)
    (try dsimp only); first | refine resP_r ?_ | refine resP_n ?_
    exact rO 0 (.tup [.i64 j, .bool true]) [] (⟨⟨_, _, rfl, by omega, by omega, fun h => by omega⟩, rfl⟩)
   ·
    refine CD.skip (CD.region ?_)
    refine OD.rE 3 [(0,.str s),(4,.sl 2 9 (formL.flatMap encF)),(6,.i64 i),(70,.i64 (max (((b : Nat) : Int) : Int) ((j : Nat) : Int)))] ?_
    refine OD.is 70 rfl castmax ?_
    refine OD.rE 1 [(0,.str s),(4,.sl 2 9 (formL.flatMap encF)),(5,.i64 ((max b j : Nat) : Int)),(6,.i64 i)] ?_
    refine OD.nil (CD.region ?_)
    refine OD.rE 2 [(0,.str s),(4,.sl 2 9 (formL.flatMap encF)),(5,.i64 ((max b j : Nat) : Int)),(14,.i64 (wrapQ .i64 (((i : Nat) : Int) + 1)))] ?_
    refine OD.is 14 rfl (wrn (m := i + 1) (by omega) (by omega)) ?_
    refine OD.rE 1 [(0,.str s),(4,.sl 2 9 (formL.flatMap encF)),(5,.i64 ((max b j : Nat) : Int)),(6,.i64 ((i + 1 : Nat) : Int))] ?_
    refine OD.nil ?_
    exact ⟨_, by omega, i + 1, (max b j), (by kernel_rfl), by omega, by omega, rfl⟩
 ·
  refine CD.exit ?_
  refine CD.seq (CD.region ?_)
  refine OD.rE 3 [(2,.i64 b),(3,.bool false)] ?_
  refine OD.nil (CD.ret ?_)
  (try dsimp only); first | refine resP_r ?_ | refine resP_n ?_
  exact rO 0 (.tup [.i64 b, .bool false]) [] (⟨⟨_, _, rfl, by omega, by omega, fun h => by cases h⟩, rfl⟩)
theorem All_ok (s : ByteArray) (hsz : s.size ≤ 1048576) : FnD P ov 25 [.str s] [] (fun r L1 => (fun r => ∃ (l : List Int) (n : Nat) (k : Int), r = .tup [.sl 1 n (l.map (D.int .i32)), .i64 k] ∧ l.length = n) r ∧ L1 = []) := by
 refine FnD.intro (by kernel_rfl) (fn := Tryz.f25) (by kernel_rfl) rfl (by kernel_rfl) fun M a0 g0 hg0 => ?_
 refine CD.seq (CD.region ?_)
 refine OD.rE 2 [(0,.str s)] ?_
 refine OD.nil (CD.seq (CD.region ?_))
 refine OD.rE 1 [(0,.str s),(4,.lit (.slice none 0 0))] ?_
 refine OD.nilRow 4 1 rfl ?_
 refine OD.rE 0 [(0,.str s),(4,.row 0 0 0 0)] ?_
 refine OD.nil (CD.seq (CD.block ?_))
 refine CD.weak [0, 4] 1 (E' := [(0, .str s), (4, .row 0 0 0 0)]) (by kernel_rfl) (by simp [hg0]) (by kernel_rfl) ?_
 refine CD.loop (fun m σ => ∃ (t : ByteArray) (out : List Int) (n : Nat), σ = ⟨[(0, .str t), (4, .row 0 0 n n)], [.row 1 n (out.map (D.int .i32))]⟩ ∧ (n + t.size ≤ s.size) ∧ (out.length = n) ∧ m = t.size + n - n) (fun m σ hI => ?_) _ ⟨s, ([] : List Int), 0, (by kernel_rfl), by omega, rfl, rfl⟩
 obtain ⟨t, out, n, e, hb, hn, hm⟩ := hI
 subst e hm
 refine CD.seq (CD.seq (CD.region ?_))
 refine OD.rE 3 [(0,.str t),(4,.row 0 0 n n),(9,.bool (decide ((0 : Int) < ((t.size : Nat) : Int))))] ?_
 refine OD.nil ?_
 refine CD.condP rfl (fun h1 => ?_) (fun h1 => ?_)
 ·
  refine CD.skip (CD.block (CD.seq (CD.region ?_)))
  refine OD.rE 1 [(0,.str t),(4,.row 0 0 n n),(11,.str t)] ?_
  refine OD.cP (fun r => ∃ (n : Nat) (ok : Bool), r = .tup [.i64 (n : Int), .bool ok] ∧ n ≤ t.size ∧ n ≤ 4 ∧ (ok = true → 1 ≤ n)) (one63_ok t (by omega)) (fun r hr => ?_)
  obtain ⟨n1, ok1, rfl, hn1, hn4, hok⟩ := hr
  refine OD.rE 5 [(0,.str t),(4,.row 0 0 n n),(5,.i64 n1),(6,.bool ok1)] ?_
  refine OD.nil (CD.seq (CD.seq (CD.region ?_)))
  refine OD.rE 1 [(0,.str t),(4,.row 0 0 n n),(5,.i64 n1),(15,.bool ok1)] ?_
  refine OD.nil ?_
  refine CD.condB rfl (fun h2 => ?_) (fun h2 => ?_)
  ·
   refine CD.seq (CD.region ?_)
   refine OD.rE 3 [(0,.str t),(5,.i64 n1),(16,.row 0 0 n n),(17,.str t),(18,.i64 n1)] ?_
   refine OD.slS (lw := 0) (u := n1) rfl (by kernel_rfl) (.inl ⟨rfl, rfl⟩) (.inr ⟨_, _, rfl, rfl⟩) (by omega) (by omega) ?_
   refine OD.rE 0 [(0,.str t),(5,.i64 n1),(16,.row 0 0 n n),(19,.str (t.extract 0 n1))] ?_
   have hex : (t.extract 0 n1).size = n1 := by rw [ByteArray.size_extract]; omega
   have h1n := hok h2
   refine OD.cP (fun r => ∃ z, r = .int .i32 z) (value_ok (t.extract 0 n1) (by omega) (by omega)) (fun r hr => ?_)
   obtain ⟨z1, rfl⟩ := hr
   refine OD.rE 0 [(0,.str t),(5,.i64 n1),(16,.row 0 0 n n),(20,.int .i32 z1)] ?_
   refine OD.bsl (e := 1) (cs := [.int .i32 z1]) rfl (by kernel_rfl) ?_
   refine OD.rE 0 [(0,.str t),(5,.i64 n1),(16,.row 0 0 n n),(21,.sl 1 1 [.int .i32 z1])] ?_
   refine OD.appV (f := (D.int .i32)) (xs := out) (vs := [z1]) rfl (by kernel_rfl) rfl rfl rfl rfl (by first | omega | (simp <;> omega)) (by decide) (by omega) ?_
   refine OD.rE 1 [(0,.str t),(4,.row 0 0 (n + 1) (n + 1)),(5,.i64 n1)] ?_
   refine OD.nil (CD.seq (CD.region ?_))
   refine OD.rE 2 [(4,.row 0 0 (n + 1) (n + 1)),(23,.str t),(24,.i64 n1)] ?_
   refine OD.slS (lw := n1) (u := t.size) rfl (by kernel_rfl) (.inr ⟨_, _, rfl, rfl⟩) (.inl ⟨rfl, rfl⟩) (by omega) (by omega) ?_
   refine OD.rE 1 [(0,.str (t.extract n1 t.size)),(4,.row 0 0 (n + 1) (n + 1))] ?_
   refine OD.nil ?_
   refine CD.exit ?_
   exact ⟨_, by rw [ByteArray.size_extract]; omega, (t.extract n1 t.size), (out ++ [z1]), n + 1, (by kernel_rfl), by rw [ByteArray.size_extract]; omega, by first | exact hn | (rw [List.length_append, hn]; rfl), rfl⟩
  ·
   refine CD.skip (CD.seq (CD.seq (CD.region ?_)))
   refine OD.rE 4 [(0,.str t),(4,.row 0 0 n n),(5,.i64 n1),(29,.bool (decide ((((n1 : Nat) : Int) : Int) = ((t.size : Nat) : Int))))] ?_
   refine OD.nil ?_
   refine CD.condP rfl (fun h3 => ?_) (fun h3 => ?_)
   ·
    refine CD.seq (CD.region ?_)
    refine OD.rE 4 [(2,.row 0 0 n n),(3,.i64 n1)] ?_
    refine OD.nil ?_
    refine CD.freeze 2 rfl rfl (Nat.le_refl _) ?_
    refine CD.ret ?_
    (try dsimp only); first | refine resP_r ?_ | refine resP_n ?_
    exact rO 0 (.tup [.sl 1 n (out.map (D.int .i32)), .i64 n1]) [] (⟨⟨_, _, _, rfl, hn⟩, rfl⟩)
   ·
    refine CD.skip (CD.seq (CD.region ?_))
    refine OD.rE 1 [(0,.str t),(5,.i64 n1),(32,.row 0 0 n n)] ?_
    refine OD.bsl (e := 1) (cs := [.int .i32 65533]) rfl (by kernel_rfl) ?_
    refine OD.rE 0 [(0,.str t),(5,.i64 n1),(32,.row 0 0 n n),(33,.sl 1 1 [.int .i32 65533])] ?_
    refine OD.appV (f := (D.int .i32)) (xs := out) (vs := [65533]) rfl (by kernel_rfl) rfl rfl rfl rfl (by first | omega | (simp <;> omega)) (by decide) (by omega) ?_
    refine OD.rE 1 [(0,.str t),(4,.row 0 0 (n + 1) (n + 1)),(5,.i64 n1)] ?_
    refine OD.nil (CD.region ?_)
    refine OD.rE 3 [(4,.row 0 0 (n + 1) (n + 1)),(35,.str t),(37,.i64 (max (1 : Int) ((n1 : Nat) : Int)))] ?_
    refine OD.is 37 rfl castmax ?_
    refine OD.rE 0 [(4,.row 0 0 (n + 1) (n + 1)),(35,.str t),(37,.i64 ((max 1 n1 : Nat) : Int))] ?_
    refine OD.slS (lw := (max 1 n1)) (u := t.size) rfl (by kernel_rfl) (.inr ⟨_, _, rfl, rfl⟩) (.inl ⟨rfl, rfl⟩) (by omega) (by omega) ?_
    refine OD.rE 1 [(0,.str (t.extract (max 1 n1) t.size)),(4,.row 0 0 (n + 1) (n + 1))] ?_
    refine OD.nil ?_
    exact ⟨_, by rw [ByteArray.size_extract]; omega, (t.extract (max 1 n1) t.size), (out ++ [65533]), n + 1, (by kernel_rfl), by rw [ByteArray.size_extract]; omega, by first | exact hn | (rw [List.length_append, hn]; rfl), rfl⟩
 ·
  refine CD.exit ?_
  refine CD.seq (CD.region ?_)
  refine OD.rE 3 [(2,.row 0 0 n n),(3,.i64 0)] ?_
  refine OD.nil ?_
  refine CD.freeze 2 rfl rfl (Nat.le_refl _) ?_
  refine CD.ret ?_
  (try dsimp only); first | refine resP_r ?_ | refine resP_n ?_
  exact rO 0 (.tup [.sl 1 n (out.map (D.int .i32)), .i64 0]) [] (⟨⟨_, _, _, rfl, hn⟩, rfl⟩)
theorem Short_ok (s : ByteArray) (c : Nat) : FnD P ov 26 [.str s, .i64 c] [] (fun r L1 => (fun r => r = .str (s.extract 0 (min s.size c))) r ∧ L1 = []) := by
 refine FnD.intro (by kernel_rfl) (fn := Tryz.f26) (by kernel_rfl) rfl (by kernel_rfl) fun M a0 g0 hg0 => ?_
 refine CD.seq (CD.region ?_)
 refine OD.rE 1 [(0,.str s),(1,.i64 c)] ?_
 refine OD.nil (CD.seq (CD.region ?_))
 refine OD.rE 5 [(5,.str s),(9,.i64 (min (((s.size : Nat) : Int) : Int) ((c : Nat) : Int)))] ?_
 refine OD.is 9 rfl castmin ?_
 refine OD.rE 0 [(5,.str s),(9,.i64 ((min s.size c : Nat) : Int))] ?_
 refine OD.slS (lw := 0) (u := (min s.size c)) rfl (by kernel_rfl) (.inl ⟨rfl, rfl⟩) (.inr ⟨_, _, rfl, rfl⟩) (by omega) (by omega) ?_
 refine OD.rE 1 [(4,.str (s.extract 0 (min s.size c)))] ?_
 refine OD.nil (CD.ret ?_)
 (try dsimp only); first | refine resP_r ?_ | refine resP_n ?_
 exact rO 0 (.str (s.extract 0 (min s.size c))) [] (⟨rfl, rfl⟩)
end
end Go.Proofs.YtfcadnhoejlgoaaGreatDoor
