/-
  What is proved here: what functions of the pattern's package come to (walks that a program of mine has printed). No conditions. What is proved here: what functions of the pattern's package come to (walks that a program of mine has printed). No conditions.
-/
import Derived.Test.YtiebldaihnbkmaaGreatDoorPureEmp
import Derived.Test.YtiebldaihnbkmaaGreatDoorNQ
import Derived.Test.YtiebldaihnbkmaaGreatDoorNT
import Derived.Test.YtiebldaihnbkmaaGreatDoorRM
set_option linter.unusedVariables false
set_option linter.unusedSimpArgs false
set_option linter.unusedVariables false
set_option linter.unusedSimpArgs false
set_option maxRecDepth 100000
set_option maxHeartbeats 4000000
namespace Go.Proofs.YtiebldaihnbkmaaGreatDoor
open Go.Vai Go.Nfa Go.Utf
noncomputable section
end
end Go.Proofs.YtiebldaihnbkmaaGreatDoor
set_option linter.unusedVariables false
set_option linter.unusedSimpArgs false
set_option maxRecDepth 100000
set_option maxHeartbeats 4000000
namespace Go.Proofs.YtiebldaihnbkmaaGreatDoor
open Go.Vai Go.Nfa Go.Utf
noncomputable section
theorem eqR_ok (set : List (Int × Int)) (hsz : set.length < 4611686018427387904) : PureD P ov 59 [.sl 2 set.length (set.flatMap encR), .sl 2 set.length (set.flatMap encR)] (.bool true) := by
 refine FnD.intro (by kernel_rfl) (fn := Tryz.f59) (by kernel_rfl) rfl (by kernel_rfl) fun M a0 g0 hg0 => ?_
 refine CD.seq ?_
 refine CD.region ?_
 refine OD.runE 1 [0, 1] (E' := [(0, .sl 2 set.length (set.flatMap encR)), (1, .sl 2 set.length (set.flatMap encR))]) (by kernel_rfl) ?_
 refine OD.nil ?_
 refine CD.seq ?_
 refine CD.seq ?_
 refine CD.region ?_
 refine OD.runE 5 [0, 1, 10] (E' := [(0, .sl 2 set.length (set.flatMap encR)), (1, .sl 2 set.length (set.flatMap encR)), (10, .bool (decide (¬ (((set.length : Nat) : Int) : Int) = ((set.length : Nat) : Int))))]) (by kernel_rfl) ?_
 refine OD.is 10 rfl (congrArg D.bool (decide_eq_false (fun h => h rfl))) ?_
 refine OD.runE 0 [0, 1, 10] (E' := [(0, .sl 2 set.length (set.flatMap encR)), (1, .sl 2 set.length (set.flatMap encR)), (10, .bool false)]) (by kernel_rfl) ?_
 refine OD.nil ?_
 refine CD.condF rfl ?_
 refine CD.skip ?_
 refine CD.seq ?_
 refine CD.seq ?_
 refine CD.region ?_
 refine OD.runE 3 [0, 1, 12, 13] (E' := [(0, .sl 2 set.length (set.flatMap encR)), (1, .sl 2 set.length (set.flatMap encR)), (12, .int .i64 ((set.length : Nat) : Int)), (13, .int .i64 0)]) (by kernel_rfl) ?_
 refine OD.nil ?_
 refine CD.block ?_
 refine CD.weak [0, 1, 12, 13] 0 (E' := [(0, .sl 2 set.length (set.flatMap encR)), (1, .sl 2 set.length (set.flatMap encR)), (12, .int .i64 ((set.length : Nat) : Int)), (13, .int .i64 0)]) (by kernel_rfl) (by simp [hg0]) (by kernel_rfl) ?_
 refine CD.loop (fun m σ => ∃ (i : Nat), σ = ⟨[(0, .sl 2 set.length (set.flatMap encR)), (1, .sl 2 set.length (set.flatMap encR)), (12, .int .i64 ((set.length : Nat) : Int)), (13, .int .i64 ((i : Nat) : Int))], []⟩ ∧ (i ≤ set.length) ∧ m = set.length - i) (fun m σ hI => ?_) _ ⟨0, (by kernel_rfl), Nat.zero_le _, rfl⟩
 obtain ⟨i, e, hi, hm⟩ := hI
 subst e hm
 refine CD.seq ?_
 refine CD.region ?_
 refine OD.runE 1 [0, 1, 12, 13, 14] (E' := [(0, .sl 2 set.length (set.flatMap encR)), (1, .sl 2 set.length (set.flatMap encR)), (12, .int .i64 ((set.length : Nat) : Int)), (13, .int .i64 ((i : Nat) : Int)), (14, .bool (decide ((((i : Nat) : Int) : Int) < ((set.length : Nat) : Int))))]) (by kernel_rfl) ?_
 refine OD.nil ?_
 refine CD.seq ?_
 refine CD.condP rfl (fun h1 => ?_) (fun h1 => ?_)
 ·
  obtain ⟨x, hx, hd⟩ := nth (l := set) (i := i) (by omega)
  refine CD.skip ?_
  refine CD.seq ?_
  refine CD.block ?_
  refine CD.seq ?_
  refine CD.region ?_
  refine OD.runE 2 [0, 1, 5, 12, 13] (E' := [(0, .sl 2 set.length (set.flatMap encR)), (1, .sl 2 set.length (set.flatMap encR)), (5, .int .i64 ((i : Nat) : Int)), (12, .int .i64 ((set.length : Nat) : Int)), (13, .int .i64 ((i : Nat) : Int))]) (by kernel_rfl) ?_
  refine OD.nil ?_
  refine CD.seq ?_
  refine CD.drawn (by kernel_rfl) ?_
  refine OD.runE 2 [0, 1, 5, 12, 13, 16, 17] (E' := [(0, .sl 2 set.length (set.flatMap encR)), (1, .sl 2 set.length (set.flatMap encR)), (5, .int .i64 ((i : Nat) : Int)), (12, .int .i64 ((set.length : Nat) : Int)), (13, .int .i64 ((i : Nat) : Int)), (16, .sl 2 set.length (set.flatMap encR)), (17, .int .i64 ((i : Nat) : Int))]) (by kernel_rfl) ?_
  refine OD.idx rfl rfl (by kernel_rfl) (by omega) (by omega) ?_
  refine OD.runE 0 [0, 1, 5, 12, 13, 18] (E' := [(0, .sl 2 set.length (set.flatMap encR)), (1, .sl 2 set.length (set.flatMap encR)), (5, .int .i64 ((i : Nat) : Int)), (12, .int .i64 ((set.length : Nat) : Int)), (13, .int .i64 ((i : Nat) : Int)), (18, .ep 2 set.length (set.flatMap encR) ((((i : Nat) : Int) : Int).toNat * 2))]) (by kernel_rfl) ?_
  refine OD.ldA rfl (by kernel_rfl) (by kernel_rfl) (rPart hx) rfl (by decide) ?_
  refine OD.runE 2 [0, 1, 12, 13, 19, 20, 21] (E' := [(0, .sl 2 set.length (set.flatMap encR)), (1, .sl 2 set.length (set.flatMap encR)), (12, .int .i64 ((set.length : Nat) : Int)), (13, .int .i64 ((i : Nat) : Int)), (19, .agg [.int .i32 x.1, .int .i32 x.2]), (20, .sl 2 set.length (set.flatMap encR)), (21, .int .i64 ((i : Nat) : Int))]) (by kernel_rfl) ?_
  refine OD.idx rfl rfl (by kernel_rfl) (by omega) (by omega) ?_
  refine OD.runE 0 [0, 1, 12, 13, 19, 22] (E' := [(0, .sl 2 set.length (set.flatMap encR)), (1, .sl 2 set.length (set.flatMap encR)), (12, .int .i64 ((set.length : Nat) : Int)), (13, .int .i64 ((i : Nat) : Int)), (19, .agg [.int .i32 x.1, .int .i32 x.2]), (22, .ep 2 set.length (set.flatMap encR) ((((i : Nat) : Int) : Int).toNat * 2))]) (by kernel_rfl) ?_
  refine OD.ldA rfl (by kernel_rfl) (by kernel_rfl) (rPart hx) rfl (by decide) ?_
  refine OD.runE 0 [0, 1, 12, 13, 19, 23] (E' := [(0, .sl 2 set.length (set.flatMap encR)), (1, .sl 2 set.length (set.flatMap encR)), (12, .int .i64 ((set.length : Nat) : Int)), (13, .int .i64 ((i : Nat) : Int)), (19, .agg [.int .i32 x.1, .int .i32 x.2]), (23, .agg [.int .i32 x.1, .int .i32 x.2])]) (by kernel_rfl) ?_
  refine OD.neqSame rfl rfl (by kernel_rfl) ?_
  refine OD.runE 0 [0, 1, 12, 13, 24] (E' := [(0, .sl 2 set.length (set.flatMap encR)), (1, .sl 2 set.length (set.flatMap encR)), (12, .int .i64 ((set.length : Nat) : Int)), (13, .int .i64 ((i : Nat) : Int)), (24, .bool false)]) (by kernel_rfl) ?_
  refine OD.nil ⟨by kernel_rfl, ?_⟩
  refine CD.condF rfl ?_
  refine CD.skip ?_
  refine CD.region ?_
  refine OD.runE 1 [0, 1, 12, 25] (E' := [(0, .sl 2 set.length (set.flatMap encR)), (1, .sl 2 set.length (set.flatMap encR)), (12, .int .i64 ((set.length : Nat) : Int)), (25, .int .i64 (wrapQ .i64 (((i : Nat) : Int) + 1)))]) (by kernel_rfl) ?_
  refine OD.is 25 rfl (wrn (m := i + 1) (by omega) (by omega)) ?_
  refine OD.runE 1 [0, 1, 12, 13] (E' := [(0, .sl 2 set.length (set.flatMap encR)), (1, .sl 2 set.length (set.flatMap encR)), (12, .int .i64 ((set.length : Nat) : Int)), (13, .int .i64 ((i + 1 : Nat) : Int))]) (by kernel_rfl) ?_
  refine OD.nil ?_
  exact ⟨_, by omega, i + 1, (by kernel_rfl), by omega, rfl⟩
 ·
  refine CD.exit ?_
  refine CD.seq ?_
  refine CD.region ?_
  refine OD.runE 1 [4] (E' := [(4, .bool true)]) (by kernel_rfl) ?_
  refine OD.nil ?_
  refine CD.ret ?_
  exact retP (by kernel_rfl) (by kernel_rfl) (r := .bool true) (rfl)
theorem eqNs_ok (kids : List Nd) (hkl : kids.length < 4611686018427387904) (hE : ∀ (i : Nat) n, kids[i]? = some n → PureD P ov 37 [.agg (encN n), .agg (encN n)] (.bool true)) : PureD P ov 60 [.sl 6 kids.length (encNs kids), .sl 6 kids.length (encNs kids), .fn 37] (.bool true) := by
 refine FnD.intro (by kernel_rfl) (fn := Tryz.f60) (by kernel_rfl) rfl (by kernel_rfl) fun M a0 g0 hg0 => ?_
 refine CD.seq ?_
 refine CD.region ?_
 refine OD.runE 1 [0, 1, 2] (E' := [(0, .sl 6 kids.length (encNs kids)), (1, .sl 6 kids.length (encNs kids)), (2, .fn 37)]) (by kernel_rfl) ?_
 refine OD.nil ?_
 refine CD.seq ?_
 refine CD.seq ?_
 refine CD.region ?_
 refine OD.runE 5 [0, 1, 2, 14] (E' := [(0, .sl 6 kids.length (encNs kids)), (1, .sl 6 kids.length (encNs kids)), (2, .fn 37), (14, .bool (decide (¬ (((kids.length : Nat) : Int) : Int) = ((kids.length : Nat) : Int))))]) (by kernel_rfl) ?_
 refine OD.is 14 rfl (congrArg D.bool (decide_eq_false (fun h => h rfl))) ?_
 refine OD.runE 0 [0, 1, 2, 14] (E' := [(0, .sl 6 kids.length (encNs kids)), (1, .sl 6 kids.length (encNs kids)), (2, .fn 37), (14, .bool false)]) (by kernel_rfl) ?_
 refine OD.nil ?_
 refine CD.condF rfl ?_
 refine CD.skip ?_
 refine CD.seq ?_
 refine CD.seq ?_
 refine CD.region ?_
 refine OD.runE 3 [1, 2, 15, 16, 17] (E' := [(1, .sl 6 kids.length (encNs kids)), (2, .fn 37), (15, .sl 6 kids.length (encNs kids)), (16, .int .i64 ((kids.length : Nat) : Int)), (17, .int .i64 0)]) (by kernel_rfl) ?_
 refine OD.nil ?_
 refine CD.block ?_
 refine CD.weak [1, 2, 15, 16, 17] 0 (E' := [(1, .sl 6 kids.length (encNs kids)), (2, .fn 37), (15, .sl 6 kids.length (encNs kids)), (16, .int .i64 ((kids.length : Nat) : Int)), (17, .int .i64 0)]) (by kernel_rfl) (by simp [hg0]) (by kernel_rfl) ?_
 refine CD.loop (fun m σ => ∃ (i : Nat), σ = ⟨[(1, .sl 6 kids.length (encNs kids)), (2, .fn 37), (15, .sl 6 kids.length (encNs kids)), (16, .int .i64 ((kids.length : Nat) : Int)), (17, .int .i64 ((i : Nat) : Int))], []⟩ ∧ (i ≤ kids.length) ∧ m = kids.length - i) (fun m σ hI => ?_) _ ⟨0, (by kernel_rfl), Nat.zero_le _, rfl⟩
 obtain ⟨i, e, hi, hm⟩ := hI
 subst e hm
 refine CD.seq ?_
 refine CD.region ?_
 refine OD.runE 1 [1, 2, 15, 16, 17, 18] (E' := [(1, .sl 6 kids.length (encNs kids)), (2, .fn 37), (15, .sl 6 kids.length (encNs kids)), (16, .int .i64 ((kids.length : Nat) : Int)), (17, .int .i64 ((i : Nat) : Int)), (18, .bool (decide ((((i : Nat) : Int) : Int) < ((kids.length : Nat) : Int))))]) (by kernel_rfl) ?_
 refine OD.nil ?_
 refine CD.seq ?_
 refine CD.condP rfl (fun h1 => ?_) (fun h1 => ?_)
 ·
  obtain ⟨⟨k1, set1, no1, kids1, mn1, mx1⟩, hx, hd⟩ := nth (l := kids) (i := i) (by omega)
  refine CD.skip ?_
  refine CD.seq ?_
  refine CD.block ?_
  refine CD.seq ?_
  refine CD.region ?_
  refine OD.runE 1 [1, 2, 15, 16, 17, 19] (E' := [(1, .sl 6 kids.length (encNs kids)), (2, .fn 37), (15, .sl 6 kids.length (encNs kids)), (16, .int .i64 ((kids.length : Nat) : Int)), (17, .int .i64 ((i : Nat) : Int)), (19, .int .i64 ((i : Nat) : Int))]) (by kernel_rfl) ?_
  refine OD.idx rfl rfl (by kernel_rfl) (by omega) (by omega) ?_
  refine OD.runE 0 [1, 2, 15, 16, 17, 19, 20] (E' := [(1, .sl 6 kids.length (encNs kids)), (2, .fn 37), (15, .sl 6 kids.length (encNs kids)), (16, .int .i64 ((kids.length : Nat) : Int)), (17, .int .i64 ((i : Nat) : Int)), (19, .int .i64 ((i : Nat) : Int)), (20, .ep 6 kids.length (encNs kids) ((((i : Nat) : Int) : Int).toNat * 6))]) (by kernel_rfl) ?_
  refine OD.ldA rfl (by kernel_rfl) (by kernel_rfl) (nPart hx) rfl (by decide) ?_
  refine OD.run 3 [1, 2, 7, 8, 15, 16, 17] (E' := [(1, .sl 6 kids.length (encNs kids)), (2, .fn 37), (7, .int .i64 ((i : Nat) : Int)), (8, .loc 0 0), (15, .sl 6 kids.length (encNs kids)), (16, .int .i64 ((kids.length : Nat) : Int)), (17, .int .i64 ((i : Nat) : Int))]) (L' := [.box [.int .i64 k1, .sl 2 set1.length (set1.flatMap encR), .bool no1, .sl 6 kids1.length (encNs kids1), .int .i64 mn1, .int .i64 mx1]]) (by kernel_rfl) ?_
  refine OD.nil ?_
  refine CD.seq ?_
  refine CD.region ?_
  refine OD.runE 2 [1, 2, 8, 15, 16, 17, 22, 23] (E' := [(1, .sl 6 kids.length (encNs kids)), (2, .fn 37), (8, .loc 0 0), (15, .sl 6 kids.length (encNs kids)), (16, .int .i64 ((kids.length : Nat) : Int)), (17, .int .i64 ((i : Nat) : Int)), (22, .sl 6 kids.length (encNs kids)), (23, .int .i64 ((i : Nat) : Int))]) (by kernel_rfl) ?_
  refine OD.idx rfl rfl (by kernel_rfl) (by omega) (by omega) ?_
  refine OD.runE 0 [1, 2, 8, 15, 16, 17, 24] (E' := [(1, .sl 6 kids.length (encNs kids)), (2, .fn 37), (8, .loc 0 0), (15, .sl 6 kids.length (encNs kids)), (16, .int .i64 ((kids.length : Nat) : Int)), (17, .int .i64 ((i : Nat) : Int)), (24, .ep 6 kids.length (encNs kids) ((((i : Nat) : Int) : Int).toNat * 6))]) (by kernel_rfl) ?_
  refine OD.ldA rfl (by kernel_rfl) (by kernel_rfl) (nPart hx) rfl (by decide) ?_
  refine OD.run 2 [1, 2, 8, 9, 15, 16, 17] (E' := [(1, .sl 6 kids.length (encNs kids)), (2, .fn 37), (8, .loc 0 0), (9, .loc 1 0), (15, .sl 6 kids.length (encNs kids)), (16, .int .i64 ((kids.length : Nat) : Int)), (17, .int .i64 ((i : Nat) : Int))]) (L' := [.box [.int .i64 k1, .sl 2 set1.length (set1.flatMap encR), .bool no1, .sl 6 kids1.length (encNs kids1), .int .i64 mn1, .int .i64 mx1], .box [.int .i64 k1, .sl 2 set1.length (set1.flatMap encR), .bool no1, .sl 6 kids1.length (encNs kids1), .int .i64 mn1, .int .i64 mx1]]) (by kernel_rfl) ?_
  refine OD.nil ?_
  refine CD.seq ?_
  refine CD.region ?_
  refine OD.runE 3 [1, 2, 15, 16, 17, 26, 27, 28] (E' := [(1, .sl 6 kids.length (encNs kids)), (2, .fn 37), (15, .sl 6 kids.length (encNs kids)), (16, .int .i64 ((kids.length : Nat) : Int)), (17, .int .i64 ((i : Nat) : Int)), (26, .fn 37), (27, .agg [.int .i64 k1, .sl 2 set1.length (set1.flatMap encR), .bool no1, .sl 6 kids1.length (encNs kids1), .int .i64 mn1, .int .i64 mx1]), (28, .agg [.int .i64 k1, .sl 2 set1.length (set1.flatMap encR), .bool no1, .sl 6 kids1.length (encNs kids1), .int .i64 mn1, .int .i64 mx1])]) (by kernel_rfl) ?_
  refine OD.callE (hE i (.mk k1 set1 no1 kids1 mn1 mx1) hx) rfl (by kernel_rfl) (by kernel_rfl) (by kernel_rfl) ?_
  refine OD.runE 1 [1, 2, 15, 16, 17, 30] (E' := [(1, .sl 6 kids.length (encNs kids)), (2, .fn 37), (15, .sl 6 kids.length (encNs kids)), (16, .int .i64 ((kids.length : Nat) : Int)), (17, .int .i64 ((i : Nat) : Int)), (30, .bool false)]) (by kernel_rfl) ?_
  refine OD.nil ?_
  refine CD.condF rfl ?_
  refine CD.skip ?_
  refine CD.region ?_
  refine OD.runE 1 [1, 2, 15, 16, 31] (E' := [(1, .sl 6 kids.length (encNs kids)), (2, .fn 37), (15, .sl 6 kids.length (encNs kids)), (16, .int .i64 ((kids.length : Nat) : Int)), (31, .int .i64 (wrapQ .i64 (((i : Nat) : Int) + 1)))]) (by kernel_rfl) ?_
  refine OD.is 31 rfl (wrn (m := i + 1) (by omega) (by omega)) ?_
  refine OD.runE 1 [1, 2, 15, 16, 17] (E' := [(1, .sl 6 kids.length (encNs kids)), (2, .fn 37), (15, .sl 6 kids.length (encNs kids)), (16, .int .i64 ((kids.length : Nat) : Int)), (17, .int .i64 ((i + 1 : Nat) : Int))]) (by kernel_rfl) ?_
  refine OD.nilW [1, 2, 15, 16, 17] 0 (E' := [(1, .sl 6 kids.length (encNs kids)), (2, .fn 37), (15, .sl 6 kids.length (encNs kids)), (16, .int .i64 ((kids.length : Nat) : Int)), (17, .int .i64 ((i + 1 : Nat) : Int))]) (by kernel_rfl) (by simp [hg0]) (by kernel_rfl) ?_
  exact ⟨_, by omega, i + 1, (by kernel_rfl), by omega, rfl⟩
 ·
  refine CD.exit ?_
  refine CD.seq ?_
  refine CD.region ?_
  refine OD.runE 1 [6] (E' := [(6, .bool true)]) (by kernel_rfl) ?_
  refine OD.nil ?_
  refine CD.ret ?_
  exact retP (by kernel_rfl) (by kernel_rfl) (r := .bool true) (rfl)
theorem Eq_ok : ∀ (m : Nat) (k : Int) (set : List (Int × Int)) (no : Bool) (kids : List Nd) (mn mx : Int), size (.mk k set no kids mn mx) ≤ m → fit (.mk k set no kids mn mx) → PureD P ov 37 [.agg [.int .i64 k, .sl 2 set.length (set.flatMap encR), .bool no, .sl 6 kids.length (encNs kids), .int .i64 mn, .int .i64 mx], .agg [.int .i64 k, .sl 2 set.length (set.flatMap encR), .bool no, .sl 6 kids.length (encNs kids), .int .i64 mn, .int .i64 mx]] (.bool true) := by
 intro m
 induction m with
 | zero => intro k set no kids mn mx hs; exact absurd hs (by have := size_pos (.mk k set no kids mn mx); omega)
 | succ m ih =>
  intro k set no kids mn mx hs hf
  have hf1 := hf.1
  have hf2 := hf.2.1
  have hf3 := hf.2.2.1
  have hf4 := hf.2.2.2.1
  refine FnD.intro (by kernel_rfl) (fn := Tryz.f37) (by kernel_rfl) rfl (by kernel_rfl) fun M a0 g0 hg0 => ?_
  refine CD.seq ?_
  refine CD.region ?_
  refine OD.run 3 [2, 3] (E' := [(2, .loc 0 0), (3, .loc 1 0)]) (L' := [.box [.int .i64 k, .sl 2 set.length (set.flatMap encR), .bool no, .sl 6 kids.length (encNs kids), .int .i64 mn, .int .i64 mx], .box [.int .i64 k, .sl 2 set.length (set.flatMap encR), .bool no, .sl 6 kids.length (encNs kids), .int .i64 mn, .int .i64 mx]]) (by kernel_rfl) ?_
  refine OD.nil ?_
  refine CD.seq ?_
  refine CD.region ?_
  refine OD.runE 5 [2, 3, 9] (E' := [(2, .loc 0 0), (3, .loc 1 0), (9, .bool (decide ((k : Int) = k)))]) (by kernel_rfl) ?_
  refine OD.is 9 rfl (congrArg D.bool (decide_eq_true rfl)) ?_
  refine OD.runE 6 [2, 3, 10, 15] (E' := [(2, .loc 0 0), (3, .loc 1 0), (10, .bool true), (15, .bool (bif no then (bif no then true else false) else (bif no then false else true)))]) (by kernel_rfl) ?_
  refine OD.is 15 rfl (congrArg D.bool beq_bif) ?_
  refine OD.is 15 rfl (congrArg D.bool (decide_eq_true rfl)) ?_
  refine OD.runE 7 [2, 3, 17, 22] (E' := [(2, .loc 0 0), (3, .loc 1 0), (17, .bool true), (22, .bool (decide ((mn : Int) = mn)))]) (by kernel_rfl) ?_
  refine OD.is 22 rfl (congrArg D.bool (decide_eq_true rfl)) ?_
  refine OD.runE 7 [2, 3, 24, 29] (E' := [(2, .loc 0 0), (3, .loc 1 0), (24, .bool true), (29, .bool (decide ((mx : Int) = mx)))]) (by kernel_rfl) ?_
  refine OD.is 29 rfl (congrArg D.bool (decide_eq_true rfl)) ?_
  refine OD.runE 6 [2, 3, 31, 33, 35] (E' := [(2, .loc 0 0), (3, .loc 1 0), (31, .bool true), (33, .sl 2 set.length (set.flatMap encR)), (35, .sl 2 set.length (set.flatMap encR))]) (by kernel_rfl) ?_
  refine OD.guard rfl rfl ?_
  refine OD.callE (eqR_ok set hf1) rfl (by kernel_rfl) (by kernel_rfl) (by kernel_rfl) ?_
  refine OD.runE 6 [38, 40, 42] (E' := [(38, .bool true), (40, .sl 6 kids.length (encNs kids)), (42, .sl 6 kids.length (encNs kids))]) (by kernel_rfl) ?_
  refine OD.guard rfl rfl ?_
  refine OD.callE (eqNs_ok kids hf2 (fun i n hx => match n, hx with | .mk k1 set1 no1 kids1 mn1 mx1, hx => ih k1 set1 no1 kids1 mn1 mx1 (size_kid hs hx) (fit_kid hf hx))) rfl (by kernel_rfl) (by kernel_rfl) (by kernel_rfl) ?_
  refine OD.runE 2 [4] (E' := [(4, .bool true)]) (by kernel_rfl) ?_
  refine OD.nil ?_
  refine CD.ret ?_
  exact retP (by kernel_rfl) (by kernel_rfl) (r := .bool true) (rfl)
theorem RegexDeep_fn (s : ByteArray) (z : Int) (hs : s.size ≤ 140737488351232) (hz : -9223372036854775808 ≤ z ∧ z < 9223372036854775808) : PureD P ov 12 [.str s, .int .i64 z] (.bool true) := by
 refine FnD.intro (by kernel_rfl) (fn := Tryz.f12) (by kernel_rfl) rfl (by kernel_rfl) fun M a0 g0 hg0 => ?_
 refine CD.seq ?_
 refine CD.region ?_
 refine OD.runE 1 [0, 1] (E' := [(0, .str s), (1, .int .i64 z)]) (by kernel_rfl) ?_
 refine OD.nil ?_
 refine CD.seq ?_
 refine CD.region ?_
 refine OD.callE (FnD.known rfl (fun _ => rfl)) rfl (by kernel_rfl) (by kernel_rfl) (by kernel_rfl) ?_
 refine OD.runE 1 [0, 1, 5] (E' := [(0, .str s), (1, .int .i64 z), (5, .bool true)]) (by kernel_rfl) ?_
 refine OD.nil ?_
 refine CD.seq ?_
 refine CD.seq ?_
 refine CD.region ?_
 refine OD.runE 2 [0, 1, 14] (E' := [(0, .str s), (1, .int .i64 z), (14, .bool false)]) (by kernel_rfl) ?_
 refine OD.nil ?_
 refine CD.condF rfl ?_
 refine CD.skip ?_
 refine CD.seq ?_
 refine CD.region ?_
 refine OD.runE 1 [1, 15] (E' := [(1, .int .i64 z), (15, .str s)]) (by kernel_rfl) ?_
 refine OD.callP (R := fun r => ∃ t : ByteArray, t = s.extract 0 (min s.size 20) ∧ t.size ≤ 20 ∧ r = .str t) rfl (by kernel_rfl) (by kernel_rfl) (by kernel_rfl) (short_ex s 20) (fun r hr => ?_)
 obtain ⟨t1, ht1, ht1s, rfl⟩ := hr
 refine OD.runE 1 [0, 1] (E' := [(0, .str t1), (1, .int .i64 z)]) (by kernel_rfl) ?_
 refine OD.nil ?_
 refine CD.seq ?_
 refine CD.region ?_
 refine OD.runE 1 [0, 17] (E' := [(0, .str t1), (17, .int .i64 z)]) (by kernel_rfl) ?_
 have hln0 := Int.lt_tmod_of_pos z (b := 15) (by decide)
 have hun0 := Int.tmod_lt_of_pos z (b := 15) (by decide)
 refine OD.remZ (n := 15) rfl rfl (by decide) ?_
 refine OD.runE 1 [0, 19] (E' := [(0, .str t1), (19, .int .i64 (wrapQ .i64 ((z.tmod 15) + 15)))]) (by kernel_rfl) ?_
 refine OD.is 19 rfl (wr64 (by omega) (by omega)) ?_
 refine OD.runE 0 [0, 19] (E' := [(0, .str t1), (19, .int .i64 ((z.tmod 15) + 15))]) (by kernel_rfl) ?_
 obtain ⟨n0, hdn0⟩ : ∃ d, d = (z % 15).toNat := ⟨_, rfl⟩
 have hbn0 : n0 < 15 := by omega
 refine OD.remZ (n := 15) rfl rfl (by decide) ?_
 refine OD.is 20 rfl (congrArg (D.int .i64) ((mod_wrap (z := z) (n := 15) (by decide)).trans (congrArg Nat.cast hdn0.symm))) ?_
 refine OD.runE 1 [0, 1] (E' := [(0, .str t1), (1, .int .i64 ((n0 : Nat) : Int))]) (by kernel_rfl) ?_
 refine OD.nil ?_
 refine CD.seq ?_
 refine CD.region ?_
 refine OD.runE 1 [0, 1, 22] (E' := [(0, .str t1), (1, .int .i64 ((n0 : Nat) : Int)), (22, .str t1)]) (by kernel_rfl) ?_
 refine OD.callP (R := parseR t1) rfl (by kernel_rfl) (by kernel_rfl) (by kernel_rfl) (parse_ok t1 (by omega)) (fun r hr => ?_)
 rcases hr with ⟨_, rfl⟩ | ⟨⟨k, set, no, kids, mn, mx⟩, hN, rfl⟩
 ·
  refine OD.run 6 [0, 1, 6, 7] (E' := [(0, .str t1), (1, .int .i64 ((n0 : Nat) : Int)), (6, .loc 0 0), (7, .int .i64 5)]) (L' := [.box (celN zeroN)]) (by kernel_rfl) ?_
  refine OD.nil ?_
  refine CD.seq ?_
  refine CD.region ?_
  refine OD.runE 2 [1, 6, 7, 8] (E' := [(1, .int .i64 ((n0 : Nat) : Int)), (6, .loc 0 0), (7, .int .i64 5), (8, .str t1)]) (by kernel_rfl) ?_
  refine OD.nil ?_
  refine CD.seq ?_
  refine CD.seq ?_
  refine CD.region ?_
  refine OD.runE 1 [1, 6, 7, 8, 9] (E' := [(1, .int .i64 ((n0 : Nat) : Int)), (6, .loc 0 0), (7, .int .i64 5), (8, .str t1), (9, .int .i64 0)]) (by kernel_rfl) ?_
  refine OD.nil ?_
  refine CD.block ?_
  refine CD.weak [1, 6, 7, 8, 9] 1 (E' := [(1, .int .i64 ((n0 : Nat) : Int)), (6, .loc 0 0), (7, .int .i64 5), (8, .str t1), (9, .int .i64 0)]) (by kernel_rfl) (by simp [hg0]) (by kernel_rfl) ?_
  refine CD.loop (fun m σ => ∃ (i : Nat), σ = ⟨[(1, .int .i64 ((n0 : Nat) : Int)), (6, .loc 0 0), (7, .int .i64 5), (8, .str (pW i t1)), (9, .int .i64 ((i : Nat) : Int))], [.box (celN zeroN)]⟩ ∧ (i ≤ n0) ∧ m = n0 - i) (fun m σ hI => ?_) _ ⟨0, (by kernel_rfl), Nat.zero_le _, rfl⟩
  obtain ⟨i, e, hi, hm⟩ := hI
  subst e hm
  refine CD.seq ?_
  refine CD.seq ?_
  refine CD.region ?_
  refine OD.runE 3 [1, 6, 7, 8, 9, 29] (E' := [(1, .int .i64 ((n0 : Nat) : Int)), (6, .loc 0 0), (7, .int .i64 5), (8, .str (pW i t1)), (9, .int .i64 ((i : Nat) : Int)), (29, .bool (decide ((((i : Nat) : Int) : Int) < ((n0 : Nat) : Int))))]) (by kernel_rfl) ?_
  refine OD.nil ?_
  refine CD.condP rfl (fun h1 => ?_) (fun h1 => ?_)
  ·
   refine CD.skip ?_
   refine CD.seq ?_
   refine CD.block ?_
   refine CD.region ?_
   refine OD.runE 1 [1, 6, 7, 9, 32] (E' := [(1, .int .i64 ((n0 : Nat) : Int)), (6, .loc 0 0), (7, .int .i64 5), (9, .int .i64 ((i : Nat) : Int)), (32, .str (pW i t1))]) (by kernel_rfl) ?_
   refine OD.catS rfl rfl (catp1 (i := i) (s := t1) (by omega)) ?_
   refine OD.runE 0 [1, 6, 7, 9, 33] (E' := [(1, .int .i64 ((n0 : Nat) : Int)), (6, .loc 0 0), (7, .int .i64 5), (9, .int .i64 ((i : Nat) : Int)), (33, .str ((⟨#[40]⟩ : ByteArray) ++ (pW i t1)))]) (by kernel_rfl) ?_
   refine OD.catS rfl rfl (catp2 (i := i) (s := t1) (by omega)) ?_
   refine OD.runE 1 [1, 6, 7, 8, 9] (E' := [(1, .int .i64 ((n0 : Nat) : Int)), (6, .loc 0 0), (7, .int .i64 5), (8, .str (((⟨#[40]⟩ : ByteArray) ++ (pW i t1)) ++ (⟨#[41]⟩ : ByteArray))), (9, .int .i64 ((i : Nat) : Int))]) (by kernel_rfl) ?_
   refine OD.nil ?_
   refine CD.region ?_
   refine OD.runE 2 [1, 6, 7, 8, 31] (E' := [(1, .int .i64 ((n0 : Nat) : Int)), (6, .loc 0 0), (7, .int .i64 5), (8, .str (((⟨#[40]⟩ : ByteArray) ++ (pW i t1)) ++ (⟨#[41]⟩ : ByteArray))), (31, .int .i64 (wrapQ .i64 (((i : Nat) : Int) + 1)))]) (by kernel_rfl) ?_
   refine OD.is 31 rfl (wrn (m := i + 1) (by omega) (by omega)) ?_
   refine OD.runE 1 [1, 6, 7, 8, 9] (E' := [(1, .int .i64 ((n0 : Nat) : Int)), (6, .loc 0 0), (7, .int .i64 5), (8, .str (((⟨#[40]⟩ : ByteArray) ++ (pW i t1)) ++ (⟨#[41]⟩ : ByteArray))), (9, .int .i64 ((i + 1 : Nat) : Int))]) (by kernel_rfl) ?_
   refine OD.nil ?_
   exact ⟨_, by omega, i + 1, (by kernel_rfl), by omega, rfl⟩
  ·
   refine CD.exit ?_
   refine CD.seq ?_
   refine CD.region ?_
   refine OD.runE 1 [6, 7, 36] (E' := [(6, .loc 0 0), (7, .int .i64 5), (36, .str (pW i t1))]) (by kernel_rfl) ?_
   have hps := pW_size i t1
   refine OD.callP (R := parseR (pW i t1)) rfl (by kernel_rfl) (by kernel_rfl) (by kernel_rfl) (parse_ok (pW i t1) (by omega)) (fun r hr => ?_)
   rcases hr with ⟨_, rfl⟩ | ⟨⟨k2, set2, no2, kids2, mn2, mx2⟩, hN2, rfl⟩
   ·
    refine OD.run 6 [6, 7, 10, 11] (E' := [(6, .loc 0 0), (7, .int .i64 5), (10, .loc 1 0), (11, .int .i64 5)]) (L' := [.box (celN zeroN), .box (celN zeroN)]) (by kernel_rfl) ?_
    refine OD.nil ?_
    refine CD.seq ?_
    refine CD.region ?_
    refine OD.runE 12 [4] (E' := [(4, .bool true)]) (by kernel_rfl) ?_
    refine OD.nil ?_
    refine CD.ret ?_
    exact retP (by kernel_rfl) (by kernel_rfl) (r := .bool true) (rfl)
   ·
    refine OD.run 6 [6, 7, 10, 11] (E' := [(6, .loc 0 0), (7, .int .i64 5), (10, .loc 1 0), (11, .int .i64 0)]) (L' := [.box (celN zeroN), .box [.int .i64 k2, .sl 2 set2.length (set2.flatMap encR), .bool no2, .sl 6 kids2.length (encNs kids2), .int .i64 mn2, .int .i64 mx2]]) (by kernel_rfl) ?_
    refine OD.nil ?_
    refine CD.seq ?_
    refine CD.region ?_
    refine OD.runE 12 [4] (E' := [(4, .bool true)]) (by kernel_rfl) ?_
    refine OD.nil ?_
    refine CD.ret ?_
    exact retP (by kernel_rfl) (by kernel_rfl) (r := .bool true) (rfl)
 ·
  obtain ⟨hf, hal, hz60⟩ := parse_good hN
  refine OD.run 6 [0, 1, 6, 7] (E' := [(0, .str t1), (1, .int .i64 ((n0 : Nat) : Int)), (6, .loc 0 0), (7, .int .i64 0)]) (L' := [.box [.int .i64 k, .sl 2 set.length (set.flatMap encR), .bool no, .sl 6 kids.length (encNs kids), .int .i64 mn, .int .i64 mx]]) (by kernel_rfl) ?_
  refine OD.nil ?_
  refine CD.seq ?_
  refine CD.region ?_
  refine OD.runE 2 [1, 6, 7, 8] (E' := [(1, .int .i64 ((n0 : Nat) : Int)), (6, .loc 0 0), (7, .int .i64 0), (8, .str t1)]) (by kernel_rfl) ?_
  refine OD.nil ?_
  refine CD.seq ?_
  refine CD.seq ?_
  refine CD.region ?_
  refine OD.runE 1 [1, 6, 7, 8, 9] (E' := [(1, .int .i64 ((n0 : Nat) : Int)), (6, .loc 0 0), (7, .int .i64 0), (8, .str t1), (9, .int .i64 0)]) (by kernel_rfl) ?_
  refine OD.nil ?_
  refine CD.block ?_
  refine CD.weak [1, 6, 7, 8, 9] 1 (E' := [(1, .int .i64 ((n0 : Nat) : Int)), (6, .loc 0 0), (7, .int .i64 0), (8, .str t1), (9, .int .i64 0)]) (by kernel_rfl) (by simp [hg0]) (by kernel_rfl) ?_
  refine CD.loop (fun m σ => ∃ (i : Nat), σ = ⟨[(1, .int .i64 ((n0 : Nat) : Int)), (6, .loc 0 0), (7, .int .i64 0), (8, .str (pW i t1)), (9, .int .i64 ((i : Nat) : Int))], [.box [.int .i64 k, .sl 2 set.length (set.flatMap encR), .bool no, .sl 6 kids.length (encNs kids), .int .i64 mn, .int .i64 mx]]⟩ ∧ (i ≤ n0) ∧ m = n0 - i) (fun m σ hI => ?_) _ ⟨0, (by kernel_rfl), Nat.zero_le _, rfl⟩
  obtain ⟨i, e, hi, hm⟩ := hI
  subst e hm
  refine CD.seq ?_
  refine CD.seq ?_
  refine CD.region ?_
  refine OD.runE 3 [1, 6, 7, 8, 9, 29] (E' := [(1, .int .i64 ((n0 : Nat) : Int)), (6, .loc 0 0), (7, .int .i64 0), (8, .str (pW i t1)), (9, .int .i64 ((i : Nat) : Int)), (29, .bool (decide ((((i : Nat) : Int) : Int) < ((n0 : Nat) : Int))))]) (by kernel_rfl) ?_
  refine OD.nil ?_
  refine CD.condP rfl (fun h2 => ?_) (fun h2 => ?_)
  ·
   refine CD.skip ?_
   refine CD.seq ?_
   refine CD.block ?_
   refine CD.region ?_
   refine OD.runE 1 [1, 6, 7, 9, 32] (E' := [(1, .int .i64 ((n0 : Nat) : Int)), (6, .loc 0 0), (7, .int .i64 0), (9, .int .i64 ((i : Nat) : Int)), (32, .str (pW i t1))]) (by kernel_rfl) ?_
   refine OD.catS rfl rfl (catp1 (i := i) (s := t1) (by omega)) ?_
   refine OD.runE 0 [1, 6, 7, 9, 33] (E' := [(1, .int .i64 ((n0 : Nat) : Int)), (6, .loc 0 0), (7, .int .i64 0), (9, .int .i64 ((i : Nat) : Int)), (33, .str ((⟨#[40]⟩ : ByteArray) ++ (pW i t1)))]) (by kernel_rfl) ?_
   refine OD.catS rfl rfl (catp2 (i := i) (s := t1) (by omega)) ?_
   refine OD.runE 1 [1, 6, 7, 8, 9] (E' := [(1, .int .i64 ((n0 : Nat) : Int)), (6, .loc 0 0), (7, .int .i64 0), (8, .str (((⟨#[40]⟩ : ByteArray) ++ (pW i t1)) ++ (⟨#[41]⟩ : ByteArray))), (9, .int .i64 ((i : Nat) : Int))]) (by kernel_rfl) ?_
   refine OD.nil ?_
   refine CD.region ?_
   refine OD.runE 2 [1, 6, 7, 8, 31] (E' := [(1, .int .i64 ((n0 : Nat) : Int)), (6, .loc 0 0), (7, .int .i64 0), (8, .str (((⟨#[40]⟩ : ByteArray) ++ (pW i t1)) ++ (⟨#[41]⟩ : ByteArray))), (31, .int .i64 (wrapQ .i64 (((i : Nat) : Int) + 1)))]) (by kernel_rfl) ?_
   refine OD.is 31 rfl (wrn (m := i + 1) (by omega) (by omega)) ?_
   refine OD.runE 1 [1, 6, 7, 8, 9] (E' := [(1, .int .i64 ((n0 : Nat) : Int)), (6, .loc 0 0), (7, .int .i64 0), (8, .str (((⟨#[40]⟩ : ByteArray) ++ (pW i t1)) ++ (⟨#[41]⟩ : ByteArray))), (9, .int .i64 ((i + 1 : Nat) : Int))]) (by kernel_rfl) ?_
   refine OD.nil ?_
   exact ⟨_, by omega, i + 1, (by kernel_rfl), by omega, rfl⟩
  ·
   refine CD.exit ?_
   refine CD.seq ?_
   refine CD.region ?_
   refine OD.runE 1 [6, 7, 36] (E' := [(6, .loc 0 0), (7, .int .i64 0), (36, .str (pW i t1))]) (by kernel_rfl) ?_
   have hps := pW_size i t1
   refine OD.callP (R := parseR (pW i t1)) rfl (by kernel_rfl) (by kernel_rfl) (by kernel_rfl) (parse_ok (pW i t1) (by omega)) (fun r hr => ?_)
   rcases hr with ⟨hn, rfl⟩ | ⟨N2, hN2, rfl⟩
   · exact absurd ((parse_pW hN i (by omega)).symm.trans hn) (by simp)
   obtain rfl : (.mk k set no kids mn mx) = N2 := Option.some.inj ((parse_pW hN i (by omega)).symm.trans hN2)
   refine OD.run 6 [6, 7, 10, 11] (E' := [(6, .loc 0 0), (7, .int .i64 0), (10, .loc 1 0), (11, .int .i64 0)]) (L' := [.box [.int .i64 k, .sl 2 set.length (set.flatMap encR), .bool no, .sl 6 kids.length (encNs kids), .int .i64 mn, .int .i64 mx], .box [.int .i64 k, .sl 2 set.length (set.flatMap encR), .bool no, .sl 6 kids.length (encNs kids), .int .i64 mn, .int .i64 mx]]) (by kernel_rfl) ?_
   refine OD.nil ?_
   refine CD.seq ?_
   refine CD.region ?_
   refine OD.runE 8 [42, 45, 46, 47] (E' := [(42, .bool false), (45, .bool true), (46, .agg [.int .i64 k, .sl 2 set.length (set.flatMap encR), .bool no, .sl 6 kids.length (encNs kids), .int .i64 mn, .int .i64 mx]), (47, .agg [.int .i64 k, .sl 2 set.length (set.flatMap encR), .bool no, .sl 6 kids.length (encNs kids), .int .i64 mn, .int .i64 mx])]) (by kernel_rfl) ?_
   refine OD.guard rfl rfl ?_
   refine OD.callE (Eq_ok _ k set no kids mn mx (Nat.le_refl _) hf) rfl (by kernel_rfl) (by kernel_rfl) (by kernel_rfl) ?_
   refine OD.runE 3 [4] (E' := [(4, .bool true)]) (by kernel_rfl) ?_
   refine OD.nil ?_
   refine CD.ret ?_
   exact retP (by kernel_rfl) (by kernel_rfl) (r := .bool true) (rfl)
end
end Go.Proofs.YtiebldaihnbkmaaGreatDoor
