/-
  What is proved here: what functions of the pattern's package come to (walks that a program of mine has printed). No conditions.
-/
import Derived.Test.YtiebldaihnbkmaaGreatDoorPureEmp
import Derived.Test.YtiebldaihnbkmaaGreatDoorNQ
import Derived.Test.YtiebldaihnbkmaaGreatDoorNT
set_option linter.unusedVariables false
set_option linter.unusedSimpArgs false
set_option linter.unusedVariables false
set_option linter.unusedSimpArgs false
set_option maxRecDepth 100000
set_option maxHeartbeats 4000000
namespace Go.Proofs.YtiebldaihnbkmaaGreatDoor
open Go.Vai Go.Nfa Go.Utf
noncomputable section
theorem number_ok (k : Nat) (hk : k < 10) : PureD P ov 35 [.int .i64 ((k : Nat) : Int)] (.str (numT k)) := by
 refine FnD.intro (by kernel_rfl) (fn := Tryz.f35) (by kernel_rfl) rfl (by kernel_rfl) fun M a0 g0 hg0 => ?_
 refine CD.seq ?_
 refine CD.region ?_
 refine OD.runE 1 [0] (E' := [(0, .int .i64 ((k : Nat) : Int))]) (by kernel_rfl) ?_
 refine OD.nil ?_
 refine CD.seq ?_
 refine CD.seq ?_
 refine CD.region ?_
 refine OD.runE 2 [0, 4] (E' := [(0, .int .i64 ((k : Nat) : Int)), (4, .bool (decide ((((k : Nat) : Int) : Int) < 10)))]) (by kernel_rfl) ?_
 refine OD.is 4 rfl (congrArg D.bool (decide_eq_true (by omega))) ?_
 refine OD.runE 0 [0, 4] (E' := [(0, .int .i64 ((k : Nat) : Int)), (4, .bool true)]) (by kernel_rfl) ?_
 refine OD.nil ?_
 refine CD.condT rfl ?_
 refine CD.seq ?_
 refine CD.region ?_
 refine OD.runE 2 [6] (E' := [(6, .int .i64 (wrapQ .i64 (48 + ((k : Nat) : Int))))]) (by kernel_rfl) ?_
 refine OD.is 6 rfl (wrn (m := 48 + k) (by omega) (by omega)) ?_
 refine OD.runE 1 [7] (E' := [(7, .int .u8 (wrapQ .u8 (((48 + k : Nat) : Int))))]) (by kernel_rfl) ?_
 refine OD.is 7 rfl (wr8 (by omega) (by omega)) ?_
 refine OD.runE 0 [7] (E' := [(7, .int .u8 ((48 + k : Nat) : Int))]) (by kernel_rfl) ?_
 refine OD.bsl (e := 1) (cs := [.int .u8 ((48 + k : Nat) : Int)]) rfl (by kernel_rfl) ?_
 refine OD.runE 0 [8] (E' := [(8, .sl 1 1 [.int .u8 ((48 + k : Nat) : Int)])]) (by kernel_rfl) ?_
 refine OD.convBS (xs := [((48 + k : Nat) : Int)]) rfl rfl (by decide) (by kernel_rfl) (by kernel_rfl) ?_
 refine OD.runE 1 [2] (E' := [(2, .str (numT k))]) (by kernel_rfl) ?_
 refine OD.nil ?_
 refine CD.ret ?_
 exact retP (by kernel_rfl) (by kernel_rfl) (r := .str (numT k)) (rfl)
theorem NfaTimes_fn (z0 z1 z2 : Int) (hz0 : -9223372036854775808 ≤ z0 ∧ z0 < 9223372036854775808) (hz1 : -9223372036854775808 ≤ z1 ∧ z1 < 9223372036854775808) (hz2 : -9223372036854775808 ≤ z2 ∧ z2 < 9223372036854775808) : PureD P ov 9 [.int .i64 z0, .int .i64 z1, .int .i64 z2] (.bool true) := by
 refine FnD.intro (by kernel_rfl) (fn := Tryz.f9) (by kernel_rfl) rfl (by kernel_rfl) fun M a0 g0 hg0 => ?_
 refine CD.seq ?_
 refine CD.region ?_
 refine OD.runE 1 [0, 1, 2] (E' := [(0, .int .i64 z0), (1, .int .i64 z1), (2, .int .i64 z2)]) (by kernel_rfl) ?_
 refine OD.nil ?_
 refine CD.seq ?_
 refine CD.region ?_
 refine OD.callE (FnD.known rfl (fun _ => rfl)) rfl (by kernel_rfl) (by kernel_rfl) (by kernel_rfl) ?_
 refine OD.runE 1 [0, 1, 2, 7] (E' := [(0, .int .i64 z0), (1, .int .i64 z1), (2, .int .i64 z2), (7, .bool true)]) (by kernel_rfl) ?_
 refine OD.nil ?_
 refine CD.seq ?_
 refine CD.seq ?_
 refine CD.region ?_
 refine OD.runE 2 [0, 1, 2, 23] (E' := [(0, .int .i64 z0), (1, .int .i64 z1), (2, .int .i64 z2), (23, .bool false)]) (by kernel_rfl) ?_
 refine OD.nil ?_
 refine CD.condF rfl ?_
 refine CD.skip ?_
 refine CD.seq ?_
 refine CD.region ?_
 refine OD.runE 1 [1, 2, 24] (E' := [(1, .int .i64 z1), (2, .int .i64 z2), (24, .int .i64 z0)]) (by kernel_rfl) ?_
 have hlm0 := Int.lt_tmod_of_pos z0 (b := 10) (by decide)
 have hum0 := Int.tmod_lt_of_pos z0 (b := 10) (by decide)
 refine OD.remZ (n := 10) rfl rfl (by decide) ?_
 refine OD.runE 1 [1, 2, 26] (E' := [(1, .int .i64 z1), (2, .int .i64 z2), (26, .int .i64 (wrapQ .i64 ((z0.tmod 10) + 10)))]) (by kernel_rfl) ?_
 refine OD.is 26 rfl (wr64 (by omega) (by omega)) ?_
 refine OD.runE 0 [1, 2, 26] (E' := [(1, .int .i64 z1), (2, .int .i64 z2), (26, .int .i64 ((z0.tmod 10) + 10))]) (by kernel_rfl) ?_
 obtain ⟨m0, hdm0⟩ : ∃ d, d = (z0 % 10).toNat := ⟨_, rfl⟩
 have hbm0 : m0 < 10 := by omega
 refine OD.remZ (n := 10) rfl rfl (by decide) ?_
 refine OD.is 27 rfl (congrArg (D.int .i64) ((mod_wrap (z := z0) (n := 10) (by decide)).trans (congrArg Nat.cast hdm0.symm))) ?_
 refine OD.runE 1 [2, 27, 28] (E' := [(2, .int .i64 z2), (27, .int .i64 ((m0 : Nat) : Int)), (28, .int .i64 z1)]) (by kernel_rfl) ?_
 have hln0 := Int.lt_tmod_of_pos z1 (b := 10) (by decide)
 have hun0 := Int.tmod_lt_of_pos z1 (b := 10) (by decide)
 refine OD.remZ (n := 10) rfl rfl (by decide) ?_
 refine OD.runE 1 [2, 27, 30] (E' := [(2, .int .i64 z2), (27, .int .i64 ((m0 : Nat) : Int)), (30, .int .i64 (wrapQ .i64 ((z1.tmod 10) + 10)))]) (by kernel_rfl) ?_
 refine OD.is 30 rfl (wr64 (by omega) (by omega)) ?_
 refine OD.runE 0 [2, 27, 30] (E' := [(2, .int .i64 z2), (27, .int .i64 ((m0 : Nat) : Int)), (30, .int .i64 ((z1.tmod 10) + 10))]) (by kernel_rfl) ?_
 obtain ⟨n0, hdn0⟩ : ∃ d, d = (z1 % 10).toNat := ⟨_, rfl⟩
 have hbn0 : n0 < 10 := by omega
 refine OD.remZ (n := 10) rfl rfl (by decide) ?_
 refine OD.is 31 rfl (congrArg (D.int .i64) ((mod_wrap (z := z1) (n := 10) (by decide)).trans (congrArg Nat.cast hdn0.symm))) ?_
 refine OD.runE 1 [27, 31, 32] (E' := [(27, .int .i64 ((m0 : Nat) : Int)), (31, .int .i64 ((n0 : Nat) : Int)), (32, .int .i64 z2)]) (by kernel_rfl) ?_
 have hlkk := Int.lt_tmod_of_pos z2 (b := 25) (by decide)
 have hukk := Int.tmod_lt_of_pos z2 (b := 25) (by decide)
 refine OD.remZ (n := 25) rfl rfl (by decide) ?_
 refine OD.runE 1 [27, 31, 34] (E' := [(27, .int .i64 ((m0 : Nat) : Int)), (31, .int .i64 ((n0 : Nat) : Int)), (34, .int .i64 (wrapQ .i64 ((z2.tmod 25) + 25)))]) (by kernel_rfl) ?_
 refine OD.is 34 rfl (wr64 (by omega) (by omega)) ?_
 refine OD.runE 0 [27, 31, 34] (E' := [(27, .int .i64 ((m0 : Nat) : Int)), (31, .int .i64 ((n0 : Nat) : Int)), (34, .int .i64 ((z2.tmod 25) + 25))]) (by kernel_rfl) ?_
 obtain ⟨kk, hdkk⟩ : ∃ d, d = (z2 % 25).toNat := ⟨_, rfl⟩
 have hbkk : kk < 25 := by omega
 refine OD.remZ (n := 25) rfl rfl (by decide) ?_
 refine OD.is 35 rfl (congrArg (D.int .i64) ((mod_wrap (z := z2) (n := 25) (by decide)).trans (congrArg Nat.cast hdkk.symm))) ?_
 refine OD.runE 3 [0, 1, 2] (E' := [(0, .int .i64 ((m0 : Nat) : Int)), (1, .int .i64 ((n0 : Nat) : Int)), (2, .int .i64 ((kk : Nat) : Int))]) (by kernel_rfl) ?_
 refine OD.nil ?_
 refine CD.seq ?_
 refine CD.region ?_
 refine OD.runE 1 [0, 1, 2, 36] (E' := [(0, .int .i64 ((m0 : Nat) : Int)), (1, .int .i64 ((n0 : Nat) : Int)), (2, .int .i64 ((kk : Nat) : Int)), (36, .int .i64 ((m0 : Nat) : Int))]) (by kernel_rfl) ?_
 refine OD.callE (number_ok m0 (by omega)) rfl (by kernel_rfl) (by kernel_rfl) (by kernel_rfl) ?_
 refine OD.runE 0 [0, 1, 2, 37] (E' := [(0, .int .i64 ((m0 : Nat) : Int)), (1, .int .i64 ((n0 : Nat) : Int)), (2, .int .i64 ((kk : Nat) : Int)), (37, .str (numT m0))]) (by kernel_rfl) ?_
 refine OD.catS rfl rfl (by simp only [ByteArray.size_append, numT_size]; decide) ?_
 refine OD.runE 0 [0, 1, 2, 38] (E' := [(0, .int .i64 ((m0 : Nat) : Int)), (1, .int .i64 ((n0 : Nat) : Int)), (2, .int .i64 ((kk : Nat) : Int)), (38, .str ((⟨#[97, 123]⟩ : ByteArray) ++ (numT m0)))]) (by kernel_rfl) ?_
 refine OD.catS rfl rfl (by simp only [ByteArray.size_append, numT_size]; decide) ?_
 refine OD.runE 1 [0, 1, 2, 39, 40] (E' := [(0, .int .i64 ((m0 : Nat) : Int)), (1, .int .i64 ((n0 : Nat) : Int)), (2, .int .i64 ((kk : Nat) : Int)), (39, .str (((⟨#[97, 123]⟩ : ByteArray) ++ (numT m0)) ++ (⟨#[44]⟩ : ByteArray))), (40, .int .i64 ((n0 : Nat) : Int))]) (by kernel_rfl) ?_
 refine OD.callE (number_ok n0 (by omega)) rfl (by kernel_rfl) (by kernel_rfl) (by kernel_rfl) ?_
 refine OD.runE 0 [0, 1, 2, 39, 41] (E' := [(0, .int .i64 ((m0 : Nat) : Int)), (1, .int .i64 ((n0 : Nat) : Int)), (2, .int .i64 ((kk : Nat) : Int)), (39, .str (((⟨#[97, 123]⟩ : ByteArray) ++ (numT m0)) ++ (⟨#[44]⟩ : ByteArray))), (41, .str (numT n0))]) (by kernel_rfl) ?_
 refine OD.catS rfl rfl (by simp only [ByteArray.size_append, numT_size]; decide) ?_
 refine OD.runE 0 [0, 1, 2, 42] (E' := [(0, .int .i64 ((m0 : Nat) : Int)), (1, .int .i64 ((n0 : Nat) : Int)), (2, .int .i64 ((kk : Nat) : Int)), (42, .str ((((⟨#[97, 123]⟩ : ByteArray) ++ (numT m0)) ++ (⟨#[44]⟩ : ByteArray)) ++ (numT n0)))]) (by kernel_rfl) ?_
 refine OD.catS rfl rfl (by simp only [ByteArray.size_append, numT_size]; decide) ?_
 refine OD.runE 1 [0, 1, 2, 8] (E' := [(0, .int .i64 ((m0 : Nat) : Int)), (1, .int .i64 ((n0 : Nat) : Int)), (2, .int .i64 ((kk : Nat) : Int)), (8, .str (((((⟨#[97, 123]⟩ : ByteArray) ++ (numT m0)) ++ (⟨#[44]⟩ : ByteArray)) ++ (numT n0)) ++ (⟨#[125]⟩ : ByteArray)))]) (by kernel_rfl) ?_
 refine OD.nil ?_
 refine CD.seq ?_
 refine CD.region ?_
 refine OD.runE 1 [0, 1, 2, 45] (E' := [(0, .int .i64 ((m0 : Nat) : Int)), (1, .int .i64 ((n0 : Nat) : Int)), (2, .int .i64 ((kk : Nat) : Int)), (45, .str (((((⟨#[97, 123]⟩ : ByteArray) ++ (numT m0)) ++ (⟨#[44]⟩ : ByteArray)) ++ (numT n0)) ++ (⟨#[125]⟩ : ByteArray)))]) (by kernel_rfl) ?_
 refine OD.is 45 rfl (show _ = D.str (reT m0 n0) from rfl) ?_
 rcases Nat.lt_or_ge n0 m0 with hmn | hmn
 ·
  refine OD.callP (R := parseR (reT m0 n0)) rfl (by kernel_rfl) (by kernel_rfl) (by kernel_rfl) (parse_ok (reT m0 n0) (by rw [reT_size]; decide)) (fun r hr => ?_)
  rcases hr with ⟨_, rfl⟩ | ⟨_, hN, rfl⟩
  rotate_left
  · exact absurd ((parse_tn hbm0 hbn0 hmn).symm.trans hN) (by simp)
  refine OD.run 6 [0, 1, 2, 9, 10] (E' := [(0, .int .i64 ((m0 : Nat) : Int)), (1, .int .i64 ((n0 : Nat) : Int)), (2, .int .i64 ((kk : Nat) : Int)), (9, .loc 0 0), (10, .int .i64 5)]) (L' := [.box (celN zeroN)]) (by kernel_rfl) ?_
  refine OD.nil ?_
  refine CD.seq ?_
  refine CD.seq ?_
  refine CD.region ?_
  refine OD.runE 3 [0, 1, 2, 9, 10, 51] (E' := [(0, .int .i64 ((m0 : Nat) : Int)), (1, .int .i64 ((n0 : Nat) : Int)), (2, .int .i64 ((kk : Nat) : Int)), (9, .loc 0 0), (10, .int .i64 5), (51, .bool (decide ((((n0 : Nat) : Int) : Int) < ((m0 : Nat) : Int))))]) (by kernel_rfl) ?_
  refine OD.is 51 rfl (congrArg D.bool (decide_eq_true (by omega))) ?_
  refine OD.runE 0 [0, 1, 2, 9, 10, 51] (E' := [(0, .int .i64 ((m0 : Nat) : Int)), (1, .int .i64 ((n0 : Nat) : Int)), (2, .int .i64 ((kk : Nat) : Int)), (9, .loc 0 0), (10, .int .i64 5), (51, .bool true)]) (by kernel_rfl) ?_
  refine OD.nil ?_
  refine CD.condT rfl ?_
  refine CD.seq ?_
  refine CD.region ?_
  refine OD.runE 3 [6] (E' := [(6, .bool true)]) (by kernel_rfl) ?_
  refine OD.nil ?_
  refine CD.ret ?_
  exact retP (by kernel_rfl) (by kernel_rfl) (r := .bool true) (rfl)
 ·
  refine OD.callP (R := parseR (reT m0 n0)) rfl (by kernel_rfl) (by kernel_rfl) (by kernel_rfl) (parse_ok (reT m0 n0) (by first | (rw [reT_size]; decide) | (rw [reU_size]; decide) | omega)) (fun r hr => ?_)
  rcases hr with ⟨hn, rfl⟩ | ⟨⟨k, set, no, kids, mn, mx⟩, hN, rfl⟩
  · exact absurd ((parse_t hbm0 hbn0 hmn).symm.trans hn) (by simp)
  obtain ⟨hf, hall, hz60⟩ := parse_good hN
  have hne : tN m0 (n0 : Int) = (.mk k set no kids mn mx) := Option.some.inj ((parse_t hbm0 hbn0 hmn).symm.trans hN)
  have hcw := t_small (m := m0) (mx := (n0 : Int)) hbm0 (.inr ⟨by omega, by omega⟩)
  rw [hne] at hcw
  refine OD.run 6 [0, 1, 2, 9, 10] (E' := [(0, .int .i64 ((m0 : Nat) : Int)), (1, .int .i64 ((n0 : Nat) : Int)), (2, .int .i64 ((kk : Nat) : Int)), (9, .loc 0 0), (10, .int .i64 0)]) (L' := [.box [.int .i64 k, .sl 2 set.length (set.flatMap encR), .bool no, .sl 6 kids.length (encNs kids), .int .i64 mn, .int .i64 mx]]) (by kernel_rfl) ?_
  refine OD.nil ?_
  refine CD.seq ?_
  refine CD.seq ?_
  refine CD.region ?_
  refine OD.runE 3 [0, 1, 2, 9, 10, 51] (E' := [(0, .int .i64 ((m0 : Nat) : Int)), (1, .int .i64 ((n0 : Nat) : Int)), (2, .int .i64 ((kk : Nat) : Int)), (9, .loc 0 0), (10, .int .i64 0), (51, .bool (decide ((((n0 : Nat) : Int) : Int) < ((m0 : Nat) : Int))))]) (by kernel_rfl) ?_
  refine OD.is 51 rfl (congrArg D.bool (decide_eq_false (by omega))) ?_
  refine OD.runE 0 [0, 1, 2, 9, 10, 51] (E' := [(0, .int .i64 ((m0 : Nat) : Int)), (1, .int .i64 ((n0 : Nat) : Int)), (2, .int .i64 ((kk : Nat) : Int)), (9, .loc 0 0), (10, .int .i64 0), (51, .bool false)]) (by kernel_rfl) ?_
  refine OD.nil ?_
  refine CD.condF rfl ?_
  refine CD.skip ?_
  refine CD.seq ?_
  refine CD.region ?_
  refine OD.runE 1 [0, 1, 2, 9, 10, 55] (E' := [(0, .int .i64 ((m0 : Nat) : Int)), (1, .int .i64 ((n0 : Nat) : Int)), (2, .int .i64 ((kk : Nat) : Int)), (9, .loc 0 0), (10, .int .i64 0), (55, .int .i64 ((m0 : Nat) : Int))]) (by kernel_rfl) ?_
  refine OD.callE (number_ok m0 (by omega)) rfl (by kernel_rfl) (by kernel_rfl) (by kernel_rfl) ?_
  refine OD.runE 0 [0, 1, 2, 9, 10, 56] (E' := [(0, .int .i64 ((m0 : Nat) : Int)), (1, .int .i64 ((n0 : Nat) : Int)), (2, .int .i64 ((kk : Nat) : Int)), (9, .loc 0 0), (10, .int .i64 0), (56, .str (numT m0))]) (by kernel_rfl) ?_
  refine OD.catS rfl rfl (by simp only [ByteArray.size_append, numT_size]; decide) ?_
  refine OD.runE 0 [0, 1, 2, 9, 10, 57] (E' := [(0, .int .i64 ((m0 : Nat) : Int)), (1, .int .i64 ((n0 : Nat) : Int)), (2, .int .i64 ((kk : Nat) : Int)), (9, .loc 0 0), (10, .int .i64 0), (57, .str ((⟨#[97, 123]⟩ : ByteArray) ++ (numT m0)))]) (by kernel_rfl) ?_
  refine OD.catS rfl rfl (by simp only [ByteArray.size_append, numT_size]; decide) ?_
  refine OD.runE 0 [0, 1, 2, 9, 10, 58] (E' := [(0, .int .i64 ((m0 : Nat) : Int)), (1, .int .i64 ((n0 : Nat) : Int)), (2, .int .i64 ((kk : Nat) : Int)), (9, .loc 0 0), (10, .int .i64 0), (58, .str (((⟨#[97, 123]⟩ : ByteArray) ++ (numT m0)) ++ (⟨#[44, 125]⟩ : ByteArray)))]) (by kernel_rfl) ?_
  refine OD.is 58 rfl (show _ = D.str (reU m0) from rfl) ?_
  refine OD.callP (R := parseR (reU m0)) rfl (by kernel_rfl) (by kernel_rfl) (by kernel_rfl) (parse_ok (reU m0) (by first | (rw [reT_size]; decide) | (rw [reU_size]; decide) | omega)) (fun r hr => ?_)
  rcases hr with ⟨hn, rfl⟩ | ⟨⟨k2, set2, no2, kids2, mn2, mx2⟩, hNb, rfl⟩
  · exact absurd ((parse_u hbm0).symm.trans hn) (by simp)
  obtain ⟨hfb, hallb, hz60b⟩ := parse_good hNb
  have hneb : tN m0 (-1) = (.mk k2 set2 no2 kids2 mn2 mx2) := Option.some.inj ((parse_u hbm0).symm.trans hNb)
  have hcwb := t_small (m := m0) (mx := -1) hbm0 (.inl rfl)
  rw [hneb] at hcwb
  refine OD.run 6 [0, 1, 2, 9, 10, 11, 12] (E' := [(0, .int .i64 ((m0 : Nat) : Int)), (1, .int .i64 ((n0 : Nat) : Int)), (2, .int .i64 ((kk : Nat) : Int)), (9, .loc 0 0), (10, .int .i64 0), (11, .loc 1 0), (12, .int .i64 0)]) (L' := [.box [.int .i64 k, .sl 2 set.length (set.flatMap encR), .bool no, .sl 6 kids.length (encNs kids), .int .i64 mn, .int .i64 mx], .box [.int .i64 k2, .sl 2 set2.length (set2.flatMap encR), .bool no2, .sl 6 kids2.length (encNs kids2), .int .i64 mn2, .int .i64 mx2]]) (by kernel_rfl) ?_
  refine OD.nil ?_
  refine CD.seq ?_
  refine CD.region ?_
  refine OD.runE 1 [0, 1, 2, 10, 11, 12, 63] (E' := [(0, .int .i64 ((m0 : Nat) : Int)), (1, .int .i64 ((n0 : Nat) : Int)), (2, .int .i64 ((kk : Nat) : Int)), (10, .int .i64 0), (11, .loc 1 0), (12, .int .i64 0), (63, .agg [.int .i64 k, .sl 2 set.length (set.flatMap encR), .bool no, .sl 6 kids.length (encNs kids), .int .i64 mn, .int .i64 mx])]) (by kernel_rfl) ?_
  refine OD.callO [] (ds := [.agg [.int .i64 k, .sl 2 set.length (set.flatMap encR), .bool no, .sl 6 kids.length (encNs kids), .int .i64 mn, .int .i64 mx]]) (Compile_ok k set no kids mn mx hf) rfl (by kernel_rfl) (by kernel_rfl) (by kernel_rfl) (by kernel_rfl) (by kernel_rfl) (fun r L1 hr => ?_)
  rcases hr with ⟨hc1, hc2, n1, hn1, rfl, rfl⟩ | hr
  rotate_left
  · exact (comp_no hr hcw).elim
  have hal := cnt_loc hc1
  have hml := machine_len hal hc2
  refine OD.runE 5 [0, 1, 2, 10, 11, 12, 13, 14] (E' := [(0, .int .i64 ((m0 : Nat) : Int)), (1, .int .i64 ((n0 : Nat) : Int)), (2, .int .i64 ((kk : Nat) : Int)), (10, .int .i64 0), (11, .loc 1 0), (12, .int .i64 0), (13, .loc 3 0), (14, .int .i64 0)]) (by kernel_rfl) ?_
  refine OD.nil ?_
  refine CD.seq ?_
  refine CD.region ?_
  refine OD.runE 1 [0, 1, 2, 10, 12, 13, 14, 68] (E' := [(0, .int .i64 ((m0 : Nat) : Int)), (1, .int .i64 ((n0 : Nat) : Int)), (2, .int .i64 ((kk : Nat) : Int)), (10, .int .i64 0), (12, .int .i64 0), (13, .loc 3 0), (14, .int .i64 0), (68, .agg [.int .i64 k2, .sl 2 set2.length (set2.flatMap encR), .bool no2, .sl 6 kids2.length (encNs kids2), .int .i64 mn2, .int .i64 mx2])]) (by kernel_rfl) ?_
  refine OD.callO [] (ds := [.agg [.int .i64 k2, .sl 2 set2.length (set2.flatMap encR), .bool no2, .sl 6 kids2.length (encNs kids2), .int .i64 mn2, .int .i64 mx2]]) (Compile_ok k2 set2 no2 kids2 mn2 mx2 hfb) rfl (by kernel_rfl) (by kernel_rfl) (by kernel_rfl) (by kernel_rfl) (by kernel_rfl) (fun r L1 hr => ?_)
  rcases hr with ⟨hc1b, hc2b, n1b, hn1b, rfl, rfl⟩ | hr
  rotate_left
  · exact (comp_no hr hcwb).elim
  have halb := cnt_loc hc1b
  have hmlb := machine_len halb hc2b
  refine OD.runE 5 [0, 1, 2, 10, 12, 13, 14, 15, 16] (E' := [(0, .int .i64 ((m0 : Nat) : Int)), (1, .int .i64 ((n0 : Nat) : Int)), (2, .int .i64 ((kk : Nat) : Int)), (10, .int .i64 0), (12, .int .i64 0), (13, .loc 3 0), (14, .int .i64 0), (15, .loc 6 0), (16, .int .i64 0)]) (by kernel_rfl) ?_
  refine OD.nil ?_
  refine CD.seq ?_
  refine CD.seq ?_
  refine CD.region ?_
  refine OD.runE 14 [0, 1, 2, 13, 15, 85] (E' := [(0, .int .i64 ((m0 : Nat) : Int)), (1, .int .i64 ((n0 : Nat) : Int)), (2, .int .i64 ((kk : Nat) : Int)), (13, .loc 3 0), (15, .loc 6 0), (85, .bool false)]) (by kernel_rfl) ?_
  refine OD.nil ?_
  refine CD.condF rfl ?_
  refine CD.skip ?_
  refine CD.seq ?_
  refine CD.region ?_
  refine OD.runE 1 [0, 1, 2, 13, 15, 17] (E' := [(0, .int .i64 ((m0 : Nat) : Int)), (1, .int .i64 ((n0 : Nat) : Int)), (2, .int .i64 ((kk : Nat) : Int)), (13, .loc 3 0), (15, .loc 6 0), (17, .lit (.slice none 0 0))]) (by kernel_rfl) ?_
  refine OD.nilRow 17 1 rfl ?_
  refine OD.runE 0 [0, 1, 2, 13, 15, 17] (E' := [(0, .int .i64 ((m0 : Nat) : Int)), (1, .int .i64 ((n0 : Nat) : Int)), (2, .int .i64 ((kk : Nat) : Int)), (13, .loc 3 0), (15, .loc 6 0), (17, .row 8 0 0 0)]) (by kernel_rfl) ?_
  refine OD.nil ?_
  refine CD.seq ?_
  refine CD.seq ?_
  refine CD.region ?_
  refine OD.runE 1 [0, 1, 2, 13, 15, 17, 18] (E' := [(0, .int .i64 ((m0 : Nat) : Int)), (1, .int .i64 ((n0 : Nat) : Int)), (2, .int .i64 ((kk : Nat) : Int)), (13, .loc 3 0), (15, .loc 6 0), (17, .row 8 0 0 0), (18, .int .i64 0)]) (by kernel_rfl) ?_
  refine OD.nil ?_
  refine CD.block ?_
  refine CD.weak [0, 1, 2, 13, 15, 17, 18] 9 (E' := [(0, .int .i64 ((m0 : Nat) : Int)), (1, .int .i64 ((n0 : Nat) : Int)), (2, .int .i64 ((kk : Nat) : Int)), (13, .loc 3 0), (15, .loc 6 0), (17, .row 8 0 0 0), (18, .int .i64 0)]) (by kernel_rfl) (by simp [hg0]) (by kernel_rfl) ?_
  refine CD.loop (fun m σ => ∃ (i : Nat) (xs : List Int), σ = ⟨[(0, .int .i64 ((m0 : Nat) : Int)), (1, .int .i64 ((n0 : Nat) : Int)), (2, .int .i64 ((kk : Nat) : Int)), (13, .loc 3 0), (15, .loc 6 0), (17, .row 8 0 i i), (18, .int .i64 ((i : Nat) : Int))], [.box [.int .i64 k, .sl 2 set.length (set.flatMap encR), .bool no, .sl 6 kids.length (encNs kids), .int .i64 mn, .int .i64 mx], .box [.int .i64 k2, .sl 2 set2.length (set2.flatMap encR), .bool no2, .sl 6 kids2.length (encNs kids2), .int .i64 mn2, .int .i64 mx2], .box [.int .i64 k, .sl 2 set.length (set.flatMap encR), .bool no, .sl 6 kids.length (encNs kids), .int .i64 mn, .int .i64 mx], .box [.sl 9 n1 (((machine K14 (.mk k set no kids mn mx)).1).flatMap encSta), .int .i64 (((machine K14 (.mk k set no kids mn mx)).2 : Nat) : Int), .int .i64 ((wp K14 20001 (.mk k set no kids mn mx) : Nat) : Int)], .dead, .box [.int .i64 k2, .sl 2 set2.length (set2.flatMap encR), .bool no2, .sl 6 kids2.length (encNs kids2), .int .i64 mn2, .int .i64 mx2], .box [.sl 9 n1b (((machine K14 (.mk k2 set2 no2 kids2 mn2 mx2)).1).flatMap encSta), .int .i64 (((machine K14 (.mk k2 set2 no2 kids2 mn2 mx2)).2 : Nat) : Int), .int .i64 ((wp K14 20001 (.mk k2 set2 no2 kids2 mn2 mx2) : Nat) : Int)], .dead, .row 1 i (xs.map (D.int .i32))]⟩ ∧ (i ≤ kk) ∧ (xs = List.replicate i 97) ∧ m = kk - i) (fun m σ hI => ?_) _ ⟨0, ([] : List Int), (by kernel_rfl), Nat.zero_le _, rfl, rfl⟩
  obtain ⟨i, xs, e, hi, hxs, hm⟩ := hI
  subst e hm
  refine CD.seq ?_
  refine CD.seq ?_
  refine CD.region ?_
  refine OD.runE 3 [0, 1, 2, 13, 15, 17, 18, 88] (E' := [(0, .int .i64 ((m0 : Nat) : Int)), (1, .int .i64 ((n0 : Nat) : Int)), (2, .int .i64 ((kk : Nat) : Int)), (13, .loc 3 0), (15, .loc 6 0), (17, .row 8 0 i i), (18, .int .i64 ((i : Nat) : Int)), (88, .bool (decide ((((i : Nat) : Int) : Int) < ((kk : Nat) : Int))))]) (by kernel_rfl) ?_
  refine OD.nil ?_
  refine CD.condP rfl (fun h1 => ?_) (fun h1 => ?_)
  ·
   refine CD.skip ?_
   refine CD.seq ?_
   refine CD.block ?_
   refine CD.region ?_
   refine OD.runE 1 [0, 1, 2, 13, 15, 18, 91] (E' := [(0, .int .i64 ((m0 : Nat) : Int)), (1, .int .i64 ((n0 : Nat) : Int)), (2, .int .i64 ((kk : Nat) : Int)), (13, .loc 3 0), (15, .loc 6 0), (18, .int .i64 ((i : Nat) : Int)), (91, .row 8 0 i i)]) (by kernel_rfl) ?_
   refine OD.bsl (e := 1) (cs := [.int .i32 97]) rfl (by kernel_rfl) ?_
   refine OD.runE 0 [0, 1, 2, 13, 15, 18, 91, 92] (E' := [(0, .int .i64 ((m0 : Nat) : Int)), (1, .int .i64 ((n0 : Nat) : Int)), (2, .int .i64 ((kk : Nat) : Int)), (13, .loc 3 0), (15, .loc 6 0), (18, .int .i64 ((i : Nat) : Int)), (91, .row 8 0 i i), (92, .sl 1 1 [.int .i32 97])]) (by kernel_rfl) ?_
   refine OD.appV (f := (D.int .i32)) (xs := xs) (vs := [97]) rfl (by kernel_rfl) rfl rfl rfl rfl (by first | omega | rw [hxs, List.length_replicate]) (by decide) (by omega) ?_
   refine OD.runE 1 [0, 1, 2, 13, 15, 17, 18] (E' := [(0, .int .i64 ((m0 : Nat) : Int)), (1, .int .i64 ((n0 : Nat) : Int)), (2, .int .i64 ((kk : Nat) : Int)), (13, .loc 3 0), (15, .loc 6 0), (17, .row 8 0 (i + 1) (i + 1)), (18, .int .i64 ((i : Nat) : Int))]) (by kernel_rfl) ?_
   refine OD.nil ?_
   refine CD.region ?_
   refine OD.runE 2 [0, 1, 2, 13, 15, 17, 90] (E' := [(0, .int .i64 ((m0 : Nat) : Int)), (1, .int .i64 ((n0 : Nat) : Int)), (2, .int .i64 ((kk : Nat) : Int)), (13, .loc 3 0), (15, .loc 6 0), (17, .row 8 0 (i + 1) (i + 1)), (90, .int .i64 (wrapQ .i64 (((i : Nat) : Int) + 1)))]) (by kernel_rfl) ?_
   refine OD.is 90 rfl (wrn (m := i + 1) (by omega) (by omega)) ?_
   refine OD.runE 1 [0, 1, 2, 13, 15, 17, 18] (E' := [(0, .int .i64 ((m0 : Nat) : Int)), (1, .int .i64 ((n0 : Nat) : Int)), (2, .int .i64 ((kk : Nat) : Int)), (13, .loc 3 0), (15, .loc 6 0), (17, .row 8 0 (i + 1) (i + 1)), (18, .int .i64 ((i + 1 : Nat) : Int))]) (by kernel_rfl) ?_
   refine OD.nil ?_
   exact ⟨_, by omega, i + 1, (xs ++ [97]), (by kernel_rfl), by omega, by rw [hxs, List.replicate_succ'], rfl⟩
  ·
   refine CD.exit ?_
   refine CD.seq ?_
   refine CD.region ?_
   refine OD.freeze 17 rfl rfl (Nat.le_refl _) ?_
   refine OD.is 17 rfl (congrArg (fun q => D.sl 1 q (xs.map (D.int .i32))) (show i = xs.length by rw [hxs, List.length_replicate])) ?_
   have hxl : xs.length = i := by rw [hxs, List.length_replicate]
   refine OD.runE 2 [0, 1, 2, 15, 17, 94, 95] (E' := [(0, .int .i64 ((m0 : Nat) : Int)), (1, .int .i64 ((n0 : Nat) : Int)), (2, .int .i64 ((kk : Nat) : Int)), (15, .loc 6 0), (17, .sl 1 xs.length (xs.map (D.int .i32))), (94, .loc 3 0), (95, .sl 1 xs.length (xs.map (D.int .i32)))]) (by kernel_rfl) ?_
   refine OD.callO [3] (ds := [.loc 3 0, .sl 1 xs.length (xs.map (D.int .i32)), .int .i64 0]) (Ends_ok (.mk k set no kids mn mx) (machine K14 (.mk k set no kids mn mx)).1 (machine K14 (.mk k set no kids mn mx)).2 n1 ((wp K14 20001 (.mk k set no kids mn mx) : Nat) : Int) xs 0 hal rfl (machine_fs hf) hn1 (by omega) (by omega)) rfl (by kernel_rfl) (by kernel_rfl) (by kernel_rfl) (by kernel_rfl) (by kernel_rfl) (fun r L1 hr => ?_)
   obtain ⟨rfl, rfl⟩ := hr
   have hA : endsR xs (.mk k set no kids mn mx) 0 = tE m0 (min n0 kk) := by rw [← hne]; exact t_ends (k := kk) (hxs.trans (by rw [show i = kk by omega])) (hne ▸ hal) (by omega) (fun j hj => by omega)
   refine OD.is 96 rfl (sl_of hA rfl) ?_
   have hAl := tE_len m0 (min n0 kk)
   refine OD.runE 2 [0, 1, 2, 96, 97, 98] (E' := [(0, .int .i64 ((m0 : Nat) : Int)), (1, .int .i64 ((n0 : Nat) : Int)), (2, .int .i64 ((kk : Nat) : Int)), (96, .sl 1 ((tE m0 (min n0 kk)).length) ((tE m0 (min n0 kk)).map natD)), (97, .loc 6 0), (98, .sl 1 xs.length (xs.map (D.int .i32)))]) (by kernel_rfl) ?_
   refine OD.callO [6] (ds := [.loc 6 0, .sl 1 xs.length (xs.map (D.int .i32)), .int .i64 0]) (Ends_ok (.mk k2 set2 no2 kids2 mn2 mx2) (machine K14 (.mk k2 set2 no2 kids2 mn2 mx2)).1 (machine K14 (.mk k2 set2 no2 kids2 mn2 mx2)).2 n1b ((wp K14 20001 (.mk k2 set2 no2 kids2 mn2 mx2) : Nat) : Int) xs 0 halb rfl (machine_fs hfb) hn1b (by omega) (by omega)) rfl (by kernel_rfl) (by kernel_rfl) (by kernel_rfl) (by kernel_rfl) (by kernel_rfl) (fun r L1 hr => ?_)
   obtain ⟨rfl, rfl⟩ := hr
   have hB : endsR xs (.mk k2 set2 no2 kids2 mn2 mx2) 0 = tE m0 kk := by rw [← hneb]; exact t_ends (k := kk) (hxs.trans (by rw [show i = kk by omega])) (hneb ▸ halb) (Nat.le_refl _) (fun j hj => by omega)
   refine OD.is 99 rfl (sl_of hB rfl) ?_
   have hBl := tE_len m0 kk
   refine OD.runE 2 [0, 1, 2, 19, 20] (E' := [(0, .int .i64 ((m0 : Nat) : Int)), (1, .int .i64 ((n0 : Nat) : Int)), (2, .int .i64 ((kk : Nat) : Int)), (19, .sl 1 ((tE m0 (min n0 kk)).length) ((tE m0 (min n0 kk)).map natD)), (20, .sl 1 ((tE m0 kk).length) ((tE m0 kk).map natD))]) (by kernel_rfl) ?_
   refine OD.nil ?_
   refine CD.seq ?_
   refine CD.seq ?_
   refine CD.region ?_
   refine OD.runE 5 [0, 2, 19, 20, 101, 104] (E' := [(0, .int .i64 ((m0 : Nat) : Int)), (2, .int .i64 ((kk : Nat) : Int)), (19, .sl 1 ((tE m0 (min n0 kk)).length) ((tE m0 (min n0 kk)).map natD)), (20, .sl 1 ((tE m0 kk).length) ((tE m0 kk).map natD)), (101, .int .i64 (((tE m0 (min n0 kk)).length : Nat) : Int)), (104, .int .i64 (min (((n0 : Nat) : Int) : Int) ((kk : Nat) : Int)))]) (by kernel_rfl) ?_
   refine OD.is 104 rfl castmin ?_
   refine OD.runE 2 [0, 2, 19, 20, 101, 106] (E' := [(0, .int .i64 ((m0 : Nat) : Int)), (2, .int .i64 ((kk : Nat) : Int)), (19, .sl 1 ((tE m0 (min n0 kk)).length) ((tE m0 (min n0 kk)).map natD)), (20, .sl 1 ((tE m0 kk).length) ((tE m0 kk).map natD)), (101, .int .i64 (((tE m0 (min n0 kk)).length : Nat) : Int)), (106, .int .i64 (wrapQ .i64 (((min n0 kk : Nat) : Int) - ((m0 : Nat) : Int))))]) (by kernel_rfl) ?_
   refine OD.is 106 rfl (wr64 (by omega) (by omega)) ?_
   refine OD.runE 1 [0, 2, 19, 20, 101, 107] (E' := [(0, .int .i64 ((m0 : Nat) : Int)), (2, .int .i64 ((kk : Nat) : Int)), (19, .sl 1 ((tE m0 (min n0 kk)).length) ((tE m0 (min n0 kk)).map natD)), (20, .sl 1 ((tE m0 kk).length) ((tE m0 kk).map natD)), (101, .int .i64 (((tE m0 (min n0 kk)).length : Nat) : Int)), (107, .int .i64 (wrapQ .i64 ((((min n0 kk : Nat) : Int) - ((m0 : Nat) : Int)) + 1)))]) (by kernel_rfl) ?_
   refine OD.is 107 rfl (wr64 (by omega) (by omega)) ?_
   refine OD.runE 2 [0, 2, 19, 20, 109] (E' := [(0, .int .i64 ((m0 : Nat) : Int)), (2, .int .i64 ((kk : Nat) : Int)), (19, .sl 1 ((tE m0 (min n0 kk)).length) ((tE m0 (min n0 kk)).map natD)), (20, .sl 1 ((tE m0 kk).length) ((tE m0 kk).map natD)), (109, .bool (decide (¬ ((((tE m0 (min n0 kk)).length : Nat) : Int) : Int) = (max (0 : Int) ((((min n0 kk : Nat) : Int) - ((m0 : Nat) : Int)) + 1)))))]) (by kernel_rfl) ?_
   refine OD.is 109 rfl (congrArg D.bool (decide_eq_false (by omega))) ?_
   refine OD.runE 6 [0, 2, 19, 20, 110, 112, 115] (E' := [(0, .int .i64 ((m0 : Nat) : Int)), (2, .int .i64 ((kk : Nat) : Int)), (19, .sl 1 ((tE m0 (min n0 kk)).length) ((tE m0 (min n0 kk)).map natD)), (20, .sl 1 ((tE m0 kk).length) ((tE m0 kk).map natD)), (110, .bool false), (112, .int .i64 (((tE m0 kk).length : Nat) : Int)), (115, .int .i64 (wrapQ .i64 (((kk : Nat) : Int) - ((m0 : Nat) : Int))))]) (by kernel_rfl) ?_
   refine OD.is 115 rfl (wr64 (by omega) (by omega)) ?_
   refine OD.runE 1 [0, 2, 19, 20, 110, 112, 116] (E' := [(0, .int .i64 ((m0 : Nat) : Int)), (2, .int .i64 ((kk : Nat) : Int)), (19, .sl 1 ((tE m0 (min n0 kk)).length) ((tE m0 (min n0 kk)).map natD)), (20, .sl 1 ((tE m0 kk).length) ((tE m0 kk).map natD)), (110, .bool false), (112, .int .i64 (((tE m0 kk).length : Nat) : Int)), (116, .int .i64 (wrapQ .i64 ((((kk : Nat) : Int) - ((m0 : Nat) : Int)) + 1)))]) (by kernel_rfl) ?_
   refine OD.is 116 rfl (wr64 (by omega) (by omega)) ?_
   refine OD.runE 2 [0, 2, 19, 20, 110, 118] (E' := [(0, .int .i64 ((m0 : Nat) : Int)), (2, .int .i64 ((kk : Nat) : Int)), (19, .sl 1 ((tE m0 (min n0 kk)).length) ((tE m0 (min n0 kk)).map natD)), (20, .sl 1 ((tE m0 kk).length) ((tE m0 kk).map natD)), (110, .bool false), (118, .bool (decide (¬ ((((tE m0 kk).length : Nat) : Int) : Int) = (max (0 : Int) ((((kk : Nat) : Int) - ((m0 : Nat) : Int)) + 1)))))]) (by kernel_rfl) ?_
   refine OD.is 118 rfl (congrArg D.bool (decide_eq_false (by omega))) ?_
   refine OD.runE 1 [0, 2, 19, 20, 119] (E' := [(0, .int .i64 ((m0 : Nat) : Int)), (2, .int .i64 ((kk : Nat) : Int)), (19, .sl 1 ((tE m0 (min n0 kk)).length) ((tE m0 (min n0 kk)).map natD)), (20, .sl 1 ((tE m0 kk).length) ((tE m0 kk).map natD)), (119, .bool false)]) (by kernel_rfl) ?_
   refine OD.nil ?_
   refine CD.condF rfl ?_
   refine CD.skip ?_
   refine CD.seq ?_
   refine CD.region ?_
   refine OD.runE 4 [0, 2, 19, 20, 123] (E' := [(0, .int .i64 ((m0 : Nat) : Int)), (2, .int .i64 ((kk : Nat) : Int)), (19, .sl 1 ((tE m0 (min n0 kk)).length) ((tE m0 (min n0 kk)).map natD)), (20, .sl 1 ((tE m0 kk).length) ((tE m0 kk).map natD)), (123, .bool (decide (((((tE m0 (min n0 kk)).length : Nat) : Int) : Int) = 0)))]) (by kernel_rfl) ?_
   refine OD.ifP 123 rfl (fun h2 => ?_) (fun h2 => ?_)
   ·
    refine OD.runE 11 [0, 2, 20, 130, 134] (E' := [(0, .int .i64 ((m0 : Nat) : Int)), (2, .int .i64 ((kk : Nat) : Int)), (20, .sl 1 ((tE m0 kk).length) ((tE m0 kk).map natD)), (130, .bool true), (134, .bool (decide (((((tE m0 kk).length : Nat) : Int) : Int) = 0)))]) (by kernel_rfl) ?_
    refine OD.ifP 134 rfl (fun h3 => ?_) (fun h3 => ?_)
    ·
     refine OD.runE 18 [6] (E' := [(6, .bool true)]) (by kernel_rfl) ?_
     refine OD.nil ?_
     refine CD.ret ?_
     exact retP (by kernel_rfl) (by kernel_rfl) (r := .bool true) (rfl)
    ·
     refine OD.runE 1 [0, 2, 20, 130, 134, 135] (E' := [(0, .int .i64 ((m0 : Nat) : Int)), (2, .int .i64 ((kk : Nat) : Int)), (20, .sl 1 ((tE m0 kk).length) ((tE m0 kk).map natD)), (130, .bool true), (134, .bool false), (135, .sl 1 ((tE m0 kk).length) ((tE m0 kk).map natD))]) (by kernel_rfl) ?_
     refine OD.guard rfl rfl ?_
     refine OD.idxSV (i := 0) rfl rfl (by kernel_rfl) (by omega) (by omega) ?_
     refine OD.runE 0 [0, 2, 20, 130, 134, 136] (E' := [(0, .int .i64 ((m0 : Nat) : Int)), (2, .int .i64 ((kk : Nat) : Int)), (20, .sl 1 ((tE m0 kk).length) ((tE m0 kk).map natD)), (130, .bool true), (134, .bool false), (136, .ep 1 ((tE m0 kk).length) ((tE m0 kk).map natD) 0)]) (by kernel_rfl) ?_
     refine OD.guard rfl rfl ?_
     refine OD.ldSV 0 (f := natD) (xs := (tE m0 kk)) rfl (by kernel_rfl) (by first | omega | rw [hxs, List.length_replicate]) ?_
     refine OD.runE 2 [2, 20, 130, 134, 139] (E' := [(2, .int .i64 ((kk : Nat) : Int)), (20, .sl 1 ((tE m0 kk).length) ((tE m0 kk).map natD)), (130, .bool true), (134, .bool false), (139, .bool (decide ((((((tE m0 kk).getD 0 0) : Nat) : Int) : Int) = ((m0 : Nat) : Int))))]) (by kernel_rfl) ?_
     refine OD.is 139 rfl (congrArg D.bool (decide_eq_true (by have := tE_first (m := m0) (b := kk) (by omega); omega))) ?_
     refine OD.runE 5 [2, 130, 134, 140, 141, 144] (E' := [(2, .int .i64 ((kk : Nat) : Int)), (130, .bool true), (134, .bool false), (140, .bool true), (141, .sl 1 ((tE m0 kk).length) ((tE m0 kk).map natD)), (144, .int .i64 (wrapQ .i64 ((((tE m0 kk).length : Nat) : Int) - 1)))]) (by kernel_rfl) ?_
     refine OD.is 144 rfl (wr64 (by omega) (by omega)) ?_
     refine OD.runE 0 [2, 130, 134, 140, 141, 144] (E' := [(2, .int .i64 ((kk : Nat) : Int)), (130, .bool true), (134, .bool false), (140, .bool true), (141, .sl 1 ((tE m0 kk).length) ((tE m0 kk).map natD)), (144, .int .i64 ((((tE m0 kk).length : Nat) : Int) - 1))]) (by kernel_rfl) ?_
     refine OD.guard rfl rfl ?_
     refine OD.idxSV (i := ((((tE m0 kk).length : Nat) : Int) - 1).toNat) rfl rfl (by kernel_rfl) (by omega) (by omega) ?_
     refine OD.runE 0 [2, 130, 134, 140, 145] (E' := [(2, .int .i64 ((kk : Nat) : Int)), (130, .bool true), (134, .bool false), (140, .bool true), (145, .ep 1 ((tE m0 kk).length) ((tE m0 kk).map natD) (((((tE m0 kk).length : Nat) : Int) - 1).toNat))]) (by kernel_rfl) ?_
     refine OD.guard rfl rfl ?_
     refine OD.ldSV 0 (f := natD) (xs := (tE m0 kk)) rfl (by kernel_rfl) (by first | omega | rw [hxs, List.length_replicate]) ?_
     refine OD.runE 2 [130, 134, 140, 148] (E' := [(130, .bool true), (134, .bool false), (140, .bool true), (148, .bool (decide ((((((tE m0 kk).getD (((((tE m0 kk).length : Nat) : Int) - 1).toNat) 0) : Nat) : Int) : Int) = ((kk : Nat) : Int))))]) (by kernel_rfl) ?_
     refine OD.is 148 rfl (congrArg D.bool (decide_eq_true (by have := tE_last (m := m0) (b := kk) (x := (((tE m0 kk).length : Int) - 1).toNat) (by omega); omega))) ?_
     refine OD.runE 4 [6] (E' := [(6, .bool true)]) (by kernel_rfl) ?_
     refine OD.nil ?_
     refine CD.ret ?_
     exact retP (by kernel_rfl) (by kernel_rfl) (r := .bool true) (rfl)
   ·
    refine OD.runE 1 [0, 2, 20, 123, 124] (E' := [(0, .int .i64 ((m0 : Nat) : Int)), (2, .int .i64 ((kk : Nat) : Int)), (20, .sl 1 ((tE m0 kk).length) ((tE m0 kk).map natD)), (123, .bool false), (124, .sl 1 ((tE m0 (min n0 kk)).length) ((tE m0 (min n0 kk)).map natD))]) (by kernel_rfl) ?_
    refine OD.guard rfl rfl ?_
    refine OD.idxSV (i := 0) rfl rfl (by kernel_rfl) (by omega) (by omega) ?_
    refine OD.runE 0 [0, 2, 20, 123, 125] (E' := [(0, .int .i64 ((m0 : Nat) : Int)), (2, .int .i64 ((kk : Nat) : Int)), (20, .sl 1 ((tE m0 kk).length) ((tE m0 kk).map natD)), (123, .bool false), (125, .ep 1 ((tE m0 (min n0 kk)).length) ((tE m0 (min n0 kk)).map natD) 0)]) (by kernel_rfl) ?_
    refine OD.guard rfl rfl ?_
    refine OD.ldSV 0 (f := natD) (xs := (tE m0 (min n0 kk))) rfl (by kernel_rfl) (by first | omega | rw [hxs, List.length_replicate]) ?_
    refine OD.runE 2 [0, 2, 20, 123, 128] (E' := [(0, .int .i64 ((m0 : Nat) : Int)), (2, .int .i64 ((kk : Nat) : Int)), (20, .sl 1 ((tE m0 kk).length) ((tE m0 kk).map natD)), (123, .bool false), (128, .bool (decide ((((((tE m0 (min n0 kk)).getD 0 0) : Nat) : Int) : Int) = ((m0 : Nat) : Int))))]) (by kernel_rfl) ?_
    refine OD.is 128 rfl (congrArg D.bool (decide_eq_true (by have := tE_first (m := m0) (b := min n0 kk) (by omega); omega))) ?_
    refine OD.runE 6 [0, 2, 20, 130, 134] (E' := [(0, .int .i64 ((m0 : Nat) : Int)), (2, .int .i64 ((kk : Nat) : Int)), (20, .sl 1 ((tE m0 kk).length) ((tE m0 kk).map natD)), (130, .bool true), (134, .bool (decide (((((tE m0 kk).length : Nat) : Int) : Int) = 0)))]) (by kernel_rfl) ?_
    refine OD.ifP 134 rfl (fun h4 => ?_) (fun h4 => ?_)
    ·
     refine OD.runE 18 [6] (E' := [(6, .bool true)]) (by kernel_rfl) ?_
     refine OD.nil ?_
     refine CD.ret ?_
     exact retP (by kernel_rfl) (by kernel_rfl) (r := .bool true) (rfl)
    ·
     refine OD.runE 1 [0, 2, 20, 130, 134, 135] (E' := [(0, .int .i64 ((m0 : Nat) : Int)), (2, .int .i64 ((kk : Nat) : Int)), (20, .sl 1 ((tE m0 kk).length) ((tE m0 kk).map natD)), (130, .bool true), (134, .bool false), (135, .sl 1 ((tE m0 kk).length) ((tE m0 kk).map natD))]) (by kernel_rfl) ?_
     refine OD.guard rfl rfl ?_
     refine OD.idxSV (i := 0) rfl rfl (by kernel_rfl) (by omega) (by omega) ?_
     refine OD.runE 0 [0, 2, 20, 130, 134, 136] (E' := [(0, .int .i64 ((m0 : Nat) : Int)), (2, .int .i64 ((kk : Nat) : Int)), (20, .sl 1 ((tE m0 kk).length) ((tE m0 kk).map natD)), (130, .bool true), (134, .bool false), (136, .ep 1 ((tE m0 kk).length) ((tE m0 kk).map natD) 0)]) (by kernel_rfl) ?_
     refine OD.guard rfl rfl ?_
     refine OD.ldSV 0 (f := natD) (xs := (tE m0 kk)) rfl (by kernel_rfl) (by first | omega | rw [hxs, List.length_replicate]) ?_
     refine OD.runE 2 [2, 20, 130, 134, 139] (E' := [(2, .int .i64 ((kk : Nat) : Int)), (20, .sl 1 ((tE m0 kk).length) ((tE m0 kk).map natD)), (130, .bool true), (134, .bool false), (139, .bool (decide ((((((tE m0 kk).getD 0 0) : Nat) : Int) : Int) = ((m0 : Nat) : Int))))]) (by kernel_rfl) ?_
     refine OD.is 139 rfl (congrArg D.bool (decide_eq_true (by have := tE_first (m := m0) (b := kk) (by omega); omega))) ?_
     refine OD.runE 5 [2, 130, 134, 140, 141, 144] (E' := [(2, .int .i64 ((kk : Nat) : Int)), (130, .bool true), (134, .bool false), (140, .bool true), (141, .sl 1 ((tE m0 kk).length) ((tE m0 kk).map natD)), (144, .int .i64 (wrapQ .i64 ((((tE m0 kk).length : Nat) : Int) - 1)))]) (by kernel_rfl) ?_
     refine OD.is 144 rfl (wr64 (by omega) (by omega)) ?_
     refine OD.runE 0 [2, 130, 134, 140, 141, 144] (E' := [(2, .int .i64 ((kk : Nat) : Int)), (130, .bool true), (134, .bool false), (140, .bool true), (141, .sl 1 ((tE m0 kk).length) ((tE m0 kk).map natD)), (144, .int .i64 ((((tE m0 kk).length : Nat) : Int) - 1))]) (by kernel_rfl) ?_
     refine OD.guard rfl rfl ?_
     refine OD.idxSV (i := ((((tE m0 kk).length : Nat) : Int) - 1).toNat) rfl rfl (by kernel_rfl) (by omega) (by omega) ?_
     refine OD.runE 0 [2, 130, 134, 140, 145] (E' := [(2, .int .i64 ((kk : Nat) : Int)), (130, .bool true), (134, .bool false), (140, .bool true), (145, .ep 1 ((tE m0 kk).length) ((tE m0 kk).map natD) (((((tE m0 kk).length : Nat) : Int) - 1).toNat))]) (by kernel_rfl) ?_
     refine OD.guard rfl rfl ?_
     refine OD.ldSV 0 (f := natD) (xs := (tE m0 kk)) rfl (by kernel_rfl) (by first | omega | rw [hxs, List.length_replicate]) ?_
     refine OD.runE 2 [130, 134, 140, 148] (E' := [(130, .bool true), (134, .bool false), (140, .bool true), (148, .bool (decide ((((((tE m0 kk).getD (((((tE m0 kk).length : Nat) : Int) - 1).toNat) 0) : Nat) : Int) : Int) = ((kk : Nat) : Int))))]) (by kernel_rfl) ?_
     refine OD.is 148 rfl (congrArg D.bool (decide_eq_true (by have := tE_last (m := m0) (b := kk) (x := (((tE m0 kk).length : Int) - 1).toNat) (by omega); omega))) ?_
     refine OD.runE 4 [6] (E' := [(6, .bool true)]) (by kernel_rfl) ?_
     refine OD.nil ?_
     refine CD.ret ?_
     exact retP (by kernel_rfl) (by kernel_rfl) (r := .bool true) (rfl)
end
end Go.Proofs.YtiebldaihnbkmaaGreatDoor
