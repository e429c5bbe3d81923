/-
  What is proved here: what functions of the pattern's package come to (walks that a program of mine has printed). No conditions. What is proved here: what functions of the pattern's package come to (walks that a program of mine has printed). No conditions.
-/
import Derived.Test.YtiebldaihnbkmaaGreatDoorPureEmp
import Derived.Test.YtiebldaihnbkmaaGreatDoorNQ
import Derived.Test.YtiebldaihnbkmaaGreatDoorNT
set_option linter.unusedVariables false
set_option linter.unusedSimpArgs false
set_option linter.unusedVariables false
set_option linter.unusedSimpArgs false
set_option maxRecDepth 100000
set_option maxHeartbeats 4000000
namespace Go.Proofs.YtiebldaihnbkmaaGreatDoor
open Go.Vai Go.Nfa Go.Utf
noncomputable section
theorem number_ok (k : Nat) (hk : k < 10) : PureD P ov 35 [.int .i64 ((k : Nat) : Int)] (.str (numT k)) := by
 refine FnD.intro (by kernel_rfl) (fn := Tryz.f35) (by kernel_rfl) rfl (by kernel_rfl) fun M a0 g0 hg0 => ?_
 refine CD.seq ?_
 refine CD.region ?_
 refine OD.runE 1 [0] (E' := [(0, .int .i64 ((k : Nat) : Int))]) (by kernel_rfl) ?_
 refine OD.nil ?_
 refine CD.seq ?_
 refine CD.seq ?_
 refine CD.region ?_
 refine OD.runE 2 [0, 4] (E' := [(0, .int .i64 ((k : Nat) : Int)), (4, .bool (decide ((((k : Nat) : Int) : Int) < 10)))]) (by kernel_rfl) ?_
 refine OD.is 4 rfl (congrArg D.bool (decide_eq_true (by omega))) ?_
 refine OD.runE 0 [0, 4] (E' := [(0, .int .i64 ((k : Nat) : Int)), (4, .bool true)]) (by kernel_rfl) ?_
 refine OD.nil ?_
 refine CD.condT rfl ?_
 refine CD.seq ?_
 refine CD.region ?_
 refine OD.runE 2 [6] (E' := [(6, .int .i64 (wrapQ .i64 (48 + ((k : Nat) : Int))))]) (by kernel_rfl) ?_
 refine OD.is 6 rfl (wrn (m := 48 + k) (by omega) (by omega)) ?_
 refine OD.runE 1 [7] (E' := [(7, .int .u8 (wrapQ .u8 (((48 + k : Nat) : Int))))]) (by kernel_rfl) ?_
 refine OD.is 7 rfl (wr8 (by omega) (by omega)) ?_
 refine OD.runE 0 [7] (E' := [(7, .int .u8 ((48 + k : Nat) : Int))]) (by kernel_rfl) ?_
 refine OD.bsl (e := 1) (cs := [.int .u8 ((48 + k : Nat) : Int)]) rfl (by kernel_rfl) ?_
 refine OD.runE 0 [8] (E' := [(8, .sl 1 1 [.int .u8 ((48 + k : Nat) : Int)])]) (by kernel_rfl) ?_
 refine OD.convBS (xs := [((48 + k : Nat) : Int)]) rfl rfl (by decide) (by kernel_rfl) (by kernel_rfl) ?_
 refine OD.runE 1 [2] (E' := [(2, .str (numT k))]) (by kernel_rfl) ?_
 refine OD.nil ?_
 refine CD.ret ?_
 exact retP (by kernel_rfl) (by kernel_rfl) (r := .str (numT k)) (rfl)
end
end Go.Proofs.YtiebldaihnbkmaaGreatDoor
set_option linter.unusedVariables false
set_option linter.unusedSimpArgs false
set_option maxRecDepth 100000
set_option maxHeartbeats 4000000
namespace Go.Proofs.YtiebldaihnbkmaaGreatDoor
open Go.Vai Go.Nfa Go.Utf
noncomputable section
theorem NfaWeight_fn (z0 z1 z2 z3 : Int) (hz0 : -9223372036854775808 ≤ z0 ∧ z0 < 9223372036854775808) (hz1 : -9223372036854775808 ≤ z1 ∧ z1 < 9223372036854775808) (hz2 : -9223372036854775808 ≤ z2 ∧ z2 < 9223372036854775808) (hz3 : -9223372036854775808 ≤ z3 ∧ z3 < 9223372036854775808) : PureD P ov 14 [.int .i64 z0, .int .i64 z1, .int .i64 z2, .int .i64 z3] (.bool true) := by
 refine FnD.intro (by kernel_rfl) (fn := Tryz.f14) (by kernel_rfl) rfl (by kernel_rfl) fun M a0 g0 hg0 => ?_
 refine CD.seq ?_
 refine CD.region ?_
 refine OD.runE 1 [0, 1, 2, 3] (E' := [(0, .int .i64 z0), (1, .int .i64 z1), (2, .int .i64 z2), (3, .int .i64 z3)]) (by kernel_rfl) ?_
 refine OD.nil ?_
 refine CD.seq ?_
 refine CD.region ?_
 refine OD.callE (FnD.known rfl (fun _ => rfl)) rfl (by kernel_rfl) (by kernel_rfl) (by kernel_rfl) ?_
 refine OD.runE 1 [0, 1, 2, 3, 9] (E' := [(0, .int .i64 z0), (1, .int .i64 z1), (2, .int .i64 z2), (3, .int .i64 z3), (9, .bool true)]) (by kernel_rfl) ?_
 refine OD.nil ?_
 refine CD.seq ?_
 refine CD.seq ?_
 refine CD.region ?_
 refine OD.runE 2 [0, 1, 2, 3, 20] (E' := [(0, .int .i64 z0), (1, .int .i64 z1), (2, .int .i64 z2), (3, .int .i64 z3), (20, .bool false)]) (by kernel_rfl) ?_
 refine OD.nil ?_
 refine CD.condF rfl ?_
 refine CD.skip ?_
 refine CD.seq ?_
 refine CD.region ?_
 refine OD.runE 1 [0, 1, 2, 3, 10] (E' := [(0, .int .i64 z0), (1, .int .i64 z1), (2, .int .i64 z2), (3, .int .i64 z3), (10, .str (⟨#[120]⟩ : ByteArray))]) (by kernel_rfl) ?_
 refine OD.nil ?_
 refine CD.seq ?_
 refine CD.region ?_
 refine OD.runE 1 [0, 1, 2, 3, 10, 11] (E' := [(0, .int .i64 z0), (1, .int .i64 z1), (2, .int .i64 z2), (3, .int .i64 z3), (10, .str (⟨#[120]⟩ : ByteArray)), (11, .int .i64 1)]) (by kernel_rfl) ?_
 refine OD.nil ?_
 refine CD.seq ?_
 refine CD.seq ?_
 refine CD.region ?_
 refine OD.runE 4 [10, 11, 21, 22, 23, 24] (E' := [(10, .str (⟨#[120]⟩ : ByteArray)), (11, .int .i64 1), (21, .int .i64 z0), (22, .int .i64 z1), (23, .int .i64 z2), (24, .int .i64 z3)]) (by kernel_rfl) ?_
 refine OD.bsl (e := 1) (cs := [.int .i64 z0, .int .i64 z1, .int .i64 z2, .int .i64 z3]) rfl (by kernel_rfl) ?_
 refine OD.is 25 rfl (show _ = D.sl 1 4 ([z0, z1, z2, z3].map (D.int .i64)) from rfl) ?_
 refine OD.runE 2 [10, 11, 25, 26, 27] (E' := [(10, .str (⟨#[120]⟩ : ByteArray)), (11, .int .i64 1), (25, .sl 1 4 (([z0, z1, z2, z3]).map (D.int .i64))), (26, .int .i64 4), (27, .int .i64 0)]) (by kernel_rfl) ?_
 refine OD.nil ?_
 refine CD.block ?_
 refine CD.weak [10, 11, 25, 26, 27] 0 (E' := [(10, .str (⟨#[120]⟩ : ByteArray)), (11, .int .i64 1), (25, .sl 1 4 (([z0, z1, z2, z3]).map (D.int .i64))), (26, .int .i64 4), (27, .int .i64 0)]) (by kernel_rfl) (by simp [hg0]) (by kernel_rfl) ?_
 refine CD.loop (fun m σ => ∃ (i : Nat) (rs : List Nat), σ = ⟨[(10, .str (tW rs)), (11, .int .i64 ((vW rs : Nat) : Int)), (25, .sl 1 4 (([z0, z1, z2, z3]).map (D.int .i64))), (26, .int .i64 4), (27, .int .i64 ((i : Nat) : Int))], []⟩ ∧ (i ≤ 4) ∧ (rs.length = i) ∧ (∀ k ∈ rs, k < 10) ∧ m = 4 - i) (fun m σ hI => ?_) _ ⟨0, ([] : List Nat), (by kernel_rfl), by decide, rfl, (fun k hk => by cases hk), rfl⟩
 obtain ⟨i, rs, e, hi, hrl0, hrs, hm⟩ := hI
 subst e hm
 have hvw := vW_10 (rs := rs) (by omega) hrs
 refine CD.seq ?_
 refine CD.region ?_
 refine OD.runE 1 [10, 11, 25, 26, 27, 28] (E' := [(10, .str (tW rs)), (11, .int .i64 ((vW rs : Nat) : Int)), (25, .sl 1 4 (([z0, z1, z2, z3]).map (D.int .i64))), (26, .int .i64 4), (27, .int .i64 ((i : Nat) : Int)), (28, .bool (decide ((((i : Nat) : Int) : Int) < 4)))]) (by kernel_rfl) ?_
 refine OD.nil ?_
 refine CD.seq ?_
 refine CD.condP rfl (fun h1 => ?_) (fun h1 => ?_)
 ·
  refine CD.skip ?_
  refine CD.seq ?_
  refine CD.block ?_
  refine CD.seq ?_
  refine CD.region ?_
  refine OD.idxSV (i := i) rfl rfl (by kernel_rfl) (by omega) (by omega) ?_
  refine OD.runE 0 [10, 11, 25, 26, 27, 29] (E' := [(10, .str (tW rs)), (11, .int .i64 ((vW rs : Nat) : Int)), (25, .sl 1 4 (([z0, z1, z2, z3]).map (D.int .i64))), (26, .int .i64 4), (27, .int .i64 ((i : Nat) : Int)), (29, .ep 1 4 (([z0, z1, z2, z3]).map (D.int .i64)) i)]) (by kernel_rfl) ?_
  refine OD.ldSV 0 (f := (D.int .i64)) (xs := ([z0, z1, z2, z3])) rfl (by kernel_rfl) (by first | omega | simpa using (by omega : i < 4)) ?_
  obtain ⟨z, hz⟩ : ∃ z : Int, z = [z0, z1, z2, z3].getD i 0 := ⟨_, rfl⟩
  refine OD.is 30 rfl (congrArg (D.int .i64) hz.symm) ?_
  refine OD.runE 1 [10, 11, 13, 25, 26, 27] (E' := [(10, .str (tW rs)), (11, .int .i64 ((vW rs : Nat) : Int)), (13, .int .i64 z), (25, .sl 1 4 (([z0, z1, z2, z3]).map (D.int .i64))), (26, .int .i64 4), (27, .int .i64 ((i : Nat) : Int))]) (by kernel_rfl) ?_
  refine OD.nil ?_
  refine CD.seq ?_
  refine CD.region ?_
  refine OD.runE 1 [10, 11, 25, 26, 27, 31] (E' := [(10, .str (tW rs)), (11, .int .i64 ((vW rs : Nat) : Int)), (25, .sl 1 4 (([z0, z1, z2, z3]).map (D.int .i64))), (26, .int .i64 4), (27, .int .i64 ((i : Nat) : Int)), (31, .int .i64 z)]) (by kernel_rfl) ?_
  have hl := Int.lt_tmod_of_pos z (b := 10) (by decide)
  have hu := Int.tmod_lt_of_pos z (b := 10) (by decide)
  refine OD.remZ (n := 10) rfl rfl (by decide) ?_
  refine OD.runE 1 [10, 11, 25, 26, 27, 33] (E' := [(10, .str (tW rs)), (11, .int .i64 ((vW rs : Nat) : Int)), (25, .sl 1 4 (([z0, z1, z2, z3]).map (D.int .i64))), (26, .int .i64 4), (27, .int .i64 ((i : Nat) : Int)), (33, .int .i64 (wrapQ .i64 ((z.tmod 10) + 10)))]) (by kernel_rfl) ?_
  refine OD.is 33 rfl (wr64 (by omega) (by omega)) ?_
  refine OD.runE 0 [10, 11, 25, 26, 27, 33] (E' := [(10, .str (tW rs)), (11, .int .i64 ((vW rs : Nat) : Int)), (25, .sl 1 4 (([z0, z1, z2, z3]).map (D.int .i64))), (26, .int .i64 4), (27, .int .i64 ((i : Nat) : Int)), (33, .int .i64 ((z.tmod 10) + 10))]) (by kernel_rfl) ?_
  obtain ⟨d, hd⟩ : ∃ d, d = (z % 10).toNat := ⟨_, rfl⟩
  have hd10 : d < 10 := by omega
  refine OD.remZ (n := 10) rfl rfl (by decide) ?_
  refine OD.is 34 rfl (congrArg (D.int .i64) ((mod_wrap (z := z) (n := 10) (by decide)).trans (congrArg Nat.cast hd.symm))) ?_
  refine OD.runE 1 [10, 11, 13, 25, 26, 27] (E' := [(10, .str (tW rs)), (11, .int .i64 ((vW rs : Nat) : Int)), (13, .int .i64 ((d : Nat) : Int)), (25, .sl 1 4 (([z0, z1, z2, z3]).map (D.int .i64))), (26, .int .i64 4), (27, .int .i64 ((i : Nat) : Int))]) (by kernel_rfl) ?_
  refine OD.nil ?_
  refine CD.seq ?_
  refine CD.region ?_
  refine OD.runE 1 [11, 13, 25, 26, 27, 35] (E' := [(11, .int .i64 ((vW rs : Nat) : Int)), (13, .int .i64 ((d : Nat) : Int)), (25, .sl 1 4 (([z0, z1, z2, z3]).map (D.int .i64))), (26, .int .i64 4), (27, .int .i64 ((i : Nat) : Int)), (35, .str (tW rs))]) (by kernel_rfl) ?_
  refine OD.catS rfl rfl (by simp only [ByteArray.size_append, numT_size, tW_size, lit1, lit2, lit3]; omega) ?_
  refine OD.runE 0 [11, 13, 25, 26, 27, 36] (E' := [(11, .int .i64 ((vW rs : Nat) : Int)), (13, .int .i64 ((d : Nat) : Int)), (25, .sl 1 4 (([z0, z1, z2, z3]).map (D.int .i64))), (26, .int .i64 4), (27, .int .i64 ((i : Nat) : Int)), (36, .str ((⟨#[40]⟩ : ByteArray) ++ (tW rs)))]) (by kernel_rfl) ?_
  refine OD.catS rfl rfl (by simp only [ByteArray.size_append, numT_size, tW_size, lit1, lit2, lit3]; omega) ?_
  refine OD.runE 1 [11, 13, 25, 26, 27, 37, 38] (E' := [(11, .int .i64 ((vW rs : Nat) : Int)), (13, .int .i64 ((d : Nat) : Int)), (25, .sl 1 4 (([z0, z1, z2, z3]).map (D.int .i64))), (26, .int .i64 4), (27, .int .i64 ((i : Nat) : Int)), (37, .str (((⟨#[40]⟩ : ByteArray) ++ (tW rs)) ++ (⟨#[41, 123]⟩ : ByteArray))), (38, .int .i64 ((d : Nat) : Int))]) (by kernel_rfl) ?_
  refine OD.callE (number_ok d (by omega)) rfl (by kernel_rfl) (by kernel_rfl) (by kernel_rfl) ?_
  refine OD.runE 0 [11, 13, 25, 26, 27, 37, 39] (E' := [(11, .int .i64 ((vW rs : Nat) : Int)), (13, .int .i64 ((d : Nat) : Int)), (25, .sl 1 4 (([z0, z1, z2, z3]).map (D.int .i64))), (26, .int .i64 4), (27, .int .i64 ((i : Nat) : Int)), (37, .str (((⟨#[40]⟩ : ByteArray) ++ (tW rs)) ++ (⟨#[41, 123]⟩ : ByteArray))), (39, .str (numT d))]) (by kernel_rfl) ?_
  refine OD.catS rfl rfl (by simp only [ByteArray.size_append, numT_size, tW_size, lit1, lit2, lit3]; omega) ?_
  refine OD.runE 0 [11, 13, 25, 26, 27, 40] (E' := [(11, .int .i64 ((vW rs : Nat) : Int)), (13, .int .i64 ((d : Nat) : Int)), (25, .sl 1 4 (([z0, z1, z2, z3]).map (D.int .i64))), (26, .int .i64 4), (27, .int .i64 ((i : Nat) : Int)), (40, .str ((((⟨#[40]⟩ : ByteArray) ++ (tW rs)) ++ (⟨#[41, 123]⟩ : ByteArray)) ++ (numT d)))]) (by kernel_rfl) ?_
  refine OD.catS rfl rfl (by simp only [ByteArray.size_append, numT_size, tW_size, lit1, lit2, lit3]; omega) ?_
  refine OD.runE 1 [10, 11, 13, 25, 26, 27] (E' := [(10, .str (((((⟨#[40]⟩ : ByteArray) ++ (tW rs)) ++ (⟨#[41, 123]⟩ : ByteArray)) ++ (numT d)) ++ (⟨#[125]⟩ : ByteArray))), (11, .int .i64 ((vW rs : Nat) : Int)), (13, .int .i64 ((d : Nat) : Int)), (25, .sl 1 4 (([z0, z1, z2, z3]).map (D.int .i64))), (26, .int .i64 4), (27, .int .i64 ((i : Nat) : Int))]) (by kernel_rfl) ?_
  refine OD.nil ?_
  refine CD.region ?_
  refine OD.runE 3 [10, 25, 26, 27, 44] (E' := [(10, .str (((((⟨#[40]⟩ : ByteArray) ++ (tW rs)) ++ (⟨#[41, 123]⟩ : ByteArray)) ++ (numT d)) ++ (⟨#[125]⟩ : ByteArray))), (25, .sl 1 4 (([z0, z1, z2, z3]).map (D.int .i64))), (26, .int .i64 4), (27, .int .i64 ((i : Nat) : Int)), (44, .int .i64 (wrapQ .i64 (((vW rs : Nat) : Int) * ((d : Nat) : Int))))]) (by kernel_rfl) ?_
  have hmul := mul_bd (a := ((vW rs : Nat) : Int)) (b := ((d : Nat) : Int)) (A := 10000) (B := 10) (by omega) (by omega) (by omega) (by omega)
  refine OD.is 44 rfl (wr64 (by omega) (by omega)) ?_
  refine OD.runE 1 [10, 25, 26, 27, 45] (E' := [(10, .str (((((⟨#[40]⟩ : ByteArray) ++ (tW rs)) ++ (⟨#[41, 123]⟩ : ByteArray)) ++ (numT d)) ++ (⟨#[125]⟩ : ByteArray))), (25, .sl 1 4 (([z0, z1, z2, z3]).map (D.int .i64))), (26, .int .i64 4), (27, .int .i64 ((i : Nat) : Int)), (45, .int .i64 (wrapQ .i64 ((((vW rs : Nat) : Int) * ((d : Nat) : Int)) + 1)))]) (by kernel_rfl) ?_
  refine OD.is 45 rfl (wr64 (by omega) (by omega)) ?_
  refine OD.is 45 rfl (congrArg (D.int .i64) (show ((vW rs : Nat) : Int) * ((d : Nat) : Int) + 1 = ((vW (d :: rs) : Nat) : Int) by simp [vW])) ?_
  refine OD.runE 1 [10, 11, 25, 26, 27] (E' := [(10, .str (((((⟨#[40]⟩ : ByteArray) ++ (tW rs)) ++ (⟨#[41, 123]⟩ : ByteArray)) ++ (numT d)) ++ (⟨#[125]⟩ : ByteArray))), (11, .int .i64 ((vW (d :: rs) : Nat) : Int)), (25, .sl 1 4 (([z0, z1, z2, z3]).map (D.int .i64))), (26, .int .i64 4), (27, .int .i64 ((i : Nat) : Int))]) (by kernel_rfl) ?_
  refine OD.nil ?_
  refine CD.region ?_
  refine OD.runE 1 [10, 11, 25, 26, 46] (E' := [(10, .str (((((⟨#[40]⟩ : ByteArray) ++ (tW rs)) ++ (⟨#[41, 123]⟩ : ByteArray)) ++ (numT d)) ++ (⟨#[125]⟩ : ByteArray))), (11, .int .i64 ((vW (d :: rs) : Nat) : Int)), (25, .sl 1 4 (([z0, z1, z2, z3]).map (D.int .i64))), (26, .int .i64 4), (46, .int .i64 (wrapQ .i64 (((i : Nat) : Int) + 1)))]) (by kernel_rfl) ?_
  refine OD.is 46 rfl (wrn (m := i + 1) (by omega) (by omega)) ?_
  refine OD.runE 1 [10, 11, 25, 26, 27] (E' := [(10, .str (((((⟨#[40]⟩ : ByteArray) ++ (tW rs)) ++ (⟨#[41, 123]⟩ : ByteArray)) ++ (numT d)) ++ (⟨#[125]⟩ : ByteArray))), (11, .int .i64 ((vW (d :: rs) : Nat) : Int)), (25, .sl 1 4 (([z0, z1, z2, z3]).map (D.int .i64))), (26, .int .i64 4), (27, .int .i64 ((i + 1 : Nat) : Int))]) (by kernel_rfl) ?_
  refine OD.nil ?_
  exact ⟨_, by omega, i + 1, d :: rs, (by kernel_rfl), by omega, by rw [List.length_cons, hrl0], (fun k hk => (List.mem_cons.1 hk).elim (fun e => e ▸ hd10) (hrs k)), rfl⟩
 ·
  refine CD.exit ?_
  refine CD.seq ?_
  refine CD.region ?_
  refine OD.runE 1 [11, 48] (E' := [(11, .int .i64 ((vW rs : Nat) : Int)), (48, .str (tW rs))]) (by kernel_rfl) ?_
  have hrl : rs.length ≤ 4 := by omega
  have hts := tW_size rs
  refine OD.callP (R := parseR (tW rs)) rfl (by kernel_rfl) (by kernel_rfl) (by kernel_rfl) (parse_ok (tW rs) (by first | (rw [reT_size]; decide) | (rw [reU_size]; decide) | omega)) (fun r hr => ?_)
  rcases hr with ⟨hn, rfl⟩ | ⟨⟨k, set, no, kids, mn, mx⟩, hN, rfl⟩
  · exact absurd ((parse_w hrl hrs).symm.trans hn) (by simp)
  obtain ⟨hf, hall, hz60⟩ := parse_good hN
  have hne : nW rs = (.mk k set no kids mn mx) := Option.some.inj ((parse_w hrl hrs).symm.trans hN)
  have hw := w_small hrl hrs hne hz60 hall
  have hcw := hw.2.2
  have hz : size (.mk k set no kids mn mx) < 4611686018427387904 := by omega
  have hal := hall
  refine OD.run 6 [11, 14, 15] (E' := [(11, .int .i64 ((vW rs : Nat) : Int)), (14, .loc 0 0), (15, .int .i64 0)]) (L' := [.box [.int .i64 k, .sl 2 set.length (set.flatMap encR), .bool no, .sl 6 kids.length (encNs kids), .int .i64 mn, .int .i64 mx]]) (by kernel_rfl) ?_
  refine OD.nil ?_
  refine CD.seq ?_
  refine CD.seq ?_
  refine CD.region ?_
  refine OD.runE 4 [11, 14, 54, 55] (E' := [(11, .int .i64 ((vW rs : Nat) : Int)), (14, .loc 0 0), (54, .bool false), (55, .agg [.int .i64 k, .sl 2 set.length (set.flatMap encR), .bool no, .sl 6 kids.length (encNs kids), .int .i64 mn, .int .i64 mx])]) (by kernel_rfl) ?_
  refine OD.guard rfl rfl ?_
  refine OD.callE (Weight_ok _ k set no kids mn mx (Nat.le_refl _) hf hall) rfl (by kernel_rfl) (by kernel_rfl) (by kernel_rfl) ?_
  refine OD.runE 2 [11, 14, 54, 58] (E' := [(11, .int .i64 ((vW rs : Nat) : Int)), (14, .loc 0 0), (54, .bool false), (58, .bool (decide (¬ (((wr K14 1000000 (.mk k set no kids mn mx) : Nat) : Int) : Int) = ((vW rs : Nat) : Int))))]) (by kernel_rfl) ?_
  refine OD.is 58 rfl (congrArg D.bool (decide_eq_false (by omega))) ?_
  refine OD.runE 1 [11, 14, 59] (E' := [(11, .int .i64 ((vW rs : Nat) : Int)), (14, .loc 0 0), (59, .bool false)]) (by kernel_rfl) ?_
  refine OD.nil ?_
  refine CD.condF rfl ?_
  refine CD.skip ?_
  refine CD.seq ?_
  refine CD.region ?_
  refine OD.runE 1 [11, 61] (E' := [(11, .int .i64 ((vW rs : Nat) : Int)), (61, .agg [.int .i64 k, .sl 2 set.length (set.flatMap encR), .bool no, .sl 6 kids.length (encNs kids), .int .i64 mn, .int .i64 mx])]) (by kernel_rfl) ?_
  refine OD.callO [] (ds := [.agg [.int .i64 k, .sl 2 set.length (set.flatMap encR), .bool no, .sl 6 kids.length (encNs kids), .int .i64 mn, .int .i64 mx]]) (Compile_ok k set no kids mn mx hf) rfl (by kernel_rfl) (by kernel_rfl) (by kernel_rfl) (by kernel_rfl) (by kernel_rfl) (fun r L1 hr => ?_)
  rcases hr with ⟨hc1, hc2, n1, hn1, rfl, rfl⟩ | hr
  rotate_left
  · exact (comp_no hr hcw).elim
  have hal := cnt_loc hc1
  have hml := machine_len hal hc2
  refine OD.runE 5 [11, 16, 17] (E' := [(11, .int .i64 ((vW rs : Nat) : Int)), (16, .loc 2 0), (17, .int .i64 0)]) (by kernel_rfl) ?_
  refine OD.nil ?_
  refine CD.seq ?_
  refine CD.region ?_
  refine OD.runE 4 [11, 67, 68] (E' := [(11, .int .i64 ((vW rs : Nat) : Int)), (67, .bool true), (68, .loc 2 0)]) (by kernel_rfl) ?_
  refine OD.guard rfl rfl ?_
  refine OD.callO [2] (ds := [.loc 2 0]) (Size_ok n1 (((machine K14 (.mk k set no kids mn mx)).1).flatMap encSta) (((machine K14 (.mk k set no kids mn mx)).2 : Nat) : Int) ((wp K14 20001 (.mk k set no kids mn mx) : Nat) : Int)) rfl (by kernel_rfl) (by kernel_rfl) (by kernel_rfl) (by kernel_rfl) (by kernel_rfl) (fun r L1 hr => ?_)
  obtain ⟨rfl, rfl⟩ := hr
  refine OD.runE 2 [67, 71] (E' := [(67, .bool true), (71, .bool (decide ((((wp K14 20001 (.mk k set no kids mn mx) : Nat) : Int) : Int) = ((vW rs : Nat) : Int))))]) (by kernel_rfl) ?_
  refine OD.is 71 rfl (congrArg D.bool (decide_eq_true (by omega))) ?_
  refine OD.runE 2 [8] (E' := [(8, .bool true)]) (by kernel_rfl) ?_
  refine OD.nil ?_
  refine CD.ret ?_
  exact retP (by kernel_rfl) (by kernel_rfl) (r := .bool true) (rfl)
end
end Go.Proofs.YtiebldaihnbkmaaGreatDoor
