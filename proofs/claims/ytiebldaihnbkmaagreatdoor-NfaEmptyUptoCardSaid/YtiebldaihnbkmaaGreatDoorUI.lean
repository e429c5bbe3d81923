/-
  What is proved here: what functions of the pattern's package come to (walks that a program of mine has printed). No conditions.
-/
import Derived.Test.YtiebldaihnbkmaaGreatDoorPureEmp
import Derived.Test.YtiebldaihnbkmaaGreatDoorNQ
import Derived.Test.YtiebldaihnbkmaaGreatDoorNT
set_option linter.unusedVariables false
set_option linter.unusedSimpArgs false
set_option linter.unusedVariables false
set_option linter.unusedSimpArgs false
set_option maxRecDepth 100000
set_option maxHeartbeats 4000000
namespace Go.Proofs.YtiebldaihnbkmaaGreatDoor
open Go.Vai Go.Nfa Go.Utf
noncomputable section
theorem NfaEmpty_fn (s : ByteArray) (deep_ : Int) (hsz : s.size ≤ 1048576) (hdp : -9223372036854775808 ≤ deep_ ∧ deep_ < 9223372036854775808) : PureD P ov 10 [.str s, .int .i64 deep_] (.bool true) := by
 refine FnD.intro (by kernel_rfl) (fn := Tryz.f10) (by kernel_rfl) rfl (by kernel_rfl) fun M a0 g0 hg0 => ?_
 refine CD.seq ?_
 refine CD.region ?_
 refine OD.runE 1 [0, 1] (E' := [(0, .str s), (1, .int .i64 deep_)]) (by kernel_rfl) ?_
 refine OD.nil ?_
 refine CD.seq ?_
 refine CD.region ?_
 refine OD.callE (FnD.known rfl (fun _ => rfl)) rfl (by kernel_rfl) (by kernel_rfl) (by kernel_rfl) ?_
 refine OD.runE 1 [0, 1, 5] (E' := [(0, .str s), (1, .int .i64 deep_), (5, .bool true)]) (by kernel_rfl) ?_
 refine OD.nil ?_
 refine CD.seq ?_
 refine CD.seq ?_
 refine CD.region ?_
 refine OD.runE 2 [0, 1, 16] (E' := [(0, .str s), (1, .int .i64 deep_), (16, .bool false)]) (by kernel_rfl) ?_
 refine OD.nil ?_
 refine CD.condF rfl ?_
 refine CD.skip ?_
 refine CD.seq ?_
 refine CD.region ?_
 refine OD.runE 1 [0, 17] (E' := [(0, .str s), (17, .int .i64 deep_)]) (by kernel_rfl) ?_
 have hm1 := Int.lt_tmod_of_pos deep_ (b := 5) (by decide)
 have hm2 := Int.tmod_lt_of_pos deep_ (b := 5) (by decide)
 refine OD.remZ (n := 5) rfl rfl (by decide) ?_
 refine OD.runE 1 [0, 19] (E' := [(0, .str s), (19, .int .i64 (wrapQ .i64 ((deep_.tmod 5) + 5)))]) (by kernel_rfl) ?_
 refine OD.is 19 rfl (wr64 (by omega) (by omega)) ?_
 refine OD.runE 0 [0, 19] (E' := [(0, .str s), (19, .int .i64 ((deep_.tmod 5) + 5))]) (by kernel_rfl) ?_
 obtain ⟨d, hd⟩ : ∃ d, d = (deep_ % 5).toNat := ⟨_, rfl⟩
 have hd5 : d < 5 := by omega
 refine OD.remZ (n := 5) rfl rfl (by decide) ?_
 refine OD.is 20 rfl (congrArg (D.int .i64) ((mod_wrap (z := deep_) (n := 5) (by decide)).trans (congrArg Nat.cast hd.symm))) ?_
 refine OD.runE 1 [0, 1] (E' := [(0, .str s), (1, .int .i64 ((d : Nat) : Int))]) (by kernel_rfl) ?_
 refine OD.nil ?_
 refine CD.seq ?_
 refine CD.region ?_
 refine OD.runE 1 [0, 1, 6] (E' := [(0, .str s), (1, .int .i64 ((d : Nat) : Int)), (6, .str (⟨#[97, 42]⟩ : ByteArray))]) (by kernel_rfl) ?_
 refine OD.nil ?_
 refine CD.seq ?_
 refine CD.seq ?_
 refine CD.region ?_
 refine OD.runE 1 [0, 1, 6, 7] (E' := [(0, .str s), (1, .int .i64 ((d : Nat) : Int)), (6, .str (⟨#[97, 42]⟩ : ByteArray)), (7, .int .i64 0)]) (by kernel_rfl) ?_
 refine OD.nil ?_
 refine CD.block ?_
 refine CD.weak [0, 1, 6, 7] 0 (E' := [(0, .str s), (1, .int .i64 ((d : Nat) : Int)), (6, .str (⟨#[97, 42]⟩ : ByteArray)), (7, .int .i64 0)]) (by kernel_rfl) (by simp [hg0]) (by kernel_rfl) ?_
 refine CD.loop (fun m σ => ∃ (i : Nat), σ = ⟨[(0, .str s), (1, .int .i64 ((d : Nat) : Int)), (6, .str (reOf i)), (7, .int .i64 ((i : Nat) : Int))], []⟩ ∧ (i ≤ d) ∧ m = d - i) (fun m σ hI => ?_) _ ⟨0, (by kernel_rfl), Nat.zero_le _, rfl⟩
 obtain ⟨i, e, hi, hm⟩ := hI
 subst e hm
 refine CD.seq ?_
 refine CD.seq ?_
 refine CD.region ?_
 refine OD.runE 3 [0, 1, 6, 7, 23] (E' := [(0, .str s), (1, .int .i64 ((d : Nat) : Int)), (6, .str (reOf i)), (7, .int .i64 ((i : Nat) : Int)), (23, .bool (decide ((((i : Nat) : Int) : Int) < ((d : Nat) : Int))))]) (by kernel_rfl) ?_
 refine OD.nil ?_
 refine CD.condP rfl (fun h1 => ?_) (fun h1 => ?_)
 ·
  refine CD.skip ?_
  refine CD.seq ?_
  refine CD.block ?_
  refine CD.region ?_
  refine OD.runE 1 [0, 1, 7, 26] (E' := [(0, .str s), (1, .int .i64 ((d : Nat) : Int)), (7, .int .i64 ((i : Nat) : Int)), (26, .str (reOf i))]) (by kernel_rfl) ?_
  refine OD.catS rfl rfl (cat1 (i := i) (by omega)) ?_
  refine OD.runE 0 [0, 1, 7, 27] (E' := [(0, .str s), (1, .int .i64 ((d : Nat) : Int)), (7, .int .i64 ((i : Nat) : Int)), (27, .str ((⟨#[40]⟩ : ByteArray) ++ (reOf i)))]) (by kernel_rfl) ?_
  refine OD.catS rfl rfl (cat2 (i := i) (by omega)) ?_
  refine OD.runE 1 [0, 1, 6, 7] (E' := [(0, .str s), (1, .int .i64 ((d : Nat) : Int)), (6, .str (((⟨#[40]⟩ : ByteArray) ++ (reOf i)) ++ (⟨#[41, 42]⟩ : ByteArray))), (7, .int .i64 ((i : Nat) : Int))]) (by kernel_rfl) ?_
  refine OD.nil ?_
  refine CD.region ?_
  refine OD.runE 2 [0, 1, 6, 25] (E' := [(0, .str s), (1, .int .i64 ((d : Nat) : Int)), (6, .str (((⟨#[40]⟩ : ByteArray) ++ (reOf i)) ++ (⟨#[41, 42]⟩ : ByteArray))), (25, .int .i64 (wrapQ .i64 (((i : Nat) : Int) + 1)))]) (by kernel_rfl) ?_
  refine OD.is 25 rfl (wrn (m := i + 1) (by omega) (by omega)) ?_
  refine OD.runE 1 [0, 1, 6, 7] (E' := [(0, .str s), (1, .int .i64 ((d : Nat) : Int)), (6, .str (((⟨#[40]⟩ : ByteArray) ++ (reOf i)) ++ (⟨#[41, 42]⟩ : ByteArray))), (7, .int .i64 ((i + 1 : Nat) : Int))]) (by kernel_rfl) ?_
  refine OD.nil ?_
  exact ⟨_, by omega, i + 1, (by kernel_rfl), by omega, rfl⟩
 ·
  refine CD.exit ?_
  refine CD.seq ?_
  refine CD.region ?_
  refine OD.runE 1 [0, 30] (E' := [(0, .str s), (30, .str (reOf i))]) (by kernel_rfl) ?_
  have hid : i = d := by omega
  have hri := reOf_size i
  refine OD.callP (R := parseR (reOf i)) rfl (by kernel_rfl) (by kernel_rfl) (by kernel_rfl) (parse_ok (reOf i) (by omega)) (fun r hr => ?_)
  rcases hr with ⟨hn, rfl⟩ | ⟨⟨k, set, no, kids, mn, mx⟩, hN, rfl⟩
  · exact absurd ((parse_nest (d := i) (by omega)).symm.trans hn) (by simp)
  obtain ⟨hf, hal, hz60⟩ := parse_good hN
  have hne : nest i = (.mk k set no kids mn mx) := Option.some.inj ((parse_nest (by omega)).symm.trans hN)
  have hcw := nest_small (d := i) (by omega)
  rw [hne] at hcw
  refine OD.run 6 [0, 8, 9] (E' := [(0, .str s), (8, .loc 0 0), (9, .int .i64 0)]) (L' := [.box [.int .i64 k, .sl 2 set.length (set.flatMap encR), .bool no, .sl 6 kids.length (encNs kids), .int .i64 mn, .int .i64 mx]]) (by kernel_rfl) ?_
  refine OD.nil ?_
  refine CD.seq ?_
  refine CD.region ?_
  refine OD.runE 1 [0, 9, 35] (E' := [(0, .str s), (9, .int .i64 0), (35, .agg [.int .i64 k, .sl 2 set.length (set.flatMap encR), .bool no, .sl 6 kids.length (encNs kids), .int .i64 mn, .int .i64 mx])]) (by kernel_rfl) ?_
  refine OD.callO [] (ds := [.agg [.int .i64 k, .sl 2 set.length (set.flatMap encR), .bool no, .sl 6 kids.length (encNs kids), .int .i64 mn, .int .i64 mx]]) (Compile_ok k set no kids mn mx hf) rfl (by kernel_rfl) (by kernel_rfl) (by kernel_rfl) (by kernel_rfl) (by kernel_rfl) (fun r L1 hr => ?_)
  rcases hr with ⟨hc1, hc2, n1, hn1, rfl, rfl⟩ | ⟨hc1, hc2, rfl, rfl⟩ | ⟨hc1, rfl, rfl⟩
  ·
   have hal := cnt_loc hc1
   have hml := machine_len hal hc2
   refine OD.runE 5 [0, 9, 10, 11] (E' := [(0, .str s), (9, .int .i64 0), (10, .loc 2 0), (11, .int .i64 0)]) (by kernel_rfl) ?_
   refine OD.nil ?_
   refine CD.seq ?_
   refine CD.seq ?_
   refine CD.region ?_
   refine OD.runE 6 [0, 10, 44] (E' := [(0, .str s), (10, .loc 2 0), (44, .bool false)]) (by kernel_rfl) ?_
   refine OD.nil ?_
   refine CD.condF rfl ?_
   refine CD.skip ?_
   refine CD.seq ?_
   refine CD.region ?_
   refine OD.runE 1 [10, 45] (E' := [(10, .loc 2 0), (45, .str s)]) (by kernel_rfl) ?_
   refine OD.callP (R := fun r => ∃ l : List Int, r = .sl 1 l.length (l.map (D.int .i32)) ∧ l.length ≤ 20) rfl (by kernel_rfl) (by kernel_rfl) (by kernel_rfl) (text_ok s 20 (by omega)) (fun r hr => ?_)
   obtain ⟨l18, rfl, hl18⟩ := hr
   refine OD.runE 1 [10, 12] (E' := [(10, .loc 2 0), (12, .sl 1 l18.length (l18.map (D.int .i32)))]) (by kernel_rfl) ?_
   refine OD.nil ?_
   refine CD.seq ?_
   refine CD.region ?_
   refine OD.runE 1 [10, 12, 13] (E' := [(10, .loc 2 0), (12, .sl 1 l18.length (l18.map (D.int .i32))), (13, .int .i64 0)]) (by kernel_rfl) ?_
   refine OD.nil ?_
   refine CD.seq ?_
   refine CD.block ?_
   refine CD.weak [10, 12, 13] 4 (E' := [(10, .loc 2 0), (12, .sl 1 l18.length (l18.map (D.int .i32))), (13, .int .i64 0)]) (by kernel_rfl) (by simp [hg0]) (by kernel_rfl) ?_
   refine CD.loop (fun m σ => ∃ (j : Nat), σ = ⟨[(10, .loc 2 0), (12, .sl 1 l18.length (l18.map (D.int .i32))), (13, .int .i64 ((j : Nat) : Int))], [.box [.int .i64 k, .sl 2 set.length (set.flatMap encR), .bool no, .sl 6 kids.length (encNs kids), .int .i64 mn, .int .i64 mx], .box [.int .i64 k, .sl 2 set.length (set.flatMap encR), .bool no, .sl 6 kids.length (encNs kids), .int .i64 mn, .int .i64 mx], .box [.sl 9 n1 (((machine K14 (.mk k set no kids mn mx)).1).flatMap encSta), .int .i64 (((machine K14 (.mk k set no kids mn mx)).2 : Nat) : Int), .int .i64 ((wp K14 20001 (.mk k set no kids mn mx) : Nat) : Int)], .dead]⟩ ∧ (j ≤ l18.length) ∧ (∀ x, x < j → l18[x]? = some 97) ∧ m = l18.length - j) (fun m σ hI => ?_) _ ⟨0, (by kernel_rfl), Nat.zero_le _, fun x hx => absurd hx (Nat.not_lt_zero _), rfl⟩
   obtain ⟨j, e, hj, hj1, hm⟩ := hI
   subst e hm
   refine CD.seq ?_
   refine CD.seq ?_
   refine CD.region ?_
   refine OD.runE 5 [10, 12, 13, 51] (E' := [(10, .loc 2 0), (12, .sl 1 l18.length (l18.map (D.int .i32))), (13, .int .i64 ((j : Nat) : Int)), (51, .bool (decide ((((j : Nat) : Int) : Int) < ((l18.length : Nat) : Int))))]) (by kernel_rfl) ?_
   refine OD.ifP 51 rfl (fun h2 => ?_) (fun h2 => ?_)
   ·
    refine OD.runE 2 [10, 12, 13, 51, 52, 53] (E' := [(10, .loc 2 0), (12, .sl 1 l18.length (l18.map (D.int .i32))), (13, .int .i64 ((j : Nat) : Int)), (51, .bool true), (52, .sl 1 l18.length (l18.map (D.int .i32))), (53, .int .i64 ((j : Nat) : Int))]) (by kernel_rfl) ?_
    refine OD.guard rfl rfl ?_
    refine OD.idxSV (i := j) rfl rfl (by kernel_rfl) (by omega) (by omega) ?_
    refine OD.runE 0 [10, 12, 13, 51, 54] (E' := [(10, .loc 2 0), (12, .sl 1 l18.length (l18.map (D.int .i32))), (13, .int .i64 ((j : Nat) : Int)), (51, .bool true), (54, .ep 1 l18.length (l18.map (D.int .i32)) j)]) (by kernel_rfl) ?_
    refine OD.guard rfl rfl ?_
    refine OD.ldSV 0 (f := (D.int .i32)) (xs := l18) rfl (by kernel_rfl) (by first | omega | (simp only [List.length_set, List.length_replicate, List.length_append, List.length_singleton, List.length_cons, List.length_nil]; omega)) ?_
    refine OD.runE 2 [10, 12, 13, 57] (E' := [(10, .loc 2 0), (12, .sl 1 l18.length (l18.map (D.int .i32))), (13, .int .i64 ((j : Nat) : Int)), (57, .bool (decide (((l18.getD j 0) : Int) = 97)))]) (by kernel_rfl) ?_
    refine OD.nil ?_
    refine CD.condP rfl (fun h3 => ?_) (fun h3 => ?_)
    ·
     refine CD.skip ?_
     refine CD.block ?_
     refine CD.region ?_
     refine OD.runE 2 [10, 12, 59] (E' := [(10, .loc 2 0), (12, .sl 1 l18.length (l18.map (D.int .i32))), (59, .int .i64 (wrapQ .i64 (((j : Nat) : Int) + 1)))]) (by kernel_rfl) ?_
     refine OD.is 59 rfl (wrn (m := j + 1) (by omega) (by omega)) ?_
     refine OD.runE 1 [10, 12, 13] (E' := [(10, .loc 2 0), (12, .sl 1 l18.length (l18.map (D.int .i32))), (13, .int .i64 ((j + 1 : Nat) : Int))]) (by kernel_rfl) ?_
     refine OD.nil ?_
     exact ⟨_, by omega, j + 1, (by kernel_rfl), by omega, run_next hj1 (by omega) h3, rfl⟩
    ·
     refine CD.exit ?_
     refine CD.seq ?_
     refine CD.region ?_
     refine OD.runE 2 [13, 60, 61] (E' := [(13, .int .i64 ((j : Nat) : Int)), (60, .loc 2 0), (61, .sl 1 l18.length (l18.map (D.int .i32)))]) (by kernel_rfl) ?_
     refine OD.callO [2] (ds := [.loc 2 0, .sl 1 l18.length (l18.map (D.int .i32)), .int .i64 0]) (Ends_ok (.mk k set no kids mn mx) (machine K14 (.mk k set no kids mn mx)).1 (machine K14 (.mk k set no kids mn mx)).2 n1 ((wp K14 20001 (.mk k set no kids mn mx) : Nat) : Int) l18 0 hal rfl (machine_fs hf) hn1 (by omega) (by omega)) rfl (by kernel_rfl) (by kernel_rfl) (by kernel_rfl) (by kernel_rfl) (by kernel_rfl) (fun r L1 hr => ?_)
     obtain ⟨rfl, rfl⟩ := hr
     refine OD.runE 3 [63, 65] (E' := [(63, .int .i64 (((endsR l18 (.mk k set no kids mn mx) 0).length : Nat) : Int)), (65, .int .i64 (wrapQ .i64 (((j : Nat) : Int) + 1)))]) (by kernel_rfl) ?_
     refine OD.is 65 rfl (wrn (m := j + 1) (by omega) (by omega)) ?_
     refine OD.runE 2 [4] (E' := [(4, .bool (decide (((((endsR l18 (.mk k set no kids mn mx) 0).length : Nat) : Int) : Int) = ((j + 1 : Nat) : Int))))]) (by kernel_rfl) ?_
     refine OD.nil ?_
     refine CD.ret ?_
     have hen : (endsR l18 (.mk k set no kids mn mx) 0).length = j + 1 := by rw [← hne]; exact nest_ends i (hne ▸ hal) hj hj1 (.inr (run_end (by omega) h3))
     exact retP (by kernel_rfl) (by kernel_rfl) (r := .bool (decide (((((endsR l18 (.mk k set no kids mn mx) 0).length : Nat) : Int) : Int) = ((j + 1 : Nat) : Int)))) (congrArg D.bool (decide_eq_true (by omega)))
   ·
    refine OD.runE 6 [10, 12, 13, 57] (E' := [(10, .loc 2 0), (12, .sl 1 l18.length (l18.map (D.int .i32))), (13, .int .i64 ((j : Nat) : Int)), (57, .bool false)]) (by kernel_rfl) ?_
    refine OD.nil ?_
    refine CD.condF rfl ?_
    refine CD.exit ?_
    refine CD.seq ?_
    refine CD.region ?_
    refine OD.runE 2 [13, 60, 61] (E' := [(13, .int .i64 ((j : Nat) : Int)), (60, .loc 2 0), (61, .sl 1 l18.length (l18.map (D.int .i32)))]) (by kernel_rfl) ?_
    refine OD.callO [2] (ds := [.loc 2 0, .sl 1 l18.length (l18.map (D.int .i32)), .int .i64 0]) (Ends_ok (.mk k set no kids mn mx) (machine K14 (.mk k set no kids mn mx)).1 (machine K14 (.mk k set no kids mn mx)).2 n1 ((wp K14 20001 (.mk k set no kids mn mx) : Nat) : Int) l18 0 hal rfl (machine_fs hf) hn1 (by omega) (by omega)) rfl (by kernel_rfl) (by kernel_rfl) (by kernel_rfl) (by kernel_rfl) (by kernel_rfl) (fun r L1 hr => ?_)
    obtain ⟨rfl, rfl⟩ := hr
    refine OD.runE 3 [63, 65] (E' := [(63, .int .i64 (((endsR l18 (.mk k set no kids mn mx) 0).length : Nat) : Int)), (65, .int .i64 (wrapQ .i64 (((j : Nat) : Int) + 1)))]) (by kernel_rfl) ?_
    refine OD.is 65 rfl (wrn (m := j + 1) (by omega) (by omega)) ?_
    refine OD.runE 2 [4] (E' := [(4, .bool (decide (((((endsR l18 (.mk k set no kids mn mx) 0).length : Nat) : Int) : Int) = ((j + 1 : Nat) : Int))))]) (by kernel_rfl) ?_
    refine OD.nil ?_
    refine CD.ret ?_
    have hen : (endsR l18 (.mk k set no kids mn mx) 0).length = j + 1 := by rw [← hne]; exact nest_ends i (hne ▸ hal) hj hj1 (.inl (by omega))
    exact retP (by kernel_rfl) (by kernel_rfl) (r := .bool (decide (((((endsR l18 (.mk k set no kids mn mx) 0).length : Nat) : Int) : Int) = ((j + 1 : Nat) : Int)))) (congrArg D.bool (decide_eq_true (by omega)))
  ·
   refine OD.runE 5 [0, 9, 10, 11] (E' := [(0, .str s), (9, .int .i64 0), (10, .lit (.pointer none)), (11, .int .i64 3)]) (by kernel_rfl) ?_
   refine OD.nil ?_
   refine CD.seq ?_
   refine CD.seq ?_
   refine CD.region ?_
   refine OD.runE 6 [0, 10, 44] (E' := [(0, .str s), (10, .lit (.pointer none)), (44, .bool true)]) (by kernel_rfl) ?_
   refine OD.nil ?_
   refine CD.condT rfl ?_
   refine CD.seq ?_
   refine CD.region ?_
   refine OD.runE 1 [4] (E' := [(4, .bool false)]) (by kernel_rfl) ?_
   refine OD.nil ?_
   refine CD.ret ?_
   exact retP (by kernel_rfl) (by kernel_rfl) (r := .bool false) (by exfalso; first | omega | (have := wr_small hc2; omega) | (have := wr_big hc2; omega) | exact absurd rfl (by assumption))
  ·
   refine OD.runE 5 [0, 9, 10, 11] (E' := [(0, .str s), (9, .int .i64 0), (10, .lit (.pointer none)), (11, .int .i64 5)]) (by kernel_rfl) ?_
   refine OD.nil ?_
   refine CD.seq ?_
   refine CD.seq ?_
   refine CD.region ?_
   refine OD.runE 6 [0, 10, 44] (E' := [(0, .str s), (10, .lit (.pointer none)), (44, .bool true)]) (by kernel_rfl) ?_
   refine OD.nil ?_
   refine CD.condT rfl ?_
   refine CD.seq ?_
   refine CD.region ?_
   refine OD.runE 1 [4] (E' := [(4, .bool false)]) (by kernel_rfl) ?_
   refine OD.nil ?_
   refine CD.ret ?_
   exact retP (by kernel_rfl) (by kernel_rfl) (r := .bool false) (by exfalso; first | omega | (have := wr_small hc2; omega) | (have := wr_big hc2; omega) | exact absurd rfl (by assumption))
end
end Go.Proofs.YtiebldaihnbkmaaGreatDoor
