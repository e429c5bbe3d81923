/-
  What is proved here: what functions of the pattern's package come to (walks that a program of mine has printed). what functions of the pattern's package come to (walks that a program of mine has printed). how three patterns with anchors are read, and that they are small. what functions of the pattern's package come to (walks that a program of mine has printed). No conditions but those that the theorems state.
-/
import Derived.Test.YtfcadnhoejlgoaaGreatDoorFA
import Derived.Test.YtfcadnhoejlgoaaGreatDoorUG
import Derived.Test.YtfcadnhoejlgoaaGreatDoorUJ
import Derived.Test.YtfcadnhoejlgoaaGreatDoorRI
import Derived.Test.YtfcadnhoejlgoaaGreatDoorPureEmp
import Derived.Test.YtfcadnhoejlgoaaGreatDoorPGa
import Derived.Test.YtfcadnhoejlgoaaGreatDoorPureAlt
import Derived.KernelRfl
set_option linter.unusedVariables false
set_option linter.unusedSimpArgs false
set_option maxRecDepth 100000
set_option maxHeartbeats 4000000
namespace Go.Proofs.YtfcadnhoejlgoaaGreatDoor
open Go.Vai Go.Nfa
noncomputable section
theorem text11_ok (s : ByteArray) (hsz : s.size ≤ 1048576) : FnD P ov 11 [.str s] [] (fun r L1 => (fun r => ∃ l : List Int, r = .sl 1 l.length (l.map (D.int .i32)) ∧ l.length ≤ 25) r ∧ L1 = []) := by
 refine FnD.intro (by kernel_rfl) (fn := Tryz.f11) (by kernel_rfl) rfl (by kernel_rfl) fun M a0 g0 hg0 => ?_
 refine CD.seq (CD.region ?_)
 refine OD.rE 1 [(0,.str s)] ?_
 refine OD.nil (CD.seq (CD.region ?_))
 refine OD.rE 1 [(6,.str s)] ?_
 refine OD.cP (fun r => ∃ (l : List Int) (n : Nat) (k : Int), r = .tup [.sl 1 n (l.map (D.int .i32)), .i64 k] ∧ l.length = n) (All_ok s (by omega)) (fun r hr => ?_)
 obtain ⟨l1, n1, k1, rfl, hl1⟩ := hr
 refine OD.rE 5 [(3,.sl 1 n1 (l1.map (D.int .i32)))] ?_
 refine OD.nil (CD.seq (CD.region ?_))
 refine OD.rE 4 [(10,.sl 1 n1 (l1.map (D.int .i32))),(13,.i64 (min (((n1 : Nat) : Int) : Int) 25))] ?_
 refine OD.is 13 rfl castmin ?_
 refine OD.rE 0 [(10,.sl 1 n1 (l1.map (D.int .i32))),(13,.i64 ((min n1 25 : Nat) : Int))] ?_
 refine OD.slSl (lw := 0) (u := (min n1 25)) rfl (by kernel_rfl) (.inl ⟨rfl, rfl⟩) (.inr ⟨_, _, rfl, rfl⟩) (by omega) (by omega) ?_
 refine OD.is 14 rfl (take_sl (xs := l1) (u := (min n1 25))) ?_
 refine OD.rE 1 [(2,.sl 1 (min n1 25) ((l1.take (min n1 25)).map (D.int .i32)))] ?_
 refine OD.nil (CD.ret ?_)
 (try dsimp only); first | refine resP_r ?_ | refine resP_n ?_
 exact rO 0 (.sl 1 (min n1 25) ((l1.take (min n1 25)).map (D.int .i32))) [] (⟨text_of hl1, rfl⟩)
theorem prog_ok (s : ByteArray) : FnD P ov 10 [.str s] [] (progQ (s.extract 0 (min s.size 30))) := by
 refine FnD.intro (by kernel_rfl) (fn := Tryz.f10) (by kernel_rfl) rfl (by kernel_rfl) fun M a0 g0 hg0 => ?_
 refine CD.seq (CD.region ?_)
 refine OD.rL 3 [(0,.str s),(2,.loc 0 0)] [.box [.i64 0, .lit (.slice none 0 0), .bool false, .lit (.slice none 0 0), .i64 0, .i64 0]] ?_
 refine OD.nil (CD.seq (CD.region ?_))
 refine OD.rE 1 [(2,.loc 0 0),(10,.str s)] ?_
 refine OD.cP (fun r => ∃ t : ByteArray, t = s.extract 0 (min s.size 30) ∧ t.size ≤ 30 ∧ r = .str t) (short_ex s 30) (fun r hr => ?_)
 obtain ⟨t1, ht1, ht1s, rfl⟩ := hr
 rw [← ht1]
 refine OD.rE 0 [(2,.loc 0 0),(11,.str t1)] ?_
 refine OD.cP (parseR t1) (parse_ok t1 (by omega)) (fun r hr => ?_)
 rcases hr with ⟨hno, rfl⟩ | ⟨⟨k, set, no, kids, mn, mx⟩, hN, rfl⟩
 ·
  refine OD.rL 6 [(2,.loc 0 0),(5,.loc 1 0),(6,.i64 5)] [.box [.i64 0, .lit (.slice none 0 0), .bool false, .lit (.slice none 0 0), .i64 0, .i64 0], .box (celN zeroN)] ?_
  refine OD.nil (CD.seq (CD.seq (CD.region ?_)))
  refine OD.rE 12 [(2,.loc 0 0),(5,.loc 1 0),(26,.bool true)] ?_
  refine OD.nil ?_
  refine CD.condT rfl ?_
  refine CD.seq (CD.region ?_)
  refine OD.rL 4 [(2,.loc 0 0),(3,.lit (.pointer none)),(4,.bool false)] [.box (celN zeroN), .box (celN zeroN)] ?_
  refine OD.nil (CD.ret ?_)
  (try dsimp only); first | refine resP_r ?_ | refine resP_n ?_
  exact rO 0 (.tup [.agg (celN zeroN), .lit (.pointer none), .bool false]) [] (progQ_none hno)
 ·
  obtain ⟨hf, hal, hz60⟩ := parse_good hN
  have hz : size (.mk k set no kids mn mx) < 4611686018427387904 := by omega
  refine OD.rL 6 [(2,.loc 0 0),(5,.loc 1 0),(6,.i64 0)] [.box [.i64 0, .lit (.slice none 0 0), .bool false, .lit (.slice none 0 0), .i64 0, .i64 0], .box [.i64 k, .sl 2 set.length (set.flatMap encR), .bool no, .sl 6 kids.length (encNs kids), .i64 mn, .i64 mx]] ?_
  refine OD.nil (CD.seq (CD.seq (CD.region ?_)))
  refine OD.rE 4 [(2,.loc 0 0),(5,.loc 1 0),(17,.bool false),(18,.agg [.i64 k, .sl 2 set.length (set.flatMap encR), .bool no, .sl 6 kids.length (encNs kids), .i64 mn, .i64 mx])] ?_
  refine OD.guard rfl rfl ?_
  refine OD.cE (Weight_ok _ k set no kids mn mx (Nat.le_refl _) hf hal) ?_
  refine OD.rE 3 [(2,.loc 0 0),(5,.loc 1 0),(22,.bool (decide ((400 : Int) < ((wr K14 1000000 (.mk k set no kids mn mx) : Nat) : Int))))] ?_
  refine OD.ifP 22 rfl (fun h1 => ?_) (fun h1 => ?_)
  ·
   refine OD.rE 4 [(2,.loc 0 0),(5,.loc 1 0),(26,.bool true)] ?_
   refine OD.nil ?_
   refine CD.condT rfl ?_
   refine CD.seq (CD.region ?_)
   refine OD.rL 4 [(2,.loc 0 0),(3,.lit (.pointer none)),(4,.bool false)] [.box [.i64 k, .sl 2 set.length (set.flatMap encR), .bool no, .sl 6 kids.length (encNs kids), .i64 mn, .i64 mx], .box [.i64 k, .sl 2 set.length (set.flatMap encR), .bool no, .sl 6 kids.length (encNs kids), .i64 mn, .i64 mx]] ?_
   refine OD.nil (CD.ret ?_)
   (try dsimp only); first | refine resP_r ?_ | refine resP_n ?_
   exact rO 0 (.tup [.agg [.i64 k, .sl 2 set.length (set.flatMap encR), .bool no, .sl 6 kids.length (encNs kids), .i64 mn, .i64 mx], .lit (.pointer none), .bool false]) [] (progQ_big hN (by omega))
  ·
   refine OD.rE 1 [(2,.loc 0 0),(5,.loc 1 0),(22,.bool false),(23,.agg [.i64 k, .sl 2 set.length (set.flatMap encR), .bool no, .sl 6 kids.length (encNs kids), .i64 mn, .i64 mx])] ?_
   refine OD.guard rfl rfl ?_
   refine OD.cE (Deep_ok _ k set no kids mn mx (Nat.le_refl _) hf hz) ?_
   refine OD.rE 2 [(2,.loc 0 0),(5,.loc 1 0),(26,.bool (decide ((10 : Int) < ((deep (.mk k set no kids mn mx) : Nat) : Int))))] ?_
   refine OD.nil ?_
   refine CD.condP rfl (fun h2 => ?_) (fun h2 => ?_)
   ·
    refine CD.seq (CD.region ?_)
    refine OD.rL 4 [(2,.loc 0 0),(3,.lit (.pointer none)),(4,.bool false)] [.box [.i64 k, .sl 2 set.length (set.flatMap encR), .bool no, .sl 6 kids.length (encNs kids), .i64 mn, .i64 mx], .box [.i64 k, .sl 2 set.length (set.flatMap encR), .bool no, .sl 6 kids.length (encNs kids), .i64 mn, .i64 mx]] ?_
    refine OD.nil (CD.ret ?_)
    (try dsimp only); first | refine resP_r ?_ | refine resP_n ?_
    exact rO 0 (.tup [.agg [.i64 k, .sl 2 set.length (set.flatMap encR), .bool no, .sl 6 kids.length (encNs kids), .i64 mn, .i64 mx], .lit (.pointer none), .bool false]) [] (progQ_big hN (by omega))
   ·
    refine CD.skip (CD.seq (CD.region ?_))
    have hcn := cnt_of (N := (.mk k set no kids mn mx)) (by omega) hz60 hal
    refine OD.rE 1 [(2,.loc 0 0),(5,.loc 1 0),(29,.agg [.i64 k, .sl 2 set.length (set.flatMap encR), .bool no, .sl 6 kids.length (encNs kids), .i64 mn, .i64 mx])] ?_
    refine OD.cO [] [.agg [.i64 k, .sl 2 set.length (set.flatMap encR), .bool no, .sl 6 kids.length (encNs kids), .i64 mn, .i64 mx]] (Compile_ok k set no kids mn mx hf) (fun r L1 hr => ?_)
    rcases hr with ⟨hc1, hc2, n1, hn1, rfl, rfl⟩ | ⟨hc1, hc2, rfl, rfl⟩ | ⟨hc1, rfl, rfl⟩
    ·
     have hal := cnt_loc hc1
     have hml := machine_len hal hc2
     refine OD.rE 5 [(2,.loc 0 0),(5,.loc 1 0),(7,.loc 3 0),(8,.i64 0)] ?_
     refine OD.nil (CD.seq (CD.region ?_))
     refine OD.rL 7 [(2,.loc 0 0),(3,.loc 3 0),(4,.bool true)] [.box [.i64 k, .sl 2 set.length (set.flatMap encR), .bool no, .sl 6 kids.length (encNs kids), .i64 mn, .i64 mx], .box [.i64 k, .sl 2 set.length (set.flatMap encR), .bool no, .sl 6 kids.length (encNs kids), .i64 mn, .i64 mx], .box [.i64 k, .sl 2 set.length (set.flatMap encR), .bool no, .sl 6 kids.length (encNs kids), .i64 mn, .i64 mx], .box [.sl 9 n1 (((machine K14 (.mk k set no kids mn mx)).1).flatMap encSta), .i64 (((machine K14 (.mk k set no kids mn mx)).2 : Nat) : Int), .i64 ((wp K14 20001 (.mk k set no kids mn mx) : Nat) : Int)], .dead] ?_
     refine OD.nil (CD.ret ?_)
     (try dsimp only); first | refine resP_r ?_ | refine resP_n ?_
     exact rO 4 (.tup [.agg [.i64 k, .sl 2 set.length (set.flatMap encR), .bool no, .sl 6 kids.length (encNs kids), .i64 mn, .i64 mx], .loc 3 0, .bool true]) [.box [.i64 k, .sl 2 set.length (set.flatMap encR), .bool no, .sl 6 kids.length (encNs kids), .i64 mn, .i64 mx], .box [.i64 k, .sl 2 set.length (set.flatMap encR), .bool no, .sl 6 kids.length (encNs kids), .i64 mn, .i64 mx], .box [.i64 k, .sl 2 set.length (set.flatMap encR), .bool no, .sl 6 kids.length (encNs kids), .i64 mn, .i64 mx], .box [.sl 9 n1 (((machine K14 (.mk k set no kids mn mx)).1).flatMap encSta), .i64 (((machine K14 (.mk k set no kids mn mx)).2 : Nat) : Int), .i64 ((wp K14 20001 (.mk k set no kids mn mx) : Nat) : Int)]] (.inr ⟨(.mk k set no kids mn mx), n1, hN, hn1, by omega, by omega, rfl, rfl⟩)
    ·
     refine OD.rE 5 [(2,.loc 0 0),(5,.loc 1 0),(7,.lit (.pointer none)),(8,.i64 3)] ?_
     refine OD.nil (CD.seq (CD.region ?_))
     refine OD.rL 7 [(2,.loc 0 0),(3,.lit (.pointer none)),(4,.bool false)] [.box [.i64 k, .sl 2 set.length (set.flatMap encR), .bool no, .sl 6 kids.length (encNs kids), .i64 mn, .i64 mx], .box [.i64 k, .sl 2 set.length (set.flatMap encR), .bool no, .sl 6 kids.length (encNs kids), .i64 mn, .i64 mx]] ?_
     refine OD.nil (CD.ret ?_)
     exfalso; first | omega | (have := wr_small hc2; omega) | (have := wr_big hc2; omega)
    ·
     refine OD.rE 5 [(2,.loc 0 0),(5,.loc 1 0),(7,.lit (.pointer none)),(8,.i64 5)] ?_
     refine OD.nil (CD.seq (CD.region ?_))
     refine OD.rL 7 [(2,.loc 0 0),(3,.lit (.pointer none)),(4,.bool false)] [.box [.i64 k, .sl 2 set.length (set.flatMap encR), .bool no, .sl 6 kids.length (encNs kids), .i64 mn, .i64 mx], .box [.i64 k, .sl 2 set.length (set.flatMap encR), .bool no, .sl 6 kids.length (encNs kids), .i64 mn, .i64 mx]] ?_
     refine OD.nil (CD.ret ?_)
     exfalso; first | omega | (have := wr_small hc2; omega) | (have := wr_big hc2; omega)
end
end Go.Proofs.YtfcadnhoejlgoaaGreatDoor
set_option maxRecDepth 100000
set_option maxHeartbeats 4000000
namespace Go.Proofs.YtfcadnhoejlgoaaGreatDoor
open Go.Vai Go.Nfa
noncomputable section
end
end Go.Proofs.YtfcadnhoejlgoaaGreatDoor
set_option maxRecDepth 100000
namespace Go.Vai
open Go.Nfa Go.Utf
theorem parse_p1 : parseM (ByteArray.extract ⟨#[94, 46]⟩ 0 (min (ByteArray.size ⟨#[94, 46]⟩) 30)) = some p1N := by kernel_rfl
theorem parse_p2 : parseM (ByteArray.extract ⟨#[46, 36]⟩ 0 (min (ByteArray.size ⟨#[46, 36]⟩) 30)) = some p2N := by kernel_rfl
theorem parse_p3 : parseM (ByteArray.extract ⟨#[94, 46, 42, 36]⟩ 0 (min (ByteArray.size ⟨#[94, 46, 42, 36]⟩) 30)) = some p3N := by kernel_rfl
theorem small_p1 : wr K14 1000000 p1N ≤ 400 ∧ deep p1N ≤ 10 := ⟨Nat.le_of_ble_eq_true (by kernel_rfl), Nat.le_of_ble_eq_true (by kernel_rfl)⟩
theorem small_p2 : wr K14 1000000 p2N ≤ 400 ∧ deep p2N ≤ 10 := ⟨Nat.le_of_ble_eq_true (by kernel_rfl), Nat.le_of_ble_eq_true (by kernel_rfl)⟩
theorem small_p3 : wr K14 1000000 p3N ≤ 400 ∧ deep p3N ≤ 10 := ⟨Nat.le_of_ble_eq_true (by kernel_rfl), Nat.le_of_ble_eq_true (by kernel_rfl)⟩
end Go.Vai
set_option maxRecDepth 100000
set_option maxHeartbeats 4000000
namespace Go.Proofs.YtfcadnhoejlgoaaGreatDoor
open Go.Vai Go.Nfa
noncomputable section
theorem FindAnchors_fn (s : ByteArray) (hsz : s.size ≤ 1048576) : PureD P ov 5 [.str s] (.bool true) := by
 refine FnD.intro (by kernel_rfl) (fn := Tryz.f5) (by kernel_rfl) rfl (by kernel_rfl) fun M a0 g0 hg0 => ?_
 refine CD.seq (CD.region ?_)
 refine OD.rE 1 [(0,.str s)] ?_
 refine OD.nil (CD.seq (CD.region ?_))
 refine OD.cE (FnD.known rfl (fun _ => rfl)) ?_
 refine OD.rE 1 [(0,.str s),(3,.bool true)] ?_
 refine OD.nil (CD.seq (CD.seq (CD.region ?_)))
 refine OD.rE 2 [(0,.str s),(25,.bool false)] ?_
 refine OD.nil ?_
 refine CD.condF rfl ?_
 refine CD.skip (CD.seq (CD.region ?_))
 refine OD.rE 1 [(26,.str s)] ?_
 refine OD.cP (fun r => ∃ l : List Int, r = .sl 1 l.length (l.map (D.int .i32)) ∧ l.length ≤ 25) (text11_ok s (by omega)) (fun r hr => ?_)
 obtain ⟨l, rfl, hll⟩ := hr
 have hlb : l.length ≤ 1000000 := by omega
 refine OD.rE 1 [(4,.sl 1 l.length (l.map (D.int .i32)))] ?_
 refine OD.nil (CD.seq (CD.region ?_))
 refine OD.cO [] [.str (⟨#[94, 46]⟩ : ByteArray)] (prog_ok (⟨#[94, 46]⟩ : ByteArray)) (fun r L1 hr => ?_)
 rcases hr with ⟨⟨k, set, no, kids, mn, mx⟩, hno, rfl, rfl⟩ | ⟨⟨k, set, no, kids, mn, mx⟩, n1, hN, hn1, hwp, hdp, rfl, rfl⟩
 · exact absurd small_p1 (hno _ parse_p1)
 obtain ⟨hf, hal, hz60⟩ := parse_good hN
 have hml := machine_len hal hwp
 have hsb : n1 ≤ 1000000 := by omega
 have hne : p1N = (.mk k set no kids mn mx) := Option.some.inj (parse_p1.symm.trans hN)
 refine OD.rL 8 [(4,.sl 1 l.length (l.map (D.int .i32))),(6,.loc 3 0),(7,.bool true)] [.box [.i64 k, .sl 2 set.length (set.flatMap encR), .bool no, .sl 6 kids.length (encNs kids), .i64 mn, .i64 mx], .box [.i64 k, .sl 2 set.length (set.flatMap encR), .bool no, .sl 6 kids.length (encNs kids), .i64 mn, .i64 mx], .box [.i64 k, .sl 2 set.length (set.flatMap encR), .bool no, .sl 6 kids.length (encNs kids), .i64 mn, .i64 mx], .box [.sl 9 n1 (((machine K14 (.mk k set no kids mn mx)).1).flatMap encSta), .i64 (((machine K14 (.mk k set no kids mn mx)).2 : Nat) : Int), .i64 ((wp K14 20001 (.mk k set no kids mn mx) : Nat) : Int)], .box [.i64 k, .sl 2 set.length (set.flatMap encR), .bool no, .sl 6 kids.length (encNs kids), .i64 mn, .i64 mx]] ?_
 refine OD.nil (CD.seq (CD.region ?_))
 refine OD.cO [] [.str (⟨#[46, 36]⟩ : ByteArray)] (prog_ok (⟨#[46, 36]⟩ : ByteArray)) (fun r L1 hr => ?_)
 rcases hr with ⟨⟨k2, set2, no2, kids2, mn2, mx2⟩, hno, rfl, rfl⟩ | ⟨⟨k2, set2, no2, kids2, mn2, mx2⟩, n1b, hNb, hn1b, hwpb, hdpb, rfl, rfl⟩
 · exact absurd small_p2 (hno _ parse_p2)
 obtain ⟨hfb, halb, hz60b⟩ := parse_good hNb
 have hmlb := machine_len halb hwpb
 have hsbb : n1b ≤ 1000000 := by omega
 have hneb : p2N = (.mk k2 set2 no2 kids2 mn2 mx2) := Option.some.inj (parse_p2.symm.trans hNb)
 refine OD.rL 8 [(4,.sl 1 l.length (l.map (D.int .i32))),(6,.loc 3 0),(7,.bool true),(9,.loc 8 0),(10,.bool true)] [.box [.i64 k, .sl 2 set.length (set.flatMap encR), .bool no, .sl 6 kids.length (encNs kids), .i64 mn, .i64 mx], .box [.i64 k, .sl 2 set.length (set.flatMap encR), .bool no, .sl 6 kids.length (encNs kids), .i64 mn, .i64 mx], .box [.i64 k, .sl 2 set.length (set.flatMap encR), .bool no, .sl 6 kids.length (encNs kids), .i64 mn, .i64 mx], .box [.sl 9 n1 (((machine K14 (.mk k set no kids mn mx)).1).flatMap encSta), .i64 (((machine K14 (.mk k set no kids mn mx)).2 : Nat) : Int), .i64 ((wp K14 20001 (.mk k set no kids mn mx) : Nat) : Int)], .box [.i64 k, .sl 2 set.length (set.flatMap encR), .bool no, .sl 6 kids.length (encNs kids), .i64 mn, .i64 mx], .box [.i64 k2, .sl 2 set2.length (set2.flatMap encR), .bool no2, .sl 6 kids2.length (encNs kids2), .i64 mn2, .i64 mx2], .box [.i64 k2, .sl 2 set2.length (set2.flatMap encR), .bool no2, .sl 6 kids2.length (encNs kids2), .i64 mn2, .i64 mx2], .box [.i64 k2, .sl 2 set2.length (set2.flatMap encR), .bool no2, .sl 6 kids2.length (encNs kids2), .i64 mn2, .i64 mx2], .box [.sl 9 n1b (((machine K14 (.mk k2 set2 no2 kids2 mn2 mx2)).1).flatMap encSta), .i64 (((machine K14 (.mk k2 set2 no2 kids2 mn2 mx2)).2 : Nat) : Int), .i64 ((wp K14 20001 (.mk k2 set2 no2 kids2 mn2 mx2) : Nat) : Int)], .box [.i64 k2, .sl 2 set2.length (set2.flatMap encR), .bool no2, .sl 6 kids2.length (encNs kids2), .i64 mn2, .i64 mx2]] ?_
 refine OD.nil (CD.seq (CD.region ?_))
 refine OD.cO [] [.str (⟨#[94, 46, 42, 36]⟩ : ByteArray)] (prog_ok (⟨#[94, 46, 42, 36]⟩ : ByteArray)) (fun r L1 hr => ?_)
 rcases hr with ⟨⟨k3, set3, no3, kids3, mn3, mx3⟩, hno, rfl, rfl⟩ | ⟨⟨k3, set3, no3, kids3, mn3, mx3⟩, n1c, hNc, hn1c, hwpc, hdpc, rfl, rfl⟩
 · exact absurd small_p3 (hno _ parse_p3)
 obtain ⟨hfc, halc, hz60c⟩ := parse_good hNc
 have hmlc := machine_len halc hwpc
 have hsbc : n1c ≤ 1000000 := by omega
 have hnec : p3N = (.mk k3 set3 no3 kids3 mn3 mx3) := Option.some.inj (parse_p3.symm.trans hNc)
 refine OD.rL 8 [(4,.sl 1 l.length (l.map (D.int .i32))),(6,.loc 3 0),(7,.bool true),(9,.loc 8 0),(10,.bool true),(12,.loc 13 0),(13,.bool true)] [.box [.i64 k, .sl 2 set.length (set.flatMap encR), .bool no, .sl 6 kids.length (encNs kids), .i64 mn, .i64 mx], .box [.i64 k, .sl 2 set.length (set.flatMap encR), .bool no, .sl 6 kids.length (encNs kids), .i64 mn, .i64 mx], .box [.i64 k, .sl 2 set.length (set.flatMap encR), .bool no, .sl 6 kids.length (encNs kids), .i64 mn, .i64 mx], .box [.sl 9 n1 (((machine K14 (.mk k set no kids mn mx)).1).flatMap encSta), .i64 (((machine K14 (.mk k set no kids mn mx)).2 : Nat) : Int), .i64 ((wp K14 20001 (.mk k set no kids mn mx) : Nat) : Int)], .box [.i64 k, .sl 2 set.length (set.flatMap encR), .bool no, .sl 6 kids.length (encNs kids), .i64 mn, .i64 mx], .box [.i64 k2, .sl 2 set2.length (set2.flatMap encR), .bool no2, .sl 6 kids2.length (encNs kids2), .i64 mn2, .i64 mx2], .box [.i64 k2, .sl 2 set2.length (set2.flatMap encR), .bool no2, .sl 6 kids2.length (encNs kids2), .i64 mn2, .i64 mx2], .box [.i64 k2, .sl 2 set2.length (set2.flatMap encR), .bool no2, .sl 6 kids2.length (encNs kids2), .i64 mn2, .i64 mx2], .box [.sl 9 n1b (((machine K14 (.mk k2 set2 no2 kids2 mn2 mx2)).1).flatMap encSta), .i64 (((machine K14 (.mk k2 set2 no2 kids2 mn2 mx2)).2 : Nat) : Int), .i64 ((wp K14 20001 (.mk k2 set2 no2 kids2 mn2 mx2) : Nat) : Int)], .box [.i64 k2, .sl 2 set2.length (set2.flatMap encR), .bool no2, .sl 6 kids2.length (encNs kids2), .i64 mn2, .i64 mx2], .box [.i64 k3, .sl 2 set3.length (set3.flatMap encR), .bool no3, .sl 6 kids3.length (encNs kids3), .i64 mn3, .i64 mx3], .box [.i64 k3, .sl 2 set3.length (set3.flatMap encR), .bool no3, .sl 6 kids3.length (encNs kids3), .i64 mn3, .i64 mx3], .box [.i64 k3, .sl 2 set3.length (set3.flatMap encR), .bool no3, .sl 6 kids3.length (encNs kids3), .i64 mn3, .i64 mx3], .box [.sl 9 n1c (((machine K14 (.mk k3 set3 no3 kids3 mn3 mx3)).1).flatMap encSta), .i64 (((machine K14 (.mk k3 set3 no3 kids3 mn3 mx3)).2 : Nat) : Int), .i64 ((wp K14 20001 (.mk k3 set3 no3 kids3 mn3 mx3) : Nat) : Int)], .box [.i64 k3, .sl 2 set3.length (set3.flatMap encR), .bool no3, .sl 6 kids3.length (encNs kids3), .i64 mn3, .i64 mx3]] ?_
 refine OD.nil (CD.seq (CD.seq (CD.region ?_)))
 refine OD.rE 10 [(4,.sl 1 l.length (l.map (D.int .i32))),(6,.loc 3 0),(9,.loc 8 0),(12,.loc 13 0),(52,.bool false)] ?_
 refine OD.nil ?_
 refine CD.condF rfl ?_
 refine CD.skip (CD.seq (CD.region ?_))
 refine OD.rE 2 [(4,.sl 1 l.length (l.map (D.int .i32))),(6,.loc 3 0),(9,.loc 8 0),(12,.loc 13 0),(54,.loc 3 0),(55,.sl 1 l.length (l.map (D.int .i32)))] ?_
 refine OD.cO [3] [.loc 3 0, .sl 1 l.length (l.map (D.int .i32)), .i64 0] (Next_ok k set no kids mn mx n1 l 0 hf hal hn1 hsb hlb) (fun r L1 hr => ?_)
 obtain ⟨rfl, rfl⟩ := hr
 refine OD.rL 7 [(4,.sl 1 l.length (l.map (D.int .i32))),(6,.loc 3 0),(9,.loc 8 0),(12,.loc 13 0),(14,.i64 ((nextR l (.mk k set no kids mn mx) 0).1)),(15,.i64 ((nextR l (.mk k set no kids mn mx) 0).2.1)),(16,.bool (nextR l (.mk k set no kids mn mx) 0).2.2)] [.box [.i64 k, .sl 2 set.length (set.flatMap encR), .bool no, .sl 6 kids.length (encNs kids), .i64 mn, .i64 mx], .box [.i64 k, .sl 2 set.length (set.flatMap encR), .bool no, .sl 6 kids.length (encNs kids), .i64 mn, .i64 mx], .box [.i64 k, .sl 2 set.length (set.flatMap encR), .bool no, .sl 6 kids.length (encNs kids), .i64 mn, .i64 mx], .box [.sl 9 n1 (((machine K14 (.mk k set no kids mn mx)).1).flatMap encSta), .i64 (((machine K14 (.mk k set no kids mn mx)).2 : Nat) : Int), .i64 ((wp K14 20001 (.mk k set no kids mn mx) : Nat) : Int)], .box [.i64 k, .sl 2 set.length (set.flatMap encR), .bool no, .sl 6 kids.length (encNs kids), .i64 mn, .i64 mx], .box [.i64 k2, .sl 2 set2.length (set2.flatMap encR), .bool no2, .sl 6 kids2.length (encNs kids2), .i64 mn2, .i64 mx2], .box [.i64 k2, .sl 2 set2.length (set2.flatMap encR), .bool no2, .sl 6 kids2.length (encNs kids2), .i64 mn2, .i64 mx2], .box [.i64 k2, .sl 2 set2.length (set2.flatMap encR), .bool no2, .sl 6 kids2.length (encNs kids2), .i64 mn2, .i64 mx2], .box [.sl 9 n1b (((machine K14 (.mk k2 set2 no2 kids2 mn2 mx2)).1).flatMap encSta), .i64 (((machine K14 (.mk k2 set2 no2 kids2 mn2 mx2)).2 : Nat) : Int), .i64 ((wp K14 20001 (.mk k2 set2 no2 kids2 mn2 mx2) : Nat) : Int)], .box [.i64 k2, .sl 2 set2.length (set2.flatMap encR), .bool no2, .sl 6 kids2.length (encNs kids2), .i64 mn2, .i64 mx2], .box [.i64 k3, .sl 2 set3.length (set3.flatMap encR), .bool no3, .sl 6 kids3.length (encNs kids3), .i64 mn3, .i64 mx3], .box [.i64 k3, .sl 2 set3.length (set3.flatMap encR), .bool no3, .sl 6 kids3.length (encNs kids3), .i64 mn3, .i64 mx3], .box [.i64 k3, .sl 2 set3.length (set3.flatMap encR), .bool no3, .sl 6 kids3.length (encNs kids3), .i64 mn3, .i64 mx3], .box [.sl 9 n1c (((machine K14 (.mk k3 set3 no3 kids3 mn3 mx3)).1).flatMap encSta), .i64 (((machine K14 (.mk k3 set3 no3 kids3 mn3 mx3)).2 : Nat) : Int), .i64 ((wp K14 20001 (.mk k3 set3 no3 kids3 mn3 mx3) : Nat) : Int)], .box [.i64 k3, .sl 2 set3.length (set3.flatMap encR), .bool no3, .sl 6 kids3.length (encNs kids3), .i64 mn3, .i64 mx3]] ?_
 refine OD.nil (CD.seq (CD.region ?_))
 refine OD.rE 2 [(4,.sl 1 l.length (l.map (D.int .i32))),(9,.loc 8 0),(12,.loc 13 0),(14,.i64 ((nextR l (.mk k set no kids mn mx) 0).1)),(15,.i64 ((nextR l (.mk k set no kids mn mx) 0).2.1)),(16,.bool (nextR l (.mk k set no kids mn mx) 0).2.2),(61,.loc 3 0),(62,.sl 1 l.length (l.map (D.int .i32)))] ?_
 refine OD.cO [3] [.loc 3 0, .sl 1 l.length (l.map (D.int .i32)), .i64 1] (Next_ok k set no kids mn mx n1 l 1 hf hal hn1 hsb hlb) (fun r L1 hr => ?_)
 obtain ⟨rfl, rfl⟩ := hr
 refine OD.rL 7 [(4,.sl 1 l.length (l.map (D.int .i32))),(9,.loc 8 0),(12,.loc 13 0),(14,.i64 ((nextR l (.mk k set no kids mn mx) 0).1)),(15,.i64 ((nextR l (.mk k set no kids mn mx) 0).2.1)),(16,.bool (nextR l (.mk k set no kids mn mx) 0).2.2),(19,.bool (nextR l (.mk k set no kids mn mx) 1).2.2)] [.box [.i64 k, .sl 2 set.length (set.flatMap encR), .bool no, .sl 6 kids.length (encNs kids), .i64 mn, .i64 mx], .box [.i64 k, .sl 2 set.length (set.flatMap encR), .bool no, .sl 6 kids.length (encNs kids), .i64 mn, .i64 mx], .box [.i64 k, .sl 2 set.length (set.flatMap encR), .bool no, .sl 6 kids.length (encNs kids), .i64 mn, .i64 mx], .box [.sl 9 n1 (((machine K14 (.mk k set no kids mn mx)).1).flatMap encSta), .i64 (((machine K14 (.mk k set no kids mn mx)).2 : Nat) : Int), .i64 ((wp K14 20001 (.mk k set no kids mn mx) : Nat) : Int)], .box [.i64 k, .sl 2 set.length (set.flatMap encR), .bool no, .sl 6 kids.length (encNs kids), .i64 mn, .i64 mx], .box [.i64 k2, .sl 2 set2.length (set2.flatMap encR), .bool no2, .sl 6 kids2.length (encNs kids2), .i64 mn2, .i64 mx2], .box [.i64 k2, .sl 2 set2.length (set2.flatMap encR), .bool no2, .sl 6 kids2.length (encNs kids2), .i64 mn2, .i64 mx2], .box [.i64 k2, .sl 2 set2.length (set2.flatMap encR), .bool no2, .sl 6 kids2.length (encNs kids2), .i64 mn2, .i64 mx2], .box [.sl 9 n1b (((machine K14 (.mk k2 set2 no2 kids2 mn2 mx2)).1).flatMap encSta), .i64 (((machine K14 (.mk k2 set2 no2 kids2 mn2 mx2)).2 : Nat) : Int), .i64 ((wp K14 20001 (.mk k2 set2 no2 kids2 mn2 mx2) : Nat) : Int)], .box [.i64 k2, .sl 2 set2.length (set2.flatMap encR), .bool no2, .sl 6 kids2.length (encNs kids2), .i64 mn2, .i64 mx2], .box [.i64 k3, .sl 2 set3.length (set3.flatMap encR), .bool no3, .sl 6 kids3.length (encNs kids3), .i64 mn3, .i64 mx3], .box [.i64 k3, .sl 2 set3.length (set3.flatMap encR), .bool no3, .sl 6 kids3.length (encNs kids3), .i64 mn3, .i64 mx3], .box [.i64 k3, .sl 2 set3.length (set3.flatMap encR), .bool no3, .sl 6 kids3.length (encNs kids3), .i64 mn3, .i64 mx3], .box [.sl 9 n1c (((machine K14 (.mk k3 set3 no3 kids3 mn3 mx3)).1).flatMap encSta), .i64 (((machine K14 (.mk k3 set3 no3 kids3 mn3 mx3)).2 : Nat) : Int), .i64 ((wp K14 20001 (.mk k3 set3 no3 kids3 mn3 mx3) : Nat) : Int)], .box [.i64 k3, .sl 2 set3.length (set3.flatMap encR), .bool no3, .sl 6 kids3.length (encNs kids3), .i64 mn3, .i64 mx3]] ?_
 refine OD.nil (CD.seq (CD.region ?_))
 refine OD.rE 4 [(4,.sl 1 l.length (l.map (D.int .i32))),(12,.loc 13 0),(14,.i64 ((nextR l (.mk k set no kids mn mx) 0).1)),(15,.i64 ((nextR l (.mk k set no kids mn mx) 0).2.1)),(16,.bool (nextR l (.mk k set no kids mn mx) 0).2.2),(19,.bool (nextR l (.mk k set no kids mn mx) 1).2.2),(68,.loc 8 0),(69,.sl 1 l.length (l.map (D.int .i32))),(71,.i64 l.length)] ?_
 refine OD.cO [8] [.loc 8 0, .sl 1 l.length (l.map (D.int .i32)), .i64 l.length] (Last_ok k2 set2 no2 kids2 mn2 mx2 n1b l ((l.length : Nat) : Int) hfb halb hn1b hsbb hlb) (fun r L1 hr => ?_)
 obtain ⟨rfl, rfl⟩ := hr
 refine OD.rL 7 [(4,.sl 1 l.length (l.map (D.int .i32))),(12,.loc 13 0),(14,.i64 ((nextR l (.mk k set no kids mn mx) 0).1)),(15,.i64 ((nextR l (.mk k set no kids mn mx) 0).2.1)),(16,.bool (nextR l (.mk k set no kids mn mx) 0).2.2),(19,.bool (nextR l (.mk k set no kids mn mx) 1).2.2),(20,.i64 ((lastR l (.mk k2 set2 no2 kids2 mn2 mx2) ((l.length : Nat) : Int)).1)),(21,.i64 ((lastR l (.mk k2 set2 no2 kids2 mn2 mx2) ((l.length : Nat) : Int)).2.1)),(22,.bool (lastR l (.mk k2 set2 no2 kids2 mn2 mx2) ((l.length : Nat) : Int)).2.2)] [.box [.i64 k, .sl 2 set.length (set.flatMap encR), .bool no, .sl 6 kids.length (encNs kids), .i64 mn, .i64 mx], .box [.i64 k, .sl 2 set.length (set.flatMap encR), .bool no, .sl 6 kids.length (encNs kids), .i64 mn, .i64 mx], .box [.i64 k, .sl 2 set.length (set.flatMap encR), .bool no, .sl 6 kids.length (encNs kids), .i64 mn, .i64 mx], .box [.sl 9 n1 (((machine K14 (.mk k set no kids mn mx)).1).flatMap encSta), .i64 (((machine K14 (.mk k set no kids mn mx)).2 : Nat) : Int), .i64 ((wp K14 20001 (.mk k set no kids mn mx) : Nat) : Int)], .box [.i64 k, .sl 2 set.length (set.flatMap encR), .bool no, .sl 6 kids.length (encNs kids), .i64 mn, .i64 mx], .box [.i64 k2, .sl 2 set2.length (set2.flatMap encR), .bool no2, .sl 6 kids2.length (encNs kids2), .i64 mn2, .i64 mx2], .box [.i64 k2, .sl 2 set2.length (set2.flatMap encR), .bool no2, .sl 6 kids2.length (encNs kids2), .i64 mn2, .i64 mx2], .box [.i64 k2, .sl 2 set2.length (set2.flatMap encR), .bool no2, .sl 6 kids2.length (encNs kids2), .i64 mn2, .i64 mx2], .box [.sl 9 n1b (((machine K14 (.mk k2 set2 no2 kids2 mn2 mx2)).1).flatMap encSta), .i64 (((machine K14 (.mk k2 set2 no2 kids2 mn2 mx2)).2 : Nat) : Int), .i64 ((wp K14 20001 (.mk k2 set2 no2 kids2 mn2 mx2) : Nat) : Int)], .box [.i64 k2, .sl 2 set2.length (set2.flatMap encR), .bool no2, .sl 6 kids2.length (encNs kids2), .i64 mn2, .i64 mx2], .box [.i64 k3, .sl 2 set3.length (set3.flatMap encR), .bool no3, .sl 6 kids3.length (encNs kids3), .i64 mn3, .i64 mx3], .box [.i64 k3, .sl 2 set3.length (set3.flatMap encR), .bool no3, .sl 6 kids3.length (encNs kids3), .i64 mn3, .i64 mx3], .box [.i64 k3, .sl 2 set3.length (set3.flatMap encR), .bool no3, .sl 6 kids3.length (encNs kids3), .i64 mn3, .i64 mx3], .box [.sl 9 n1c (((machine K14 (.mk k3 set3 no3 kids3 mn3 mx3)).1).flatMap encSta), .i64 (((machine K14 (.mk k3 set3 no3 kids3 mn3 mx3)).2 : Nat) : Int), .i64 ((wp K14 20001 (.mk k3 set3 no3 kids3 mn3 mx3) : Nat) : Int)], .box [.i64 k3, .sl 2 set3.length (set3.flatMap encR), .bool no3, .sl 6 kids3.length (encNs kids3), .i64 mn3, .i64 mx3]] ?_
 refine OD.nil (CD.seq (CD.seq (CD.region ?_)))
 refine OD.rE 3 [(4,.sl 1 l.length (l.map (D.int .i32))),(12,.loc 13 0),(14,.i64 ((nextR l (.mk k set no kids mn mx) 0).1)),(15,.i64 ((nextR l (.mk k set no kids mn mx) 0).2.1)),(16,.bool (nextR l (.mk k set no kids mn mx) 0).2.2),(19,.bool (nextR l (.mk k set no kids mn mx) 1).2.2),(20,.i64 ((lastR l (.mk k2 set2 no2 kids2 mn2 mx2) ((l.length : Nat) : Int)).1)),(21,.i64 ((lastR l (.mk k2 set2 no2 kids2 mn2 mx2) ((l.length : Nat) : Int)).2.1)),(22,.bool (lastR l (.mk k2 set2 no2 kids2 mn2 mx2) ((l.length : Nat) : Int)).2.2),(78,.bool (decide ((((l.length : Nat) : Int) : Int) = 0)))] ?_
 refine OD.nil ?_
 refine CD.condP rfl (fun h1 => ?_) (fun h1 => ?_)
 ·
  refine CD.seq (CD.region ?_)
  refine OD.is 16 rfl (congrArg (D.bool) (show (nextR l (.mk k set no kids mn mx) 0).2.2 = false from by rw [← hne]; exact congrArg (fun q : Hit3 => q.2.2) (p1_nil (by omega) _))) ?_
  refine OD.is 22 rfl (congrArg (D.bool) (show (lastR l (.mk k2 set2 no2 kids2 mn2 mx2) ((l.length : Nat) : Int)).2.2 = false from by rw [← hneb]; exact congrArg (fun q : Hit3 => q.2.2) (p2_nil (by omega) _))) ?_
  refine OD.rE 9 [(85,.bool true),(86,.loc 13 0),(87,.sl 1 l.length (l.map (D.int .i32)))] ?_
  refine OD.guard rfl rfl ?_
  refine OD.cO [13] [.loc 13 0, .sl 1 l.length (l.map (D.int .i32)), .i64 0] (At_ok k3 set3 no3 kids3 mn3 mx3 n1c l 0 hfc halc hn1c hsbc hlb) (fun r L1 hr => ?_)
  obtain ⟨rfl, rfl⟩ := hr
  refine OD.is 88 rfl (congrArg (D.int .i64) (show atR l (.mk k3 set3 no3 kids3 mn3 mx3) 0 = ((l.length : Nat) : Int) from (by rw [← hnec]; exact p3_at))) ?_
  refine OD.rL 1 [(85,.bool true),(89,.bool (decide ((((l.length : Nat) : Int) : Int) = 0)))] [.box [.i64 k, .sl 2 set.length (set.flatMap encR), .bool no, .sl 6 kids.length (encNs kids), .i64 mn, .i64 mx], .box [.i64 k, .sl 2 set.length (set.flatMap encR), .bool no, .sl 6 kids.length (encNs kids), .i64 mn, .i64 mx], .box [.i64 k, .sl 2 set.length (set.flatMap encR), .bool no, .sl 6 kids.length (encNs kids), .i64 mn, .i64 mx], .box [.sl 9 n1 (((machine K14 (.mk k set no kids mn mx)).1).flatMap encSta), .i64 (((machine K14 (.mk k set no kids mn mx)).2 : Nat) : Int), .i64 ((wp K14 20001 (.mk k set no kids mn mx) : Nat) : Int)], .box [.i64 k, .sl 2 set.length (set.flatMap encR), .bool no, .sl 6 kids.length (encNs kids), .i64 mn, .i64 mx], .box [.i64 k2, .sl 2 set2.length (set2.flatMap encR), .bool no2, .sl 6 kids2.length (encNs kids2), .i64 mn2, .i64 mx2], .box [.i64 k2, .sl 2 set2.length (set2.flatMap encR), .bool no2, .sl 6 kids2.length (encNs kids2), .i64 mn2, .i64 mx2], .box [.i64 k2, .sl 2 set2.length (set2.flatMap encR), .bool no2, .sl 6 kids2.length (encNs kids2), .i64 mn2, .i64 mx2], .box [.sl 9 n1b (((machine K14 (.mk k2 set2 no2 kids2 mn2 mx2)).1).flatMap encSta), .i64 (((machine K14 (.mk k2 set2 no2 kids2 mn2 mx2)).2 : Nat) : Int), .i64 ((wp K14 20001 (.mk k2 set2 no2 kids2 mn2 mx2) : Nat) : Int)], .box [.i64 k2, .sl 2 set2.length (set2.flatMap encR), .bool no2, .sl 6 kids2.length (encNs kids2), .i64 mn2, .i64 mx2], .box [.i64 k3, .sl 2 set3.length (set3.flatMap encR), .bool no3, .sl 6 kids3.length (encNs kids3), .i64 mn3, .i64 mx3], .box [.i64 k3, .sl 2 set3.length (set3.flatMap encR), .bool no3, .sl 6 kids3.length (encNs kids3), .i64 mn3, .i64 mx3], .box [.i64 k3, .sl 2 set3.length (set3.flatMap encR), .bool no3, .sl 6 kids3.length (encNs kids3), .i64 mn3, .i64 mx3], .box [.sl 9 n1c (((machine K14 (.mk k3 set3 no3 kids3 mn3 mx3)).1).flatMap encSta), .i64 (((machine K14 (.mk k3 set3 no3 kids3 mn3 mx3)).2 : Nat) : Int), .i64 ((wp K14 20001 (.mk k3 set3 no3 kids3 mn3 mx3) : Nat) : Int)], .box [.i64 k3, .sl 2 set3.length (set3.flatMap encR), .bool no3, .sl 6 kids3.length (encNs kids3), .i64 mn3, .i64 mx3]] ?_
  refine OD.is 89 rfl (congrArg D.bool (decide_eq_true (by omega))) ?_
  refine OD.rE 2 [(2,.bool true)] ?_
  refine OD.nil (CD.ret ?_)
  exact rP (.bool true) (rfl)
 ·
  refine CD.skip (CD.seq (CD.region ?_))
  have hpl : 0 < l.length := by omega
  refine OD.is 14 rfl (congrArg (D.int .i64) (show (nextR l (.mk k set no kids mn mx) 0).1 = 0 from by rw [← hne]; exact congrArg (fun q : Hit3 => q.1) (p1_next hpl))) ?_
  refine OD.is 15 rfl (congrArg (D.int .i64) (show (nextR l (.mk k set no kids mn mx) 0).2.1 = 1 from by rw [← hne]; exact congrArg (fun q : Hit3 => q.2.1) (p1_next hpl))) ?_
  refine OD.is 16 rfl (congrArg (D.bool) (show (nextR l (.mk k set no kids mn mx) 0).2.2 = true from by rw [← hne]; exact congrArg (fun q : Hit3 => q.2.2) (p1_next hpl))) ?_
  refine OD.is 19 rfl (congrArg (D.bool) (show (nextR l (.mk k set no kids mn mx) 1).2.2 = false from by rw [← hne]; exact congrArg (fun q : Hit3 => q.2.2) (p1_none))) ?_
  refine OD.is 20 rfl (congrArg (D.int .i64) (show (lastR l (.mk k2 set2 no2 kids2 mn2 mx2) ((l.length : Nat) : Int)).1 = (((l.length : Nat) : Int) - 1) from by rw [← hneb]; exact congrArg (fun q : Hit3 => q.1) (p2_last hpl))) ?_
  refine OD.is 21 rfl (congrArg (D.int .i64) (show (lastR l (.mk k2 set2 no2 kids2 mn2 mx2) ((l.length : Nat) : Int)).2.1 = 1 from by rw [← hneb]; exact congrArg (fun q : Hit3 => q.2.1) (p2_last hpl))) ?_
  refine OD.is 22 rfl (congrArg (D.bool) (show (lastR l (.mk k2 set2 no2 kids2 mn2 mx2) ((l.length : Nat) : Int)).2.2 = true from by rw [← hneb]; exact congrArg (fun q : Hit3 => q.2.2) (p2_last hpl))) ?_
  refine OD.rE 21 [(4,.sl 1 l.length (l.map (D.int .i32))),(12,.loc 13 0),(21,.i64 1),(107,.bool true),(108,.i64 (((l.length : Nat) : Int) - 1)),(111,.i64 (wrapQ .i64 (((l.length : Nat) : Int) - 1)))] ?_
  refine OD.is 111 rfl (wr64 (by omega) (by omega)) ?_
  refine OD.rE 1 [(4,.sl 1 l.length (l.map (D.int .i32))),(12,.loc 13 0),(21,.i64 1),(107,.bool true),(112,.bool (decide (((((l.length : Nat) : Int) - 1) : Int) = (((l.length : Nat) : Int) - 1))))] ?_
  refine OD.is 112 rfl (congrArg D.bool (decide_eq_true (by omega))) ?_
  refine OD.rE 8 [(4,.sl 1 l.length (l.map (D.int .i32))),(118,.bool true),(119,.loc 13 0),(120,.sl 1 l.length (l.map (D.int .i32)))] ?_
  refine OD.guard rfl rfl ?_
  refine OD.cO [13] [.loc 13 0, .sl 1 l.length (l.map (D.int .i32)), .i64 0] (At_ok k3 set3 no3 kids3 mn3 mx3 n1c l 0 hfc halc hn1c hsbc hlb) (fun r L1 hr => ?_)
  obtain ⟨rfl, rfl⟩ := hr
  refine OD.is 121 rfl (congrArg (D.int .i64) (show atR l (.mk k3 set3 no3 kids3 mn3 mx3) 0 = ((l.length : Nat) : Int) from (by rw [← hnec]; exact p3_at))) ?_
  refine OD.rL 3 [(118,.bool true),(124,.bool (decide ((((l.length : Nat) : Int) : Int) = ((l.length : Nat) : Int))))] [.box [.i64 k, .sl 2 set.length (set.flatMap encR), .bool no, .sl 6 kids.length (encNs kids), .i64 mn, .i64 mx], .box [.i64 k, .sl 2 set.length (set.flatMap encR), .bool no, .sl 6 kids.length (encNs kids), .i64 mn, .i64 mx], .box [.i64 k, .sl 2 set.length (set.flatMap encR), .bool no, .sl 6 kids.length (encNs kids), .i64 mn, .i64 mx], .box [.sl 9 n1 (((machine K14 (.mk k set no kids mn mx)).1).flatMap encSta), .i64 (((machine K14 (.mk k set no kids mn mx)).2 : Nat) : Int), .i64 ((wp K14 20001 (.mk k set no kids mn mx) : Nat) : Int)], .box [.i64 k, .sl 2 set.length (set.flatMap encR), .bool no, .sl 6 kids.length (encNs kids), .i64 mn, .i64 mx], .box [.i64 k2, .sl 2 set2.length (set2.flatMap encR), .bool no2, .sl 6 kids2.length (encNs kids2), .i64 mn2, .i64 mx2], .box [.i64 k2, .sl 2 set2.length (set2.flatMap encR), .bool no2, .sl 6 kids2.length (encNs kids2), .i64 mn2, .i64 mx2], .box [.i64 k2, .sl 2 set2.length (set2.flatMap encR), .bool no2, .sl 6 kids2.length (encNs kids2), .i64 mn2, .i64 mx2], .box [.sl 9 n1b (((machine K14 (.mk k2 set2 no2 kids2 mn2 mx2)).1).flatMap encSta), .i64 (((machine K14 (.mk k2 set2 no2 kids2 mn2 mx2)).2 : Nat) : Int), .i64 ((wp K14 20001 (.mk k2 set2 no2 kids2 mn2 mx2) : Nat) : Int)], .box [.i64 k2, .sl 2 set2.length (set2.flatMap encR), .bool no2, .sl 6 kids2.length (encNs kids2), .i64 mn2, .i64 mx2], .box [.i64 k3, .sl 2 set3.length (set3.flatMap encR), .bool no3, .sl 6 kids3.length (encNs kids3), .i64 mn3, .i64 mx3], .box [.i64 k3, .sl 2 set3.length (set3.flatMap encR), .bool no3, .sl 6 kids3.length (encNs kids3), .i64 mn3, .i64 mx3], .box [.i64 k3, .sl 2 set3.length (set3.flatMap encR), .bool no3, .sl 6 kids3.length (encNs kids3), .i64 mn3, .i64 mx3], .box [.sl 9 n1c (((machine K14 (.mk k3 set3 no3 kids3 mn3 mx3)).1).flatMap encSta), .i64 (((machine K14 (.mk k3 set3 no3 kids3 mn3 mx3)).2 : Nat) : Int), .i64 ((wp K14 20001 (.mk k3 set3 no3 kids3 mn3 mx3) : Nat) : Int)], .box [.i64 k3, .sl 2 set3.length (set3.flatMap encR), .bool no3, .sl 6 kids3.length (encNs kids3), .i64 mn3, .i64 mx3]] ?_
  refine OD.is 124 rfl (congrArg D.bool (decide_eq_true rfl)) ?_
  refine OD.rE 2 [(2,.bool true)] ?_
  refine OD.nil (CD.ret ?_)
  exact rP (.bool true) (rfl)
end
end Go.Proofs.YtfcadnhoejlgoaaGreatDoor
