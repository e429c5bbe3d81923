/-
  What is proved here: what functions of the pattern's package come to (walks that a program of mine has printed). what functions of the pattern's package come to (walks that a program of mine has printed). No conditions but those that the theorems state.
-/
import Derived.Test.YtfcadnhoejlgoaaGreatDoorFA
import Derived.Test.YtfcadnhoejlgoaaGreatDoorUG
import Derived.Test.YtfcadnhoejlgoaaGreatDoorUJ
import Derived.Test.YtfcadnhoejlgoaaGreatDoorRI
import Derived.Test.YtfcadnhoejlgoaaGreatDoorPureEmp
set_option linter.unusedVariables false
set_option linter.unusedSimpArgs false
set_option maxRecDepth 100000
set_option maxHeartbeats 4000000
namespace Go.Proofs.YtfcadnhoejlgoaaGreatDoor
open Go.Vai Go.Nfa
noncomputable section
theorem text11_ok (s : ByteArray) (hsz : s.size ≤ 1048576) : FnD P ov 11 [.str s] [] (fun r L1 => (fun r => ∃ l : List Int, r = .sl 1 l.length (l.map (D.int .i32)) ∧ l.length ≤ 25) r ∧ L1 = []) := by
 refine FnD.intro (by kernel_rfl) (fn := Tryz.f11) (by kernel_rfl) rfl (by kernel_rfl) fun M a0 g0 hg0 => ?_
 refine CD.seq (CD.region ?_)
 refine OD.rE 1 [(0,.str s)] ?_
 refine OD.nil (CD.seq (CD.region ?_))
 refine OD.rE 1 [(6,.str s)] ?_
 refine OD.cP (fun r => ∃ (l : List Int) (n : Nat) (k : Int), r = .tup [.sl 1 n (l.map (D.int .i32)), .i64 k] ∧ l.length = n) (All_ok s (by omega)) (fun r hr => ?_)
 obtain ⟨l1, n1, k1, rfl, hl1⟩ := hr
 refine OD.rE 5 [(3,.sl 1 n1 (l1.map (D.int .i32)))] ?_
 refine OD.nil (CD.seq (CD.region ?_))
 refine OD.rE 4 [(10,.sl 1 n1 (l1.map (D.int .i32))),(13,.i64 (min (((n1 : Nat) : Int) : Int) 25))] ?_
 refine OD.is 13 rfl castmin ?_
 refine OD.rE 0 [(10,.sl 1 n1 (l1.map (D.int .i32))),(13,.i64 ((min n1 25 : Nat) : Int))] ?_
 refine OD.slSl (lw := 0) (u := (min n1 25)) rfl (by kernel_rfl) (.inl ⟨rfl, rfl⟩) (.inr ⟨_, _, rfl, rfl⟩) (by omega) (by omega) ?_
 refine OD.is 14 rfl (take_sl (xs := l1) (u := (min n1 25))) ?_
 refine OD.rE 1 [(2,.sl 1 (min n1 25) ((l1.take (min n1 25)).map (D.int .i32)))] ?_
 refine OD.nil (CD.ret ?_)
 (try dsimp only); first | refine resP_r ?_ | refine resP_n ?_
 exact rO 0 (.sl 1 (min n1 25) ((l1.take (min n1 25)).map (D.int .i32))) [] (⟨text_of hl1, rfl⟩)
theorem prog_ok (s : ByteArray) : FnD P ov 10 [.str s] [] (progQ (s.extract 0 (min s.size 30))) := by
 refine FnD.intro (by kernel_rfl) (fn := Tryz.f10) (by kernel_rfl) rfl (by kernel_rfl) fun M a0 g0 hg0 => ?_
 refine CD.seq (CD.region ?_)
 refine OD.rL 3 [(0,.str s),(2,.loc 0 0)] [.box [.i64 0, .lit (.slice none 0 0), .bool false, .lit (.slice none 0 0), .i64 0, .i64 0]] ?_
 refine OD.nil (CD.seq (CD.region ?_))
 refine OD.rE 1 [(2,.loc 0 0),(10,.str s)] ?_
 refine OD.cP (fun r => ∃ t : ByteArray, t = s.extract 0 (min s.size 30) ∧ t.size ≤ 30 ∧ r = .str t) (short_ex s 30) (fun r hr => ?_)
 obtain ⟨t1, ht1, ht1s, rfl⟩ := hr
 rw [← ht1]
 refine OD.rE 0 [(2,.loc 0 0),(11,.str t1)] ?_
 refine OD.cP (parseR t1) (parse_ok t1 (by omega)) (fun r hr => ?_)
 rcases hr with ⟨hno, rfl⟩ | ⟨⟨k, set, no, kids, mn, mx⟩, hN, rfl⟩
 ·
  refine OD.rL 6 [(2,.loc 0 0),(5,.loc 1 0),(6,.i64 5)] [.box [.i64 0, .lit (.slice none 0 0), .bool false, .lit (.slice none 0 0), .i64 0, .i64 0], .box (celN zeroN)] ?_
  refine OD.nil (CD.seq (CD.seq (CD.region ?_)))
  refine OD.rE 12 [(2,.loc 0 0),(5,.loc 1 0),(26,.bool true)] ?_
  refine OD.nil ?_
  refine CD.condT rfl ?_
  refine CD.seq (CD.region ?_)
  refine OD.rL 4 [(2,.loc 0 0),(3,.lit (.pointer none)),(4,.bool false)] [.box (celN zeroN), .box (celN zeroN)] ?_
  refine OD.nil (CD.ret ?_)
  (try dsimp only); first | refine resP_r ?_ | refine resP_n ?_
  exact rO 0 (.tup [.agg (celN zeroN), .lit (.pointer none), .bool false]) [] (progQ_none hno)
 ·
  obtain ⟨hf, hal, hz60⟩ := parse_good hN
  have hz : size (.mk k set no kids mn mx) < 4611686018427387904 := by omega
  refine OD.rL 6 [(2,.loc 0 0),(5,.loc 1 0),(6,.i64 0)] [.box [.i64 0, .lit (.slice none 0 0), .bool false, .lit (.slice none 0 0), .i64 0, .i64 0], .box [.i64 k, .sl 2 set.length (set.flatMap encR), .bool no, .sl 6 kids.length (encNs kids), .i64 mn, .i64 mx]] ?_
  refine OD.nil (CD.seq (CD.seq (CD.region ?_)))
  refine OD.rE 4 [(2,.loc 0 0),(5,.loc 1 0),(17,.bool false),(18,.agg [.i64 k, .sl 2 set.length (set.flatMap encR), .bool no, .sl 6 kids.length (encNs kids), .i64 mn, .i64 mx])] ?_
  refine OD.guard rfl rfl ?_
  refine OD.cE (Weight_ok _ k set no kids mn mx (Nat.le_refl _) hf hal) ?_
  refine OD.rE 3 [(2,.loc 0 0),(5,.loc 1 0),(22,.bool (decide ((400 : Int) < ((wr K14 1000000 (.mk k set no kids mn mx) : Nat) : Int))))] ?_
  refine OD.ifP 22 rfl (fun h1 => ?_) (fun h1 => ?_)
  ·
   refine OD.rE 4 [(2,.loc 0 0),(5,.loc 1 0),(26,.bool true)] ?_
   refine OD.nil ?_
   refine CD.condT rfl ?_
   refine CD.seq (CD.region ?_)
   refine OD.rL 4 [(2,.loc 0 0),(3,.lit (.pointer none)),(4,.bool false)] [.box [.i64 k, .sl 2 set.length (set.flatMap encR), .bool no, .sl 6 kids.length (encNs kids), .i64 mn, .i64 mx], .box [.i64 k, .sl 2 set.length (set.flatMap encR), .bool no, .sl 6 kids.length (encNs kids), .i64 mn, .i64 mx]] ?_
   refine OD.nil (CD.ret ?_)
   (try dsimp only); first | refine resP_r ?_ | refine resP_n ?_
   exact rO 0 (.tup [.agg [.i64 k, .sl 2 set.length (set.flatMap encR), .bool no, .sl 6 kids.length (encNs kids), .i64 mn, .i64 mx], .lit (.pointer none), .bool false]) [] (progQ_big hN (by omega))
  ·
   refine OD.rE 1 [(2,.loc 0 0),(5,.loc 1 0),(22,.bool false),(23,.agg [.i64 k, .sl 2 set.length (set.flatMap encR), .bool no, .sl 6 kids.length (encNs kids), .i64 mn, .i64 mx])] ?_
   refine OD.guard rfl rfl ?_
   refine OD.cE (Deep_ok _ k set no kids mn mx (Nat.le_refl _) hf hz) ?_
   refine OD.rE 2 [(2,.loc 0 0),(5,.loc 1 0),(26,.bool (decide ((10 : Int) < ((deep (.mk k set no kids mn mx) : Nat) : Int))))] ?_
   refine OD.nil ?_
   refine CD.condP rfl (fun h2 => ?_) (fun h2 => ?_)
   ·
    refine CD.seq (CD.region ?_)
    refine OD.rL 4 [(2,.loc 0 0),(3,.lit (.pointer none)),(4,.bool false)] [.box [.i64 k, .sl 2 set.length (set.flatMap encR), .bool no, .sl 6 kids.length (encNs kids), .i64 mn, .i64 mx], .box [.i64 k, .sl 2 set.length (set.flatMap encR), .bool no, .sl 6 kids.length (encNs kids), .i64 mn, .i64 mx]] ?_
    refine OD.nil (CD.ret ?_)
    (try dsimp only); first | refine resP_r ?_ | refine resP_n ?_
    exact rO 0 (.tup [.agg [.i64 k, .sl 2 set.length (set.flatMap encR), .bool no, .sl 6 kids.length (encNs kids), .i64 mn, .i64 mx], .lit (.pointer none), .bool false]) [] (progQ_big hN (by omega))
   ·
    refine CD.skip (CD.seq (CD.region ?_))
    have hcn := cnt_of (N := (.mk k set no kids mn mx)) (by omega) hz60 hal
    refine OD.rE 1 [(2,.loc 0 0),(5,.loc 1 0),(29,.agg [.i64 k, .sl 2 set.length (set.flatMap encR), .bool no, .sl 6 kids.length (encNs kids), .i64 mn, .i64 mx])] ?_
    refine OD.cO [] [.agg [.i64 k, .sl 2 set.length (set.flatMap encR), .bool no, .sl 6 kids.length (encNs kids), .i64 mn, .i64 mx]] (Compile_ok k set no kids mn mx hf) (fun r L1 hr => ?_)
    rcases hr with ⟨hc1, hc2, n1, hn1, rfl, rfl⟩ | ⟨hc1, hc2, rfl, rfl⟩ | ⟨hc1, rfl, rfl⟩
    ·
     have hal := cnt_loc hc1
     have hml := machine_len hal hc2
     refine OD.rE 5 [(2,.loc 0 0),(5,.loc 1 0),(7,.loc 3 0),(8,.i64 0)] ?_
     refine OD.nil (CD.seq (CD.region ?_))
     refine OD.rL 7 [(2,.loc 0 0),(3,.loc 3 0),(4,.bool true)] [.box [.i64 k, .sl 2 set.length (set.flatMap encR), .bool no, .sl 6 kids.length (encNs kids), .i64 mn, .i64 mx], .box [.i64 k, .sl 2 set.length (set.flatMap encR), .bool no, .sl 6 kids.length (encNs kids), .i64 mn, .i64 mx], .box [.i64 k, .sl 2 set.length (set.flatMap encR), .bool no, .sl 6 kids.length (encNs kids), .i64 mn, .i64 mx], .box [.sl 9 n1 (((machine K14 (.mk k set no kids mn mx)).1).flatMap encSta), .i64 (((machine K14 (.mk k set no kids mn mx)).2 : Nat) : Int), .i64 ((wp K14 20001 (.mk k set no kids mn mx) : Nat) : Int)], .dead] ?_
     refine OD.nil (CD.ret ?_)
     (try dsimp only); first | refine resP_r ?_ | refine resP_n ?_
     exact rO 4 (.tup [.agg [.i64 k, .sl 2 set.length (set.flatMap encR), .bool no, .sl 6 kids.length (encNs kids), .i64 mn, .i64 mx], .loc 3 0, .bool true]) [.box [.i64 k, .sl 2 set.length (set.flatMap encR), .bool no, .sl 6 kids.length (encNs kids), .i64 mn, .i64 mx], .box [.i64 k, .sl 2 set.length (set.flatMap encR), .bool no, .sl 6 kids.length (encNs kids), .i64 mn, .i64 mx], .box [.i64 k, .sl 2 set.length (set.flatMap encR), .bool no, .sl 6 kids.length (encNs kids), .i64 mn, .i64 mx], .box [.sl 9 n1 (((machine K14 (.mk k set no kids mn mx)).1).flatMap encSta), .i64 (((machine K14 (.mk k set no kids mn mx)).2 : Nat) : Int), .i64 ((wp K14 20001 (.mk k set no kids mn mx) : Nat) : Int)]] (.inr ⟨(.mk k set no kids mn mx), n1, hN, hn1, by omega, by omega, rfl, rfl⟩)
    ·
     refine OD.rE 5 [(2,.loc 0 0),(5,.loc 1 0),(7,.lit (.pointer none)),(8,.i64 3)] ?_
     refine OD.nil (CD.seq (CD.region ?_))
     refine OD.rL 7 [(2,.loc 0 0),(3,.lit (.pointer none)),(4,.bool false)] [.box [.i64 k, .sl 2 set.length (set.flatMap encR), .bool no, .sl 6 kids.length (encNs kids), .i64 mn, .i64 mx], .box [.i64 k, .sl 2 set.length (set.flatMap encR), .bool no, .sl 6 kids.length (encNs kids), .i64 mn, .i64 mx]] ?_
     refine OD.nil (CD.ret ?_)
     exfalso; first | omega | (have := wr_small hc2; omega) | (have := wr_big hc2; omega)
    ·
     refine OD.rE 5 [(2,.loc 0 0),(5,.loc 1 0),(7,.lit (.pointer none)),(8,.i64 5)] ?_
     refine OD.nil (CD.seq (CD.region ?_))
     refine OD.rL 7 [(2,.loc 0 0),(3,.lit (.pointer none)),(4,.bool false)] [.box [.i64 k, .sl 2 set.length (set.flatMap encR), .bool no, .sl 6 kids.length (encNs kids), .i64 mn, .i64 mx], .box [.i64 k, .sl 2 set.length (set.flatMap encR), .bool no, .sl 6 kids.length (encNs kids), .i64 mn, .i64 mx]] ?_
     refine OD.nil (CD.ret ?_)
     exfalso; first | omega | (have := wr_small hc2; omega) | (have := wr_big hc2; omega)
end
end Go.Proofs.YtfcadnhoejlgoaaGreatDoor
set_option maxRecDepth 100000
set_option maxHeartbeats 4000000
namespace Go.Proofs.YtfcadnhoejlgoaaGreatDoor
open Go.Vai Go.Nfa
noncomputable section
theorem FindAll_fn (re s : ByteArray) (at_ : Int) (hre : re.size ≤ 1048576) (hsz : s.size ≤ 1048576) (hat : -9223372036854775808 ≤ at_ ∧ at_ < 9223372036854775808) : PureD P ov 3 [.str re, .str s, .i64 at_] (.bool true) := by
 refine FnD.intro (by kernel_rfl) (fn := Tryz.f3) (by kernel_rfl) rfl (by kernel_rfl) fun M a0 g0 hg0 => ?_
 refine CD.seq (CD.region ?_)
 refine OD.rE 1 [(0,.str re),(1,.str s),(2,.i64 at_)] ?_
 refine OD.nil (CD.seq (CD.region ?_))
 refine OD.cE (FnD.known rfl (fun _ => rfl)) ?_
 refine OD.rE 1 [(0,.str re),(1,.str s),(2,.i64 at_),(7,.bool true)] ?_
 refine OD.nil (CD.seq (CD.seq (CD.region ?_)))
 refine OD.rE 2 [(0,.str re),(1,.str s),(2,.i64 at_),(26,.bool false)] ?_
 refine OD.nil ?_
 refine CD.condF rfl ?_
 refine CD.skip (CD.seq (CD.region ?_))
 refine OD.rE 1 [(1,.str s),(2,.i64 at_),(28,.str re)] ?_
 refine OD.cO [] [.str re] (prog_ok re) (fun r L1 hr => ?_)
 rcases hr with ⟨⟨k, set, no, kids, mn, mx⟩, hno, rfl, rfl⟩ | ⟨⟨k, set, no, kids, mn, mx⟩, n1, hN, hn1, hwp, hdp, rfl, rfl⟩
 ·
  refine OD.rL 8 [(1,.str s),(2,.i64 at_),(8,.loc 0 0),(9,.lit (.pointer none)),(10,.bool false)] [.box [.i64 k, .sl 2 set.length (set.flatMap encR), .bool no, .sl 6 kids.length (encNs kids), .i64 mn, .i64 mx]] ?_
  refine OD.nil (CD.seq (CD.seq (CD.region ?_)))
  refine OD.rE 2 [(1,.str s),(2,.i64 at_),(8,.loc 0 0),(9,.lit (.pointer none)),(34,.bool true)] ?_
  refine OD.nil ?_
  refine CD.condT rfl ?_
  refine CD.seq (CD.region ?_)
  refine OD.rE 1 [(6,.bool true)] ?_
  refine OD.nil (CD.ret ?_)
  exact rP (.bool true) (rfl)
 ·
  obtain ⟨hf, hal, hz60⟩ := parse_good hN
  have hml := machine_len hal hwp
  have hsb : n1 ≤ 1000000 := by omega
  refine OD.rL 8 [(1,.str s),(2,.i64 at_),(8,.loc 4 0),(9,.loc 3 0),(10,.bool true)] [.box [.i64 k, .sl 2 set.length (set.flatMap encR), .bool no, .sl 6 kids.length (encNs kids), .i64 mn, .i64 mx], .box [.i64 k, .sl 2 set.length (set.flatMap encR), .bool no, .sl 6 kids.length (encNs kids), .i64 mn, .i64 mx], .box [.i64 k, .sl 2 set.length (set.flatMap encR), .bool no, .sl 6 kids.length (encNs kids), .i64 mn, .i64 mx], .box [.sl 9 n1 (((machine K14 (.mk k set no kids mn mx)).1).flatMap encSta), .i64 (((machine K14 (.mk k set no kids mn mx)).2 : Nat) : Int), .i64 ((wp K14 20001 (.mk k set no kids mn mx) : Nat) : Int)], .box [.i64 k, .sl 2 set.length (set.flatMap encR), .bool no, .sl 6 kids.length (encNs kids), .i64 mn, .i64 mx]] ?_
  refine OD.nil (CD.seq (CD.seq (CD.region ?_)))
  refine OD.rE 2 [(1,.str s),(2,.i64 at_),(8,.loc 4 0),(9,.loc 3 0),(34,.bool false)] ?_
  refine OD.nil ?_
  refine CD.condF rfl ?_
  refine CD.skip (CD.seq (CD.region ?_))
  refine OD.rE 1 [(2,.i64 at_),(8,.loc 4 0),(9,.loc 3 0),(35,.str s)] ?_
  refine OD.cP (fun r => ∃ l : List Int, r = .sl 1 l.length (l.map (D.int .i32)) ∧ l.length ≤ 25) (text11_ok s (by omega)) (fun r hr => ?_)
  obtain ⟨l, rfl, hll⟩ := hr
  have hlb : l.length ≤ 1000000 := by omega
  refine OD.rE 1 [(2,.i64 at_),(8,.loc 4 0),(9,.loc 3 0),(11,.sl 1 l.length (l.map (D.int .i32)))] ?_
  refine OD.nil ?_
  refine CD.seqM (fun σ => ∃ (z : Int), σ = ⟨[(2, .i64 z), (8, .loc 4 0), (9, .loc 3 0), (11, .sl 1 l.length (l.map (D.int .i32)))], [.box [.i64 k, .sl 2 set.length (set.flatMap encR), .bool no, .sl 6 kids.length (encNs kids), .i64 mn, .i64 mx], .box [.i64 k, .sl 2 set.length (set.flatMap encR), .bool no, .sl 6 kids.length (encNs kids), .i64 mn, .i64 mx], .box [.i64 k, .sl 2 set.length (set.flatMap encR), .bool no, .sl 6 kids.length (encNs kids), .i64 mn, .i64 mx], .box [.sl 9 n1 (((machine K14 (.mk k set no kids mn mx)).1).flatMap encSta), .i64 (((machine K14 (.mk k set no kids mn mx)).2 : Nat) : Int), .i64 ((wp K14 20001 (.mk k set no kids mn mx) : Nat) : Int)], .box [.i64 k, .sl 2 set.length (set.flatMap encR), .bool no, .sl 6 kids.length (encNs kids), .i64 mn, .i64 mx]]⟩) ?_ (fun σ hI => ?_)
  ·
   refine CD.seq (CD.region ?_)
   refine OD.rE 2 [(2,.i64 at_),(8,.loc 4 0),(9,.loc 3 0),(11,.sl 1 l.length (l.map (D.int .i32))),(38,.bool (decide ((30 : Int) < at_)))] ?_
   refine OD.nil ?_
   refine CD.condP rfl (fun h1 => ?_) (fun h1 => ?_)
   ·
    refine CD.region ?_
    refine OD.rE 1 [(8,.loc 4 0),(9,.loc 3 0),(11,.sl 1 l.length (l.map (D.int .i32))),(39,.i64 at_)] ?_
    obtain ⟨a, ha⟩ : ∃ a : Nat, at_ = (a : Int) := ⟨at_.toNat, by omega⟩
    refine OD.is 39 rfl (congrArg (D.int .i64) ha) ?_
    refine OD.bit rfl rfl (q_rem (m := a) (n := 30) (Nat.succ_pos _)) ?_
    refine OD.rE 1 [(2,.i64 ((a % (30) : Nat) : Int)),(8,.loc 4 0),(9,.loc 3 0),(11,.sl 1 l.length (l.map (D.int .i32)))] ?_
    refine OD.nil ?_
    exact ⟨_, rfl⟩
   ·
    refine CD.weak [2, 8, 9, 11] 5 (E' := [(2, .i64 at_), (8, .loc 4 0), (9, .loc 3 0), (11, .sl 1 l.length (l.map (D.int .i32)))]) (by kernel_rfl) (by simp [hg0]) (by kernel_rfl) ?_
    refine CD.skip ?_
    exact ⟨_, rfl⟩
  ·
   obtain ⟨z, e⟩ := hI
   subst e
   refine CD.seq (CD.region ?_)
   refine OD.rE 3 [(2,.i64 z),(8,.loc 4 0),(9,.loc 3 0),(11,.sl 1 l.length (l.map (D.int .i32))),(42,.loc 3 0),(43,.sl 1 l.length (l.map (D.int .i32))),(44,.i64 z)] ?_
   refine OD.cO [3] [.loc 3 0, .sl 1 l.length (l.map (D.int .i32)), .i64 z] (Next_ok k set no kids mn mx n1 l z hf hal hn1 hsb hlb) (fun r L1 hr => ?_)
   obtain ⟨rfl, rfl⟩ := hr
   refine OD.rE 7 [(2,.i64 z),(8,.loc 4 0),(9,.loc 3 0),(11,.sl 1 l.length (l.map (D.int .i32))),(12,.i64 ((nextR l (.mk k set no kids mn mx) z).1)),(13,.i64 ((nextR l (.mk k set no kids mn mx) z).2.1)),(14,.bool (nextR l (.mk k set no kids mn mx) z).2.2)] ?_
   refine OD.nil (CD.seq (CD.region ?_))
   refine OD.rE 3 [(2,.i64 z),(8,.loc 4 0),(9,.loc 3 0),(11,.sl 1 l.length (l.map (D.int .i32))),(12,.i64 ((nextR l (.mk k set no kids mn mx) z).1)),(13,.i64 ((nextR l (.mk k set no kids mn mx) z).2.1)),(14,.bool (nextR l (.mk k set no kids mn mx) z).2.2),(50,.agg [.i64 k, .sl 2 set.length (set.flatMap encR), .bool no, .sl 6 kids.length (encNs kids), .i64 mn, .i64 mx]),(51,.sl 1 l.length (l.map (D.int .i32))),(52,.i64 z)] ?_
   refine OD.cE (rNext_ok k set no kids mn mx l z hf hal hlb) ?_
   refine OD.rE 7 [(2,.i64 z),(8,.loc 4 0),(9,.loc 3 0),(11,.sl 1 l.length (l.map (D.int .i32))),(12,.i64 ((nextR l (.mk k set no kids mn mx) z).1)),(13,.i64 ((nextR l (.mk k set no kids mn mx) z).2.1)),(14,.bool (nextR l (.mk k set no kids mn mx) z).2.2),(15,.i64 ((nextR l (.mk k set no kids mn mx) z).1)),(16,.i64 ((nextR l (.mk k set no kids mn mx) z).2.1)),(17,.bool (nextR l (.mk k set no kids mn mx) z).2.2)] ?_
   refine OD.nil (CD.seq (CD.region ?_))
   refine OD.rE 3 [(2,.i64 z),(8,.loc 4 0),(9,.loc 3 0),(11,.sl 1 l.length (l.map (D.int .i32))),(12,.i64 ((nextR l (.mk k set no kids mn mx) z).1)),(13,.i64 ((nextR l (.mk k set no kids mn mx) z).2.1)),(14,.bool (nextR l (.mk k set no kids mn mx) z).2.2),(15,.i64 ((nextR l (.mk k set no kids mn mx) z).1)),(16,.i64 ((nextR l (.mk k set no kids mn mx) z).2.1)),(17,.bool (nextR l (.mk k set no kids mn mx) z).2.2),(58,.loc 3 0),(59,.sl 1 l.length (l.map (D.int .i32))),(60,.i64 z)] ?_
   refine OD.cO [3] [.loc 3 0, .sl 1 l.length (l.map (D.int .i32)), .i64 z] (Last_ok k set no kids mn mx n1 l z hf hal hn1 hsb hlb) (fun r L1 hr => ?_)
   obtain ⟨rfl, rfl⟩ := hr
   refine OD.rE 7 [(2,.i64 z),(8,.loc 4 0),(9,.loc 3 0),(11,.sl 1 l.length (l.map (D.int .i32))),(12,.i64 ((nextR l (.mk k set no kids mn mx) z).1)),(13,.i64 ((nextR l (.mk k set no kids mn mx) z).2.1)),(14,.bool (nextR l (.mk k set no kids mn mx) z).2.2),(15,.i64 ((nextR l (.mk k set no kids mn mx) z).1)),(16,.i64 ((nextR l (.mk k set no kids mn mx) z).2.1)),(17,.bool (nextR l (.mk k set no kids mn mx) z).2.2),(18,.i64 ((lastR l (.mk k set no kids mn mx) z).1)),(19,.i64 ((lastR l (.mk k set no kids mn mx) z).2.1)),(20,.bool (lastR l (.mk k set no kids mn mx) z).2.2)] ?_
   refine OD.nil (CD.seq (CD.region ?_))
   refine OD.rE 3 [(2,.i64 z),(8,.loc 4 0),(9,.loc 3 0),(11,.sl 1 l.length (l.map (D.int .i32))),(12,.i64 ((nextR l (.mk k set no kids mn mx) z).1)),(13,.i64 ((nextR l (.mk k set no kids mn mx) z).2.1)),(14,.bool (nextR l (.mk k set no kids mn mx) z).2.2),(15,.i64 ((nextR l (.mk k set no kids mn mx) z).1)),(16,.i64 ((nextR l (.mk k set no kids mn mx) z).2.1)),(17,.bool (nextR l (.mk k set no kids mn mx) z).2.2),(18,.i64 ((lastR l (.mk k set no kids mn mx) z).1)),(19,.i64 ((lastR l (.mk k set no kids mn mx) z).2.1)),(20,.bool (lastR l (.mk k set no kids mn mx) z).2.2),(66,.agg [.i64 k, .sl 2 set.length (set.flatMap encR), .bool no, .sl 6 kids.length (encNs kids), .i64 mn, .i64 mx]),(67,.sl 1 l.length (l.map (D.int .i32))),(68,.i64 z)] ?_
   refine OD.cE (rLast_ok k set no kids mn mx l z hf hal hlb) ?_
   refine OD.rE 7 [(2,.i64 z),(8,.loc 4 0),(9,.loc 3 0),(11,.sl 1 l.length (l.map (D.int .i32))),(12,.i64 ((nextR l (.mk k set no kids mn mx) z).1)),(13,.i64 ((nextR l (.mk k set no kids mn mx) z).2.1)),(14,.bool (nextR l (.mk k set no kids mn mx) z).2.2),(15,.i64 ((nextR l (.mk k set no kids mn mx) z).1)),(16,.i64 ((nextR l (.mk k set no kids mn mx) z).2.1)),(17,.bool (nextR l (.mk k set no kids mn mx) z).2.2),(18,.i64 ((lastR l (.mk k set no kids mn mx) z).1)),(19,.i64 ((lastR l (.mk k set no kids mn mx) z).2.1)),(20,.bool (lastR l (.mk k set no kids mn mx) z).2.2),(21,.i64 ((lastR l (.mk k set no kids mn mx) z).1)),(22,.i64 ((lastR l (.mk k set no kids mn mx) z).2.1)),(23,.bool (lastR l (.mk k set no kids mn mx) z).2.2)] ?_
   refine OD.nil (CD.seq ?_)
   refine CD.drawnF [33] 4 [] rfl (by kernel_rfl) (by kernel_rfl) (fun M1 a1 g1 bx1 bq hg1 hlk => ?_)
   refine OD.rE 3 [(2,.i64 z),(8, litP bq 0),(9,.loc 3 0),(11,.sl 1 l.length (l.map (D.int .i32))),(13,.i64 ((nextR l (.mk k set no kids mn mx) z).2.1)),(14,.bool (nextR l (.mk k set no kids mn mx) z).2.2),(16,.i64 ((nextR l (.mk k set no kids mn mx) z).2.1)),(17,.bool (nextR l (.mk k set no kids mn mx) z).2.2),(18,.i64 ((lastR l (.mk k set no kids mn mx) z).1)),(19,.i64 ((lastR l (.mk k set no kids mn mx) z).2.1)),(20,.bool (lastR l (.mk k set no kids mn mx) z).2.2),(21,.i64 ((lastR l (.mk k set no kids mn mx) z).1)),(22,.i64 ((lastR l (.mk k set no kids mn mx) z).2.1)),(23,.bool (lastR l (.mk k set no kids mn mx) z).2.2),(75,.bool (decide (((nextR l (.mk k set no kids mn mx) z).1 : Int) = ((nextR l (.mk k set no kids mn mx) z).1))))] ?_
   refine OD.is 75 rfl (congrArg D.bool (decide_eq_true rfl)) ?_
   refine OD.rE 4 [(2,.i64 z),(8, litP bq 0),(9,.loc 3 0),(11,.sl 1 l.length (l.map (D.int .i32))),(14,.bool (nextR l (.mk k set no kids mn mx) z).2.2),(17,.bool (nextR l (.mk k set no kids mn mx) z).2.2),(18,.i64 ((lastR l (.mk k set no kids mn mx) z).1)),(19,.i64 ((lastR l (.mk k set no kids mn mx) z).2.1)),(20,.bool (lastR l (.mk k set no kids mn mx) z).2.2),(21,.i64 ((lastR l (.mk k set no kids mn mx) z).1)),(22,.i64 ((lastR l (.mk k set no kids mn mx) z).2.1)),(23,.bool (lastR l (.mk k set no kids mn mx) z).2.2),(76,.bool true),(79,.bool (decide (((nextR l (.mk k set no kids mn mx) z).2.1 : Int) = ((nextR l (.mk k set no kids mn mx) z).2.1))))] ?_
   refine OD.is 79 rfl (congrArg D.bool (decide_eq_true rfl)) ?_
   refine OD.rE 5 [(2,.i64 z),(8, litP bq 0),(9,.loc 3 0),(11,.sl 1 l.length (l.map (D.int .i32))),(18,.i64 ((lastR l (.mk k set no kids mn mx) z).1)),(19,.i64 ((lastR l (.mk k set no kids mn mx) z).2.1)),(20,.bool (lastR l (.mk k set no kids mn mx) z).2.2),(21,.i64 ((lastR l (.mk k set no kids mn mx) z).1)),(22,.i64 ((lastR l (.mk k set no kids mn mx) z).2.1)),(23,.bool (lastR l (.mk k set no kids mn mx) z).2.2),(81,.bool true),(84,.bool (bif (nextR l (.mk k set no kids mn mx) z).2.2 then (bif (nextR l (.mk k set no kids mn mx) z).2.2 then true else false) else (bif (nextR l (.mk k set no kids mn mx) z).2.2 then false else true)))] ?_
   refine OD.is 84 rfl (congrArg D.bool beq_bif) ?_
   refine OD.is 84 rfl (congrArg D.bool (decide_eq_true rfl)) ?_
   refine OD.rE 5 [(2,.i64 z),(8, litP bq 0),(9,.loc 3 0),(11,.sl 1 l.length (l.map (D.int .i32))),(19,.i64 ((lastR l (.mk k set no kids mn mx) z).2.1)),(20,.bool (lastR l (.mk k set no kids mn mx) z).2.2),(22,.i64 ((lastR l (.mk k set no kids mn mx) z).2.1)),(23,.bool (lastR l (.mk k set no kids mn mx) z).2.2),(86,.bool true),(89,.bool (decide (((lastR l (.mk k set no kids mn mx) z).1 : Int) = ((lastR l (.mk k set no kids mn mx) z).1))))] ?_
   refine OD.is 89 rfl (congrArg D.bool (decide_eq_true rfl)) ?_
   refine OD.rE 5 [(2,.i64 z),(8, litP bq 0),(9,.loc 3 0),(11,.sl 1 l.length (l.map (D.int .i32))),(20,.bool (lastR l (.mk k set no kids mn mx) z).2.2),(23,.bool (lastR l (.mk k set no kids mn mx) z).2.2),(91,.bool true),(94,.bool (decide (((lastR l (.mk k set no kids mn mx) z).2.1 : Int) = ((lastR l (.mk k set no kids mn mx) z).2.1))))] ?_
   refine OD.is 94 rfl (congrArg D.bool (decide_eq_true rfl)) ?_
   refine OD.rE 5 [(2,.i64 z),(8, litP bq 0),(9,.loc 3 0),(11,.sl 1 l.length (l.map (D.int .i32))),(96,.bool true),(99,.bool (bif (lastR l (.mk k set no kids mn mx) z).2.2 then (bif (lastR l (.mk k set no kids mn mx) z).2.2 then true else false) else (bif (lastR l (.mk k set no kids mn mx) z).2.2 then false else true)))] ?_
   refine OD.is 99 rfl (congrArg D.bool beq_bif) ?_
   refine OD.is 99 rfl (congrArg D.bool (decide_eq_true rfl)) ?_
   refine OD.rE 5 [(2,.i64 z),(8, litP bq 0),(11,.sl 1 l.length (l.map (D.int .i32))),(101,.bool true),(102,.loc 3 0),(103,.sl 1 l.length (l.map (D.int .i32))),(104,.i64 z)] ?_
   refine OD.guard rfl rfl ?_
   refine OD.cO [3] [.loc 3 0, .sl 1 l.length (l.map (D.int .i32)), .i64 z] (At_ok k set no kids mn mx n1 l z hf hal hn1 hsb hlb) (fun r L1 hr => ?_)
   obtain ⟨rfl, rfl⟩ := hr
   refine OD.rE 0 [(2,.i64 z),(8, litP bq 0),(11,.sl 1 l.length (l.map (D.int .i32))),(101,.bool true),(105,.i64 (atR l (.mk k set no kids mn mx) z))] ?_
   refine OD.guard rfl rfl ?_
   refine OD.ldF (d := .agg [.i64 k, .sl 2 set.length (set.flatMap encR), .bool no, .sl 6 kids.length (encNs kids), .i64 mn, .i64 mx]) hlk rfl (by kernel_rfl) ?_
   refine OD.rE 2 [(8, litP bq 0),(101,.bool true),(105,.i64 (atR l (.mk k set no kids mn mx) z)),(106,.agg [.i64 k, .sl 2 set.length (set.flatMap encR), .bool no, .sl 6 kids.length (encNs kids), .i64 mn, .i64 mx]),(107,.sl 1 l.length (l.map (D.int .i32))),(108,.i64 z)] ?_
   refine OD.guard rfl rfl ?_
   refine OD.cE (rAt_ok k set no kids mn mx l z hf hal hlb) ?_
   refine OD.rE 1 [(8, litP bq 0),(101,.bool true),(106,.agg [.i64 k, .sl 2 set.length (set.flatMap encR), .bool no, .sl 6 kids.length (encNs kids), .i64 mn, .i64 mx]),(107,.sl 1 l.length (l.map (D.int .i32))),(108,.i64 z),(110,.bool (decide (((atR l (.mk k set no kids mn mx) z) : Int) = (atR l (.mk k set no kids mn mx) z))))] ?_
   refine OD.is 110 rfl (congrArg D.bool (decide_eq_true rfl)) ?_
   refine OD.rE 2 [(6,.bool true),(8, litP bq 0),(106,.agg [.i64 k, .sl 2 set.length (set.flatMap encR), .bool no, .sl 6 kids.length (encNs kids), .i64 mn, .i64 mx]),(107,.sl 1 l.length (l.map (D.int .i32))),(108,.i64 z)] ?_
   refine OD.nil ⟨by kernel_rfl, ⟨⟨26, 8, by kernel_rfl, .inr ⟨0, .agg [.i64 k, .sl 2 set.length (set.flatMap encR), .bool no, .sl 6 kids.length (encNs kids), .i64 mn, .i64 mx], rfl, by kernel_rfl⟩⟩, trivial⟩, trivial, rfl, ?_⟩
   refine CD.ret ?_
   exact rP (.bool true) (rfl)
end
end Go.Proofs.YtfcadnhoejlgoaaGreatDoor
