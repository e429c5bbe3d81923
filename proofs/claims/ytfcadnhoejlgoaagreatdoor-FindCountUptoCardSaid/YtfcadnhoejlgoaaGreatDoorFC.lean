/-
  What is proved here: what functions of the pattern's package come to (walks that a program of mine has printed). what functions of the pattern's package come to (walks that a program of mine has printed). No conditions but those that the theorems state.
-/
import Derived.Test.YtfcadnhoejlgoaaGreatDoorFA
import Derived.Test.YtfcadnhoejlgoaaGreatDoorUG
import Derived.Test.YtfcadnhoejlgoaaGreatDoorUJ
import Derived.Test.YtfcadnhoejlgoaaGreatDoorRI
import Derived.Test.YtfcadnhoejlgoaaGreatDoorPureEmp
set_option linter.unusedVariables false
set_option linter.unusedSimpArgs false
set_option maxRecDepth 100000
set_option maxHeartbeats 4000000
namespace Go.Proofs.YtfcadnhoejlgoaaGreatDoor
open Go.Vai Go.Nfa
noncomputable section
theorem text11_ok (s : ByteArray) (hsz : s.size ≤ 1048576) : FnD P ov 11 [.str s] [] (fun r L1 => (fun r => ∃ l : List Int, r = .sl 1 l.length (l.map (D.int .i32)) ∧ l.length ≤ 25) r ∧ L1 = []) := by
 refine FnD.intro (by kernel_rfl) (fn := Tryz.f11) (by kernel_rfl) rfl (by kernel_rfl) fun M a0 g0 hg0 => ?_
 refine CD.seq (CD.region ?_)
 refine OD.rE 1 [(0,.str s)] ?_
 refine OD.nil (CD.seq (CD.region ?_))
 refine OD.rE 1 [(6,.str s)] ?_
 refine OD.cP (fun r => ∃ (l : List Int) (n : Nat) (k : Int), r = .tup [.sl 1 n (l.map (D.int .i32)), .i64 k] ∧ l.length = n) (All_ok s (by omega)) (fun r hr => ?_)
 obtain ⟨l1, n1, k1, rfl, hl1⟩ := hr
 refine OD.rE 5 [(3,.sl 1 n1 (l1.map (D.int .i32)))] ?_
 refine OD.nil (CD.seq (CD.region ?_))
 refine OD.rE 4 [(10,.sl 1 n1 (l1.map (D.int .i32))),(13,.i64 (min (((n1 : Nat) : Int) : Int) 25))] ?_
 refine OD.is 13 rfl castmin ?_
 refine OD.rE 0 [(10,.sl 1 n1 (l1.map (D.int .i32))),(13,.i64 ((min n1 25 : Nat) : Int))] ?_
 refine OD.slSl (lw := 0) (u := (min n1 25)) rfl (by kernel_rfl) (.inl ⟨rfl, rfl⟩) (.inr ⟨_, _, rfl, rfl⟩) (by omega) (by omega) ?_
 refine OD.is 14 rfl (take_sl (xs := l1) (u := (min n1 25))) ?_
 refine OD.rE 1 [(2,.sl 1 (min n1 25) ((l1.take (min n1 25)).map (D.int .i32)))] ?_
 refine OD.nil (CD.ret ?_)
 (try dsimp only); first | refine resP_r ?_ | refine resP_n ?_
 exact rO 0 (.sl 1 (min n1 25) ((l1.take (min n1 25)).map (D.int .i32))) [] (⟨text_of hl1, rfl⟩)
theorem prog_ok (s : ByteArray) : FnD P ov 10 [.str s] [] (progQ (s.extract 0 (min s.size 30))) := by
 refine FnD.intro (by kernel_rfl) (fn := Tryz.f10) (by kernel_rfl) rfl (by kernel_rfl) fun M a0 g0 hg0 => ?_
 refine CD.seq (CD.region ?_)
 refine OD.rL 3 [(0,.str s),(2,.loc 0 0)] [.box [.i64 0, .lit (.slice none 0 0), .bool false, .lit (.slice none 0 0), .i64 0, .i64 0]] ?_
 refine OD.nil (CD.seq (CD.region ?_))
 refine OD.rE 1 [(2,.loc 0 0),(10,.str s)] ?_
 refine OD.cP (fun r => ∃ t : ByteArray, t = s.extract 0 (min s.size 30) ∧ t.size ≤ 30 ∧ r = .str t) (short_ex s 30) (fun r hr => ?_)
 obtain ⟨t1, ht1, ht1s, rfl⟩ := hr
 rw [← ht1]
 refine OD.rE 0 [(2,.loc 0 0),(11,.str t1)] ?_
 refine OD.cP (parseR t1) (parse_ok t1 (by omega)) (fun r hr => ?_)
 rcases hr with ⟨hno, rfl⟩ | ⟨⟨k, set, no, kids, mn, mx⟩, hN, rfl⟩
 ·
  refine OD.rL 6 [(2,.loc 0 0),(5,.loc 1 0),(6,.i64 5)] [.box [.i64 0, .lit (.slice none 0 0), .bool false, .lit (.slice none 0 0), .i64 0, .i64 0], .box (celN zeroN)] ?_
  refine OD.nil (CD.seq (CD.seq (CD.region ?_)))
  refine OD.rE 12 [(2,.loc 0 0),(5,.loc 1 0),(26,.bool true)] ?_
  refine OD.nil ?_
  refine CD.condT rfl ?_
  refine CD.seq (CD.region ?_)
  refine OD.rL 4 [(2,.loc 0 0),(3,.lit (.pointer none)),(4,.bool false)] [.box (celN zeroN), .box (celN zeroN)] ?_
  refine OD.nil (CD.ret ?_)
  (try dsimp only); first | refine resP_r ?_ | refine resP_n ?_
  exact rO 0 (.tup [.agg (celN zeroN), .lit (.pointer none), .bool false]) [] (progQ_none hno)
 ·
  obtain ⟨hf, hal, hz60⟩ := parse_good hN
  have hz : size (.mk k set no kids mn mx) < 4611686018427387904 := by omega
  refine OD.rL 6 [(2,.loc 0 0),(5,.loc 1 0),(6,.i64 0)] [.box [.i64 0, .lit (.slice none 0 0), .bool false, .lit (.slice none 0 0), .i64 0, .i64 0], .box [.i64 k, .sl 2 set.length (set.flatMap encR), .bool no, .sl 6 kids.length (encNs kids), .i64 mn, .i64 mx]] ?_
  refine OD.nil (CD.seq (CD.seq (CD.region ?_)))
  refine OD.rE 4 [(2,.loc 0 0),(5,.loc 1 0),(17,.bool false),(18,.agg [.i64 k, .sl 2 set.length (set.flatMap encR), .bool no, .sl 6 kids.length (encNs kids), .i64 mn, .i64 mx])] ?_
  refine OD.guard rfl rfl ?_
  refine OD.cE (Weight_ok _ k set no kids mn mx (Nat.le_refl _) hf hal) ?_
  refine OD.rE 3 [(2,.loc 0 0),(5,.loc 1 0),(22,.bool (decide ((400 : Int) < ((wr K14 1000000 (.mk k set no kids mn mx) : Nat) : Int))))] ?_
  refine OD.ifP 22 rfl (fun h1 => ?_) (fun h1 => ?_)
  ·
   refine OD.rE 4 [(2,.loc 0 0),(5,.loc 1 0),(26,.bool true)] ?_
   refine OD.nil ?_
   refine CD.condT rfl ?_
   refine CD.seq (CD.region ?_)
   refine OD.rL 4 [(2,.loc 0 0),(3,.lit (.pointer none)),(4,.bool false)] [.box [.i64 k, .sl 2 set.length (set.flatMap encR), .bool no, .sl 6 kids.length (encNs kids), .i64 mn, .i64 mx], .box [.i64 k, .sl 2 set.length (set.flatMap encR), .bool no, .sl 6 kids.length (encNs kids), .i64 mn, .i64 mx]] ?_
   refine OD.nil (CD.ret ?_)
   (try dsimp only); first | refine resP_r ?_ | refine resP_n ?_
   exact rO 0 (.tup [.agg [.i64 k, .sl 2 set.length (set.flatMap encR), .bool no, .sl 6 kids.length (encNs kids), .i64 mn, .i64 mx], .lit (.pointer none), .bool false]) [] (progQ_big hN (by omega))
  ·
   refine OD.rE 1 [(2,.loc 0 0),(5,.loc 1 0),(22,.bool false),(23,.agg [.i64 k, .sl 2 set.length (set.flatMap encR), .bool no, .sl 6 kids.length (encNs kids), .i64 mn, .i64 mx])] ?_
   refine OD.guard rfl rfl ?_
   refine OD.cE (Deep_ok _ k set no kids mn mx (Nat.le_refl _) hf hz) ?_
   refine OD.rE 2 [(2,.loc 0 0),(5,.loc 1 0),(26,.bool (decide ((10 : Int) < ((deep (.mk k set no kids mn mx) : Nat) : Int))))] ?_
   refine OD.nil ?_
   refine CD.condP rfl (fun h2 => ?_) (fun h2 => ?_)
   ·
    refine CD.seq (CD.region ?_)
    refine OD.rL 4 [(2,.loc 0 0),(3,.lit (.pointer none)),(4,.bool false)] [.box [.i64 k, .sl 2 set.length (set.flatMap encR), .bool no, .sl 6 kids.length (encNs kids), .i64 mn, .i64 mx], .box [.i64 k, .sl 2 set.length (set.flatMap encR), .bool no, .sl 6 kids.length (encNs kids), .i64 mn, .i64 mx]] ?_
    refine OD.nil (CD.ret ?_)
    (try dsimp only); first | refine resP_r ?_ | refine resP_n ?_
    exact rO 0 (.tup [.agg [.i64 k, .sl 2 set.length (set.flatMap encR), .bool no, .sl 6 kids.length (encNs kids), .i64 mn, .i64 mx], .lit (.pointer none), .bool false]) [] (progQ_big hN (by omega))
   ·
    refine CD.skip (CD.seq (CD.region ?_))
    have hcn := cnt_of (N := (.mk k set no kids mn mx)) (by omega) hz60 hal
    refine OD.rE 1 [(2,.loc 0 0),(5,.loc 1 0),(29,.agg [.i64 k, .sl 2 set.length (set.flatMap encR), .bool no, .sl 6 kids.length (encNs kids), .i64 mn, .i64 mx])] ?_
    refine OD.cO [] [.agg [.i64 k, .sl 2 set.length (set.flatMap encR), .bool no, .sl 6 kids.length (encNs kids), .i64 mn, .i64 mx]] (Compile_ok k set no kids mn mx hf) (fun r L1 hr => ?_)
    rcases hr with ⟨hc1, hc2, n1, hn1, rfl, rfl⟩ | ⟨hc1, hc2, rfl, rfl⟩ | ⟨hc1, rfl, rfl⟩
    ·
     have hal := cnt_loc hc1
     have hml := machine_len hal hc2
     refine OD.rE 5 [(2,.loc 0 0),(5,.loc 1 0),(7,.loc 3 0),(8,.i64 0)] ?_
     refine OD.nil (CD.seq (CD.region ?_))
     refine OD.rL 7 [(2,.loc 0 0),(3,.loc 3 0),(4,.bool true)] [.box [.i64 k, .sl 2 set.length (set.flatMap encR), .bool no, .sl 6 kids.length (encNs kids), .i64 mn, .i64 mx], .box [.i64 k, .sl 2 set.length (set.flatMap encR), .bool no, .sl 6 kids.length (encNs kids), .i64 mn, .i64 mx], .box [.i64 k, .sl 2 set.length (set.flatMap encR), .bool no, .sl 6 kids.length (encNs kids), .i64 mn, .i64 mx], .box [.sl 9 n1 (((machine K14 (.mk k set no kids mn mx)).1).flatMap encSta), .i64 (((machine K14 (.mk k set no kids mn mx)).2 : Nat) : Int), .i64 ((wp K14 20001 (.mk k set no kids mn mx) : Nat) : Int)], .dead] ?_
     refine OD.nil (CD.ret ?_)
     (try dsimp only); first | refine resP_r ?_ | refine resP_n ?_
     exact rO 4 (.tup [.agg [.i64 k, .sl 2 set.length (set.flatMap encR), .bool no, .sl 6 kids.length (encNs kids), .i64 mn, .i64 mx], .loc 3 0, .bool true]) [.box [.i64 k, .sl 2 set.length (set.flatMap encR), .bool no, .sl 6 kids.length (encNs kids), .i64 mn, .i64 mx], .box [.i64 k, .sl 2 set.length (set.flatMap encR), .bool no, .sl 6 kids.length (encNs kids), .i64 mn, .i64 mx], .box [.i64 k, .sl 2 set.length (set.flatMap encR), .bool no, .sl 6 kids.length (encNs kids), .i64 mn, .i64 mx], .box [.sl 9 n1 (((machine K14 (.mk k set no kids mn mx)).1).flatMap encSta), .i64 (((machine K14 (.mk k set no kids mn mx)).2 : Nat) : Int), .i64 ((wp K14 20001 (.mk k set no kids mn mx) : Nat) : Int)]] (.inr ⟨(.mk k set no kids mn mx), n1, hN, hn1, by omega, by omega, rfl, rfl⟩)
    ·
     refine OD.rE 5 [(2,.loc 0 0),(5,.loc 1 0),(7,.lit (.pointer none)),(8,.i64 3)] ?_
     refine OD.nil (CD.seq (CD.region ?_))
     refine OD.rL 7 [(2,.loc 0 0),(3,.lit (.pointer none)),(4,.bool false)] [.box [.i64 k, .sl 2 set.length (set.flatMap encR), .bool no, .sl 6 kids.length (encNs kids), .i64 mn, .i64 mx], .box [.i64 k, .sl 2 set.length (set.flatMap encR), .bool no, .sl 6 kids.length (encNs kids), .i64 mn, .i64 mx]] ?_
     refine OD.nil (CD.ret ?_)
     exfalso; first | omega | (have := wr_small hc2; omega) | (have := wr_big hc2; omega)
    ·
     refine OD.rE 5 [(2,.loc 0 0),(5,.loc 1 0),(7,.lit (.pointer none)),(8,.i64 5)] ?_
     refine OD.nil (CD.seq (CD.region ?_))
     refine OD.rL 7 [(2,.loc 0 0),(3,.lit (.pointer none)),(4,.bool false)] [.box [.i64 k, .sl 2 set.length (set.flatMap encR), .bool no, .sl 6 kids.length (encNs kids), .i64 mn, .i64 mx], .box [.i64 k, .sl 2 set.length (set.flatMap encR), .bool no, .sl 6 kids.length (encNs kids), .i64 mn, .i64 mx]] ?_
     refine OD.nil (CD.ret ?_)
     exfalso; first | omega | (have := wr_small hc2; omega) | (have := wr_big hc2; omega)
end
end Go.Proofs.YtfcadnhoejlgoaaGreatDoor
set_option maxRecDepth 100000
set_option maxHeartbeats 4000000
namespace Go.Proofs.YtfcadnhoejlgoaaGreatDoor
open Go.Vai Go.Nfa
noncomputable section
theorem FindCount_fn (re s : ByteArray) (hre : re.size ≤ 1048576) (hsz : s.size ≤ 1048576) : PureD P ov 4 [.str re, .str s] (.bool true) := by
 refine FnD.intro (by kernel_rfl) (fn := Tryz.f4) (by kernel_rfl) rfl (by kernel_rfl) fun M a0 g0 hg0 => ?_
 refine CD.seq (CD.region ?_)
 refine OD.rE 1 [(0,.str re),(1,.str s)] ?_
 refine OD.nil (CD.seq (CD.region ?_))
 refine OD.cE (FnD.known rfl (fun _ => rfl)) ?_
 refine OD.rE 1 [(0,.str re),(1,.str s),(5,.bool true)] ?_
 refine OD.nil (CD.seq (CD.seq (CD.region ?_)))
 refine OD.rE 2 [(0,.str re),(1,.str s),(15,.bool false)] ?_
 refine OD.nil ?_
 refine CD.condF rfl ?_
 refine CD.skip (CD.seq (CD.region ?_))
 refine OD.rE 1 [(1,.str s),(17,.str re)] ?_
 refine OD.cO [] [.str re] (prog_ok re) (fun r L1 hr => ?_)
 rcases hr with ⟨⟨k, set, no, kids, mn, mx⟩, hno, rfl, rfl⟩ | ⟨⟨k, set, no, kids, mn, mx⟩, n1, hN, hn1, hwp, hdp, rfl, rfl⟩
 ·
  refine OD.rL 8 [(1,.str s),(6,.loc 0 0),(7,.lit (.pointer none)),(8,.bool false)] [.box [.i64 k, .sl 2 set.length (set.flatMap encR), .bool no, .sl 6 kids.length (encNs kids), .i64 mn, .i64 mx]] ?_
  refine OD.nil (CD.seq (CD.seq (CD.region ?_)))
  refine OD.rE 2 [(1,.str s),(6,.loc 0 0),(7,.lit (.pointer none)),(23,.bool true)] ?_
  refine OD.nil ?_
  refine CD.condT rfl ?_
  refine CD.seq (CD.region ?_)
  refine OD.rE 1 [(4,.bool true)] ?_
  refine OD.nil (CD.ret ?_)
  exact rP (.bool true) (rfl)
 ·
  obtain ⟨hf, hal, hz60⟩ := parse_good hN
  have hml := machine_len hal hwp
  have hsb : n1 ≤ 1000000 := by omega
  refine OD.rL 8 [(1,.str s),(6,.loc 4 0),(7,.loc 3 0),(8,.bool true)] [.box [.i64 k, .sl 2 set.length (set.flatMap encR), .bool no, .sl 6 kids.length (encNs kids), .i64 mn, .i64 mx], .box [.i64 k, .sl 2 set.length (set.flatMap encR), .bool no, .sl 6 kids.length (encNs kids), .i64 mn, .i64 mx], .box [.i64 k, .sl 2 set.length (set.flatMap encR), .bool no, .sl 6 kids.length (encNs kids), .i64 mn, .i64 mx], .box [.sl 9 n1 (((machine K14 (.mk k set no kids mn mx)).1).flatMap encSta), .i64 (((machine K14 (.mk k set no kids mn mx)).2 : Nat) : Int), .i64 ((wp K14 20001 (.mk k set no kids mn mx) : Nat) : Int)], .box [.i64 k, .sl 2 set.length (set.flatMap encR), .bool no, .sl 6 kids.length (encNs kids), .i64 mn, .i64 mx]] ?_
  refine OD.nil (CD.seq (CD.seq (CD.region ?_)))
  refine OD.rE 2 [(1,.str s),(6,.loc 4 0),(7,.loc 3 0),(23,.bool false)] ?_
  refine OD.nil ?_
  refine CD.condF rfl ?_
  refine CD.skip (CD.seq (CD.region ?_))
  refine OD.rE 1 [(6,.loc 4 0),(7,.loc 3 0),(24,.str s)] ?_
  refine OD.cP (fun r => ∃ l : List Int, r = .sl 1 l.length (l.map (D.int .i32)) ∧ l.length ≤ 25) (text11_ok s (by omega)) (fun r hr => ?_)
  obtain ⟨l, rfl, hll⟩ := hr
  have hlb : l.length ≤ 1000000 := by omega
  refine OD.rE 1 [(6,.loc 4 0),(7,.loc 3 0),(9,.sl 1 l.length (l.map (D.int .i32)))] ?_
  refine OD.nil (CD.seq (CD.region ?_))
  refine OD.rE 1 [(6,.loc 4 0),(7,.loc 3 0),(9,.sl 1 l.length (l.map (D.int .i32))),(10,.i64 0)] ?_
  refine OD.nil (CD.seq (CD.seq (CD.region ?_)))
  refine OD.rE 1 [(6,.loc 4 0),(7,.loc 3 0),(9,.sl 1 l.length (l.map (D.int .i32))),(10,.i64 0),(11,.i64 0)] ?_
  refine OD.nil (CD.block ?_)
  refine CD.weak [6, 7, 9, 10, 11] 5 (E' := [(6, .loc 4 0), (7, .loc 3 0), (9, .sl 1 l.length (l.map (D.int .i32))), (10, .i64 0), (11, .i64 0)]) (by kernel_rfl) (by simp [hg0]) (by kernel_rfl) ?_
  refine CD.loop (fun m σ => ∃ (c : Nat) (p : Nat), σ = ⟨[(6, .loc 4 0), (7, .loc 3 0), (9, .sl 1 l.length (l.map (D.int .i32))), (10, .i64 c), (11, .i64 p)], [.box [.i64 k, .sl 2 set.length (set.flatMap encR), .bool no, .sl 6 kids.length (encNs kids), .i64 mn, .i64 mx], .box [.i64 k, .sl 2 set.length (set.flatMap encR), .bool no, .sl 6 kids.length (encNs kids), .i64 mn, .i64 mx], .box [.i64 k, .sl 2 set.length (set.flatMap encR), .bool no, .sl 6 kids.length (encNs kids), .i64 mn, .i64 mx], .box [.sl 9 n1 (((machine K14 (.mk k set no kids mn mx)).1).flatMap encSta), .i64 (((machine K14 (.mk k set no kids mn mx)).2 : Nat) : Int), .i64 ((wp K14 20001 (.mk k set no kids mn mx) : Nat) : Int)], .box [.i64 k, .sl 2 set.length (set.flatMap encR), .bool no, .sl 6 kids.length (encNs kids), .i64 mn, .i64 mx]]⟩ ∧ (p ≤ l.length) ∧ (c ≤ p) ∧ (∀ m, Chain l (.mk k set no kids mn mx) p m → Chain l (.mk k set no kids mn mx) 0 (c + m)) ∧ m = l.length - p) (fun m σ hI => ?_) _ ⟨0, 0, (by kernel_rfl), Nat.zero_le _, Nat.le_refl _, fun m h => by rw [Nat.zero_add]; exact h, rfl⟩
  obtain ⟨c, p, e, hp, hc, hch, hm⟩ := hI
  subst e hm
  refine CD.seq (CD.seq (CD.region ?_))
  refine OD.rE 4 [(6,.loc 4 0),(7,.loc 3 0),(9,.sl 1 l.length (l.map (D.int .i32))),(10,.i64 c),(11,.i64 p),(29,.bool (decide ((((p : Nat) : Int) : Int) < ((l.length : Nat) : Int))))] ?_
  refine OD.nil ?_
  refine CD.condP rfl (fun h1 => ?_) (fun h1 => ?_)
  ·
   refine CD.skip (CD.block (CD.seq (CD.region ?_)))
   refine OD.rE 3 [(6,.loc 4 0),(7,.loc 3 0),(9,.sl 1 l.length (l.map (D.int .i32))),(10,.i64 c),(11,.i64 p),(30,.agg [.i64 k, .sl 2 set.length (set.flatMap encR), .bool no, .sl 6 kids.length (encNs kids), .i64 mn, .i64 mx]),(31,.sl 1 l.length (l.map (D.int .i32))),(32,.i64 p)] ?_
   refine OD.cE (rAt_ok k set no kids mn mx l ((p : Nat) : Int) hf hal hlb) ?_
   obtain ⟨q, hq, hqb⟩ := atR_nat (l := l) hal (a := p) (by omega)
   refine OD.is 33 rfl (congrArg (D.int .i64) hq) ?_
   refine OD.rE 1 [(6,.loc 4 0),(7,.loc 3 0),(9,.sl 1 l.length (l.map (D.int .i32))),(10,.i64 c),(11,.i64 p),(12,.i64 q)] ?_
   refine OD.nil (CD.seq (CD.region ?_))
   refine OD.rE 2 [(6,.loc 4 0),(7,.loc 3 0),(9,.sl 1 l.length (l.map (D.int .i32))),(10,.i64 c),(11,.i64 p),(12,.i64 q),(35,.bool (decide ((0 : Int) < ((q : Nat) : Int))))] ?_
   refine OD.nil ?_
   refine CD.condP rfl (fun h2 => ?_) (fun h2 => ?_)
   ·
    refine CD.seq (CD.region ?_)
    refine OD.rE 2 [(6,.loc 4 0),(7,.loc 3 0),(9,.sl 1 l.length (l.map (D.int .i32))),(11,.i64 p),(12,.i64 q),(37,.i64 (wrapQ .i64 (((c : Nat) : Int) + 1)))] ?_
    refine OD.is 37 rfl (wrn (m := c + 1) (by omega) (by omega)) ?_
    refine OD.rE 1 [(6,.loc 4 0),(7,.loc 3 0),(9,.sl 1 l.length (l.map (D.int .i32))),(10,.i64 ((c + 1 : Nat) : Int)),(11,.i64 p),(12,.i64 q)] ?_
    refine OD.nil (CD.region ?_)
    refine OD.rE 3 [(6,.loc 4 0),(7,.loc 3 0),(9,.sl 1 l.length (l.map (D.int .i32))),(10,.i64 ((c + 1 : Nat) : Int)),(40,.i64 (wrapQ .i64 (((p : Nat) : Int) + ((q : Nat) : Int))))] ?_
    refine OD.is 40 rfl (wrn (m := p + q) (by omega) (by omega)) ?_
    refine OD.rE 1 [(6,.loc 4 0),(7,.loc 3 0),(9,.sl 1 l.length (l.map (D.int .i32))),(10,.i64 ((c + 1 : Nat) : Int)),(11,.i64 ((p + q : Nat) : Int))] ?_
    refine OD.nil ?_
    exact ⟨_, by omega, (c + 1), (p + q), (by kernel_rfl), by omega, by omega, fun m h => by rw [Nat.add_assoc, Nat.add_comm 1 m]; exact hch _ (chain_hit (by omega) hq h2 h), rfl⟩
   ·
    refine CD.region ?_
    refine OD.rE 2 [(6,.loc 4 0),(7,.loc 3 0),(9,.sl 1 l.length (l.map (D.int .i32))),(10,.i64 c),(42,.i64 (wrapQ .i64 (((p : Nat) : Int) + 1)))] ?_
    refine OD.is 42 rfl (wrn (m := p + 1) (by omega) (by omega)) ?_
    refine OD.rE 1 [(6,.loc 4 0),(7,.loc 3 0),(9,.sl 1 l.length (l.map (D.int .i32))),(10,.i64 c),(11,.i64 ((p + 1 : Nat) : Int))] ?_
    refine OD.nil ?_
    exact ⟨_, by omega, c, (p + 1), (by kernel_rfl), by omega, by omega, fun m h => hch _ (chain_skip (by omega) hq h2 h), rfl⟩
  ·
   refine CD.exit ?_
   refine CD.seq (CD.region ?_)
   have hc0 : Chain l (.mk k set no kids mn mx) 0 c := hch 0 (.stop (by omega))
   refine OD.rE 2 [(10,.i64 c),(43,.loc 3 0),(44,.sl 1 l.length (l.map (D.int .i32)))] ?_
   refine OD.cO [3] [.loc 3 0, .sl 1 l.length (l.map (D.int .i32))] (fCount_ok k set no kids mn mx n1 l hf hal hn1 hsb hlb) (fun r L1 hr => ?_)
   obtain ⟨⟨c2, hc2, rfl⟩, rfl⟩ := hr
   obtain rfl : c = c2 := (Chain.one hc2 hc0).symm
   refine OD.rE 3 [(4,.bool (decide ((((c : Nat) : Int) : Int) = ((c : Nat) : Int))))] ?_
   refine OD.nil (CD.ret ?_)
   exact rP (.bool (decide ((((c : Nat) : Int) : Int) = ((c : Nat) : Int)))) (congrArg D.bool (decide_eq_true rfl))
end
end Go.Proofs.YtfcadnhoejlgoaaGreatDoor
