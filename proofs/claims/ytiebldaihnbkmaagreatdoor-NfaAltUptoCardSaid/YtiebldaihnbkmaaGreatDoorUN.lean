/-
  What is proved here: what functions of the pattern's package come to (walks that a program of mine has printed). what functions of the pattern's package come to (walks that a program of mine has printed). No conditions but those that the theorems state.
-/
import Derived.Test.YtiebldaihnbkmaaGreatDoorPureAlt
import Derived.Test.YtiebldaihnbkmaaGreatDoorRI
import Derived.Test.YtiebldaihnbkmaaGreatDoorRG
set_option linter.unusedVariables false
set_option linter.unusedSimpArgs false
set_option maxRecDepth 100000
set_option maxHeartbeats 4000000
namespace Go.Proofs.YtiebldaihnbkmaaGreatDoor
open Go.Vai Go.Nfa Go.Utf
noncomputable section
theorem marks_ok (es : List Nat) (b : List Bool) (he : es = idxs b) (hb : b.length < 10000000) : PureD P ov 38 [.sl 1 es.length (es.map natD), .sl 1 b.length (b.map D.bool)] (.bool true) := by
 refine FnD.intro (by kernel_rfl) (fn := Tryz.f38) (by kernel_rfl) rfl (by kernel_rfl) fun M a0 g0 hg0 => ?_
 refine CD.seq (CD.region ?_)
 refine OD.rE 1 [(0,.sl 1 es.length (es.map natD)),(1,.sl 1 b.length (b.map D.bool))] ?_
 refine OD.nil (CD.seq (CD.region ?_))
 refine OD.rE 1 [(0,.sl 1 es.length (es.map natD)),(1,.sl 1 b.length (b.map D.bool)),(5,.i64 0)] ?_
 refine OD.nil (CD.seq (CD.seq (CD.region ?_)))
 refine OD.rE 1 [(0,.sl 1 es.length (es.map natD)),(1,.sl 1 b.length (b.map D.bool)),(5,.i64 0),(6,.i64 0)] ?_
 refine OD.nil (CD.block ?_)
 refine CD.weak [0, 1, 5, 6] 0 (E' := [(0, .sl 1 es.length (es.map natD)), (1, .sl 1 b.length (b.map D.bool)), (5, .i64 0), (6, .i64 0)]) (by kernel_rfl) (by simp [hg0]) (by kernel_rfl) ?_
 refine CD.loop (fun m σ => ∃ (i : Nat) (n : Nat), σ = ⟨[(0, .sl 1 es.length (es.map natD)), (1, .sl 1 b.length (b.map D.bool)), (5, .i64 n), (6, .i64 i)], []⟩ ∧ (i ≤ b.length) ∧ (n = (markd b i).length) ∧ (n ≤ i) ∧ m = b.length - i) (fun m σ hI => ?_) _ ⟨0, 0, (by kernel_rfl), Nat.zero_le _, rfl, Nat.le_refl _, rfl⟩
 obtain ⟨i, n, e, hi, hn, hni, hm⟩ := hI
 subst e hm
 refine CD.seq (CD.seq (CD.region ?_))
 refine OD.rE 4 [(0,.sl 1 es.length (es.map natD)),(1,.sl 1 b.length (b.map D.bool)),(5,.i64 n),(6,.i64 i),(10,.bool (decide ((((i : Nat) : Int) : Int) < ((b.length : Nat) : Int))))] ?_
 refine OD.nil ?_
 refine CD.condP rfl (fun h1 => ?_) (fun h1 => ?_)
 ·
  refine CD.skip (CD.seq (CD.block (CD.seq (CD.region ?_))))
  refine OD.rE 2 [(0,.sl 1 es.length (es.map natD)),(1,.sl 1 b.length (b.map D.bool)),(5,.i64 n),(6,.i64 i),(13,.sl 1 b.length (b.map D.bool)),(14,.i64 i)] ?_
  refine OD.idxSV (i := i) rfl rfl (by kernel_rfl) (by omega) (by omega) ?_
  refine OD.rE 0 [(0,.sl 1 es.length (es.map natD)),(1,.sl 1 b.length (b.map D.bool)),(5,.i64 n),(6,.i64 i),(15,.ep 1 b.length (b.map D.bool) i)] ?_
  refine OD.ldSV false (f := D.bool) (xs := b) rfl (by kernel_rfl) (by first | omega | (simp <;> omega)) ?_
  refine OD.rE 0 [(0,.sl 1 es.length (es.map natD)),(1,.sl 1 b.length (b.map D.bool)),(5,.i64 n),(6,.i64 i),(16,.bool (b.getD i false))] ?_
  refine OD.nil ?_
  refine CD.condB rfl (fun h2 => ?_) (fun h2 => ?_)
  ·
   refine CD.seq (CD.seq (CD.region ?_))
   refine OD.rE 4 [(0,.sl 1 es.length (es.map natD)),(1,.sl 1 b.length (b.map D.bool)),(5,.i64 n),(6,.i64 i),(20,.bool (decide ((((es.length : Nat) : Int) : Int) ≤ ((n : Nat) : Int))))] ?_
   obtain ⟨hm1, hm2, hm3⟩ := mark_at he hn (by omega) h2
   refine OD.is 20 rfl (congrArg D.bool (decide_eq_false (by omega))) ?_
   refine OD.rE 3 [(0,.sl 1 es.length (es.map natD)),(1,.sl 1 b.length (b.map D.bool)),(5,.i64 n),(6,.i64 i),(21,.bool false),(22,.sl 1 es.length (es.map natD)),(23,.i64 n)] ?_
   refine OD.guard rfl rfl ?_
   refine OD.idxSV (i := n) rfl rfl (by kernel_rfl) (by omega) (by omega) ?_
   refine OD.rE 0 [(0,.sl 1 es.length (es.map natD)),(1,.sl 1 b.length (b.map D.bool)),(5,.i64 n),(6,.i64 i),(21,.bool false),(24,.ep 1 es.length (es.map natD) n)] ?_
   refine OD.guard rfl rfl ?_
   refine OD.ldSV 0 (f := natD) (xs := es) rfl (by kernel_rfl) (by first | omega | (simp <;> omega)) ?_
   refine OD.rE 2 [(0,.sl 1 es.length (es.map natD)),(1,.sl 1 b.length (b.map D.bool)),(5,.i64 n),(6,.i64 i),(21,.bool false),(27,.bool (decide (¬ ((((es.getD n 0) : Nat) : Int) : Int) = ((i : Nat) : Int))))] ?_
   refine OD.is 27 rfl (congrArg D.bool (decide_eq_false (by omega))) ?_
   refine OD.rE 1 [(0,.sl 1 es.length (es.map natD)),(1,.sl 1 b.length (b.map D.bool)),(5,.i64 n),(6,.i64 i),(28,.bool false)] ?_
   refine OD.nil ?_
   refine CD.condF rfl ?_
   refine CD.skip (CD.region ?_)
   refine OD.rE 2 [(0,.sl 1 es.length (es.map natD)),(1,.sl 1 b.length (b.map D.bool)),(6,.i64 i),(30,.i64 (wrapQ .i64 (((n : Nat) : Int) + 1)))] ?_
   refine OD.is 30 rfl (wrn (m := n + 1) (by omega) (by omega)) ?_
   refine OD.rE 1 [(0,.sl 1 es.length (es.map natD)),(1,.sl 1 b.length (b.map D.bool)),(5,.i64 ((n + 1 : Nat) : Int)),(6,.i64 i)] ?_
   refine OD.nil (CD.region ?_)
   refine OD.rE 2 [(0,.sl 1 es.length (es.map natD)),(1,.sl 1 b.length (b.map D.bool)),(5,.i64 ((n + 1 : Nat) : Int)),(12,.i64 (wrapQ .i64 (((i : Nat) : Int) + 1)))] ?_
   refine OD.is 12 rfl (wrn (m := i + 1) (by omega) (by omega)) ?_
   refine OD.rE 1 [(0,.sl 1 es.length (es.map natD)),(1,.sl 1 b.length (b.map D.bool)),(5,.i64 ((n + 1 : Nat) : Int)),(6,.i64 ((i + 1 : Nat) : Int))] ?_
   refine OD.nil ?_
   exact ⟨_, by omega, i + 1, n + 1, (by kernel_rfl), by omega, by first | omega | exact mark_no hn (by assumption), by omega, rfl⟩
  ·
   refine CD.skip (CD.region ?_)
   refine OD.rE 2 [(0,.sl 1 es.length (es.map natD)),(1,.sl 1 b.length (b.map D.bool)),(5,.i64 n),(12,.i64 (wrapQ .i64 (((i : Nat) : Int) + 1)))] ?_
   refine OD.is 12 rfl (wrn (m := i + 1) (by omega) (by omega)) ?_
   refine OD.rE 1 [(0,.sl 1 es.length (es.map natD)),(1,.sl 1 b.length (b.map D.bool)),(5,.i64 n),(6,.i64 ((i + 1 : Nat) : Int))] ?_
   refine OD.nil ?_
   exact ⟨_, by omega, i + 1, n, (by kernel_rfl), by omega, by first | omega | exact mark_no hn (by assumption), by omega, rfl⟩
 ·
  refine CD.exit ?_
  refine CD.seq (CD.region ?_)
  refine OD.rE 4 [(34,.bool (decide ((((n : Nat) : Int) : Int) = ((es.length : Nat) : Int))))] ?_
  refine OD.is 34 rfl (congrArg D.bool (decide_eq_true (by have := mark_end he hn (by omega); omega))) ?_
  refine OD.rE 1 [(4,.bool true)] ?_
  refine OD.nil (CD.ret ?_)
  exact rP (.bool true) (rfl)
end
end Go.Proofs.YtiebldaihnbkmaaGreatDoor
set_option maxRecDepth 100000
set_option maxHeartbeats 4000000
namespace Go.Proofs.YtiebldaihnbkmaaGreatDoor
open Go.Vai Go.Nfa Go.Utf
noncomputable section
theorem NfaAlt_fn (ra rb s : ByteArray) (at_ : Int) (hsz : s.size ≤ 1048576) (hra : ra.size ≤ 140737488351232) (hrb : rb.size ≤ 140737488351232) (hat : -9223372036854775808 ≤ at_ ∧ at_ < 9223372036854775808) : PureD P ov 13 [.str ra, .str rb, .str s, .i64 at_] (.bool true) := by
 refine FnD.intro (by kernel_rfl) (fn := Tryz.f13) (by kernel_rfl) rfl (by kernel_rfl) fun M a0 g0 hg0 => ?_
 refine CD.seq (CD.region ?_)
 refine OD.rE 1 [(0,.str ra),(1,.str rb),(2,.str s),(3,.i64 at_)] ?_
 refine OD.nil (CD.seq (CD.region ?_))
 refine OD.cE (FnD.known rfl (fun _ => rfl)) ?_
 refine OD.rE 1 [(0,.str ra),(1,.str rb),(2,.str s),(3,.i64 at_),(9,.bool true)] ?_
 refine OD.nil (CD.seq (CD.seq (CD.region ?_)))
 refine OD.rE 2 [(0,.str ra),(1,.str rb),(2,.str s),(3,.i64 at_),(33,.bool false)] ?_
 refine OD.nil ?_
 refine CD.condF rfl ?_
 refine CD.skip (CD.seq (CD.region ?_))
 refine OD.rE 1 [(1,.str rb),(2,.str s),(3,.i64 at_),(34,.str ra)] ?_
 refine OD.cP (fun r => ∃ t : ByteArray, t = ra.extract 0 (min ra.size 12) ∧ t.size ≤ 12 ∧ r = .str t) (short_ex ra 12) (fun r hr => ?_)
 obtain ⟨t1, ht1, ht1s, rfl⟩ := hr
 refine OD.rE 1 [(2,.str s),(3,.i64 at_),(35,.str t1),(36,.str rb)] ?_
 refine OD.cP (fun r => ∃ t : ByteArray, t = rb.extract 0 (min rb.size 12) ∧ t.size ≤ 12 ∧ r = .str t) (short_ex rb 12) (fun r hr => ?_)
 obtain ⟨t2, ht2, ht2s, rfl⟩ := hr
 refine OD.rE 2 [(0,.str t1),(1,.str t2),(2,.str s),(3,.i64 at_)] ?_
 refine OD.nil (CD.seq (CD.region ?_))
 refine OD.rE 1 [(1,.str t2),(2,.str s),(3,.i64 at_),(39,.str t1)] ?_
 refine OD.cP (parseR t1) (parse_ok t1 (by omega)) (fun r hr => ?_)
 rcases hr with ⟨_, rfl⟩ | ⟨⟨k, set, no, kids, mn, mx⟩, hN, rfl⟩
 ·
  refine OD.rL 6 [(1,.str t2),(2,.str s),(3,.i64 at_),(10,.loc 0 0),(11,.i64 5)] [.box (celN zeroN)] ?_
  refine OD.nil (CD.seq (CD.region ?_))
  refine OD.rE 1 [(2,.str s),(3,.i64 at_),(10,.loc 0 0),(11,.i64 5),(44,.str t2)] ?_
  refine OD.cP (parseR t2) (parse_ok t2 (by omega)) (fun r hr => ?_)
  rcases hr with ⟨_, rfl⟩ | ⟨⟨k2, set2, no2, kids2, mn2, mx2⟩, hNb, rfl⟩
  ·
   refine OD.rL 6 [(2,.str s),(3,.i64 at_),(10,.loc 0 0),(11,.i64 5),(12,.loc 1 0),(13,.i64 5)] [.box (celN zeroN), .box (celN zeroN)] ?_
   refine OD.nil (CD.seq (CD.seq ?_))
   refine CD.drawnF [9] 1 [(12, 0)] rfl (by kernel_rfl) (by kernel_rfl) (fun M1 a1 g1 bx1 bq hg1 hlk => ?_)
   refine OD.rE 14 [(2,.str s),(3,.i64 at_),(10,.loc 0 0),(12, litP bq 0),(57,.tup []),(61,.bool true)] ?_
   refine OD.nil ⟨by kernel_rfl, ⟨⟨34, 12, by kernel_rfl, .inr ⟨0, .agg (celN zeroN), rfl, by kernel_rfl⟩⟩, trivial⟩, ⟨rfl, trivial⟩, rfl, ?_⟩
   refine CD.condT rfl ?_
   refine CD.seq (CD.region ?_)
   refine OD.rE 1 [(8,.bool true)] ?_
   refine OD.nil (CD.ret ?_)
   exact rP (.bool true) (rfl)
  ·
   obtain ⟨hfb, hallb, hz60b⟩ := parse_good hNb
   have hsmb := parse_small hNb
   have hwbb := wr_bd (.mk k2 set2 no2 kids2 mn2 mx2)
   refine OD.rL 6 [(2,.str s),(3,.i64 at_),(10,.loc 0 0),(11,.i64 5),(12,.loc 1 0),(13,.i64 0)] [.box (celN zeroN), .box [.i64 k2, .sl 2 set2.length (set2.flatMap encR), .bool no2, .sl 6 kids2.length (encNs kids2), .i64 mn2, .i64 mx2]] ?_
   refine OD.nil (CD.seq (CD.seq ?_))
   refine CD.drawnF [9] 1 [(12, 0)] rfl (by kernel_rfl) (by kernel_rfl) (fun M1 a1 g1 bx1 bq hg1 hlk => ?_)
   refine OD.rE 14 [(2,.str s),(3,.i64 at_),(10,.loc 0 0),(12, litP bq 0),(57,.tup []),(61,.bool true)] ?_
   refine OD.nil ⟨by kernel_rfl, ⟨⟨34, 12, by kernel_rfl, .inr ⟨0, .agg [.i64 k2, .sl 2 set2.length (set2.flatMap encR), .bool no2, .sl 6 kids2.length (encNs kids2), .i64 mn2, .i64 mx2], rfl, by kernel_rfl⟩⟩, trivial⟩, ⟨rfl, trivial⟩, rfl, ?_⟩
   refine CD.condT rfl ?_
   refine CD.seq (CD.region ?_)
   refine OD.rE 1 [(8,.bool true)] ?_
   refine OD.nil (CD.ret ?_)
   exact rP (.bool true) (rfl)
 ·
  obtain ⟨hf, hall, hz60⟩ := parse_good hN
  have hsm := parse_small hN
  have hwb := wr_bd (.mk k set no kids mn mx)
  refine OD.rL 6 [(1,.str t2),(2,.str s),(3,.i64 at_),(10,.loc 0 0),(11,.i64 0)] [.box [.i64 k, .sl 2 set.length (set.flatMap encR), .bool no, .sl 6 kids.length (encNs kids), .i64 mn, .i64 mx]] ?_
  refine OD.nil (CD.seq (CD.region ?_))
  refine OD.rE 1 [(2,.str s),(3,.i64 at_),(10,.loc 0 0),(11,.i64 0),(44,.str t2)] ?_
  refine OD.cP (parseR t2) (parse_ok t2 (by omega)) (fun r hr => ?_)
  rcases hr with ⟨_, rfl⟩ | ⟨⟨k2, set2, no2, kids2, mn2, mx2⟩, hNb, rfl⟩
  ·
   refine OD.rL 6 [(2,.str s),(3,.i64 at_),(10,.loc 0 0),(11,.i64 0),(12,.loc 1 0),(13,.i64 5)] [.box [.i64 k, .sl 2 set.length (set.flatMap encR), .bool no, .sl 6 kids.length (encNs kids), .i64 mn, .i64 mx], .box (celN zeroN)] ?_
   refine OD.nil (CD.seq (CD.seq ?_))
   refine CD.drawnF [9] 1 [(12, 0)] rfl (by kernel_rfl) (by kernel_rfl) (fun M1 a1 g1 bx1 bq hg1 hlk => ?_)
   refine OD.rE 14 [(2,.str s),(3,.i64 at_),(10,.loc 0 0),(12, litP bq 0),(57,.tup []),(61,.bool true)] ?_
   refine OD.nil ⟨by kernel_rfl, ⟨⟨34, 12, by kernel_rfl, .inr ⟨0, .agg (celN zeroN), rfl, by kernel_rfl⟩⟩, trivial⟩, ⟨rfl, trivial⟩, rfl, ?_⟩
   refine CD.condT rfl ?_
   refine CD.seq (CD.region ?_)
   refine OD.rE 1 [(8,.bool true)] ?_
   refine OD.nil (CD.ret ?_)
   exact rP (.bool true) (rfl)
  ·
   obtain ⟨hfb, hallb, hz60b⟩ := parse_good hNb
   have hsmb := parse_small hNb
   have hwbb := wr_bd (.mk k2 set2 no2 kids2 mn2 mx2)
   refine OD.rL 6 [(2,.str s),(3,.i64 at_),(10,.loc 0 0),(11,.i64 0),(12,.loc 1 0),(13,.i64 0)] [.box [.i64 k, .sl 2 set.length (set.flatMap encR), .bool no, .sl 6 kids.length (encNs kids), .i64 mn, .i64 mx], .box [.i64 k2, .sl 2 set2.length (set2.flatMap encR), .bool no2, .sl 6 kids2.length (encNs kids2), .i64 mn2, .i64 mx2]] ?_
   refine OD.nil (CD.seq (CD.seq ?_))
   refine CD.drawnF [9] 1 [(12, 0)] rfl (by kernel_rfl) (by kernel_rfl) (fun M1 a1 g1 bx1 bq hg1 hlk => ?_)
   refine OD.rE 8 [(2,.str s),(3,.i64 at_),(10,.loc 0 0),(12, litP bq 0),(54,.bool false),(55,.agg [.i64 k, .sl 2 set.length (set.flatMap encR), .bool no, .sl 6 kids.length (encNs kids), .i64 mn, .i64 mx])] ?_
   refine OD.guard rfl rfl ?_
   refine OD.cE (Weight_ok _ k set no kids mn mx (Nat.le_refl _) hf hall) ?_
   refine OD.rE 0 [(2,.str s),(3,.i64 at_),(10,.loc 0 0),(12, litP bq 0),(54,.bool false),(56,.i64 ((wr K14 1000000 (.mk k set no kids mn mx) : Nat) : Int))] ?_
   refine OD.guard rfl rfl ?_
   refine OD.ldF (d := .agg [.i64 k2, .sl 2 set2.length (set2.flatMap encR), .bool no2, .sl 6 kids2.length (encNs kids2), .i64 mn2, .i64 mx2]) hlk rfl (by kernel_rfl) ?_
   refine OD.rE 0 [(2,.str s),(3,.i64 at_),(10,.loc 0 0),(12, litP bq 0),(54,.bool false),(56,.i64 ((wr K14 1000000 (.mk k set no kids mn mx) : Nat) : Int)),(57,.agg [.i64 k2, .sl 2 set2.length (set2.flatMap encR), .bool no2, .sl 6 kids2.length (encNs kids2), .i64 mn2, .i64 mx2])] ?_
   refine OD.guard rfl rfl ?_
   refine OD.cE (Weight_ok _ k2 set2 no2 kids2 mn2 mx2 (Nat.le_refl _) hfb hallb) ?_
   refine OD.rE 1 [(2,.str s),(3,.i64 at_),(10,.loc 0 0),(12, litP bq 0),(54,.bool false),(57,.agg [.i64 k2, .sl 2 set2.length (set2.flatMap encR), .bool no2, .sl 6 kids2.length (encNs kids2), .i64 mn2, .i64 mx2]),(59,.i64 (wrapQ .i64 (((wr K14 1000000 (.mk k set no kids mn mx) : Nat) : Int) + ((wr K14 1000000 (.mk k2 set2 no2 kids2 mn2 mx2) : Nat) : Int))))] ?_
   refine OD.is 59 rfl (wrn (m := (wr K14 1000000 (.mk k set no kids mn mx)) + (wr K14 1000000 (.mk k2 set2 no2 kids2 mn2 mx2))) (by omega) (by omega)) ?_
   refine OD.rE 2 [(2,.str s),(3,.i64 at_),(10,.loc 0 0),(12, litP bq 0),(57,.agg [.i64 k2, .sl 2 set2.length (set2.flatMap encR), .bool no2, .sl 6 kids2.length (encNs kids2), .i64 mn2, .i64 mx2]),(61,.bool (decide ((300 : Int) < (((wr K14 1000000 (.mk k set no kids mn mx)) + (wr K14 1000000 (.mk k2 set2 no2 kids2 mn2 mx2)) : Nat) : Int))))] ?_
   refine OD.nil ⟨by kernel_rfl, ⟨⟨34, 12, by kernel_rfl, .inr ⟨0, .agg [.i64 k2, .sl 2 set2.length (set2.flatMap encR), .bool no2, .sl 6 kids2.length (encNs kids2), .i64 mn2, .i64 mx2], rfl, by kernel_rfl⟩⟩, trivial⟩, ⟨rfl, trivial⟩, rfl, ?_⟩
   refine CD.condP rfl (fun h1 => ?_) (fun h1 => ?_)
   ·
    refine CD.seq (CD.region ?_)
    refine OD.rE 1 [(8,.bool true)] ?_
    refine OD.nil (CD.ret ?_)
    exact rP (.bool true) (rfl)
   ·
    refine CD.skip (CD.seq (CD.region ?_))
    refine OD.rE 1 [(3,.i64 at_),(10,.loc 0 0),(12,.loc 1 0),(62,.str s)] ?_
    refine OD.cP (fun r => ∃ l : List Int, r = .sl 1 l.length (l.map (D.int .i32)) ∧ l.length ≤ 20) (text_ok s 20 (by omega)) (fun r hr => ?_)
    obtain ⟨l19, rfl, hl19⟩ := hr
    refine OD.rE 1 [(3,.i64 at_),(10,.loc 0 0),(12,.loc 1 0),(14,.sl 1 l19.length (l19.map (D.int .i32)))] ?_
    refine OD.nil (CD.seq (CD.seq (CD.region ?_)))
    refine OD.rE 2 [(3,.i64 at_),(10,.loc 0 0),(12,.loc 1 0),(14,.sl 1 l19.length (l19.map (D.int .i32))),(65,.bool (decide ((at_ : Int) < 0)))] ?_
    refine OD.nil ?_
    refine CD.condP rfl (fun h2 => ?_) (fun h2 => ?_)
    ·
     refine CD.seq (CD.region ?_)
     refine OD.rE 1 [(8,.bool true)] ?_
     refine OD.nil (CD.ret ?_)
     exact rP (.bool true) (rfl)
    ·
     refine CD.skip (CD.seq (CD.region ?_))
     refine OD.rE 4 [(10,.loc 0 0),(12,.loc 1 0),(14,.sl 1 l19.length (l19.map (D.int .i32))),(66,.i64 at_),(69,.i64 (wrapQ .i64 (((l19.length : Nat) : Int) + 1)))] ?_
     refine OD.is 69 rfl (wrn (m := l19.length + 1) (by omega) (by omega)) ?_
     refine OD.rE 0 [(10,.loc 0 0),(12,.loc 1 0),(14,.sl 1 l19.length (l19.map (D.int .i32))),(66,.i64 at_),(69,.i64 ((l19.length + 1 : Nat) : Int))] ?_
     obtain ⟨a0, ha0⟩ : ∃ a : Nat, at_ = (a : Int) := ⟨at_.toNat, by omega⟩
     refine OD.is 66 rfl (congrArg (D.int .i64) ha0) ?_
     refine OD.bit rfl rfl (q_rem (m := a0) (n := (l19.length + 1)) (Nat.succ_pos _)) ?_
     obtain ⟨a, haa⟩ : ∃ a : Nat, a = a0 % ((l19.length + 1)) := ⟨_, rfl⟩
     have hale : a ≤ l19.length := by have := Nat.mod_lt a0 (show 0 < (l19.length + 1) from Nat.succ_pos _); omega
     refine OD.is 70 rfl (congrArg (fun n : Nat => D.int .i64 (n : Int)) haa.symm) ?_
     refine OD.rE 1 [(3,.i64 a),(10,.loc 0 0),(12,.loc 1 0),(14,.sl 1 l19.length (l19.map (D.int .i32)))] ?_
     refine OD.nil (CD.seq (CD.region ?_))
     refine OD.rE 2 [(3,.i64 a),(10,.loc 0 0),(12,.loc 1 0),(14,.sl 1 l19.length (l19.map (D.int .i32))),(72,.agg [.i64 k, .sl 2 set.length (set.flatMap encR), .bool no, .sl 6 kids.length (encNs kids), .i64 mn, .i64 mx]),(73,.agg [.i64 k2, .sl 2 set2.length (set2.flatMap encR), .bool no2, .sl 6 kids2.length (encNs kids2), .i64 mn2, .i64 mx2])] ?_
     refine OD.bsl (e := 6) (cs := [.i64 k, .sl 2 set.length (set.flatMap encR), .bool no, .sl 6 kids.length (encNs kids), .i64 mn, .i64 mx, .i64 k2, .sl 2 set2.length (set2.flatMap encR), .bool no2, .sl 6 kids2.length (encNs kids2), .i64 mn2, .i64 mx2]) rfl (by kernel_rfl) ?_
     refine OD.is 74 rfl (show _ = D.sl 6 ([(.mk k set no kids mn mx), (.mk k2 set2 no2 kids2 mn2 mx2)] : List Nd).length (encNs [(.mk k set no kids mn mx), (.mk k2 set2 no2 kids2 mn2 mx2)]) from rfl) ?_
     refine OD.rE 1 [(3,.i64 a),(10,.loc 0 0),(12,.loc 1 0),(14,.sl 1 l19.length (l19.map (D.int .i32))),(75,.agg [.i64 4, .lit (.slice none 0 0), .bool false, .sl 6 (([(.mk k set no kids mn mx),(.mk k2 set2 no2 kids2 mn2 mx2)] : List Nd).length) (encNs [(.mk k set no kids mn mx),(.mk k2 set2 no2 kids2 mn2 mx2)]), .i64 0, .i64 0])] ?_
     refine OD.reNil 75 [0, 2, 0, 0, 0, 0] (ds' := [.i64 4, .sl 2 0 ([]), .bool false, .sl 6 (([(.mk k set no kids mn mx), (.mk k2 set2 no2 kids2 mn2 mx2)] : List Nd).length) (encNs [(.mk k set no kids mn mx), (.mk k2 set2 no2 kids2 mn2 mx2)]), .i64 0, .i64 0]) rfl (by kernel_rfl) ?_
     refine OD.rE 0 [(3,.i64 a),(10,.loc 0 0),(12,.loc 1 0),(14,.sl 1 l19.length (l19.map (D.int .i32))),(75,.agg [.i64 4, .sl 2 0 ([]), .bool false, .sl 6 (([(.mk k set no kids mn mx),(.mk k2 set2 no2 kids2 mn2 mx2)] : List Nd).length) (encNs [(.mk k set no kids mn mx),(.mk k2 set2 no2 kids2 mn2 mx2)]), .i64 0, .i64 0])] ?_
     have hfu : fit (altN (.mk k set no kids mn mx) (.mk k2 set2 no2 kids2 mn2 mx2)) := two_fit hf hfb
     have hallu := alt_loc hall hallb
     have hcwu := alt_comp hall hallb (by omega) (by omega) (by omega)
     refine OD.cO [] [.agg [.i64 4, .sl 2 0 ([]), .bool false, .sl 6 (([(.mk k set no kids mn mx), (.mk k2 set2 no2 kids2 mn2 mx2)] : List Nd).length) (encNs [(.mk k set no kids mn mx), (.mk k2 set2 no2 kids2 mn2 mx2)]), .i64 0, .i64 0]] (Compile_ok 4 [] false [(.mk k set no kids mn mx), (.mk k2 set2 no2 kids2 mn2 mx2)] 0 0 hfu) (fun r L1 hr => ?_)
     rcases hr with ⟨hc1u, hc2u, n1u, hn1u, rfl, rfl⟩ | hr
     rotate_left
     · exact (comp_no hr hcwu).elim
     have halu := cnt_loc hc1u
     have hmlu := machine_len halu hc2u
     refine OD.rE 5 [(3,.i64 a),(10,.loc 0 0),(12,.loc 1 0),(14,.sl 1 l19.length (l19.map (D.int .i32))),(15,.loc 3 0),(16,.i64 0)] ?_
     refine OD.nil (CD.seq (CD.region ?_))
     refine OD.rE 2 [(3,.i64 a),(10,.loc 0 0),(12,.loc 1 0),(14,.sl 1 l19.length (l19.map (D.int .i32))),(15,.loc 3 0),(16,.i64 0),(80,.agg [.i64 k, .sl 2 set.length (set.flatMap encR), .bool no, .sl 6 kids.length (encNs kids), .i64 mn, .i64 mx]),(81,.agg [.i64 k2, .sl 2 set2.length (set2.flatMap encR), .bool no2, .sl 6 kids2.length (encNs kids2), .i64 mn2, .i64 mx2])] ?_
     refine OD.bsl (e := 6) (cs := [.i64 k, .sl 2 set.length (set.flatMap encR), .bool no, .sl 6 kids.length (encNs kids), .i64 mn, .i64 mx, .i64 k2, .sl 2 set2.length (set2.flatMap encR), .bool no2, .sl 6 kids2.length (encNs kids2), .i64 mn2, .i64 mx2]) rfl (by kernel_rfl) ?_
     refine OD.is 82 rfl (show _ = D.sl 6 ([(.mk k set no kids mn mx), (.mk k2 set2 no2 kids2 mn2 mx2)] : List Nd).length (encNs [(.mk k set no kids mn mx), (.mk k2 set2 no2 kids2 mn2 mx2)]) from rfl) ?_
     refine OD.rE 1 [(3,.i64 a),(10,.loc 0 0),(12,.loc 1 0),(14,.sl 1 l19.length (l19.map (D.int .i32))),(15,.loc 3 0),(16,.i64 0),(83,.agg [.i64 3, .lit (.slice none 0 0), .bool false, .sl 6 (([(.mk k set no kids mn mx),(.mk k2 set2 no2 kids2 mn2 mx2)] : List Nd).length) (encNs [(.mk k set no kids mn mx),(.mk k2 set2 no2 kids2 mn2 mx2)]), .i64 0, .i64 0])] ?_
     refine OD.reNil 83 [0, 2, 0, 0, 0, 0] (ds' := [.i64 3, .sl 2 0 ([]), .bool false, .sl 6 (([(.mk k set no kids mn mx), (.mk k2 set2 no2 kids2 mn2 mx2)] : List Nd).length) (encNs [(.mk k set no kids mn mx), (.mk k2 set2 no2 kids2 mn2 mx2)]), .i64 0, .i64 0]) rfl (by kernel_rfl) ?_
     refine OD.rE 0 [(3,.i64 a),(10,.loc 0 0),(12,.loc 1 0),(14,.sl 1 l19.length (l19.map (D.int .i32))),(15,.loc 3 0),(16,.i64 0),(83,.agg [.i64 3, .sl 2 0 ([]), .bool false, .sl 6 (([(.mk k set no kids mn mx),(.mk k2 set2 no2 kids2 mn2 mx2)] : List Nd).length) (encNs [(.mk k set no kids mn mx),(.mk k2 set2 no2 kids2 mn2 mx2)]), .i64 0, .i64 0])] ?_
     have hfv : fit (catN (.mk k set no kids mn mx) (.mk k2 set2 no2 kids2 mn2 mx2)) := two_fit hf hfb
     have hallv := cat_loc hall hallb
     have hcwv := cat_comp hall hallb (by omega) (by omega) (by omega)
     refine OD.cO [] [.agg [.i64 3, .sl 2 0 ([]), .bool false, .sl 6 (([(.mk k set no kids mn mx), (.mk k2 set2 no2 kids2 mn2 mx2)] : List Nd).length) (encNs [(.mk k set no kids mn mx), (.mk k2 set2 no2 kids2 mn2 mx2)]), .i64 0, .i64 0]] (Compile_ok 3 [] false [(.mk k set no kids mn mx), (.mk k2 set2 no2 kids2 mn2 mx2)] 0 0 hfv) (fun r L1 hr => ?_)
     rcases hr with ⟨hc1v, hc2v, n1v, hn1v, rfl, rfl⟩ | hr
     rotate_left
     · exact (comp_no hr hcwv).elim
     have halv := cnt_loc hc1v
     have hmlv := machine_len halv hc2v
     refine OD.rE 5 [(3,.i64 a),(10,.loc 0 0),(12,.loc 1 0),(14,.sl 1 l19.length (l19.map (D.int .i32))),(15,.loc 3 0),(16,.i64 0),(17,.loc 6 0),(18,.i64 0)] ?_
     refine OD.nil (CD.seq (CD.region ?_))
     refine OD.rE 1 [(3,.i64 a),(12,.loc 1 0),(14,.sl 1 l19.length (l19.map (D.int .i32))),(15,.loc 3 0),(16,.i64 0),(17,.loc 6 0),(18,.i64 0),(88,.agg [.i64 k, .sl 2 set.length (set.flatMap encR), .bool no, .sl 6 kids.length (encNs kids), .i64 mn, .i64 mx])] ?_
     have hcw := one_comp hall (by omega) (by omega)
     refine OD.cO [] [.agg [.i64 k, .sl 2 set.length (set.flatMap encR), .bool no, .sl 6 kids.length (encNs kids), .i64 mn, .i64 mx]] (Compile_ok k set no kids mn mx hf) (fun r L1 hr => ?_)
     rcases hr with ⟨hc1, hc2, n1, hn1, rfl, rfl⟩ | hr
     rotate_left
     · exact (comp_no hr hcw).elim
     have hal := cnt_loc hc1
     have hml := machine_len hal hc2
     refine OD.rE 5 [(3,.i64 a),(12,.loc 1 0),(14,.sl 1 l19.length (l19.map (D.int .i32))),(15,.loc 3 0),(16,.i64 0),(17,.loc 6 0),(18,.i64 0),(19,.loc 9 0),(20,.i64 0)] ?_
     refine OD.nil (CD.seq (CD.region ?_))
     refine OD.rE 1 [(3,.i64 a),(14,.sl 1 l19.length (l19.map (D.int .i32))),(15,.loc 3 0),(16,.i64 0),(17,.loc 6 0),(18,.i64 0),(19,.loc 9 0),(20,.i64 0),(93,.agg [.i64 k2, .sl 2 set2.length (set2.flatMap encR), .bool no2, .sl 6 kids2.length (encNs kids2), .i64 mn2, .i64 mx2])] ?_
     have hcwb := one_comp hallb (by omega) (by omega)
     refine OD.cO [] [.agg [.i64 k2, .sl 2 set2.length (set2.flatMap encR), .bool no2, .sl 6 kids2.length (encNs kids2), .i64 mn2, .i64 mx2]] (Compile_ok k2 set2 no2 kids2 mn2 mx2 hfb) (fun r L1 hr => ?_)
     rcases hr with ⟨hc1b, hc2b, n1b, hn1b, rfl, rfl⟩ | hr
     rotate_left
     · exact (comp_no hr hcwb).elim
     have halb := cnt_loc hc1b
     have hmlb := machine_len halb hc2b
     refine OD.rE 5 [(3,.i64 a),(14,.sl 1 l19.length (l19.map (D.int .i32))),(15,.loc 3 0),(16,.i64 0),(17,.loc 6 0),(18,.i64 0),(19,.loc 9 0),(20,.i64 0),(21,.loc 12 0),(22,.i64 0)] ?_
     refine OD.nil (CD.seq (CD.seq (CD.region ?_)))
     refine OD.rE 14 [(3,.i64 a),(14,.sl 1 l19.length (l19.map (D.int .i32))),(15,.loc 3 0),(17,.loc 6 0),(19,.loc 9 0),(21,.loc 12 0),(110,.bool false)] ?_
     refine OD.nil ?_
     refine CD.condF rfl ?_
     refine CD.skip (CD.seq ?_)
     refine CD.drawnL 7 (by kernel_rfl) ?_
     refine OD.rE 3 [(3,.i64 a),(14,.sl 1 l19.length (l19.map (D.int .i32))),(15,.loc 3 0),(17,.loc 6 0),(19,.loc 9 0),(21,.loc 12 0),(111,.sl 1 l19.length (l19.map (D.int .i32))),(112,.i64 l19.length),(113,.i64 (wrapQ .i64 (((l19.length : Nat) : Int) + 1)))] ?_
     refine OD.is 113 rfl (wrn (m := l19.length + 1) (by omega) (by omega)) ?_
     refine OD.rE 0 [(3,.i64 a),(14,.sl 1 l19.length (l19.map (D.int .i32))),(15,.loc 3 0),(17,.loc 6 0),(19,.loc 9 0),(21,.loc 12 0),(111,.sl 1 l19.length (l19.map (D.int .i32))),(112,.i64 l19.length),(113,.i64 ((l19.length + 1 : Nat) : Int))] ?_
     refine OD.mkV D.bool false (n := (l19.length + 1)) (by_ := 1) (by kernel_rfl) rfl rfl (by omega) (by omega) ?_
     refine OD.rE 3 [(3,.i64 a),(14,.sl 1 l19.length (l19.map (D.int .i32))),(15,.loc 3 0),(17,.loc 6 0),(19,.loc 9 0),(21,.loc 12 0),(111,.sl 1 l19.length (l19.map (D.int .i32))),(112,.i64 l19.length),(113,.i64 ((l19.length + 1 : Nat) : Int)),(114,.row 14 0 (l19.length + 1) (l19.length + 1)),(115,.sl 1 l19.length (l19.map (D.int .i32))),(116,.i64 l19.length),(117,.i64 (wrapQ .i64 (((l19.length : Nat) : Int) + 1)))] ?_
     refine OD.is 117 rfl (wrn (m := l19.length + 1) (by omega) (by omega)) ?_
     refine OD.rE 0 [(3,.i64 a),(14,.sl 1 l19.length (l19.map (D.int .i32))),(15,.loc 3 0),(17,.loc 6 0),(19,.loc 9 0),(21,.loc 12 0),(111,.sl 1 l19.length (l19.map (D.int .i32))),(112,.i64 l19.length),(113,.i64 ((l19.length + 1 : Nat) : Int)),(114,.row 14 0 (l19.length + 1) (l19.length + 1)),(115,.sl 1 l19.length (l19.map (D.int .i32))),(116,.i64 l19.length),(117,.i64 ((l19.length + 1 : Nat) : Int))] ?_
     refine OD.mkV D.bool false (n := (l19.length + 1)) (by_ := 1) (by kernel_rfl) rfl rfl (by omega) (by omega) ?_
     refine OD.rE 2 [(3,.i64 a),(14,.sl 1 l19.length (l19.map (D.int .i32))),(15,.loc 3 0),(17,.loc 6 0),(19,.loc 9 0),(21,.loc 12 0),(23,.row 14 0 (l19.length + 1) (l19.length + 1)),(24,.row 15 0 (l19.length + 1) (l19.length + 1)),(111,.sl 1 l19.length (l19.map (D.int .i32))),(112,.i64 l19.length),(113,.i64 ((l19.length + 1 : Nat) : Int)),(115,.sl 1 l19.length (l19.map (D.int .i32))),(116,.i64 l19.length),(117,.i64 ((l19.length + 1 : Nat) : Int))] ?_
     refine OD.nil ⟨by kernel_rfl, ?_⟩
     refine CD.seq (CD.seq (CD.region ?_))
     refine OD.rE 3 [(3,.i64 a),(14,.sl 1 l19.length (l19.map (D.int .i32))),(15,.loc 3 0),(17,.loc 6 0),(19,.loc 9 0),(21,.loc 12 0),(23,.row 14 0 (l19.length + 1) (l19.length + 1)),(24,.row 15 0 (l19.length + 1) (l19.length + 1)),(119,.loc 9 0),(120,.sl 1 l19.length (l19.map (D.int .i32))),(121,.i64 a)] ?_
     refine OD.cO [9] [.loc 9 0, .sl 1 l19.length (l19.map (D.int .i32)), .i64 a] (Ends_row (.mk k set no kids mn mx) (machine K14 (.mk k set no kids mn mx)).1 (machine K14 (.mk k set no kids mn mx)).2 n1 ((wp K14 20001 (.mk k set no kids mn mx) : Nat) : Int) l19 ((a : Nat) : Int) hal rfl (machine_fs hf) hn1 (by omega) (by omega) (by omega) (by omega)) (fun r L1 hr => ?_)
     obtain ⟨mr, rfl, hmr, rfl⟩ := hr
     refine OD.rL 3 [(3,.i64 a),(14,.sl 1 l19.length (l19.map (D.int .i32))),(15,.loc 3 0),(17,.loc 6 0),(19,.loc 9 0),(21,.loc 12 0),(23,.row 14 0 (l19.length + 1) (l19.length + 1)),(24,.row 15 0 (l19.length + 1) (l19.length + 1)),(122,.row 19 0 mr mr),(123,.loc 12 0),(124,.sl 1 l19.length (l19.map (D.int .i32))),(125,.i64 a)] [.box [.i64 k, .sl 2 set.length (set.flatMap encR), .bool no, .sl 6 kids.length (encNs kids), .i64 mn, .i64 mx], .box [.i64 k2, .sl 2 set2.length (set2.flatMap encR), .bool no2, .sl 6 kids2.length (encNs kids2), .i64 mn2, .i64 mx2], .box [.i64 4, .sl 2 0 ([]), .bool false, .sl 6 (([(.mk k set no kids mn mx),(.mk k2 set2 no2 kids2 mn2 mx2)] : List Nd).length) (encNs [(.mk k set no kids mn mx),(.mk k2 set2 no2 kids2 mn2 mx2)]), .i64 0, .i64 0], .box [.sl 9 n1u (((machine K14 (altN (.mk k set no kids mn mx) (.mk k2 set2 no2 kids2 mn2 mx2))).1).flatMap encSta), .i64 (((machine K14 (altN (.mk k set no kids mn mx) (.mk k2 set2 no2 kids2 mn2 mx2))).2 : Nat) : Int), .i64 ((wp K14 20001 (altN (.mk k set no kids mn mx) (.mk k2 set2 no2 kids2 mn2 mx2)) : Nat) : Int)], .dead, .box [.i64 3, .sl 2 0 ([]), .bool false, .sl 6 (([(.mk k set no kids mn mx),(.mk k2 set2 no2 kids2 mn2 mx2)] : List Nd).length) (encNs [(.mk k set no kids mn mx),(.mk k2 set2 no2 kids2 mn2 mx2)]), .i64 0, .i64 0], .box [.sl 9 n1v (((machine K14 (catN (.mk k set no kids mn mx) (.mk k2 set2 no2 kids2 mn2 mx2))).1).flatMap encSta), .i64 (((machine K14 (catN (.mk k set no kids mn mx) (.mk k2 set2 no2 kids2 mn2 mx2))).2 : Nat) : Int), .i64 ((wp K14 20001 (catN (.mk k set no kids mn mx) (.mk k2 set2 no2 kids2 mn2 mx2)) : Nat) : Int)], .dead, .box [.i64 k, .sl 2 set.length (set.flatMap encR), .bool no, .sl 6 kids.length (encNs kids), .i64 mn, .i64 mx], .box [.sl 9 n1 (((machine K14 (.mk k set no kids mn mx)).1).flatMap encSta), .i64 (((machine K14 (.mk k set no kids mn mx)).2 : Nat) : Int), .i64 ((wp K14 20001 (.mk k set no kids mn mx) : Nat) : Int)], .dead, .box [.i64 k2, .sl 2 set2.length (set2.flatMap encR), .bool no2, .sl 6 kids2.length (encNs kids2), .i64 mn2, .i64 mx2], .box [.sl 9 n1b (((machine K14 (.mk k2 set2 no2 kids2 mn2 mx2)).1).flatMap encSta), .i64 (((machine K14 (.mk k2 set2 no2 kids2 mn2 mx2)).2 : Nat) : Int), .i64 ((wp K14 20001 (.mk k2 set2 no2 kids2 mn2 mx2) : Nat) : Int)], .dead, .row 1 (l19.length + 1) ((List.replicate (l19.length + 1) false).map D.bool), .row 1 (l19.length + 1) ((List.replicate (l19.length + 1) false).map D.bool), .dead, .dead, .dead, .row 1 mr ((endsR l19 (.mk k set no kids mn mx) ((a : Nat) : Int)).map natD)] ?_
     refine OD.cO [12] [.loc 12 0, .sl 1 l19.length (l19.map (D.int .i32)), .i64 a] (Ends_ok (.mk k2 set2 no2 kids2 mn2 mx2) (machine K14 (.mk k2 set2 no2 kids2 mn2 mx2)).1 (machine K14 (.mk k2 set2 no2 kids2 mn2 mx2)).2 n1b ((wp K14 20001 (.mk k2 set2 no2 kids2 mn2 mx2) : Nat) : Int) l19 ((a : Nat) : Int) halb rfl (machine_fs hfb) hn1b (by omega) (by omega)) (fun r L1 hr => ?_)
     obtain ⟨rfl, rfl⟩ := hr
     refine OD.rL 0 [(3,.i64 a),(14,.sl 1 l19.length (l19.map (D.int .i32))),(15,.loc 3 0),(17,.loc 6 0),(19,.loc 9 0),(21,.loc 12 0),(23,.row 14 0 (l19.length + 1) (l19.length + 1)),(24,.row 15 0 (l19.length + 1) (l19.length + 1)),(122,.row 19 0 mr mr),(126,.sl 1 ((endsR l19 (.mk k2 set2 no2 kids2 mn2 mx2) ((a : Nat) : Int)).length) ((endsR l19 (.mk k2 set2 no2 kids2 mn2 mx2) ((a : Nat) : Int)).map natD))] [.box [.i64 k, .sl 2 set.length (set.flatMap encR), .bool no, .sl 6 kids.length (encNs kids), .i64 mn, .i64 mx], .box [.i64 k2, .sl 2 set2.length (set2.flatMap encR), .bool no2, .sl 6 kids2.length (encNs kids2), .i64 mn2, .i64 mx2], .box [.i64 4, .sl 2 0 ([]), .bool false, .sl 6 (([(.mk k set no kids mn mx),(.mk k2 set2 no2 kids2 mn2 mx2)] : List Nd).length) (encNs [(.mk k set no kids mn mx),(.mk k2 set2 no2 kids2 mn2 mx2)]), .i64 0, .i64 0], .box [.sl 9 n1u (((machine K14 (altN (.mk k set no kids mn mx) (.mk k2 set2 no2 kids2 mn2 mx2))).1).flatMap encSta), .i64 (((machine K14 (altN (.mk k set no kids mn mx) (.mk k2 set2 no2 kids2 mn2 mx2))).2 : Nat) : Int), .i64 ((wp K14 20001 (altN (.mk k set no kids mn mx) (.mk k2 set2 no2 kids2 mn2 mx2)) : Nat) : Int)], .dead, .box [.i64 3, .sl 2 0 ([]), .bool false, .sl 6 (([(.mk k set no kids mn mx),(.mk k2 set2 no2 kids2 mn2 mx2)] : List Nd).length) (encNs [(.mk k set no kids mn mx),(.mk k2 set2 no2 kids2 mn2 mx2)]), .i64 0, .i64 0], .box [.sl 9 n1v (((machine K14 (catN (.mk k set no kids mn mx) (.mk k2 set2 no2 kids2 mn2 mx2))).1).flatMap encSta), .i64 (((machine K14 (catN (.mk k set no kids mn mx) (.mk k2 set2 no2 kids2 mn2 mx2))).2 : Nat) : Int), .i64 ((wp K14 20001 (catN (.mk k set no kids mn mx) (.mk k2 set2 no2 kids2 mn2 mx2)) : Nat) : Int)], .dead, .box [.i64 k, .sl 2 set.length (set.flatMap encR), .bool no, .sl 6 kids.length (encNs kids), .i64 mn, .i64 mx], .box [.sl 9 n1 (((machine K14 (.mk k set no kids mn mx)).1).flatMap encSta), .i64 (((machine K14 (.mk k set no kids mn mx)).2 : Nat) : Int), .i64 ((wp K14 20001 (.mk k set no kids mn mx) : Nat) : Int)], .dead, .box [.i64 k2, .sl 2 set2.length (set2.flatMap encR), .bool no2, .sl 6 kids2.length (encNs kids2), .i64 mn2, .i64 mx2], .box [.sl 9 n1b (((machine K14 (.mk k2 set2 no2 kids2 mn2 mx2)).1).flatMap encSta), .i64 (((machine K14 (.mk k2 set2 no2 kids2 mn2 mx2)).2 : Nat) : Int), .i64 ((wp K14 20001 (.mk k2 set2 no2 kids2 mn2 mx2) : Nat) : Int)], .dead, .row 1 (l19.length + 1) ((List.replicate (l19.length + 1) false).map D.bool), .row 1 (l19.length + 1) ((List.replicate (l19.length + 1) false).map D.bool), .dead, .dead, .dead, .row 1 mr ((endsR l19 (.mk k set no kids mn mx) ((a : Nat) : Int)).map natD)] ?_
     have hxl := endsR_len l19 (.mk k set no kids mn mx) ((a : Nat) : Int) hall
     have hyl := endsR_len l19 (.mk k2 set2 no2 kids2 mn2 mx2) ((a : Nat) : Int) hallb
     refine OD.appV' (j := 19) (n := mr) (f := natD) (xs := (endsR l19 (.mk k set no kids mn mx) ((a : Nat) : Int))) (vs := (endsR l19 (.mk k2 set2 no2 kids2 mn2 mx2) ((a : Nat) : Int))) rfl (by kernel_rfl) rfl (by kernel_rfl) rfl rfl rfl hmr.symm (by omega) ?_
     refine OD.freeze 127 rfl rfl (Nat.le_refl _) ?_
     obtain ⟨ks, hks⟩ : ∃ ks, ks = (endsR l19 (.mk k set no kids mn mx) ((a : Nat) : Int)) ++ (endsR l19 (.mk k2 set2 no2 kids2 mn2 mx2) ((a : Nat) : Int)) := ⟨_, rfl⟩
     refine OD.is 127 rfl (sl_of hks.symm (by rw [List.length_append, ← hmr])) ?_
     have hkl : ks.length ≤ 100 := by rw [hks, List.length_append]; have h1 := endsR_len l19 (.mk k set no kids mn mx) ((a : Nat) : Int) hall; have h2 := endsR_len l19 (.mk k2 set2 no2 kids2 mn2 mx2) ((a : Nat) : Int) hallb; omega
     have hkm : ∀ x ∈ ks, x ≤ l19.length := fun x hx => by
      rw [hks] at hx
      rcases List.mem_append.1 hx with h | h
      · exact ends_le hall hale h
      · exact ends_le hallb hale h
     refine OD.rE 2 [(3,.i64 a),(14,.sl 1 l19.length (l19.map (D.int .i32))),(15,.loc 3 0),(17,.loc 6 0),(19,.loc 9 0),(21,.loc 12 0),(23,.row 14 0 (l19.length + 1) (l19.length + 1)),(24,.row 15 0 (l19.length + 1) (l19.length + 1)),(127,.sl 1 ks.length (ks.map natD)),(128,.i64 ks.length),(129,.i64 0)] ?_
     refine OD.nil (CD.block ?_)
     refine CD.weak [3, 14, 15, 17, 19, 21, 23, 24, 127, 128, 129] 20 (E' := [(3, .i64 a), (14, .sl 1 l19.length (l19.map (D.int .i32))), (15, .loc 3 0), (17, .loc 6 0), (19, .loc 9 0), (21, .loc 12 0), (23, .row 14 0 (l19.length + 1) (l19.length + 1)), (24, .row 15 0 (l19.length + 1) (l19.length + 1)), (127, .sl 1 ks.length (ks.map natD)), (128, .i64 ks.length), (129, .i64 0)]) (by kernel_rfl) (by simp [hg0]) (by kernel_rfl) ?_
     refine CD.loop (fun m σ => ∃ (i : Nat) (bs : List Bool), σ = ⟨[(3, .i64 a), (14, .sl 1 l19.length (l19.map (D.int .i32))), (15, .loc 3 0), (17, .loc 6 0), (19, .loc 9 0), (21, .loc 12 0), (23, .row 14 0 (l19.length + 1) (l19.length + 1)), (24, .row 15 0 (l19.length + 1) (l19.length + 1)), (127, .sl 1 ks.length (ks.map natD)), (128, .i64 ks.length), (129, .i64 i)], [.box [.i64 k, .sl 2 set.length (set.flatMap encR), .bool no, .sl 6 kids.length (encNs kids), .i64 mn, .i64 mx], .box [.i64 k2, .sl 2 set2.length (set2.flatMap encR), .bool no2, .sl 6 kids2.length (encNs kids2), .i64 mn2, .i64 mx2], .box [.i64 4, .sl 2 0 ([]), .bool false, .sl 6 (([(.mk k set no kids mn mx), (.mk k2 set2 no2 kids2 mn2 mx2)] : List Nd).length) (encNs [(.mk k set no kids mn mx), (.mk k2 set2 no2 kids2 mn2 mx2)]), .i64 0, .i64 0], .box [.sl 9 n1u (((machine K14 (altN (.mk k set no kids mn mx) (.mk k2 set2 no2 kids2 mn2 mx2))).1).flatMap encSta), .i64 (((machine K14 (altN (.mk k set no kids mn mx) (.mk k2 set2 no2 kids2 mn2 mx2))).2 : Nat) : Int), .i64 ((wp K14 20001 (altN (.mk k set no kids mn mx) (.mk k2 set2 no2 kids2 mn2 mx2)) : Nat) : Int)], .dead, .box [.i64 3, .sl 2 0 ([]), .bool false, .sl 6 (([(.mk k set no kids mn mx), (.mk k2 set2 no2 kids2 mn2 mx2)] : List Nd).length) (encNs [(.mk k set no kids mn mx), (.mk k2 set2 no2 kids2 mn2 mx2)]), .i64 0, .i64 0], .box [.sl 9 n1v (((machine K14 (catN (.mk k set no kids mn mx) (.mk k2 set2 no2 kids2 mn2 mx2))).1).flatMap encSta), .i64 (((machine K14 (catN (.mk k set no kids mn mx) (.mk k2 set2 no2 kids2 mn2 mx2))).2 : Nat) : Int), .i64 ((wp K14 20001 (catN (.mk k set no kids mn mx) (.mk k2 set2 no2 kids2 mn2 mx2)) : Nat) : Int)], .dead, .box [.i64 k, .sl 2 set.length (set.flatMap encR), .bool no, .sl 6 kids.length (encNs kids), .i64 mn, .i64 mx], .box [.sl 9 n1 (((machine K14 (.mk k set no kids mn mx)).1).flatMap encSta), .i64 (((machine K14 (.mk k set no kids mn mx)).2 : Nat) : Int), .i64 ((wp K14 20001 (.mk k set no kids mn mx) : Nat) : Int)], .dead, .box [.i64 k2, .sl 2 set2.length (set2.flatMap encR), .bool no2, .sl 6 kids2.length (encNs kids2), .i64 mn2, .i64 mx2], .box [.sl 9 n1b (((machine K14 (.mk k2 set2 no2 kids2 mn2 mx2)).1).flatMap encSta), .i64 (((machine K14 (.mk k2 set2 no2 kids2 mn2 mx2)).2 : Nat) : Int), .i64 ((wp K14 20001 (.mk k2 set2 no2 kids2 mn2 mx2) : Nat) : Int)], .dead, .row 1 (l19.length + 1) (bs.map D.bool), .row 1 (l19.length + 1) ((List.replicate (l19.length + 1) false).map D.bool), .dead, .dead, .dead, .dead]⟩ ∧ (i ≤ ks.length) ∧ (bs = mset (List.replicate (l19.length + 1) false) (ks.take i)) ∧ (bs.length = l19.length + 1) ∧ m = ks.length - i) (fun m σ hI => ?_) _ ⟨0, (List.replicate (l19.length + 1) false), (by kernel_rfl), Nat.zero_le _, rfl, List.length_replicate, rfl⟩
     obtain ⟨i, bs, e, hi, hbs, hbl, hm⟩ := hI
     subst e hm
     refine CD.seq (CD.region ?_)
     refine OD.rE 1 [(3,.i64 a),(14,.sl 1 l19.length (l19.map (D.int .i32))),(15,.loc 3 0),(17,.loc 6 0),(19,.loc 9 0),(21,.loc 12 0),(23,.row 14 0 (l19.length + 1) (l19.length + 1)),(24,.row 15 0 (l19.length + 1) (l19.length + 1)),(127,.sl 1 ks.length (ks.map natD)),(128,.i64 ks.length),(129,.i64 i),(130,.bool (decide ((((i : Nat) : Int) : Int) < ((ks.length : Nat) : Int))))] ?_
     refine OD.nil (CD.seq ?_)
     refine CD.condP rfl (fun h3 => ?_) (fun h3 => ?_)
     ·
      refine CD.skip (CD.seq (CD.block (CD.seq (CD.region ?_))))
      refine OD.idxSV (i := i) rfl rfl (by kernel_rfl) (by omega) (by omega) ?_
      refine OD.rE 0 [(3,.i64 a),(14,.sl 1 l19.length (l19.map (D.int .i32))),(15,.loc 3 0),(17,.loc 6 0),(19,.loc 9 0),(21,.loc 12 0),(23,.row 14 0 (l19.length + 1) (l19.length + 1)),(24,.row 15 0 (l19.length + 1) (l19.length + 1)),(127,.sl 1 ks.length (ks.map natD)),(128,.i64 ks.length),(129,.i64 i),(131,.ep 1 ks.length (ks.map natD) i)] ?_
      refine OD.ldSV 0 (f := natD) (xs := ks) rfl (by kernel_rfl) (by first | omega | (simp <;> omega)) ?_
      refine OD.rE 1 [(3,.i64 a),(14,.sl 1 l19.length (l19.map (D.int .i32))),(15,.loc 3 0),(17,.loc 6 0),(19,.loc 9 0),(21,.loc 12 0),(23,.row 14 0 (l19.length + 1) (l19.length + 1)),(24,.row 15 0 (l19.length + 1) (l19.length + 1)),(26,.i64 (((ks.getD i 0) : Nat) : Int)),(127,.sl 1 ks.length (ks.map natD)),(128,.i64 ks.length),(129,.i64 i)] ?_
      refine OD.nil (CD.seq (CD.seq (CD.region ?_)))
      refine OD.rE 2 [(3,.i64 a),(14,.sl 1 l19.length (l19.map (D.int .i32))),(15,.loc 3 0),(17,.loc 6 0),(19,.loc 9 0),(21,.loc 12 0),(23,.row 14 0 (l19.length + 1) (l19.length + 1)),(24,.row 15 0 (l19.length + 1) (l19.length + 1)),(26,.i64 (((ks.getD i 0) : Nat) : Int)),(127,.sl 1 ks.length (ks.map natD)),(128,.i64 ks.length),(129,.i64 i),(134,.bool (decide (((((ks.getD i 0) : Nat) : Int) : Int) < 0)))] ?_
      have hkx := hkm _ (getD_mem (xs := ks) (i := i) (by omega))
      refine OD.is 134 rfl (congrArg D.bool (decide_eq_false (by omega))) ?_
      refine OD.rE 5 [(3,.i64 a),(14,.sl 1 l19.length (l19.map (D.int .i32))),(15,.loc 3 0),(17,.loc 6 0),(19,.loc 9 0),(21,.loc 12 0),(23,.row 14 0 (l19.length + 1) (l19.length + 1)),(24,.row 15 0 (l19.length + 1) (l19.length + 1)),(26,.i64 (((ks.getD i 0) : Nat) : Int)),(127,.sl 1 ks.length (ks.map natD)),(128,.i64 ks.length),(129,.i64 i),(135,.bool false),(139,.bool (decide ((((l19.length : Nat) : Int) : Int) < (((ks.getD i 0) : Nat) : Int))))] ?_
      refine OD.is 139 rfl (congrArg D.bool (decide_eq_false (by omega))) ?_
      refine OD.rE 1 [(3,.i64 a),(14,.sl 1 l19.length (l19.map (D.int .i32))),(15,.loc 3 0),(17,.loc 6 0),(19,.loc 9 0),(21,.loc 12 0),(23,.row 14 0 (l19.length + 1) (l19.length + 1)),(24,.row 15 0 (l19.length + 1) (l19.length + 1)),(26,.i64 (((ks.getD i 0) : Nat) : Int)),(127,.sl 1 ks.length (ks.map natD)),(128,.i64 ks.length),(129,.i64 i),(140,.bool false)] ?_
      refine OD.nil ?_
      refine CD.condF rfl ?_
      refine CD.skip (CD.region ?_)
      refine OD.rE 2 [(3,.i64 a),(14,.sl 1 l19.length (l19.map (D.int .i32))),(15,.loc 3 0),(17,.loc 6 0),(19,.loc 9 0),(21,.loc 12 0),(23,.row 14 0 (l19.length + 1) (l19.length + 1)),(24,.row 15 0 (l19.length + 1) (l19.length + 1)),(127,.sl 1 ks.length (ks.map natD)),(128,.i64 ks.length),(129,.i64 i),(141,.row 14 0 (l19.length + 1) (l19.length + 1)),(142,.i64 (((ks.getD i 0) : Nat) : Int))] ?_
      refine OD.idxV (i := (ks.getD i 0)) rfl rfl (by kernel_rfl) (by omega) (by omega) ?_
      refine OD.rE 0 [(3,.i64 a),(14,.sl 1 l19.length (l19.map (D.int .i32))),(15,.loc 3 0),(17,.loc 6 0),(19,.loc 9 0),(21,.loc 12 0),(23,.row 14 0 (l19.length + 1) (l19.length + 1)),(24,.row 15 0 (l19.length + 1) (l19.length + 1)),(127,.sl 1 ks.length (ks.map natD)),(128,.i64 ks.length),(129,.i64 i),(143,.loc 14 (ks.getD i 0))] ?_
      refine OD.stV D.bool true (xs := bs) rfl rfl rfl rfl rfl (by kernel_rfl) (by first | omega | (simp <;> omega)) ?_
      refine OD.rE 0 [(3,.i64 a),(14,.sl 1 l19.length (l19.map (D.int .i32))),(15,.loc 3 0),(17,.loc 6 0),(19,.loc 9 0),(21,.loc 12 0),(23,.row 14 0 (l19.length + 1) (l19.length + 1)),(24,.row 15 0 (l19.length + 1) (l19.length + 1)),(127,.sl 1 ks.length (ks.map natD)),(128,.i64 ks.length),(129,.i64 i)] ?_
      refine OD.nil (CD.region ?_)
      refine OD.rE 1 [(3,.i64 a),(14,.sl 1 l19.length (l19.map (D.int .i32))),(15,.loc 3 0),(17,.loc 6 0),(19,.loc 9 0),(21,.loc 12 0),(23,.row 14 0 (l19.length + 1) (l19.length + 1)),(24,.row 15 0 (l19.length + 1) (l19.length + 1)),(127,.sl 1 ks.length (ks.map natD)),(128,.i64 ks.length),(144,.i64 (wrapQ .i64 (((i : Nat) : Int) + 1)))] ?_
      refine OD.is 144 rfl (wrn (m := i + 1) (by omega) (by omega)) ?_
      refine OD.rE 1 [(3,.i64 a),(14,.sl 1 l19.length (l19.map (D.int .i32))),(15,.loc 3 0),(17,.loc 6 0),(19,.loc 9 0),(21,.loc 12 0),(23,.row 14 0 (l19.length + 1) (l19.length + 1)),(24,.row 15 0 (l19.length + 1) (l19.length + 1)),(127,.sl 1 ks.length (ks.map natD)),(128,.i64 ks.length),(129,.i64 ((i + 1 : Nat) : Int))] ?_
      refine OD.nil ?_
      exact ⟨_, by omega, i + 1, (bs.set (ks.getD i 0) true), (by kernel_rfl), by omega, mset_next hbs (by omega), by rw [List.length_set]; exact hbl, rfl⟩
     ·
      refine CD.exit ?_
      refine CD.seq (CD.seq (CD.region ?_))
      refine OD.rE 3 [(3,.i64 a),(14,.sl 1 l19.length (l19.map (D.int .i32))),(15,.loc 3 0),(17,.loc 6 0),(21,.loc 12 0),(23,.row 14 0 (l19.length + 1) (l19.length + 1)),(24,.row 15 0 (l19.length + 1) (l19.length + 1)),(145,.loc 9 0),(146,.sl 1 l19.length (l19.map (D.int .i32))),(147,.i64 a)] ?_
      refine OD.cO [9] [.loc 9 0, .sl 1 l19.length (l19.map (D.int .i32)), .i64 a] (Ends_ok (.mk k set no kids mn mx) (machine K14 (.mk k set no kids mn mx)).1 (machine K14 (.mk k set no kids mn mx)).2 n1 ((wp K14 20001 (.mk k set no kids mn mx) : Nat) : Int) l19 ((a : Nat) : Int) hal rfl (machine_fs hf) hn1 (by omega) (by omega)) (fun r L1 hr => ?_)
      obtain ⟨rfl, rfl⟩ := hr
      refine OD.rL 2 [(3,.i64 a),(14,.sl 1 l19.length (l19.map (D.int .i32))),(15,.loc 3 0),(17,.loc 6 0),(21,.loc 12 0),(23,.row 14 0 (l19.length + 1) (l19.length + 1)),(24,.row 15 0 (l19.length + 1) (l19.length + 1)),(148,.sl 1 ((endsR l19 (.mk k set no kids mn mx) ((a : Nat) : Int)).length) ((endsR l19 (.mk k set no kids mn mx) ((a : Nat) : Int)).map natD)),(149,.i64 (((endsR l19 (.mk k set no kids mn mx) ((a : Nat) : Int)).length : Nat) : Int)),(150,.i64 0)] [.box [.i64 k, .sl 2 set.length (set.flatMap encR), .bool no, .sl 6 kids.length (encNs kids), .i64 mn, .i64 mx], .box [.i64 k2, .sl 2 set2.length (set2.flatMap encR), .bool no2, .sl 6 kids2.length (encNs kids2), .i64 mn2, .i64 mx2], .box [.i64 4, .sl 2 0 ([]), .bool false, .sl 6 (([(.mk k set no kids mn mx),(.mk k2 set2 no2 kids2 mn2 mx2)] : List Nd).length) (encNs [(.mk k set no kids mn mx),(.mk k2 set2 no2 kids2 mn2 mx2)]), .i64 0, .i64 0], .box [.sl 9 n1u (((machine K14 (altN (.mk k set no kids mn mx) (.mk k2 set2 no2 kids2 mn2 mx2))).1).flatMap encSta), .i64 (((machine K14 (altN (.mk k set no kids mn mx) (.mk k2 set2 no2 kids2 mn2 mx2))).2 : Nat) : Int), .i64 ((wp K14 20001 (altN (.mk k set no kids mn mx) (.mk k2 set2 no2 kids2 mn2 mx2)) : Nat) : Int)], .dead, .box [.i64 3, .sl 2 0 ([]), .bool false, .sl 6 (([(.mk k set no kids mn mx),(.mk k2 set2 no2 kids2 mn2 mx2)] : List Nd).length) (encNs [(.mk k set no kids mn mx),(.mk k2 set2 no2 kids2 mn2 mx2)]), .i64 0, .i64 0], .box [.sl 9 n1v (((machine K14 (catN (.mk k set no kids mn mx) (.mk k2 set2 no2 kids2 mn2 mx2))).1).flatMap encSta), .i64 (((machine K14 (catN (.mk k set no kids mn mx) (.mk k2 set2 no2 kids2 mn2 mx2))).2 : Nat) : Int), .i64 ((wp K14 20001 (catN (.mk k set no kids mn mx) (.mk k2 set2 no2 kids2 mn2 mx2)) : Nat) : Int)], .dead, .box [.i64 k, .sl 2 set.length (set.flatMap encR), .bool no, .sl 6 kids.length (encNs kids), .i64 mn, .i64 mx], .box [.sl 9 n1 (((machine K14 (.mk k set no kids mn mx)).1).flatMap encSta), .i64 (((machine K14 (.mk k set no kids mn mx)).2 : Nat) : Int), .i64 ((wp K14 20001 (.mk k set no kids mn mx) : Nat) : Int)], .dead, .box [.i64 k2, .sl 2 set2.length (set2.flatMap encR), .bool no2, .sl 6 kids2.length (encNs kids2), .i64 mn2, .i64 mx2], .box [.sl 9 n1b (((machine K14 (.mk k2 set2 no2 kids2 mn2 mx2)).1).flatMap encSta), .i64 (((machine K14 (.mk k2 set2 no2 kids2 mn2 mx2)).2 : Nat) : Int), .i64 ((wp K14 20001 (.mk k2 set2 no2 kids2 mn2 mx2) : Nat) : Int)], .dead, .row 1 (l19.length + 1) (bs.map D.bool), .row 1 (l19.length + 1) ((List.replicate (l19.length + 1) false).map D.bool), .dead, .dead, .dead, .dead] ?_
      refine OD.nil (CD.block ?_)
      refine CD.weak [3, 14, 15, 17, 21, 23, 24, 148, 149, 150] 20 (E' := [(3, .i64 a), (14, .sl 1 l19.length (l19.map (D.int .i32))), (15, .loc 3 0), (17, .loc 6 0), (21, .loc 12 0), (23, .row 14 0 (l19.length + 1) (l19.length + 1)), (24, .row 15 0 (l19.length + 1) (l19.length + 1)), (148, .sl 1 ((endsR l19 (.mk k set no kids mn mx) ((a : Nat) : Int)).length) ((endsR l19 (.mk k set no kids mn mx) ((a : Nat) : Int)).map natD)), (149, .i64 (((endsR l19 (.mk k set no kids mn mx) ((a : Nat) : Int)).length : Nat) : Int)), (150, .i64 0)]) (by kernel_rfl) (by simp [hg0]) (by kernel_rfl) ?_
      refine CD.loop (fun m σ => ∃ (i : Nat) (cs : List Bool), σ = ⟨[(3, .i64 a), (14, .sl 1 l19.length (l19.map (D.int .i32))), (15, .loc 3 0), (17, .loc 6 0), (21, .loc 12 0), (23, .row 14 0 (l19.length + 1) (l19.length + 1)), (24, .row 15 0 (l19.length + 1) (l19.length + 1)), (148, .sl 1 ((endsR l19 (.mk k set no kids mn mx) ((a : Nat) : Int)).length) ((endsR l19 (.mk k set no kids mn mx) ((a : Nat) : Int)).map natD)), (149, .i64 (((endsR l19 (.mk k set no kids mn mx) ((a : Nat) : Int)).length : Nat) : Int)), (150, .i64 i)], [.box [.i64 k, .sl 2 set.length (set.flatMap encR), .bool no, .sl 6 kids.length (encNs kids), .i64 mn, .i64 mx], .box [.i64 k2, .sl 2 set2.length (set2.flatMap encR), .bool no2, .sl 6 kids2.length (encNs kids2), .i64 mn2, .i64 mx2], .box [.i64 4, .sl 2 0 ([]), .bool false, .sl 6 (([(.mk k set no kids mn mx), (.mk k2 set2 no2 kids2 mn2 mx2)] : List Nd).length) (encNs [(.mk k set no kids mn mx), (.mk k2 set2 no2 kids2 mn2 mx2)]), .i64 0, .i64 0], .box [.sl 9 n1u (((machine K14 (altN (.mk k set no kids mn mx) (.mk k2 set2 no2 kids2 mn2 mx2))).1).flatMap encSta), .i64 (((machine K14 (altN (.mk k set no kids mn mx) (.mk k2 set2 no2 kids2 mn2 mx2))).2 : Nat) : Int), .i64 ((wp K14 20001 (altN (.mk k set no kids mn mx) (.mk k2 set2 no2 kids2 mn2 mx2)) : Nat) : Int)], .dead, .box [.i64 3, .sl 2 0 ([]), .bool false, .sl 6 (([(.mk k set no kids mn mx), (.mk k2 set2 no2 kids2 mn2 mx2)] : List Nd).length) (encNs [(.mk k set no kids mn mx), (.mk k2 set2 no2 kids2 mn2 mx2)]), .i64 0, .i64 0], .box [.sl 9 n1v (((machine K14 (catN (.mk k set no kids mn mx) (.mk k2 set2 no2 kids2 mn2 mx2))).1).flatMap encSta), .i64 (((machine K14 (catN (.mk k set no kids mn mx) (.mk k2 set2 no2 kids2 mn2 mx2))).2 : Nat) : Int), .i64 ((wp K14 20001 (catN (.mk k set no kids mn mx) (.mk k2 set2 no2 kids2 mn2 mx2)) : Nat) : Int)], .dead, .box [.i64 k, .sl 2 set.length (set.flatMap encR), .bool no, .sl 6 kids.length (encNs kids), .i64 mn, .i64 mx], .box [.sl 9 n1 (((machine K14 (.mk k set no kids mn mx)).1).flatMap encSta), .i64 (((machine K14 (.mk k set no kids mn mx)).2 : Nat) : Int), .i64 ((wp K14 20001 (.mk k set no kids mn mx) : Nat) : Int)], .dead, .box [.i64 k2, .sl 2 set2.length (set2.flatMap encR), .bool no2, .sl 6 kids2.length (encNs kids2), .i64 mn2, .i64 mx2], .box [.sl 9 n1b (((machine K14 (.mk k2 set2 no2 kids2 mn2 mx2)).1).flatMap encSta), .i64 (((machine K14 (.mk k2 set2 no2 kids2 mn2 mx2)).2 : Nat) : Int), .i64 ((wp K14 20001 (.mk k2 set2 no2 kids2 mn2 mx2) : Nat) : Int)], .dead, .row 1 (l19.length + 1) (bs.map D.bool), .row 1 (l19.length + 1) (cs.map D.bool), .dead, .dead, .dead, .dead]⟩ ∧ (i ≤ (endsR l19 (.mk k set no kids mn mx) ((a : Nat) : Int)).length) ∧ (cs = mset (List.replicate (l19.length + 1) false) (((endsR l19 (.mk k set no kids mn mx) ((a : Nat) : Int)).take i).flatMap fun k => endsR l19 (.mk k2 set2 no2 kids2 mn2 mx2) ((k : Nat) : Int))) ∧ (cs.length = l19.length + 1) ∧ m = (endsR l19 (.mk k set no kids mn mx) ((a : Nat) : Int)).length - i) (fun m σ hI => ?_) _ ⟨0, (List.replicate (l19.length + 1) false), (by kernel_rfl), Nat.zero_le _, rfl, List.length_replicate, rfl⟩
      obtain ⟨i, cs, e, hi, hcs, hcl, hm⟩ := hI
      subst e hm
      have hAl := endsR_len l19 (.mk k set no kids mn mx) ((a : Nat) : Int) hall
      refine CD.seq (CD.region ?_)
      refine OD.rE 1 [(3,.i64 a),(14,.sl 1 l19.length (l19.map (D.int .i32))),(15,.loc 3 0),(17,.loc 6 0),(21,.loc 12 0),(23,.row 14 0 (l19.length + 1) (l19.length + 1)),(24,.row 15 0 (l19.length + 1) (l19.length + 1)),(148,.sl 1 ((endsR l19 (.mk k set no kids mn mx) ((a : Nat) : Int)).length) ((endsR l19 (.mk k set no kids mn mx) ((a : Nat) : Int)).map natD)),(149,.i64 (((endsR l19 (.mk k set no kids mn mx) ((a : Nat) : Int)).length : Nat) : Int)),(150,.i64 i),(151,.bool (decide ((((i : Nat) : Int) : Int) < (((endsR l19 (.mk k set no kids mn mx) ((a : Nat) : Int)).length : Nat) : Int))))] ?_
      refine OD.nil (CD.seq ?_)
      refine CD.condP rfl (fun h4 => ?_) (fun h4 => ?_)
      ·
       refine CD.skip (CD.seq (CD.block (CD.seq (CD.region ?_))))
       refine OD.idxSV (i := i) rfl rfl (by kernel_rfl) (by omega) (by omega) ?_
       refine OD.rE 0 [(3,.i64 a),(14,.sl 1 l19.length (l19.map (D.int .i32))),(15,.loc 3 0),(17,.loc 6 0),(21,.loc 12 0),(23,.row 14 0 (l19.length + 1) (l19.length + 1)),(24,.row 15 0 (l19.length + 1) (l19.length + 1)),(148,.sl 1 ((endsR l19 (.mk k set no kids mn mx) ((a : Nat) : Int)).length) ((endsR l19 (.mk k set no kids mn mx) ((a : Nat) : Int)).map natD)),(149,.i64 (((endsR l19 (.mk k set no kids mn mx) ((a : Nat) : Int)).length : Nat) : Int)),(150,.i64 i),(152,.ep 1 ((endsR l19 (.mk k set no kids mn mx) ((a : Nat) : Int)).length) ((endsR l19 (.mk k set no kids mn mx) ((a : Nat) : Int)).map natD) i)] ?_
       refine OD.ldSV 0 (f := natD) (xs := (endsR l19 (.mk k set no kids mn mx) ((a : Nat) : Int))) rfl (by kernel_rfl) (by first | omega | (simp <;> omega)) ?_
       have hax := ends_le hall hale (getD_mem (i := i) (by omega))
       refine OD.rE 1 [(3,.i64 a),(14,.sl 1 l19.length (l19.map (D.int .i32))),(15,.loc 3 0),(17,.loc 6 0),(21,.loc 12 0),(23,.row 14 0 (l19.length + 1) (l19.length + 1)),(24,.row 15 0 (l19.length + 1) (l19.length + 1)),(28,.i64 ((((endsR l19 (.mk k set no kids mn mx) ((a : Nat) : Int)).getD i 0) : Nat) : Int)),(148,.sl 1 ((endsR l19 (.mk k set no kids mn mx) ((a : Nat) : Int)).length) ((endsR l19 (.mk k set no kids mn mx) ((a : Nat) : Int)).map natD)),(149,.i64 (((endsR l19 (.mk k set no kids mn mx) ((a : Nat) : Int)).length : Nat) : Int)),(150,.i64 i)] ?_
       refine OD.nil (CD.seq (CD.region ?_))
       refine OD.rE 3 [(3,.i64 a),(14,.sl 1 l19.length (l19.map (D.int .i32))),(15,.loc 3 0),(17,.loc 6 0),(21,.loc 12 0),(23,.row 14 0 (l19.length + 1) (l19.length + 1)),(24,.row 15 0 (l19.length + 1) (l19.length + 1)),(148,.sl 1 ((endsR l19 (.mk k set no kids mn mx) ((a : Nat) : Int)).length) ((endsR l19 (.mk k set no kids mn mx) ((a : Nat) : Int)).map natD)),(149,.i64 (((endsR l19 (.mk k set no kids mn mx) ((a : Nat) : Int)).length : Nat) : Int)),(150,.i64 i),(154,.loc 12 0),(155,.sl 1 l19.length (l19.map (D.int .i32))),(156,.i64 ((((endsR l19 (.mk k set no kids mn mx) ((a : Nat) : Int)).getD i 0) : Nat) : Int))] ?_
       refine OD.cO [12] [.loc 12 0, .sl 1 l19.length (l19.map (D.int .i32)), .i64 ((((endsR l19 (.mk k set no kids mn mx) ((a : Nat) : Int)).getD i 0) : Nat) : Int)] (Ends_ok (.mk k2 set2 no2 kids2 mn2 mx2) (machine K14 (.mk k2 set2 no2 kids2 mn2 mx2)).1 (machine K14 (.mk k2 set2 no2 kids2 mn2 mx2)).2 n1b ((wp K14 20001 (.mk k2 set2 no2 kids2 mn2 mx2) : Nat) : Int) l19 ((((endsR l19 (.mk k set no kids mn mx) ((a : Nat) : Int)).getD i 0) : Nat) : Int) halb rfl (machine_fs hfb) hn1b (by omega) (by omega)) (fun r L1 hr => ?_)
       obtain ⟨rfl, rfl⟩ := hr
       refine OD.rL 2 [(3,.i64 a),(14,.sl 1 l19.length (l19.map (D.int .i32))),(15,.loc 3 0),(17,.loc 6 0),(21,.loc 12 0),(23,.row 14 0 (l19.length + 1) (l19.length + 1)),(24,.row 15 0 (l19.length + 1) (l19.length + 1)),(148,.sl 1 ((endsR l19 (.mk k set no kids mn mx) ((a : Nat) : Int)).length) ((endsR l19 (.mk k set no kids mn mx) ((a : Nat) : Int)).map natD)),(149,.i64 (((endsR l19 (.mk k set no kids mn mx) ((a : Nat) : Int)).length : Nat) : Int)),(150,.i64 i),(157,.sl 1 ((endsR l19 (.mk k2 set2 no2 kids2 mn2 mx2) ((((endsR l19 (.mk k set no kids mn mx) ((a : Nat) : Int)).getD i 0) : Nat) : Int)).length) ((endsR l19 (.mk k2 set2 no2 kids2 mn2 mx2) ((((endsR l19 (.mk k set no kids mn mx) ((a : Nat) : Int)).getD i 0) : Nat) : Int)).map natD)),(158,.i64 (((endsR l19 (.mk k2 set2 no2 kids2 mn2 mx2) ((((endsR l19 (.mk k set no kids mn mx) ((a : Nat) : Int)).getD i 0) : Nat) : Int)).length : Nat) : Int)),(159,.i64 0)] [.box [.i64 k, .sl 2 set.length (set.flatMap encR), .bool no, .sl 6 kids.length (encNs kids), .i64 mn, .i64 mx], .box [.i64 k2, .sl 2 set2.length (set2.flatMap encR), .bool no2, .sl 6 kids2.length (encNs kids2), .i64 mn2, .i64 mx2], .box [.i64 4, .sl 2 0 ([]), .bool false, .sl 6 (([(.mk k set no kids mn mx),(.mk k2 set2 no2 kids2 mn2 mx2)] : List Nd).length) (encNs [(.mk k set no kids mn mx),(.mk k2 set2 no2 kids2 mn2 mx2)]), .i64 0, .i64 0], .box [.sl 9 n1u (((machine K14 (altN (.mk k set no kids mn mx) (.mk k2 set2 no2 kids2 mn2 mx2))).1).flatMap encSta), .i64 (((machine K14 (altN (.mk k set no kids mn mx) (.mk k2 set2 no2 kids2 mn2 mx2))).2 : Nat) : Int), .i64 ((wp K14 20001 (altN (.mk k set no kids mn mx) (.mk k2 set2 no2 kids2 mn2 mx2)) : Nat) : Int)], .dead, .box [.i64 3, .sl 2 0 ([]), .bool false, .sl 6 (([(.mk k set no kids mn mx),(.mk k2 set2 no2 kids2 mn2 mx2)] : List Nd).length) (encNs [(.mk k set no kids mn mx),(.mk k2 set2 no2 kids2 mn2 mx2)]), .i64 0, .i64 0], .box [.sl 9 n1v (((machine K14 (catN (.mk k set no kids mn mx) (.mk k2 set2 no2 kids2 mn2 mx2))).1).flatMap encSta), .i64 (((machine K14 (catN (.mk k set no kids mn mx) (.mk k2 set2 no2 kids2 mn2 mx2))).2 : Nat) : Int), .i64 ((wp K14 20001 (catN (.mk k set no kids mn mx) (.mk k2 set2 no2 kids2 mn2 mx2)) : Nat) : Int)], .dead, .box [.i64 k, .sl 2 set.length (set.flatMap encR), .bool no, .sl 6 kids.length (encNs kids), .i64 mn, .i64 mx], .box [.sl 9 n1 (((machine K14 (.mk k set no kids mn mx)).1).flatMap encSta), .i64 (((machine K14 (.mk k set no kids mn mx)).2 : Nat) : Int), .i64 ((wp K14 20001 (.mk k set no kids mn mx) : Nat) : Int)], .dead, .box [.i64 k2, .sl 2 set2.length (set2.flatMap encR), .bool no2, .sl 6 kids2.length (encNs kids2), .i64 mn2, .i64 mx2], .box [.sl 9 n1b (((machine K14 (.mk k2 set2 no2 kids2 mn2 mx2)).1).flatMap encSta), .i64 (((machine K14 (.mk k2 set2 no2 kids2 mn2 mx2)).2 : Nat) : Int), .i64 ((wp K14 20001 (.mk k2 set2 no2 kids2 mn2 mx2) : Nat) : Int)], .dead, .row 1 (l19.length + 1) (bs.map D.bool), .row 1 (l19.length + 1) (cs.map D.bool), .dead, .dead, .dead, .dead] ?_
       refine OD.nil (CD.block ?_)
       refine CD.weak [3, 14, 15, 17, 21, 23, 24, 148, 149, 150, 157, 158, 159] 20 (E' := [(3, .i64 a), (14, .sl 1 l19.length (l19.map (D.int .i32))), (15, .loc 3 0), (17, .loc 6 0), (21, .loc 12 0), (23, .row 14 0 (l19.length + 1) (l19.length + 1)), (24, .row 15 0 (l19.length + 1) (l19.length + 1)), (148, .sl 1 ((endsR l19 (.mk k set no kids mn mx) ((a : Nat) : Int)).length) ((endsR l19 (.mk k set no kids mn mx) ((a : Nat) : Int)).map natD)), (149, .i64 (((endsR l19 (.mk k set no kids mn mx) ((a : Nat) : Int)).length : Nat) : Int)), (150, .i64 i), (157, .sl 1 ((endsR l19 (.mk k2 set2 no2 kids2 mn2 mx2) ((((endsR l19 (.mk k set no kids mn mx) ((a : Nat) : Int)).getD i 0) : Nat) : Int)).length) ((endsR l19 (.mk k2 set2 no2 kids2 mn2 mx2) ((((endsR l19 (.mk k set no kids mn mx) ((a : Nat) : Int)).getD i 0) : Nat) : Int)).map natD)), (158, .i64 (((endsR l19 (.mk k2 set2 no2 kids2 mn2 mx2) ((((endsR l19 (.mk k set no kids mn mx) ((a : Nat) : Int)).getD i 0) : Nat) : Int)).length : Nat) : Int)), (159, .i64 0)]) (by kernel_rfl) (by simp [hg0]) (by kernel_rfl) ?_
       refine CD.loop (fun m σ => ∃ (j : Nat) (ds : List Bool), σ = ⟨[(3, .i64 a), (14, .sl 1 l19.length (l19.map (D.int .i32))), (15, .loc 3 0), (17, .loc 6 0), (21, .loc 12 0), (23, .row 14 0 (l19.length + 1) (l19.length + 1)), (24, .row 15 0 (l19.length + 1) (l19.length + 1)), (148, .sl 1 ((endsR l19 (.mk k set no kids mn mx) ((a : Nat) : Int)).length) ((endsR l19 (.mk k set no kids mn mx) ((a : Nat) : Int)).map natD)), (149, .i64 (((endsR l19 (.mk k set no kids mn mx) ((a : Nat) : Int)).length : Nat) : Int)), (150, .i64 i), (157, .sl 1 ((endsR l19 (.mk k2 set2 no2 kids2 mn2 mx2) ((((endsR l19 (.mk k set no kids mn mx) ((a : Nat) : Int)).getD i 0) : Nat) : Int)).length) ((endsR l19 (.mk k2 set2 no2 kids2 mn2 mx2) ((((endsR l19 (.mk k set no kids mn mx) ((a : Nat) : Int)).getD i 0) : Nat) : Int)).map natD)), (158, .i64 (((endsR l19 (.mk k2 set2 no2 kids2 mn2 mx2) ((((endsR l19 (.mk k set no kids mn mx) ((a : Nat) : Int)).getD i 0) : Nat) : Int)).length : Nat) : Int)), (159, .i64 j)], [.box [.i64 k, .sl 2 set.length (set.flatMap encR), .bool no, .sl 6 kids.length (encNs kids), .i64 mn, .i64 mx], .box [.i64 k2, .sl 2 set2.length (set2.flatMap encR), .bool no2, .sl 6 kids2.length (encNs kids2), .i64 mn2, .i64 mx2], .box [.i64 4, .sl 2 0 ([]), .bool false, .sl 6 (([(.mk k set no kids mn mx), (.mk k2 set2 no2 kids2 mn2 mx2)] : List Nd).length) (encNs [(.mk k set no kids mn mx), (.mk k2 set2 no2 kids2 mn2 mx2)]), .i64 0, .i64 0], .box [.sl 9 n1u (((machine K14 (altN (.mk k set no kids mn mx) (.mk k2 set2 no2 kids2 mn2 mx2))).1).flatMap encSta), .i64 (((machine K14 (altN (.mk k set no kids mn mx) (.mk k2 set2 no2 kids2 mn2 mx2))).2 : Nat) : Int), .i64 ((wp K14 20001 (altN (.mk k set no kids mn mx) (.mk k2 set2 no2 kids2 mn2 mx2)) : Nat) : Int)], .dead, .box [.i64 3, .sl 2 0 ([]), .bool false, .sl 6 (([(.mk k set no kids mn mx), (.mk k2 set2 no2 kids2 mn2 mx2)] : List Nd).length) (encNs [(.mk k set no kids mn mx), (.mk k2 set2 no2 kids2 mn2 mx2)]), .i64 0, .i64 0], .box [.sl 9 n1v (((machine K14 (catN (.mk k set no kids mn mx) (.mk k2 set2 no2 kids2 mn2 mx2))).1).flatMap encSta), .i64 (((machine K14 (catN (.mk k set no kids mn mx) (.mk k2 set2 no2 kids2 mn2 mx2))).2 : Nat) : Int), .i64 ((wp K14 20001 (catN (.mk k set no kids mn mx) (.mk k2 set2 no2 kids2 mn2 mx2)) : Nat) : Int)], .dead, .box [.i64 k, .sl 2 set.length (set.flatMap encR), .bool no, .sl 6 kids.length (encNs kids), .i64 mn, .i64 mx], .box [.sl 9 n1 (((machine K14 (.mk k set no kids mn mx)).1).flatMap encSta), .i64 (((machine K14 (.mk k set no kids mn mx)).2 : Nat) : Int), .i64 ((wp K14 20001 (.mk k set no kids mn mx) : Nat) : Int)], .dead, .box [.i64 k2, .sl 2 set2.length (set2.flatMap encR), .bool no2, .sl 6 kids2.length (encNs kids2), .i64 mn2, .i64 mx2], .box [.sl 9 n1b (((machine K14 (.mk k2 set2 no2 kids2 mn2 mx2)).1).flatMap encSta), .i64 (((machine K14 (.mk k2 set2 no2 kids2 mn2 mx2)).2 : Nat) : Int), .i64 ((wp K14 20001 (.mk k2 set2 no2 kids2 mn2 mx2) : Nat) : Int)], .dead, .row 1 (l19.length + 1) (bs.map D.bool), .row 1 (l19.length + 1) (ds.map D.bool), .dead, .dead, .dead, .dead]⟩ ∧ (j ≤ (endsR l19 (.mk k2 set2 no2 kids2 mn2 mx2) ((((endsR l19 (.mk k set no kids mn mx) ((a : Nat) : Int)).getD i 0) : Nat) : Int)).length) ∧ (ds = mset cs ((endsR l19 (.mk k2 set2 no2 kids2 mn2 mx2) ((((endsR l19 (.mk k set no kids mn mx) ((a : Nat) : Int)).getD i 0) : Nat) : Int)).take j)) ∧ (ds.length = l19.length + 1) ∧ m = (endsR l19 (.mk k2 set2 no2 kids2 mn2 mx2) ((((endsR l19 (.mk k set no kids mn mx) ((a : Nat) : Int)).getD i 0) : Nat) : Int)).length - j) (fun m σ hI => ?_) _ ⟨0, cs, (by kernel_rfl), Nat.zero_le _, rfl, hcl, rfl⟩
       obtain ⟨j, ds, e, hj, hds, hdl, hm⟩ := hI
       subst e hm
       have hBl := endsR_len l19 (.mk k2 set2 no2 kids2 mn2 mx2) ((((endsR l19 (.mk k set no kids mn mx) ((a : Nat) : Int)).getD i 0) : Nat) : Int) hallb
       refine CD.seq (CD.region ?_)
       refine OD.rE 1 [(3,.i64 a),(14,.sl 1 l19.length (l19.map (D.int .i32))),(15,.loc 3 0),(17,.loc 6 0),(21,.loc 12 0),(23,.row 14 0 (l19.length + 1) (l19.length + 1)),(24,.row 15 0 (l19.length + 1) (l19.length + 1)),(148,.sl 1 ((endsR l19 (.mk k set no kids mn mx) ((a : Nat) : Int)).length) ((endsR l19 (.mk k set no kids mn mx) ((a : Nat) : Int)).map natD)),(149,.i64 (((endsR l19 (.mk k set no kids mn mx) ((a : Nat) : Int)).length : Nat) : Int)),(150,.i64 i),(157,.sl 1 ((endsR l19 (.mk k2 set2 no2 kids2 mn2 mx2) ((((endsR l19 (.mk k set no kids mn mx) ((a : Nat) : Int)).getD i 0) : Nat) : Int)).length) ((endsR l19 (.mk k2 set2 no2 kids2 mn2 mx2) ((((endsR l19 (.mk k set no kids mn mx) ((a : Nat) : Int)).getD i 0) : Nat) : Int)).map natD)),(158,.i64 (((endsR l19 (.mk k2 set2 no2 kids2 mn2 mx2) ((((endsR l19 (.mk k set no kids mn mx) ((a : Nat) : Int)).getD i 0) : Nat) : Int)).length : Nat) : Int)),(159,.i64 j),(160,.bool (decide ((((j : Nat) : Int) : Int) < (((endsR l19 (.mk k2 set2 no2 kids2 mn2 mx2) ((((endsR l19 (.mk k set no kids mn mx) ((a : Nat) : Int)).getD i 0) : Nat) : Int)).length : Nat) : Int))))] ?_
       refine OD.nil (CD.seq ?_)
       refine CD.condP rfl (fun h5 => ?_) (fun h5 => ?_)
       ·
        refine CD.skip (CD.seq (CD.block (CD.seq (CD.region ?_))))
        refine OD.idxSV (i := j) rfl rfl (by kernel_rfl) (by omega) (by omega) ?_
        refine OD.rE 0 [(3,.i64 a),(14,.sl 1 l19.length (l19.map (D.int .i32))),(15,.loc 3 0),(17,.loc 6 0),(21,.loc 12 0),(23,.row 14 0 (l19.length + 1) (l19.length + 1)),(24,.row 15 0 (l19.length + 1) (l19.length + 1)),(148,.sl 1 ((endsR l19 (.mk k set no kids mn mx) ((a : Nat) : Int)).length) ((endsR l19 (.mk k set no kids mn mx) ((a : Nat) : Int)).map natD)),(149,.i64 (((endsR l19 (.mk k set no kids mn mx) ((a : Nat) : Int)).length : Nat) : Int)),(150,.i64 i),(157,.sl 1 ((endsR l19 (.mk k2 set2 no2 kids2 mn2 mx2) ((((endsR l19 (.mk k set no kids mn mx) ((a : Nat) : Int)).getD i 0) : Nat) : Int)).length) ((endsR l19 (.mk k2 set2 no2 kids2 mn2 mx2) ((((endsR l19 (.mk k set no kids mn mx) ((a : Nat) : Int)).getD i 0) : Nat) : Int)).map natD)),(158,.i64 (((endsR l19 (.mk k2 set2 no2 kids2 mn2 mx2) ((((endsR l19 (.mk k set no kids mn mx) ((a : Nat) : Int)).getD i 0) : Nat) : Int)).length : Nat) : Int)),(159,.i64 j),(161,.ep 1 ((endsR l19 (.mk k2 set2 no2 kids2 mn2 mx2) ((((endsR l19 (.mk k set no kids mn mx) ((a : Nat) : Int)).getD i 0) : Nat) : Int)).length) ((endsR l19 (.mk k2 set2 no2 kids2 mn2 mx2) ((((endsR l19 (.mk k set no kids mn mx) ((a : Nat) : Int)).getD i 0) : Nat) : Int)).map natD) j)] ?_
        refine OD.ldSV 0 (f := natD) (xs := (endsR l19 (.mk k2 set2 no2 kids2 mn2 mx2) ((((endsR l19 (.mk k set no kids mn mx) ((a : Nat) : Int)).getD i 0) : Nat) : Int))) rfl (by kernel_rfl) (by first | omega | (simp <;> omega)) ?_
        refine OD.rE 1 [(3,.i64 a),(14,.sl 1 l19.length (l19.map (D.int .i32))),(15,.loc 3 0),(17,.loc 6 0),(21,.loc 12 0),(23,.row 14 0 (l19.length + 1) (l19.length + 1)),(24,.row 15 0 (l19.length + 1) (l19.length + 1)),(30,.i64 ((((endsR l19 (.mk k2 set2 no2 kids2 mn2 mx2) ((((endsR l19 (.mk k set no kids mn mx) ((a : Nat) : Int)).getD i 0) : Nat) : Int)).getD j 0) : Nat) : Int)),(148,.sl 1 ((endsR l19 (.mk k set no kids mn mx) ((a : Nat) : Int)).length) ((endsR l19 (.mk k set no kids mn mx) ((a : Nat) : Int)).map natD)),(149,.i64 (((endsR l19 (.mk k set no kids mn mx) ((a : Nat) : Int)).length : Nat) : Int)),(150,.i64 i),(157,.sl 1 ((endsR l19 (.mk k2 set2 no2 kids2 mn2 mx2) ((((endsR l19 (.mk k set no kids mn mx) ((a : Nat) : Int)).getD i 0) : Nat) : Int)).length) ((endsR l19 (.mk k2 set2 no2 kids2 mn2 mx2) ((((endsR l19 (.mk k set no kids mn mx) ((a : Nat) : Int)).getD i 0) : Nat) : Int)).map natD)),(158,.i64 (((endsR l19 (.mk k2 set2 no2 kids2 mn2 mx2) ((((endsR l19 (.mk k set no kids mn mx) ((a : Nat) : Int)).getD i 0) : Nat) : Int)).length : Nat) : Int)),(159,.i64 j)] ?_
        refine OD.nil (CD.seq (CD.seq (CD.region ?_)))
        refine OD.rE 2 [(3,.i64 a),(14,.sl 1 l19.length (l19.map (D.int .i32))),(15,.loc 3 0),(17,.loc 6 0),(21,.loc 12 0),(23,.row 14 0 (l19.length + 1) (l19.length + 1)),(24,.row 15 0 (l19.length + 1) (l19.length + 1)),(30,.i64 ((((endsR l19 (.mk k2 set2 no2 kids2 mn2 mx2) ((((endsR l19 (.mk k set no kids mn mx) ((a : Nat) : Int)).getD i 0) : Nat) : Int)).getD j 0) : Nat) : Int)),(148,.sl 1 ((endsR l19 (.mk k set no kids mn mx) ((a : Nat) : Int)).length) ((endsR l19 (.mk k set no kids mn mx) ((a : Nat) : Int)).map natD)),(149,.i64 (((endsR l19 (.mk k set no kids mn mx) ((a : Nat) : Int)).length : Nat) : Int)),(150,.i64 i),(157,.sl 1 ((endsR l19 (.mk k2 set2 no2 kids2 mn2 mx2) ((((endsR l19 (.mk k set no kids mn mx) ((a : Nat) : Int)).getD i 0) : Nat) : Int)).length) ((endsR l19 (.mk k2 set2 no2 kids2 mn2 mx2) ((((endsR l19 (.mk k set no kids mn mx) ((a : Nat) : Int)).getD i 0) : Nat) : Int)).map natD)),(158,.i64 (((endsR l19 (.mk k2 set2 no2 kids2 mn2 mx2) ((((endsR l19 (.mk k set no kids mn mx) ((a : Nat) : Int)).getD i 0) : Nat) : Int)).length : Nat) : Int)),(159,.i64 j),(164,.bool (decide ((((((endsR l19 (.mk k2 set2 no2 kids2 mn2 mx2) ((((endsR l19 (.mk k set no kids mn mx) ((a : Nat) : Int)).getD i 0) : Nat) : Int)).getD j 0) : Nat) : Int) : Int) < 0)))] ?_
        have hbx := ends_le hallb hax (getD_mem (i := j) (by omega))
        refine OD.is 164 rfl (congrArg D.bool (decide_eq_false (by omega))) ?_
        refine OD.rE 5 [(3,.i64 a),(14,.sl 1 l19.length (l19.map (D.int .i32))),(15,.loc 3 0),(17,.loc 6 0),(21,.loc 12 0),(23,.row 14 0 (l19.length + 1) (l19.length + 1)),(24,.row 15 0 (l19.length + 1) (l19.length + 1)),(30,.i64 ((((endsR l19 (.mk k2 set2 no2 kids2 mn2 mx2) ((((endsR l19 (.mk k set no kids mn mx) ((a : Nat) : Int)).getD i 0) : Nat) : Int)).getD j 0) : Nat) : Int)),(148,.sl 1 ((endsR l19 (.mk k set no kids mn mx) ((a : Nat) : Int)).length) ((endsR l19 (.mk k set no kids mn mx) ((a : Nat) : Int)).map natD)),(149,.i64 (((endsR l19 (.mk k set no kids mn mx) ((a : Nat) : Int)).length : Nat) : Int)),(150,.i64 i),(157,.sl 1 ((endsR l19 (.mk k2 set2 no2 kids2 mn2 mx2) ((((endsR l19 (.mk k set no kids mn mx) ((a : Nat) : Int)).getD i 0) : Nat) : Int)).length) ((endsR l19 (.mk k2 set2 no2 kids2 mn2 mx2) ((((endsR l19 (.mk k set no kids mn mx) ((a : Nat) : Int)).getD i 0) : Nat) : Int)).map natD)),(158,.i64 (((endsR l19 (.mk k2 set2 no2 kids2 mn2 mx2) ((((endsR l19 (.mk k set no kids mn mx) ((a : Nat) : Int)).getD i 0) : Nat) : Int)).length : Nat) : Int)),(159,.i64 j),(165,.bool false),(169,.bool (decide ((((l19.length : Nat) : Int) : Int) < ((((endsR l19 (.mk k2 set2 no2 kids2 mn2 mx2) ((((endsR l19 (.mk k set no kids mn mx) ((a : Nat) : Int)).getD i 0) : Nat) : Int)).getD j 0) : Nat) : Int))))] ?_
        refine OD.is 169 rfl (congrArg D.bool (decide_eq_false (by omega))) ?_
        refine OD.rE 1 [(3,.i64 a),(14,.sl 1 l19.length (l19.map (D.int .i32))),(15,.loc 3 0),(17,.loc 6 0),(21,.loc 12 0),(23,.row 14 0 (l19.length + 1) (l19.length + 1)),(24,.row 15 0 (l19.length + 1) (l19.length + 1)),(30,.i64 ((((endsR l19 (.mk k2 set2 no2 kids2 mn2 mx2) ((((endsR l19 (.mk k set no kids mn mx) ((a : Nat) : Int)).getD i 0) : Nat) : Int)).getD j 0) : Nat) : Int)),(148,.sl 1 ((endsR l19 (.mk k set no kids mn mx) ((a : Nat) : Int)).length) ((endsR l19 (.mk k set no kids mn mx) ((a : Nat) : Int)).map natD)),(149,.i64 (((endsR l19 (.mk k set no kids mn mx) ((a : Nat) : Int)).length : Nat) : Int)),(150,.i64 i),(157,.sl 1 ((endsR l19 (.mk k2 set2 no2 kids2 mn2 mx2) ((((endsR l19 (.mk k set no kids mn mx) ((a : Nat) : Int)).getD i 0) : Nat) : Int)).length) ((endsR l19 (.mk k2 set2 no2 kids2 mn2 mx2) ((((endsR l19 (.mk k set no kids mn mx) ((a : Nat) : Int)).getD i 0) : Nat) : Int)).map natD)),(158,.i64 (((endsR l19 (.mk k2 set2 no2 kids2 mn2 mx2) ((((endsR l19 (.mk k set no kids mn mx) ((a : Nat) : Int)).getD i 0) : Nat) : Int)).length : Nat) : Int)),(159,.i64 j),(170,.bool false)] ?_
        refine OD.nil ?_
        refine CD.condF rfl ?_
        refine CD.skip (CD.region ?_)
        refine OD.rE 2 [(3,.i64 a),(14,.sl 1 l19.length (l19.map (D.int .i32))),(15,.loc 3 0),(17,.loc 6 0),(21,.loc 12 0),(23,.row 14 0 (l19.length + 1) (l19.length + 1)),(24,.row 15 0 (l19.length + 1) (l19.length + 1)),(148,.sl 1 ((endsR l19 (.mk k set no kids mn mx) ((a : Nat) : Int)).length) ((endsR l19 (.mk k set no kids mn mx) ((a : Nat) : Int)).map natD)),(149,.i64 (((endsR l19 (.mk k set no kids mn mx) ((a : Nat) : Int)).length : Nat) : Int)),(150,.i64 i),(157,.sl 1 ((endsR l19 (.mk k2 set2 no2 kids2 mn2 mx2) ((((endsR l19 (.mk k set no kids mn mx) ((a : Nat) : Int)).getD i 0) : Nat) : Int)).length) ((endsR l19 (.mk k2 set2 no2 kids2 mn2 mx2) ((((endsR l19 (.mk k set no kids mn mx) ((a : Nat) : Int)).getD i 0) : Nat) : Int)).map natD)),(158,.i64 (((endsR l19 (.mk k2 set2 no2 kids2 mn2 mx2) ((((endsR l19 (.mk k set no kids mn mx) ((a : Nat) : Int)).getD i 0) : Nat) : Int)).length : Nat) : Int)),(159,.i64 j),(171,.row 15 0 (l19.length + 1) (l19.length + 1)),(172,.i64 ((((endsR l19 (.mk k2 set2 no2 kids2 mn2 mx2) ((((endsR l19 (.mk k set no kids mn mx) ((a : Nat) : Int)).getD i 0) : Nat) : Int)).getD j 0) : Nat) : Int))] ?_
        refine OD.idxV (i := ((endsR l19 (.mk k2 set2 no2 kids2 mn2 mx2) ((((endsR l19 (.mk k set no kids mn mx) ((a : Nat) : Int)).getD i 0) : Nat) : Int)).getD j 0)) rfl rfl (by kernel_rfl) (by omega) (by omega) ?_
        refine OD.rE 0 [(3,.i64 a),(14,.sl 1 l19.length (l19.map (D.int .i32))),(15,.loc 3 0),(17,.loc 6 0),(21,.loc 12 0),(23,.row 14 0 (l19.length + 1) (l19.length + 1)),(24,.row 15 0 (l19.length + 1) (l19.length + 1)),(148,.sl 1 ((endsR l19 (.mk k set no kids mn mx) ((a : Nat) : Int)).length) ((endsR l19 (.mk k set no kids mn mx) ((a : Nat) : Int)).map natD)),(149,.i64 (((endsR l19 (.mk k set no kids mn mx) ((a : Nat) : Int)).length : Nat) : Int)),(150,.i64 i),(157,.sl 1 ((endsR l19 (.mk k2 set2 no2 kids2 mn2 mx2) ((((endsR l19 (.mk k set no kids mn mx) ((a : Nat) : Int)).getD i 0) : Nat) : Int)).length) ((endsR l19 (.mk k2 set2 no2 kids2 mn2 mx2) ((((endsR l19 (.mk k set no kids mn mx) ((a : Nat) : Int)).getD i 0) : Nat) : Int)).map natD)),(158,.i64 (((endsR l19 (.mk k2 set2 no2 kids2 mn2 mx2) ((((endsR l19 (.mk k set no kids mn mx) ((a : Nat) : Int)).getD i 0) : Nat) : Int)).length : Nat) : Int)),(159,.i64 j),(173,.loc 15 ((endsR l19 (.mk k2 set2 no2 kids2 mn2 mx2) ((((endsR l19 (.mk k set no kids mn mx) ((a : Nat) : Int)).getD i 0) : Nat) : Int)).getD j 0))] ?_
        refine OD.stV D.bool true (xs := ds) rfl rfl rfl rfl rfl (by kernel_rfl) (by first | omega | (simp <;> omega)) ?_
        refine OD.rE 0 [(3,.i64 a),(14,.sl 1 l19.length (l19.map (D.int .i32))),(15,.loc 3 0),(17,.loc 6 0),(21,.loc 12 0),(23,.row 14 0 (l19.length + 1) (l19.length + 1)),(24,.row 15 0 (l19.length + 1) (l19.length + 1)),(148,.sl 1 ((endsR l19 (.mk k set no kids mn mx) ((a : Nat) : Int)).length) ((endsR l19 (.mk k set no kids mn mx) ((a : Nat) : Int)).map natD)),(149,.i64 (((endsR l19 (.mk k set no kids mn mx) ((a : Nat) : Int)).length : Nat) : Int)),(150,.i64 i),(157,.sl 1 ((endsR l19 (.mk k2 set2 no2 kids2 mn2 mx2) ((((endsR l19 (.mk k set no kids mn mx) ((a : Nat) : Int)).getD i 0) : Nat) : Int)).length) ((endsR l19 (.mk k2 set2 no2 kids2 mn2 mx2) ((((endsR l19 (.mk k set no kids mn mx) ((a : Nat) : Int)).getD i 0) : Nat) : Int)).map natD)),(158,.i64 (((endsR l19 (.mk k2 set2 no2 kids2 mn2 mx2) ((((endsR l19 (.mk k set no kids mn mx) ((a : Nat) : Int)).getD i 0) : Nat) : Int)).length : Nat) : Int)),(159,.i64 j)] ?_
        refine OD.nil (CD.region ?_)
        refine OD.rE 1 [(3,.i64 a),(14,.sl 1 l19.length (l19.map (D.int .i32))),(15,.loc 3 0),(17,.loc 6 0),(21,.loc 12 0),(23,.row 14 0 (l19.length + 1) (l19.length + 1)),(24,.row 15 0 (l19.length + 1) (l19.length + 1)),(148,.sl 1 ((endsR l19 (.mk k set no kids mn mx) ((a : Nat) : Int)).length) ((endsR l19 (.mk k set no kids mn mx) ((a : Nat) : Int)).map natD)),(149,.i64 (((endsR l19 (.mk k set no kids mn mx) ((a : Nat) : Int)).length : Nat) : Int)),(150,.i64 i),(157,.sl 1 ((endsR l19 (.mk k2 set2 no2 kids2 mn2 mx2) ((((endsR l19 (.mk k set no kids mn mx) ((a : Nat) : Int)).getD i 0) : Nat) : Int)).length) ((endsR l19 (.mk k2 set2 no2 kids2 mn2 mx2) ((((endsR l19 (.mk k set no kids mn mx) ((a : Nat) : Int)).getD i 0) : Nat) : Int)).map natD)),(158,.i64 (((endsR l19 (.mk k2 set2 no2 kids2 mn2 mx2) ((((endsR l19 (.mk k set no kids mn mx) ((a : Nat) : Int)).getD i 0) : Nat) : Int)).length : Nat) : Int)),(174,.i64 (wrapQ .i64 (((j : Nat) : Int) + 1)))] ?_
        refine OD.is 174 rfl (wrn (m := j + 1) (by omega) (by omega)) ?_
        refine OD.rE 1 [(3,.i64 a),(14,.sl 1 l19.length (l19.map (D.int .i32))),(15,.loc 3 0),(17,.loc 6 0),(21,.loc 12 0),(23,.row 14 0 (l19.length + 1) (l19.length + 1)),(24,.row 15 0 (l19.length + 1) (l19.length + 1)),(148,.sl 1 ((endsR l19 (.mk k set no kids mn mx) ((a : Nat) : Int)).length) ((endsR l19 (.mk k set no kids mn mx) ((a : Nat) : Int)).map natD)),(149,.i64 (((endsR l19 (.mk k set no kids mn mx) ((a : Nat) : Int)).length : Nat) : Int)),(150,.i64 i),(157,.sl 1 ((endsR l19 (.mk k2 set2 no2 kids2 mn2 mx2) ((((endsR l19 (.mk k set no kids mn mx) ((a : Nat) : Int)).getD i 0) : Nat) : Int)).length) ((endsR l19 (.mk k2 set2 no2 kids2 mn2 mx2) ((((endsR l19 (.mk k set no kids mn mx) ((a : Nat) : Int)).getD i 0) : Nat) : Int)).map natD)),(158,.i64 (((endsR l19 (.mk k2 set2 no2 kids2 mn2 mx2) ((((endsR l19 (.mk k set no kids mn mx) ((a : Nat) : Int)).getD i 0) : Nat) : Int)).length : Nat) : Int)),(159,.i64 ((j + 1 : Nat) : Int))] ?_
        refine OD.nil ?_
        exact ⟨_, by omega, j + 1, (ds.set ((endsR l19 (.mk k2 set2 no2 kids2 mn2 mx2) ((((endsR l19 (.mk k set no kids mn mx) ((a : Nat) : Int)).getD i 0) : Nat) : Int)).getD j 0) true), (by kernel_rfl), by omega, mset_next hds (by omega), by rw [List.length_set]; exact hdl, rfl⟩
       ·
        refine CD.exit ?_
        refine CD.region ?_
        refine OD.rE 1 [(3,.i64 a),(14,.sl 1 l19.length (l19.map (D.int .i32))),(15,.loc 3 0),(17,.loc 6 0),(21,.loc 12 0),(23,.row 14 0 (l19.length + 1) (l19.length + 1)),(24,.row 15 0 (l19.length + 1) (l19.length + 1)),(148,.sl 1 ((endsR l19 (.mk k set no kids mn mx) ((a : Nat) : Int)).length) ((endsR l19 (.mk k set no kids mn mx) ((a : Nat) : Int)).map natD)),(149,.i64 (((endsR l19 (.mk k set no kids mn mx) ((a : Nat) : Int)).length : Nat) : Int)),(175,.i64 (wrapQ .i64 (((i : Nat) : Int) + 1)))] ?_
        refine OD.is 175 rfl (wrn (m := i + 1) (by omega) (by omega)) ?_
        refine OD.rE 1 [(3,.i64 a),(14,.sl 1 l19.length (l19.map (D.int .i32))),(15,.loc 3 0),(17,.loc 6 0),(21,.loc 12 0),(23,.row 14 0 (l19.length + 1) (l19.length + 1)),(24,.row 15 0 (l19.length + 1) (l19.length + 1)),(148,.sl 1 ((endsR l19 (.mk k set no kids mn mx) ((a : Nat) : Int)).length) ((endsR l19 (.mk k set no kids mn mx) ((a : Nat) : Int)).map natD)),(149,.i64 (((endsR l19 (.mk k set no kids mn mx) ((a : Nat) : Int)).length : Nat) : Int)),(150,.i64 ((i + 1 : Nat) : Int))] ?_
        refine OD.nil ?_
        exact ⟨_, by omega, i + 1, ds, (by kernel_rfl), by omega, mset_flat hcs (by omega) hds (by omega), hdl, rfl⟩
      ·
       refine CD.exit ?_
       refine CD.seq (CD.region ?_)
       refine OD.freeze 23 rfl rfl (Nat.le_refl _) ?_
       refine OD.freeze 24 rfl rfl (Nat.le_refl _) ?_
       refine OD.is 23 rfl (congrArg (fun n : Nat => D.sl 1 n (bs.map D.bool)) hbl.symm) ?_
       refine OD.is 24 rfl (congrArg (fun n : Nat => D.sl 1 n (cs.map D.bool)) hcl.symm) ?_
       have hmk181 := alt_fin hall hallb hale hks hbs (by omega)
       have hmk188 := cat_fin hall hallb hale hcs (by omega)
       refine OD.rE 3 [(3,.i64 a),(14,.sl 1 l19.length (l19.map (D.int .i32))),(17,.loc 6 0),(23,.sl 1 bs.length (bs.map D.bool)),(24,.sl 1 cs.length (cs.map D.bool)),(176,.loc 3 0),(177,.sl 1 l19.length (l19.map (D.int .i32))),(178,.i64 a)] ?_
       refine OD.cO [3] [.loc 3 0, .sl 1 l19.length (l19.map (D.int .i32)), .i64 a] (Ends_ok (altN (.mk k set no kids mn mx) (.mk k2 set2 no2 kids2 mn2 mx2)) (machine K14 (altN (.mk k set no kids mn mx) (.mk k2 set2 no2 kids2 mn2 mx2))).1 (machine K14 (altN (.mk k set no kids mn mx) (.mk k2 set2 no2 kids2 mn2 mx2))).2 n1u ((wp K14 20001 (altN (.mk k set no kids mn mx) (.mk k2 set2 no2 kids2 mn2 mx2)) : Nat) : Int) l19 ((a : Nat) : Int) halu rfl (machine_fs hfu) hn1u (by omega) (by omega)) (fun r L1 hr => ?_)
       obtain ⟨rfl, rfl⟩ := hr
       refine OD.rL 1 [(3,.i64 a),(14,.sl 1 l19.length (l19.map (D.int .i32))),(17,.loc 6 0),(24,.sl 1 cs.length (cs.map D.bool)),(179,.sl 1 ((endsR l19 (altN (.mk k set no kids mn mx) (.mk k2 set2 no2 kids2 mn2 mx2)) ((a : Nat) : Int)).length) ((endsR l19 (altN (.mk k set no kids mn mx) (.mk k2 set2 no2 kids2 mn2 mx2)) ((a : Nat) : Int)).map natD)),(180,.sl 1 bs.length (bs.map D.bool))] [.box [.i64 k, .sl 2 set.length (set.flatMap encR), .bool no, .sl 6 kids.length (encNs kids), .i64 mn, .i64 mx], .box [.i64 k2, .sl 2 set2.length (set2.flatMap encR), .bool no2, .sl 6 kids2.length (encNs kids2), .i64 mn2, .i64 mx2], .box [.i64 4, .sl 2 0 ([]), .bool false, .sl 6 (([(.mk k set no kids mn mx),(.mk k2 set2 no2 kids2 mn2 mx2)] : List Nd).length) (encNs [(.mk k set no kids mn mx),(.mk k2 set2 no2 kids2 mn2 mx2)]), .i64 0, .i64 0], .box [.sl 9 n1u (((machine K14 (altN (.mk k set no kids mn mx) (.mk k2 set2 no2 kids2 mn2 mx2))).1).flatMap encSta), .i64 (((machine K14 (altN (.mk k set no kids mn mx) (.mk k2 set2 no2 kids2 mn2 mx2))).2 : Nat) : Int), .i64 ((wp K14 20001 (altN (.mk k set no kids mn mx) (.mk k2 set2 no2 kids2 mn2 mx2)) : Nat) : Int)], .dead, .box [.i64 3, .sl 2 0 ([]), .bool false, .sl 6 (([(.mk k set no kids mn mx),(.mk k2 set2 no2 kids2 mn2 mx2)] : List Nd).length) (encNs [(.mk k set no kids mn mx),(.mk k2 set2 no2 kids2 mn2 mx2)]), .i64 0, .i64 0], .box [.sl 9 n1v (((machine K14 (catN (.mk k set no kids mn mx) (.mk k2 set2 no2 kids2 mn2 mx2))).1).flatMap encSta), .i64 (((machine K14 (catN (.mk k set no kids mn mx) (.mk k2 set2 no2 kids2 mn2 mx2))).2 : Nat) : Int), .i64 ((wp K14 20001 (catN (.mk k set no kids mn mx) (.mk k2 set2 no2 kids2 mn2 mx2)) : Nat) : Int)], .dead, .box [.i64 k, .sl 2 set.length (set.flatMap encR), .bool no, .sl 6 kids.length (encNs kids), .i64 mn, .i64 mx], .box [.sl 9 n1 (((machine K14 (.mk k set no kids mn mx)).1).flatMap encSta), .i64 (((machine K14 (.mk k set no kids mn mx)).2 : Nat) : Int), .i64 ((wp K14 20001 (.mk k set no kids mn mx) : Nat) : Int)], .dead, .box [.i64 k2, .sl 2 set2.length (set2.flatMap encR), .bool no2, .sl 6 kids2.length (encNs kids2), .i64 mn2, .i64 mx2], .box [.sl 9 n1b (((machine K14 (.mk k2 set2 no2 kids2 mn2 mx2)).1).flatMap encSta), .i64 (((machine K14 (.mk k2 set2 no2 kids2 mn2 mx2)).2 : Nat) : Int), .i64 ((wp K14 20001 (.mk k2 set2 no2 kids2 mn2 mx2) : Nat) : Int)], .dead, .dead, .dead, .dead, .dead, .dead, .dead] ?_
       refine OD.cE (marks_ok (endsR l19 (altN (.mk k set no kids mn mx) (.mk k2 set2 no2 kids2 mn2 mx2)) ((a : Nat) : Int)) bs hmk181 (by omega)) ?_
       refine OD.rE 4 [(24,.sl 1 cs.length (cs.map D.bool)),(182,.bool true),(183,.loc 6 0),(184,.sl 1 l19.length (l19.map (D.int .i32))),(185,.i64 a)] ?_
       refine OD.guard rfl rfl ?_
       refine OD.cO [6] [.loc 6 0, .sl 1 l19.length (l19.map (D.int .i32)), .i64 a] (Ends_ok (catN (.mk k set no kids mn mx) (.mk k2 set2 no2 kids2 mn2 mx2)) (machine K14 (catN (.mk k set no kids mn mx) (.mk k2 set2 no2 kids2 mn2 mx2))).1 (machine K14 (catN (.mk k set no kids mn mx) (.mk k2 set2 no2 kids2 mn2 mx2))).2 n1v ((wp K14 20001 (catN (.mk k set no kids mn mx) (.mk k2 set2 no2 kids2 mn2 mx2)) : Nat) : Int) l19 ((a : Nat) : Int) halv rfl (machine_fs hfv) hn1v (by omega) (by omega)) (fun r L1 hr => ?_)
       obtain ⟨rfl, rfl⟩ := hr
       refine OD.rL 1 [(182,.bool true),(186,.sl 1 ((endsR l19 (catN (.mk k set no kids mn mx) (.mk k2 set2 no2 kids2 mn2 mx2)) ((a : Nat) : Int)).length) ((endsR l19 (catN (.mk k set no kids mn mx) (.mk k2 set2 no2 kids2 mn2 mx2)) ((a : Nat) : Int)).map natD)),(187,.sl 1 cs.length (cs.map D.bool))] [.box [.i64 k, .sl 2 set.length (set.flatMap encR), .bool no, .sl 6 kids.length (encNs kids), .i64 mn, .i64 mx], .box [.i64 k2, .sl 2 set2.length (set2.flatMap encR), .bool no2, .sl 6 kids2.length (encNs kids2), .i64 mn2, .i64 mx2], .box [.i64 4, .sl 2 0 ([]), .bool false, .sl 6 (([(.mk k set no kids mn mx),(.mk k2 set2 no2 kids2 mn2 mx2)] : List Nd).length) (encNs [(.mk k set no kids mn mx),(.mk k2 set2 no2 kids2 mn2 mx2)]), .i64 0, .i64 0], .box [.sl 9 n1u (((machine K14 (altN (.mk k set no kids mn mx) (.mk k2 set2 no2 kids2 mn2 mx2))).1).flatMap encSta), .i64 (((machine K14 (altN (.mk k set no kids mn mx) (.mk k2 set2 no2 kids2 mn2 mx2))).2 : Nat) : Int), .i64 ((wp K14 20001 (altN (.mk k set no kids mn mx) (.mk k2 set2 no2 kids2 mn2 mx2)) : Nat) : Int)], .dead, .box [.i64 3, .sl 2 0 ([]), .bool false, .sl 6 (([(.mk k set no kids mn mx),(.mk k2 set2 no2 kids2 mn2 mx2)] : List Nd).length) (encNs [(.mk k set no kids mn mx),(.mk k2 set2 no2 kids2 mn2 mx2)]), .i64 0, .i64 0], .box [.sl 9 n1v (((machine K14 (catN (.mk k set no kids mn mx) (.mk k2 set2 no2 kids2 mn2 mx2))).1).flatMap encSta), .i64 (((machine K14 (catN (.mk k set no kids mn mx) (.mk k2 set2 no2 kids2 mn2 mx2))).2 : Nat) : Int), .i64 ((wp K14 20001 (catN (.mk k set no kids mn mx) (.mk k2 set2 no2 kids2 mn2 mx2)) : Nat) : Int)], .dead, .box [.i64 k, .sl 2 set.length (set.flatMap encR), .bool no, .sl 6 kids.length (encNs kids), .i64 mn, .i64 mx], .box [.sl 9 n1 (((machine K14 (.mk k set no kids mn mx)).1).flatMap encSta), .i64 (((machine K14 (.mk k set no kids mn mx)).2 : Nat) : Int), .i64 ((wp K14 20001 (.mk k set no kids mn mx) : Nat) : Int)], .dead, .box [.i64 k2, .sl 2 set2.length (set2.flatMap encR), .bool no2, .sl 6 kids2.length (encNs kids2), .i64 mn2, .i64 mx2], .box [.sl 9 n1b (((machine K14 (.mk k2 set2 no2 kids2 mn2 mx2)).1).flatMap encSta), .i64 (((machine K14 (.mk k2 set2 no2 kids2 mn2 mx2)).2 : Nat) : Int), .i64 ((wp K14 20001 (.mk k2 set2 no2 kids2 mn2 mx2) : Nat) : Int)], .dead, .dead, .dead, .dead, .dead, .dead, .dead] ?_
       refine OD.guard rfl rfl ?_
       refine OD.cE (marks_ok (endsR l19 (catN (.mk k set no kids mn mx) (.mk k2 set2 no2 kids2 mn2 mx2)) ((a : Nat) : Int)) cs hmk188 (by omega)) ?_
       refine OD.rE 2 [(8,.bool true)] ?_
       refine OD.nil (CD.ret ?_)
       exact rP (.bool true) (rfl)
end
end Go.Proofs.YtiebldaihnbkmaaGreatDoor
