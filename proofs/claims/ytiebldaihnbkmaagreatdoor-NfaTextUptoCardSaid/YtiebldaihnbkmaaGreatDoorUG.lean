/-
  What is proved here: what functions of the pattern's package come to (walks that a program of mine has printed). No conditions. What is proved here: what functions of the pattern's package come to (walks that a program of mine has printed). No conditions.
-/
import Derived.Test.YtiebldaihnbkmaaGreatDoorPGa
import Derived.Test.YtiebldaihnbkmaaGreatDoorRI
import Derived.Test.YtiebldaihnbkmaaGreatDoorNQ
import Derived.Test.YtiebldaihnbkmaaGreatDoorNT
set_option linter.unusedVariables false
set_option linter.unusedSimpArgs false
set_option linter.unusedVariables false
set_option linter.unusedSimpArgs false
set_option maxRecDepth 100000
set_option maxHeartbeats 4000000
namespace Go.Proofs.YtiebldaihnbkmaaGreatDoor
open Go.Vai Go.Nfa Go.Utf
noncomputable section
theorem sindex_ok (l : List Int) (v : Int) (hl : l.length < 4611686018427387904) : PureD P ov 74 [.sl 1 l.length (l.map (D.int .i32)), .int .i32 v] (.int .i64 (ixF l v 0)) := by
 refine FnD.intro (by kernel_rfl) (fn := Tryz.f74) (by kernel_rfl) rfl (by kernel_rfl) fun M a0 g0 hg0 => ?_
 refine CD.seq (CD.region ?_)
 refine OD.rE 1 [(0, .sl 1 l.length (l.map (D.int .i32))), (1, .int .i32 v)] ?_
 refine OD.nil (CD.seq (CD.seq (CD.region ?_)))
 refine OD.rE 3 [(0, .sl 1 l.length (l.map (D.int .i32))), (1, .int .i32 v), (7, .int .i64 l.length), (8, .int .i64 0)] ?_
 refine OD.nil (CD.block ?_)
 refine CD.weak [0, 1, 7, 8] 0 (E' := [(0, .sl 1 l.length (l.map (D.int .i32))), (1, .int .i32 v), (7, .int .i64 l.length), (8, .int .i64 0)]) (by kernel_rfl) (by simp [hg0]) (by kernel_rfl) ?_
 refine CD.loop (fun m σ => ∃ (i : Nat), σ = ⟨[(0, .sl 1 l.length (l.map (D.int .i32))), (1, .int .i32 v), (7, .int .i64 l.length), (8, .int .i64 i)], []⟩ ∧ (i ≤ l.length) ∧ (ixF l v 0 = ixF (l.drop i) v i) ∧ m = l.length - i) (fun m σ hI => ?_) _ ⟨0, (by kernel_rfl), Nat.zero_le _, rfl, rfl⟩
 obtain ⟨i, e, hi, hr, hm⟩ := hI
 subst e hm
 refine CD.seq (CD.region ?_)
 refine OD.rE 1 [(0, .sl 1 l.length (l.map (D.int .i32))), (1, .int .i32 v), (7, .int .i64 l.length), (8, .int .i64 i), (9, .bool (decide ((((i : Nat) : Int) : Int) < ((l.length : Nat) : Int))))] ?_
 refine OD.nil (CD.seq ?_)
 refine CD.condP rfl (fun h1 => ?_) (fun h1 => ?_)
 ·
  obtain ⟨x, hx, hd⟩ := nth (l := l) (i := i) (by omega)
  refine CD.skip (CD.seq (CD.block (CD.seq (CD.region ?_))))
  refine OD.rE 2 [(0, .sl 1 l.length (l.map (D.int .i32))), (1, .int .i32 v), (5, .int .i64 i), (7, .int .i64 l.length), (8, .int .i64 i)] ?_
  refine OD.nil (CD.seq (CD.region ?_))
  refine OD.rE 3 [(0, .sl 1 l.length (l.map (D.int .i32))), (1, .int .i32 v), (5, .int .i64 i), (7, .int .i64 l.length), (8, .int .i64 i), (11, .int .i32 v), (12, .sl 1 l.length (l.map (D.int .i32))), (13, .int .i64 i)] ?_
  refine OD.idxSV (i := i) rfl rfl (by kernel_rfl) (by omega) (by omega) ?_
  refine OD.rE 0 [(0, .sl 1 l.length (l.map (D.int .i32))), (1, .int .i32 v), (5, .int .i64 i), (7, .int .i64 l.length), (8, .int .i64 i), (11, .int .i32 v), (14, .ep 1 l.length (l.map (D.int .i32)) i)] ?_
  refine OD.ldSV 0 (f := (D.int .i32)) (xs := l) rfl (by kernel_rfl) (by first | omega | (simp <;> omega)) ?_
  refine OD.rE 1 [(0, .sl 1 l.length (l.map (D.int .i32))), (1, .int .i32 v), (5, .int .i64 i), (7, .int .i64 l.length), (8, .int .i64 i), (16, .bool (decide ((v : Int) = (l.getD i 0))))] ?_
  refine OD.nil ?_
  refine CD.condP rfl (fun h2 => ?_) (fun h2 => ?_)
  ·
   refine CD.seq (CD.region ?_)
   refine OD.rE 2 [(4, .int .i64 i)] ?_
   refine OD.nil (CD.ret ?_)
   exact rP (.int .i64 i) (congrArg (D.int .i64) (by rw [hr, hd, ixF, if_pos (by rw [← getD_of (d := 0) hx]; exact h2)]))
  ·
   refine CD.skip (CD.region ?_)
   refine OD.rE 1 [(0, .sl 1 l.length (l.map (D.int .i32))), (1, .int .i32 v), (7, .int .i64 l.length), (18, .int .i64 (wrapQ .i64 (((i : Nat) : Int) + 1)))] ?_
   refine OD.is 18 rfl (wrn (m := i + 1) (by omega) (by omega)) ?_
   refine OD.rE 1 [(0, .sl 1 l.length (l.map (D.int .i32))), (1, .int .i32 v), (7, .int .i64 l.length), (8, .int .i64 ((i + 1 : Nat) : Int))] ?_
   refine OD.nil ?_
   exact ⟨_, by omega, i + 1, (by kernel_rfl), by omega, by rw [hr, hd, ixF, if_neg (by rw [← getD_of (d := 0) hx]; exact h2)], rfl⟩
 ·
  refine CD.exit ?_
  refine CD.seq (CD.region ?_)
  refine OD.rE 1 [(4, .int .i64 (-1))] ?_
  refine OD.nil (CD.ret ?_)
  exact rP (.int .i64 (-1)) (congrArg (D.int .i64) (by rw [hr, List.drop_eq_nil_of_le (by omega)]; rfl))
theorem scontains_ok (l : List Int) (v : Int) (hl : l.length < 4611686018427387904) : PureD P ov 55 [.sl 1 l.length (l.map (D.int .i32)), .int .i32 v] (.bool (decide (v ∈ l))) := by
 refine FnD.intro (by kernel_rfl) (fn := Tryz.f55) (by kernel_rfl) rfl (by kernel_rfl) fun M a0 g0 hg0 => ?_
 refine CD.seq (CD.region ?_)
 refine OD.rE 1 [(0, .sl 1 l.length (l.map (D.int .i32))), (1, .int .i32 v)] ?_
 refine OD.nil (CD.seq (CD.region ?_))
 refine OD.rE 2 [(5, .sl 1 l.length (l.map (D.int .i32))), (6, .int .i32 v)] ?_
 refine OD.cE (sindex_ok l v hl) ?_
 refine OD.rE 2 [(4, .bool (decide ((0 : Int) ≤ (ixF l v 0))))] ?_
 refine OD.nil (CD.ret ?_)
 exact rP (.bool (decide ((0 : Int) ≤ (ixF l v 0)))) (congrArg D.bool (ixF_mem l v 0))
theorem parse_ok (s : ByteArray) (hsz : s.size ≤ 1000000) : FnD P ov 32 [.str s] [] (fun r L1 => (parseR s) r ∧ L1 = []) := by
 refine FnD.intro (by kernel_rfl) (fn := Tryz.f32) (by kernel_rfl) rfl (by kernel_rfl) fun M a0 g0 hg0 => ?_
 refine CD.seq (CD.region ?_)
 refine OD.rL 2 [(0, .str s), (2, .loc 0 0)] [.box [.int .i64 0, .lit (.slice none 0 0), .bool false, .lit (.slice none 0 0), .int .i64 0, .int .i64 0]] ?_
 refine OD.nil (CD.seq (CD.region ?_))
 refine OD.rE 1 [(0, .str s), (2, .loc 0 0), (7, .str s)] ?_
 refine OD.cP (fun r => ∃ l, l = allM (bytesOf s) ∧ r = .sl 1 l.length (l.map (D.int .i32))) (utfAll_ex s hsz) (fun r hr => ?_)
 obtain ⟨l, hl, rfl⟩ := hr
 have hll := all_len s
 rw [← hl] at hll
 refine OD.rE 1 [(0, .str s), (2, .loc 0 0), (4, .sl 1 l.length (l.map (D.int .i32)))] ?_
 refine OD.nil (CD.seq (CD.seq (CD.region ?_)))
 refine OD.rE 4 [(0, .str s), (2, .loc 0 0), (4, .sl 1 l.length (l.map (D.int .i32))), (12, .bool (decide ((60 : Int) < ((s.size : Nat) : Int))))] ?_
 refine OD.ifP 12 rfl (fun h1 => ?_) (fun h1 => ?_)
 ·
  refine OD.rE 8 [(2, .loc 0 0), (4, .sl 1 l.length (l.map (D.int .i32))), (20, .bool true)] ?_
  refine OD.nil ?_
  refine CD.condT rfl ?_
  refine CD.seq (CD.region ?_)
  refine OD.rE 1 [(2, .loc 0 0), (21, .agg [.int .i64 0, .lit (.slice none 0 0), .bool false, .lit (.slice none 0 0), .int .i64 0, .int .i64 0])] ?_
  refine OD.reNil 21 [0, 2, 0, 6, 0, 0] (ds' := [.int .i64 0, .sl 2 0 ([]), .bool false, .sl 6 0 ([]), .int .i64 0, .int .i64 0]) rfl (by kernel_rfl) ?_
  refine OD.rL 2 [(2, .loc 0 0), (3, .int .i64 5)] [.box [.int .i64 0, .sl 2 0 ([]), .bool false, .sl 6 0 ([]), .int .i64 0, .int .i64 0]] ?_
  refine OD.nil (CD.ret ?_)
  (try dsimp only); first | refine resP_r ?_ | refine resP_n ?_
  exact rO 0 (.tup [.agg [.int .i64 0, .sl 2 0 ([]), .bool false, .sl 6 0 ([]), .int .i64 0, .int .i64 0], .int .i64 5]) [] (⟨.inl ⟨parse_n (.inl (by omega)), rfl⟩, rfl⟩)
 ·
  refine OD.rE 1 [(2, .loc 0 0), (4, .sl 1 l.length (l.map (D.int .i32))), (12, .bool false), (13, .str s)] ?_
  refine OD.guard rfl rfl ?_
  refine OD.cE (valid_ok s hsz) ?_
  refine OD.rE 3 [(2, .loc 0 0), (4, .sl 1 l.length (l.map (D.int .i32))), (17, .bool (!(Lib.validD s.data.toList)))] ?_
  refine OD.ifB 17 rfl (fun h2 => ?_) (fun h2 => ?_)
  ·
   have h2 := ndt' h2
   refine OD.rE 3 [(2, .loc 0 0), (4, .sl 1 l.length (l.map (D.int .i32))), (20, .bool true)] ?_
   refine OD.nil ?_
   refine CD.condT rfl ?_
   refine CD.seq (CD.region ?_)
   refine OD.rE 1 [(2, .loc 0 0), (21, .agg [.int .i64 0, .lit (.slice none 0 0), .bool false, .lit (.slice none 0 0), .int .i64 0, .int .i64 0])] ?_
   refine OD.reNil 21 [0, 2, 0, 6, 0, 0] (ds' := [.int .i64 0, .sl 2 0 ([]), .bool false, .sl 6 0 ([]), .int .i64 0, .int .i64 0]) rfl (by kernel_rfl) ?_
   refine OD.rL 2 [(2, .loc 0 0), (3, .int .i64 5)] [.box [.int .i64 0, .sl 2 0 ([]), .bool false, .sl 6 0 ([]), .int .i64 0, .int .i64 0]] ?_
   refine OD.nil (CD.ret ?_)
   (try dsimp only); first | refine resP_r ?_ | refine resP_n ?_
   exact rO 0 (.tup [.agg [.int .i64 0, .sl 2 0 ([]), .bool false, .sl 6 0 ([]), .int .i64 0, .int .i64 0], .int .i64 5]) [] (⟨.inl ⟨parse_n (.inr (.inl h2)), rfl⟩, rfl⟩)
  ·
   have h2 := ndf' h2
   refine OD.rE 1 [(2, .loc 0 0), (4, .sl 1 l.length (l.map (D.int .i32))), (17, .bool false), (18, .sl 1 l.length (l.map (D.int .i32)))] ?_
   refine OD.guard rfl rfl ?_
   refine OD.cE (scontains_ok l 65533 (by omega)) ?_
   refine OD.rE 1 [(2, .loc 0 0), (4, .sl 1 l.length (l.map (D.int .i32))), (20, .bool (decide ((65533 : Int) ∈ l)))] ?_
   refine OD.nil ?_
   refine CD.condP rfl (fun h3 => ?_) (fun h3 => ?_)
   ·
    refine CD.seq (CD.region ?_)
    refine OD.rE 1 [(2, .loc 0 0), (21, .agg [.int .i64 0, .lit (.slice none 0 0), .bool false, .lit (.slice none 0 0), .int .i64 0, .int .i64 0])] ?_
    refine OD.reNil 21 [0, 2, 0, 6, 0, 0] (ds' := [.int .i64 0, .sl 2 0 ([]), .bool false, .sl 6 0 ([]), .int .i64 0, .int .i64 0]) rfl (by kernel_rfl) ?_
    refine OD.rL 2 [(2, .loc 0 0), (3, .int .i64 5)] [.box [.int .i64 0, .sl 2 0 ([]), .bool false, .sl 6 0 ([]), .int .i64 0, .int .i64 0]] ?_
    refine OD.nil (CD.ret ?_)
    (try dsimp only); first | refine resP_r ?_ | refine resP_n ?_
    exact rO 0 (.tup [.agg [.int .i64 0, .sl 2 0 ([]), .bool false, .sl 6 0 ([]), .int .i64 0, .int .i64 0], .int .i64 5]) [] (⟨.inl ⟨parse_n (.inr (.inr (hl ▸ h3))), rfl⟩, rfl⟩)
   ·
    refine CD.skip (CD.seq (CD.region ?_))
    have hs : okS l := by rw [hl]; exact okS_all (by rw [← hl]; exact h3)
    refine OD.rL 4 [(2, .loc 0 0), (5, .loc 1 0)] [.box [.int .i64 0, .lit (.slice none 0 0), .bool false, .lit (.slice none 0 0), .int .i64 0, .int .i64 0], pbox l false] ?_
    refine OD.nil (CD.seq (CD.region ?_))
    refine OD.rE 1 [(2, .loc 0 0), (5, .loc 1 0), (25, .loc 1 0)] ?_
    refine OD.cO [1] [.loc 1 0] (altF_ok (l.length + 1) (by omega) l false hs (Nat.le_refl _)) (fun r L1 hr => ?_)
    obtain ⟨rfl, rfl⟩ := hr
    refine OD.rL 2 [(2, .loc 0 0), (5, .loc 1 0), (6, .loc 2 0)] [.box [.int .i64 0, .lit (.slice none 0 0), .bool false, .lit (.slice none 0 0), .int .i64 0, .int .i64 0], pbox ((altF (l.length + 1) l false).2.1) (altF (l.length + 1) l false).2.2, .box (celN ((altF (l.length + 1) l false).1))] ?_
    refine OD.nil (CD.seq (CD.seq (CD.region ?_)))
    refine OD.rE 5 [(2, .loc 0 0), (5, .loc 1 0), (6, .loc 2 0), (31, .bool (altF (l.length + 1) l false).2.2)] ?_
    refine OD.ifB 31 rfl (fun h4 => ?_) (fun h4 => ?_)
    ·
     refine OD.rE 7 [(2, .loc 0 0), (6, .loc 2 0), (38, .bool true)] ?_
     refine OD.nil ?_
     refine CD.condT rfl ?_
     refine CD.seq (CD.region ?_)
     refine OD.rE 1 [(2, .loc 0 0), (39, .agg [.int .i64 0, .lit (.slice none 0 0), .bool false, .lit (.slice none 0 0), .int .i64 0, .int .i64 0])] ?_
     refine OD.reNil 39 [0, 2, 0, 6, 0, 0] (ds' := [.int .i64 0, .sl 2 0 ([]), .bool false, .sl 6 0 ([]), .int .i64 0, .int .i64 0]) rfl (by kernel_rfl) ?_
     refine OD.rL 2 [(2, .loc 0 0), (3, .int .i64 5)] [.box [.int .i64 0, .sl 2 0 ([]), .bool false, .sl 6 0 ([]), .int .i64 0, .int .i64 0], pbox ((altF (l.length + 1) l false).2.1) (altF (l.length + 1) l false).2.2, .box (celN ((altF (l.length + 1) l false).1))] ?_
     refine OD.nil (CD.ret ?_)
     (try dsimp only); first | refine resP_r ?_ | refine resP_n ?_
     exact rO 0 (.tup [.agg [.int .i64 0, .sl 2 0 ([]), .bool false, .sl 6 0 ([]), .int .i64 0, .int .i64 0], .int .i64 5]) [] (⟨.inl ⟨parse_b hl (.inl h4), rfl⟩, rfl⟩)
    ·
     refine OD.rE 7 [(2, .loc 0 0), (6, .loc 2 0), (38, .bool (decide ((0 : Int) < ((((altF (l.length + 1) l false).2.1).length : Nat) : Int))))] ?_
     refine OD.nil ?_
     refine CD.condP rfl (fun h5 => ?_) (fun h5 => ?_)
     ·
      refine CD.seq (CD.region ?_)
      refine OD.rE 1 [(2, .loc 0 0), (39, .agg [.int .i64 0, .lit (.slice none 0 0), .bool false, .lit (.slice none 0 0), .int .i64 0, .int .i64 0])] ?_
      refine OD.reNil 39 [0, 2, 0, 6, 0, 0] (ds' := [.int .i64 0, .sl 2 0 ([]), .bool false, .sl 6 0 ([]), .int .i64 0, .int .i64 0]) rfl (by kernel_rfl) ?_
      refine OD.rL 2 [(2, .loc 0 0), (3, .int .i64 5)] [.box [.int .i64 0, .sl 2 0 ([]), .bool false, .sl 6 0 ([]), .int .i64 0, .int .i64 0], pbox ((altF (l.length + 1) l false).2.1) (altF (l.length + 1) l false).2.2, .box (celN ((altF (l.length + 1) l false).1))] ?_
      refine OD.nil (CD.ret ?_)
      (try dsimp only); first | refine resP_r ?_ | refine resP_n ?_
      exact rO 0 (.tup [.agg [.int .i64 0, .sl 2 0 ([]), .bool false, .sl 6 0 ([]), .int .i64 0, .int .i64 0], .int .i64 5]) [] (⟨.inl ⟨parse_b hl (.inr (by omega)), rfl⟩, rfl⟩)
     ·
      refine CD.skip (CD.seq (CD.region ?_))
      refine OD.rL 3 [(2, .loc 0 0), (3, .int .i64 0)] [.box (celN ((altF (l.length + 1) l false).1)), pbox ((altF (l.length + 1) l false).2.1) (altF (l.length + 1) l false).2.2, .box (celN ((altF (l.length + 1) l false).1))] ?_
      refine OD.nil (CD.ret ?_)
      (try dsimp only); first | refine resP_r ?_ | refine resP_n ?_
      exact rO 0 (.tup [.agg (celN ((altF (l.length + 1) l false).1)), .int .i64 0]) [] (⟨.inr ⟨_, parse_s hl (parse_h hl h1 h2 h3) h4 (by omega), rfl⟩, rfl⟩)
end
end Go.Proofs.YtiebldaihnbkmaaGreatDoor
set_option linter.unusedVariables false
set_option linter.unusedSimpArgs false
set_option maxRecDepth 100000
set_option maxHeartbeats 4000000
namespace Go.Proofs.YtiebldaihnbkmaaGreatDoor
open Go.Vai Go.Nfa Go.Utf
noncomputable section
theorem NfaText_fn (re s : ByteArray) (at_ : Int) (hre : re.size ≤ 1048576) (hsz : s.size ≤ 1048576) (hat : -9223372036854775808 ≤ at_ ∧ at_ < 9223372036854775808) : PureD P ov 7 [.str re, .str s, .int .i64 at_] (.bool true) := by
 refine FnD.intro (by kernel_rfl) (fn := Tryz.f7) (by kernel_rfl) rfl (by kernel_rfl) fun M a0 g0 hg0 => ?_
 refine CD.seq (CD.region ?_)
 refine OD.rE 1 [(0, .str re), (1, .str s), (2, .int .i64 at_)] ?_
 refine OD.nil (CD.seq (CD.region ?_))
 refine OD.cE (FnD.known rfl (fun _ => rfl)) ?_
 refine OD.rE 1 [(0, .str re), (1, .str s), (2, .int .i64 at_), (7, .bool true)] ?_
 refine OD.nil (CD.seq (CD.seq (CD.region ?_)))
 refine OD.rE 2 [(0, .str re), (1, .str s), (2, .int .i64 at_), (15, .bool false)] ?_
 refine OD.nil ?_
 refine CD.condF rfl ?_
 refine CD.skip (CD.seq (CD.region ?_))
 refine OD.rE 1 [(1, .str s), (2, .int .i64 at_), (17, .str re)] ?_
 refine OD.cP (fun r => ∃ t : ByteArray, t = re.extract 0 (min re.size 40) ∧ t.size ≤ 40 ∧ r = .str t) (short_ex re 40) (fun r hr => ?_)
 obtain ⟨t1, ht1, ht1s, rfl⟩ := hr
 refine OD.rE 0 [(1, .str s), (2, .int .i64 at_), (18, .str t1)] ?_
 refine OD.cP (parseR t1) (parse_ok t1 (by omega)) (fun r hr => ?_)
 rcases hr with ⟨_, rfl⟩ | ⟨⟨k, set, no, kids, mn, mx⟩, hN, rfl⟩
 ·
  refine OD.rL 6 [(1, .str s), (2, .int .i64 at_), (8, .loc 0 0), (9, .int .i64 5)] [.box (celN zeroN)] ?_
  refine OD.nil (CD.seq (CD.seq (CD.region ?_)))
  refine OD.rE 2 [(1, .str s), (2, .int .i64 at_), (8, .loc 0 0), (9, .int .i64 5), (23, .bool true)] ?_
  refine OD.nil ?_
  refine CD.condT rfl ?_
  refine CD.seq (CD.region ?_)
  refine OD.rE 3 [(6, .bool true)] ?_
  refine OD.nil (CD.ret ?_)
  exact rP (.bool true) (rfl)
 ·
  obtain ⟨hf, hal, hz60⟩ := parse_good hN
  have hz : size (.mk k set no kids mn mx) < 4611686018427387904 := by omega
  refine OD.rL 6 [(1, .str s), (2, .int .i64 at_), (8, .loc 0 0), (9, .int .i64 0)] [.box [.int .i64 k, .sl 2 set.length (set.flatMap encR), .bool no, .sl 6 kids.length (encNs kids), .int .i64 mn, .int .i64 mx]] ?_
  refine OD.nil (CD.seq (CD.seq (CD.region ?_)))
  refine OD.rE 2 [(1, .str s), (2, .int .i64 at_), (8, .loc 0 0), (9, .int .i64 0), (23, .bool false)] ?_
  refine OD.nil ?_
  refine CD.condF rfl ?_
  refine CD.skip (CD.seq (CD.seq (CD.region ?_)))
  refine OD.rE 1 [(1, .str s), (2, .int .i64 at_), (8, .loc 0 0), (26, .agg [.int .i64 k, .sl 2 set.length (set.flatMap encR), .bool no, .sl 6 kids.length (encNs kids), .int .i64 mn, .int .i64 mx])] ?_
  refine OD.cE (Weight_ok _ k set no kids mn mx (Nat.le_refl _) hf (by first | exact hal | exact cnt_loc hc1 | (exfalso; omega))) ?_
  refine OD.rE 2 [(1, .str s), (2, .int .i64 at_), (8, .loc 0 0), (29, .bool (decide ((3000 : Int) < ((wr K14 1000000 (.mk k set no kids mn mx) : Nat) : Int))))] ?_
  refine OD.ifP 29 rfl (fun h1 => ?_) (fun h1 => ?_)
  ·
   refine OD.rE 4 [(1, .str s), (2, .int .i64 at_), (8, .loc 0 0), (33, .bool true)] ?_
   refine OD.nil ?_
   refine CD.condT rfl ?_
   refine CD.seq (CD.region ?_)
   refine OD.rE 1 [(6, .bool true)] ?_
   refine OD.nil (CD.ret ?_)
   exact rP (.bool true) (rfl)
  ·
   refine OD.rE 1 [(1, .str s), (2, .int .i64 at_), (8, .loc 0 0), (29, .bool false), (30, .agg [.int .i64 k, .sl 2 set.length (set.flatMap encR), .bool no, .sl 6 kids.length (encNs kids), .int .i64 mn, .int .i64 mx])] ?_
   refine OD.guard rfl rfl ?_
   refine OD.cE (Deep_ok _ k set no kids mn mx (Nat.le_refl _) hf hz) ?_
   refine OD.rE 2 [(1, .str s), (2, .int .i64 at_), (8, .loc 0 0), (33, .bool (decide ((14 : Int) < ((deep (.mk k set no kids mn mx) : Nat) : Int))))] ?_
   refine OD.nil ?_
   refine CD.condP rfl (fun h2 => ?_) (fun h2 => ?_)
   ·
    refine CD.seq (CD.region ?_)
    refine OD.rE 1 [(6, .bool true)] ?_
    refine OD.nil (CD.ret ?_)
    exact rP (.bool true) (rfl)
   ·
    refine CD.skip (CD.seq (CD.region ?_))
    have hcn := cnt_of (N := (.mk k set no kids mn mx)) (by omega) hz60 hal
    refine OD.rE 1 [(2, .int .i64 at_), (8, .loc 0 0), (34, .str s)] ?_
    refine OD.cP (fun r => ∃ l : List Int, r = .sl 1 l.length (l.map (D.int .i32)) ∧ l.length ≤ 30) (text_ok s 30 (by omega)) (fun r hr => ?_)
    obtain ⟨l17, rfl, hl17⟩ := hr
    refine OD.rE 1 [(2, .int .i64 at_), (8, .loc 0 0), (10, .sl 1 l17.length (l17.map (D.int .i32)))] ?_
    refine OD.nil ?_
    refine CD.seqM (fun σ => ∃ (z : Int), σ = ⟨[(2, .int .i64 z), (8, .loc 0 0), (10, .sl 1 l17.length (l17.map (D.int .i32)))], [.box [.int .i64 k, .sl 2 set.length (set.flatMap encR), .bool no, .sl 6 kids.length (encNs kids), .int .i64 mn, .int .i64 mx]]⟩) ?_ (fun σ hI => ?_)
    ·
     refine CD.seq (CD.region ?_)
     refine OD.rE 2 [(2, .int .i64 at_), (8, .loc 0 0), (10, .sl 1 l17.length (l17.map (D.int .i32))), (37, .bool (decide ((0 : Int) ≤ at_)))] ?_
     refine OD.nil ?_
     refine CD.condP rfl (fun h3 => ?_) (fun h3 => ?_)
     ·
      refine CD.region ?_
      refine OD.rE 4 [(8, .loc 0 0), (10, .sl 1 l17.length (l17.map (D.int .i32))), (38, .int .i64 at_), (41, .int .i64 (wrapQ .i64 (((l17.length : Nat) : Int) + 1)))] ?_
      refine OD.is 41 rfl (wrn (m := l17.length + 1) (by omega) (by omega)) ?_
      refine OD.rE 0 [(8, .loc 0 0), (10, .sl 1 l17.length (l17.map (D.int .i32))), (38, .int .i64 at_), (41, .int .i64 ((l17.length + 1 : Nat) : Int))] ?_
      obtain ⟨a, ha⟩ : ∃ a : Nat, at_ = (a : Int) := ⟨at_.toNat, by omega⟩
      refine OD.is 38 rfl (congrArg (D.int .i64) ha) ?_
      refine OD.bit rfl rfl (q_rem (m := a) (n := (l17.length + 1)) (Nat.succ_pos _)) ?_
      refine OD.rE 1 [(2, .int .i64 ((a % ((l17.length + 1)) : Nat) : Int)), (8, .loc 0 0), (10, .sl 1 l17.length (l17.map (D.int .i32)))] ?_
      refine OD.nil ?_
      exact ⟨_, rfl⟩
     ·
      refine CD.weak [2, 8, 10] 1 (E' := [(2, .int .i64 at_), (8, .loc 0 0), (10, .sl 1 l17.length (l17.map (D.int .i32)))]) (by kernel_rfl) (by simp [hg0]) (by kernel_rfl) ?_
      refine CD.skip ?_
      exact ⟨_, rfl⟩
    ·
     obtain ⟨z, e⟩ := hI
     subst e
     refine CD.seq (CD.region ?_)
     refine OD.rE 1 [(2, .int .i64 z), (8, .loc 0 0), (10, .sl 1 l17.length (l17.map (D.int .i32))), (44, .agg [.int .i64 k, .sl 2 set.length (set.flatMap encR), .bool no, .sl 6 kids.length (encNs kids), .int .i64 mn, .int .i64 mx])] ?_
     refine OD.cO [] [.agg [.int .i64 k, .sl 2 set.length (set.flatMap encR), .bool no, .sl 6 kids.length (encNs kids), .int .i64 mn, .int .i64 mx]] (Compile_ok k set no kids mn mx hf) (fun r L1 hr => ?_)
     rcases hr with ⟨hc1, hc2, n1, hn1, rfl, rfl⟩ | ⟨hc1, hc2, rfl, rfl⟩ | ⟨hc1, rfl, rfl⟩
     ·
      have hal := cnt_loc hc1
      have hml := machine_len hal hc2
      refine OD.rE 5 [(2, .int .i64 z), (8, .loc 0 0), (10, .sl 1 l17.length (l17.map (D.int .i32))), (11, .loc 2 0), (12, .int .i64 0)] ?_
      refine OD.nil (CD.seq ?_)
      refine CD.drawnF [7] 0 [] rfl (by kernel_rfl) (by kernel_rfl) (fun M1 a1 g1 bx1 bq hg1 hlk => ?_)
      refine OD.rE 6 [(2, .int .i64 z), (8, litP bq 0), (10, .sl 1 l17.length (l17.map (D.int .i32))), (50, .bool true), (51, .loc 2 0), (52, .sl 1 l17.length (l17.map (D.int .i32))), (53, .int .i64 z)] ?_
      refine OD.guard rfl rfl ?_
      refine OD.cO [2] [.loc 2 0, .sl 1 l17.length (l17.map (D.int .i32)), .int .i64 z] (Ends_ok (.mk k set no kids mn mx) (machine K14 (.mk k set no kids mn mx)).1 (machine K14 (.mk k set no kids mn mx)).2 n1 ((wp K14 20001 (.mk k set no kids mn mx) : Nat) : Int) l17 z hal rfl (machine_fs hf) hn1 (by omega) (by omega)) (fun r L1 hr => ?_)
      obtain ⟨rfl, rfl⟩ := hr
      refine OD.rE 0 [(2, .int .i64 z), (8, litP bq 0), (10, .sl 1 l17.length (l17.map (D.int .i32))), (50, .bool true), (54, .sl 1 ((endsR l17 (.mk k set no kids mn mx) z).length) ((endsR l17 (.mk k set no kids mn mx) z).map natD))] ?_
      refine OD.guard rfl rfl ?_
      refine OD.ldF (d := .agg [.int .i64 k, .sl 2 set.length (set.flatMap encR), .bool no, .sl 6 kids.length (encNs kids), .int .i64 mn, .int .i64 mx]) hlk rfl (by kernel_rfl) ?_
      refine OD.rE 2 [(8, litP bq 0), (50, .bool true), (54, .sl 1 ((endsR l17 (.mk k set no kids mn mx) z).length) ((endsR l17 (.mk k set no kids mn mx) z).map natD)), (55, .agg [.int .i64 k, .sl 2 set.length (set.flatMap encR), .bool no, .sl 6 kids.length (encNs kids), .int .i64 mn, .int .i64 mx]), (56, .sl 1 l17.length (l17.map (D.int .i32))), (57, .int .i64 z)] ?_
      refine OD.guard rfl rfl ?_
      refine OD.cE (rEnds_ok k set no kids mn mx l17 z hf hal (by omega)) ?_
      refine OD.rE 0 [(8, litP bq 0), (50, .bool true), (54, .sl 1 ((endsR l17 (.mk k set no kids mn mx) z).length) ((endsR l17 (.mk k set no kids mn mx) z).map natD)), (55, .agg [.int .i64 k, .sl 2 set.length (set.flatMap encR), .bool no, .sl 6 kids.length (encNs kids), .int .i64 mn, .int .i64 mx]), (56, .sl 1 l17.length (l17.map (D.int .i32))), (57, .int .i64 z), (58, .sl 1 ((endsR l17 (.mk k set no kids mn mx) z).length) ((endsR l17 (.mk k set no kids mn mx) z).map natD))] ?_
      refine OD.guard rfl rfl ?_
      refine OD.cE (ints_ok (endsR l17 (.mk k set no kids mn mx) z) (endsR l17 (.mk k set no kids mn mx) z) (Nat.lt_of_le_of_lt (endsR_len _ _ _ hal) (by omega))) ?_
      refine OD.rE 2 [(6, .bool (decide ((endsR l17 (.mk k set no kids mn mx) z) = (endsR l17 (.mk k set no kids mn mx) z)))), (8, litP bq 0), (55, .agg [.int .i64 k, .sl 2 set.length (set.flatMap encR), .bool no, .sl 6 kids.length (encNs kids), .int .i64 mn, .int .i64 mx]), (56, .sl 1 l17.length (l17.map (D.int .i32))), (57, .int .i64 z)] ?_
      refine OD.nil ⟨by kernel_rfl, ⟨⟨34, 8, by kernel_rfl, .inr ⟨0, .agg [.int .i64 k, .sl 2 set.length (set.flatMap encR), .bool no, .sl 6 kids.length (encNs kids), .int .i64 mn, .int .i64 mx], rfl, by kernel_rfl⟩⟩, trivial⟩, trivial, rfl, ?_⟩
      refine CD.ret ?_
      exact rP (.bool (decide ((endsR l17 (.mk k set no kids mn mx) z) = (endsR l17 (.mk k set no kids mn mx) z)))) (congrArg D.bool (decide_eq_true rfl))
     ·
      refine OD.rE 5 [(2, .int .i64 z), (8, .loc 0 0), (10, .sl 1 l17.length (l17.map (D.int .i32))), (11, .lit (.pointer none)), (12, .int .i64 3)] ?_
      refine OD.nil (CD.seq ?_)
      refine CD.drawnF [7] 0 [] rfl (by kernel_rfl) (by kernel_rfl) (fun M1 a1 g1 bx1 bq hg1 hlk => ?_)
      refine OD.rE 14 [(6, .bool false), (8, litP bq 0), (55, .tup []), (56, .tup []), (57, .tup [])] ?_
      refine OD.nil ⟨by kernel_rfl, ⟨⟨34, 8, by kernel_rfl, .inr ⟨0, .agg [.int .i64 k, .sl 2 set.length (set.flatMap encR), .bool no, .sl 6 kids.length (encNs kids), .int .i64 mn, .int .i64 mx], rfl, by kernel_rfl⟩⟩, trivial⟩, trivial, rfl, ?_⟩
      refine CD.ret ?_
      exact rP (.bool false) (by exfalso; first | omega | (have := wr_small hc2; omega) | (have := wr_big hc2; omega) | exact absurd rfl (by assumption))
     ·
      refine OD.rE 5 [(2, .int .i64 z), (8, .loc 0 0), (10, .sl 1 l17.length (l17.map (D.int .i32))), (11, .lit (.pointer none)), (12, .int .i64 5)] ?_
      refine OD.nil (CD.seq ?_)
      refine CD.drawnF [7] 0 [] rfl (by kernel_rfl) (by kernel_rfl) (fun M1 a1 g1 bx1 bq hg1 hlk => ?_)
      refine OD.rE 14 [(6, .bool false), (8, litP bq 0), (55, .tup []), (56, .tup []), (57, .tup [])] ?_
      refine OD.nil ⟨by kernel_rfl, ⟨⟨34, 8, by kernel_rfl, .inr ⟨0, .agg [.int .i64 k, .sl 2 set.length (set.flatMap encR), .bool no, .sl 6 kids.length (encNs kids), .int .i64 mn, .int .i64 mx], rfl, by kernel_rfl⟩⟩, trivial⟩, trivial, rfl, ?_⟩
      refine CD.ret ?_
      exact rP (.bool false) (by exfalso; first | omega | (have := wr_small hc2; omega) | (have := wr_big hc2; omega) | exact absurd rfl (by assumption))
end
end Go.Proofs.YtiebldaihnbkmaaGreatDoor
