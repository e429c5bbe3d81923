/-
 What is proved here: what functions of the pattern's package come to (walks that a program of mine has printed). No conditions.
-/
import Derived.Test.YtiebldaihnbkmaaGreatDoorNT
import Derived.Test.YtiebldaihnbkmaaGreatDoorNQ
set_option linter.unusedVariables false
set_option linter.unusedSimpArgs false
set_option linter.unusedVariables false
set_option linter.unusedSimpArgs false
set_option maxRecDepth 100000
set_option maxHeartbeats 4000000
namespace Go.Proofs.YtiebldaihnbkmaaGreatDoor
open Go.Vai Go.Nfa
noncomputable section
theorem NfaAll_fn (k : Int) (set : List (Int × Int)) (no : Bool) (kids : List Nd) (mn mx : Int) (s : ByteArray) (at_ : Int) (hf : fit (.mk k set no kids mn mx)) (hz : size (.mk k set no kids mn mx) < 4611686018427387904) (hsz : s.size ≤ 1048576) : PureD P ov 6 [.agg [.int .i64 k, .sl 2 set.length (set.flatMap encR), .bool no, .sl 6 kids.length (encNs kids), .int .i64 mn, .int .i64 mx], .str s, .int .i64 at_] (.bool true) := by
 refine FnD.intro (by kernel_rfl) (fn := Tryz.f6) (by kernel_rfl) rfl (by kernel_rfl) fun M a0 g0 hg0 => ?_
 refine CD.seq (CD.region ?_)
 refine OD.run 2 [1, 2, 3] (E' := [(1, .str s), (2, .int .i64 at_), (3, .loc 0 0)]) (L' := [.box [.int .i64 k, .sl 2 set.length (set.flatMap encR), .bool no, .sl 6 kids.length (encNs kids), .int .i64 mn, .int .i64 mx]]) (by kernel_rfl) ?_
 refine OD.nil (CD.seq (CD.region ?_))
 refine OD.callE (FnD.known rfl (fun _ => rfl)) rfl (by kernel_rfl) (by kernel_rfl) (by kernel_rfl) ?_
 refine OD.runE 1 [1, 2, 3, 7] (E' := [(1, .str s), (2, .int .i64 at_), (3, .loc 0 0), (7, .bool true)]) (by kernel_rfl) ?_
 refine OD.nil (CD.seq (CD.seq (CD.region ?_)))
 refine OD.runE 2 [1, 2, 3, 13] (E' := [(1, .str s), (2, .int .i64 at_), (3, .loc 0 0), (13, .bool false)]) (by kernel_rfl) ?_
 refine OD.nil ?_
 refine CD.condF rfl ?_
 refine CD.skip (CD.seq (CD.seq (CD.region ?_)))
 refine OD.runE 1 [1, 2, 3, 14] (E' := [(1, .str s), (2, .int .i64 at_), (3, .loc 0 0), (14, .agg [.int .i64 k, .sl 2 set.length (set.flatMap encR), .bool no, .sl 6 kids.length (encNs kids), .int .i64 mn, .int .i64 mx])]) (by kernel_rfl) ?_
 refine OD.callE (Count_ok _ k set no kids mn mx (Nat.le_refl _) hf hz) rfl (by kernel_rfl) (by kernel_rfl) (by kernel_rfl) ?_
 refine OD.runE 2 [1, 2, 3, 17] (E' := [(1, .str s), (2, .int .i64 at_), (3, .loc 0 0), (17, .bool (decide ((60 : Int) < ((size (.mk k set no kids mn mx) : Nat) : Int))))]) (by kernel_rfl) ?_
 refine OD.ifP 17 rfl (fun h1 => ?_) (fun h1 => ?_)
 ·
  refine OD.runE 4 [1, 2, 3, 21] (E' := [(1, .str s), (2, .int .i64 at_), (3, .loc 0 0), (21, .bool true)]) (by kernel_rfl) ?_
  refine OD.nil ?_
  refine CD.condT rfl ?_
  refine CD.seq (CD.region ?_)
  refine OD.runE 1 [6] (E' := [(6, .bool true)]) (by kernel_rfl) ?_
  refine OD.nil (CD.ret ?_)
  exact retP (by kernel_rfl) (by kernel_rfl) (r := .bool true) (rfl)
 ·
  refine OD.runE 1 [1, 2, 3, 17, 18] (E' := [(1, .str s), (2, .int .i64 at_), (3, .loc 0 0), (17, .bool false), (18, .agg [.int .i64 k, .sl 2 set.length (set.flatMap encR), .bool no, .sl 6 kids.length (encNs kids), .int .i64 mn, .int .i64 mx])]) (by kernel_rfl) ?_
  refine OD.guard rfl rfl ?_
  refine OD.callE (Deep_ok _ k set no kids mn mx (Nat.le_refl _) hf hz) rfl (by kernel_rfl) (by kernel_rfl) (by kernel_rfl) ?_
  refine OD.runE 2 [1, 2, 3, 21] (E' := [(1, .str s), (2, .int .i64 at_), (3, .loc 0 0), (21, .bool (decide ((12 : Int) < ((deep (.mk k set no kids mn mx) : Nat) : Int))))]) (by kernel_rfl) ?_
  refine OD.nil ?_
  refine CD.condP rfl (fun h2 => ?_) (fun h2 => ?_)
  ·
   refine CD.seq (CD.region ?_)
   refine OD.runE 1 [6] (E' := [(6, .bool true)]) (by kernel_rfl) ?_
   refine OD.nil (CD.ret ?_)
   exact retP (by kernel_rfl) (by kernel_rfl) (r := .bool true) (rfl)
  ·
   refine CD.skip (CD.seq (CD.region ?_))
   refine OD.runE 1 [2, 3, 22] (E' := [(2, .int .i64 at_), (3, .loc 0 0), (22, .str s)]) (by kernel_rfl) ?_
   refine OD.callP (R := fun r => ∃ l : List Int, r = .sl 1 l.length (l.map (D.int .i32)) ∧ l.length ≤ 24) rfl (by kernel_rfl) (by kernel_rfl) (by kernel_rfl) (text_ok s 24 (by omega)) (fun r hr => ?_)
   obtain ⟨l16, rfl, hl16⟩ := hr
   refine OD.runE 1 [2, 3, 8] (E' := [(2, .int .i64 at_), (3, .loc 0 0), (8, .sl 1 l16.length (l16.map (D.int .i32)))]) (by kernel_rfl) ?_
   refine OD.nil (CD.seq (CD.region ?_))
   refine OD.runE 1 [2, 3, 8, 25] (E' := [(2, .int .i64 at_), (3, .loc 0 0), (8, .sl 1 l16.length (l16.map (D.int .i32))), (25, .agg [.int .i64 k, .sl 2 set.length (set.flatMap encR), .bool no, .sl 6 kids.length (encNs kids), .int .i64 mn, .int .i64 mx])]) (by kernel_rfl) ?_
   refine OD.callO [] (ds := [.agg [.int .i64 k, .sl 2 set.length (set.flatMap encR), .bool no, .sl 6 kids.length (encNs kids), .int .i64 mn, .int .i64 mx]]) (Compile_ok k set no kids mn mx hf) rfl (by kernel_rfl) (by kernel_rfl) (by kernel_rfl) (by kernel_rfl) (by kernel_rfl) (fun r L1 hr => ?_)
   rcases hr with ⟨hc1, hc2, n1, hn1, rfl, rfl⟩ | ⟨hc1, hc2, rfl, rfl⟩ | ⟨hc1, rfl, rfl⟩
   ·
    have hal := cnt_loc hc1
    have hml := machine_len hal hc2
    refine OD.runE 5 [2, 3, 8, 9, 10] (E' := [(2, .int .i64 at_), (3, .loc 0 0), (8, .sl 1 l16.length (l16.map (D.int .i32))), (9, .loc 2 0), (10, .int .i64 0)]) (by kernel_rfl) ?_
    refine OD.nil (CD.seq (CD.block (CD.seq (CD.region ?_))))
    refine OD.runE 1 [2, 3, 8, 9, 10, 30] (E' := [(2, .int .i64 at_), (3, .loc 0 0), (8, .sl 1 l16.length (l16.map (D.int .i32))), (9, .loc 2 0), (10, .int .i64 0), (30, .agg [.int .i64 k, .sl 2 set.length (set.flatMap encR), .bool no, .sl 6 kids.length (encNs kids), .int .i64 mn, .int .i64 mx])]) (by kernel_rfl) ?_
    refine OD.callE (rMay_ok k set no kids mn mx hf hz) rfl (by kernel_rfl) (by kernel_rfl) (by kernel_rfl) ?_
    refine OD.is 31 rfl (may_same (by omega) (by omega)) ?_
    refine OD.runE 2 [2, 3, 8, 9, 10, 29] (E' := [(2, .int .i64 at_), (3, .loc 0 0), (8, .sl 1 l16.length (l16.map (D.int .i32))), (9, .loc 2 0), (10, .int .i64 0), (29, .bool (!(decide (Nfa.cnt locB (.mk k set no kids mn mx) 1 ≤ 2000))))]) (by kernel_rfl) ?_
    refine OD.nil ?_
    refine CD.condB rfl (fun h3 => ?_) (fun h3 => ?_)
    ·
     have h3 := ndt h3
     refine CD.seq (CD.region ?_)
     refine OD.runE 7 [6] (E' := [(6, .bool false)]) (by kernel_rfl) ?_
     refine OD.nil (CD.ret ?_)
     exact retP (by kernel_rfl) (by kernel_rfl) (r := .bool false) (by exfalso; first | omega | (have := wr_small hc2; omega) | (have := wr_big hc2; omega) | exact absurd rfl (by assumption))
    ·
     have h3 := ndf h3
     refine CD.seq (CD.region ?_)
     refine OD.runE 1 [2, 3, 8, 9, 10, 40] (E' := [(2, .int .i64 at_), (3, .loc 0 0), (8, .sl 1 l16.length (l16.map (D.int .i32))), (9, .loc 2 0), (10, .int .i64 0), (40, .agg [.int .i64 k, .sl 2 set.length (set.flatMap encR), .bool no, .sl 6 kids.length (encNs kids), .int .i64 mn, .int .i64 mx])]) (by kernel_rfl) ?_
     refine OD.callE (Weight_ok _ k set no kids mn mx (Nat.le_refl _) hf (by first | exact hal | exact cnt_loc hc1 | (exfalso; omega))) rfl (by kernel_rfl) (by kernel_rfl) (by kernel_rfl) ?_
     refine OD.runE 2 [2, 3, 8, 9, 10, 39] (E' := [(2, .int .i64 at_), (3, .loc 0 0), (8, .sl 1 l16.length (l16.map (D.int .i32))), (9, .loc 2 0), (10, .int .i64 0), (39, .bool (decide ((20000 : Int) < ((wr K14 1000000 (.mk k set no kids mn mx) : Nat) : Int))))]) (by kernel_rfl) ?_
     refine OD.nil ?_
     refine CD.condP rfl (fun h4 => ?_) (fun h4 => ?_)
     ·
      refine CD.seq (CD.region ?_)
      refine OD.runE 7 [6] (E' := [(6, .bool false)]) (by kernel_rfl) ?_
      refine OD.nil (CD.ret ?_)
      exact retP (by kernel_rfl) (by kernel_rfl) (r := .bool false) (by exfalso; first | omega | (have := wr_small hc2; omega) | (have := wr_big hc2; omega) | exact absurd rfl (by assumption))
     ·
      refine CD.skip (CD.seq (CD.seq ?_))
      refine CD.drawnF [5] 0 [(3, 0)] rfl (by kernel_rfl) (by kernel_rfl) (fun M1 a1 g1 bx1 bq hg1 hlk => ?_)
      refine OD.runE 4 [2, 3, 8, 9, 51, 52] (E' := [(2, .int .i64 at_), (3, litP bq 0), (8, .sl 1 l16.length (l16.map (D.int .i32))), (9, .loc 2 0), (51, .bool false), (52, .loc 2 0)]) (by kernel_rfl) ?_
      refine OD.guard rfl rfl ?_
      refine OD.callO [2] (ds := [.loc 2 0]) (Size_ok n1 (((machine K14 (.mk k set no kids mn mx)).1).flatMap encSta) (((machine K14 (.mk k set no kids mn mx)).2 : Nat) : Int) ((wp K14 20001 (.mk k set no kids mn mx) : Nat) : Int)) rfl (by kernel_rfl) (by kernel_rfl) (by kernel_rfl) (by kernel_rfl) (by kernel_rfl) (fun r L1 hr => ?_)
      obtain ⟨rfl, rfl⟩ := hr
      refine OD.runE 0 [2, 3, 8, 9, 51, 53] (E' := [(2, .int .i64 at_), (3, litP bq 0), (8, .sl 1 l16.length (l16.map (D.int .i32))), (9, .loc 2 0), (51, .bool false), (53, .int .i64 ((wp K14 20001 (.mk k set no kids mn mx) : Nat) : Int))]) (by kernel_rfl) ?_
      refine OD.guard rfl rfl ?_
      refine OD.ldF (d := .agg [.int .i64 k, .sl 2 set.length (set.flatMap encR), .bool no, .sl 6 kids.length (encNs kids), .int .i64 mn, .int .i64 mx]) hlk rfl (by kernel_rfl) ?_
      refine OD.runE 0 [2, 3, 8, 9, 51, 53, 54] (E' := [(2, .int .i64 at_), (3, litP bq 0), (8, .sl 1 l16.length (l16.map (D.int .i32))), (9, .loc 2 0), (51, .bool false), (53, .int .i64 ((wp K14 20001 (.mk k set no kids mn mx) : Nat) : Int)), (54, .agg [.int .i64 k, .sl 2 set.length (set.flatMap encR), .bool no, .sl 6 kids.length (encNs kids), .int .i64 mn, .int .i64 mx])]) (by kernel_rfl) ?_
      refine OD.guard rfl rfl ?_
      refine OD.callE (Weight_ok _ k set no kids mn mx (Nat.le_refl _) hf (by first | exact hal | exact cnt_loc hc1 | (exfalso; omega))) rfl (by kernel_rfl) (by kernel_rfl) (by kernel_rfl) ?_
      refine OD.runE 2 [2, 3, 8, 9, 54, 57] (E' := [(2, .int .i64 at_), (3, litP bq 0), (8, .sl 1 l16.length (l16.map (D.int .i32))), (9, .loc 2 0), (54, .agg [.int .i64 k, .sl 2 set.length (set.flatMap encR), .bool no, .sl 6 kids.length (encNs kids), .int .i64 mn, .int .i64 mx]), (57, .bool (decide (¬ (((wp K14 20001 (.mk k set no kids mn mx) : Nat) : Int) : Int) = ((wr K14 1000000 (.mk k set no kids mn mx) : Nat) : Int))))]) (by kernel_rfl) ?_
      refine OD.nil ⟨by kernel_rfl, ⟨⟨34, 3, by kernel_rfl, .inr ⟨0, .agg [.int .i64 k, .sl 2 set.length (set.flatMap encR), .bool no, .sl 6 kids.length (encNs kids), .int .i64 mn, .int .i64 mx], rfl, by kernel_rfl⟩⟩, trivial⟩, ⟨rfl, trivial⟩, rfl, ?_⟩
      refine CD.condP rfl (fun h5 => ?_) (fun h5 => ?_)
      ·
       refine CD.seq (CD.region ?_)
       refine OD.runE 1 [6] (E' := [(6, .bool false)]) (by kernel_rfl) ?_
       refine OD.nil (CD.ret ?_)
       exact retP (by kernel_rfl) (by kernel_rfl) (r := .bool false) (by exfalso; first | omega | (have := wr_small hc2; omega) | (have := wr_big hc2; omega) | exact absurd rfl (by assumption))
      ·
       refine CD.skip (CD.seq (CD.seq (CD.region ?_)))
       refine OD.runE 1 [2, 3, 8, 9, 58] (E' := [(2, .int .i64 at_), (3, .loc 0 0), (8, .sl 1 l16.length (l16.map (D.int .i32))), (9, .loc 2 0), (58, .agg [.int .i64 k, .sl 2 set.length (set.flatMap encR), .bool no, .sl 6 kids.length (encNs kids), .int .i64 mn, .int .i64 mx])]) (by kernel_rfl) ?_
       refine OD.callE (Weight_ok _ k set no kids mn mx (Nat.le_refl _) hf (by first | exact hal | exact cnt_loc hc1 | (exfalso; omega))) rfl (by kernel_rfl) (by kernel_rfl) (by kernel_rfl) ?_
       refine OD.runE 1 [2, 3, 8, 9, 60] (E' := [(2, .int .i64 at_), (3, .loc 0 0), (8, .sl 1 l16.length (l16.map (D.int .i32))), (9, .loc 2 0), (60, .bool (decide ((3000 : Int) < ((wr K14 1000000 (.mk k set no kids mn mx) : Nat) : Int))))]) (by kernel_rfl) ?_
       refine OD.nil ?_
       refine CD.condP rfl (fun h6 => ?_) (fun h6 => ?_)
       ·
        refine CD.region ?_
        refine OD.runE 4 [2, 3, 9, 61, 64] (E' := [(2, .int .i64 at_), (3, .loc 0 0), (9, .loc 2 0), (61, .sl 1 l16.length (l16.map (D.int .i32))), (64, .int .i64 (min (((l16.length : Nat) : Int) : Int) 6))]) (by kernel_rfl) ?_
        refine OD.is 64 rfl castmin ?_
        refine OD.runE 0 [2, 3, 9, 61, 64] (E' := [(2, .int .i64 at_), (3, .loc 0 0), (9, .loc 2 0), (61, .sl 1 l16.length (l16.map (D.int .i32))), (64, .int .i64 ((min l16.length 6 : Nat) : Int))]) (by kernel_rfl) ?_
        refine OD.slSl (lw := 0) (u := (min l16.length 6)) rfl (by kernel_rfl) (.inl ⟨rfl, rfl⟩) (.inr ⟨_, _, rfl, rfl⟩) (by omega) (by omega) ?_
        refine OD.is 65 rfl (take_sl (xs := l16) (u := (min l16.length 6))) ?_
        refine OD.runE 1 [2, 3, 8, 9] (E' := [(2, .int .i64 at_), (3, .loc 0 0), (8, .sl 1 (min l16.length 6) ((l16.take (min l16.length 6)).map (D.int .i32))), (9, .loc 2 0)]) (by kernel_rfl) ?_
        obtain ⟨l2, hl2, hl2n⟩ := text_of (l := l16) (n := l16.length) (c := 6) rfl
        refine OD.is 8 rfl hl2 ?_
        refine OD.runE 0 [2, 3, 8, 9] (E' := [(2, .int .i64 at_), (3, .loc 0 0), (8, .sl 1 l2.length (l2.map (D.int .i32))), (9, .loc 2 0)]) (by kernel_rfl) ?_
        refine OD.nil (CD.seq ?_)
        refine CD.drawnF [4] 0 [] rfl (by kernel_rfl) (by kernel_rfl) (fun M1 a1 g1 bx1 bq hg1 hlk => ?_)
        refine OD.runE 3 [2, 3, 8, 9, 66, 67, 68] (E' := [(2, .int .i64 at_), (3, litP bq 0), (8, .sl 1 l2.length (l2.map (D.int .i32))), (9, .loc 2 0), (66, .loc 2 0), (67, .sl 1 l2.length (l2.map (D.int .i32))), (68, .int .i64 at_)]) (by kernel_rfl) ?_
        refine OD.callO [2] (ds := [.loc 2 0, .sl 1 l2.length (l2.map (D.int .i32)), .int .i64 at_]) (Ends_ok (.mk k set no kids mn mx) (machine K14 (.mk k set no kids mn mx)).1 (machine K14 (.mk k set no kids mn mx)).2 n1 ((wp K14 20001 (.mk k set no kids mn mx) : Nat) : Int) l2 at_ hal rfl (machine_fs hf) hn1 (by omega) (by omega)) rfl (by kernel_rfl) (by kernel_rfl) (by kernel_rfl) (by kernel_rfl) (by kernel_rfl) (fun r L1 hr => ?_)
        obtain ⟨rfl, rfl⟩ := hr
        refine OD.runE 0 [2, 3, 8, 9, 69] (E' := [(2, .int .i64 at_), (3, litP bq 0), (8, .sl 1 l2.length (l2.map (D.int .i32))), (9, .loc 2 0), (69, .sl 1 ((endsR l2 (.mk k set no kids mn mx) at_).length) ((endsR l2 (.mk k set no kids mn mx) at_).map natD))]) (by kernel_rfl) ?_
        refine OD.ldF (d := .agg [.int .i64 k, .sl 2 set.length (set.flatMap encR), .bool no, .sl 6 kids.length (encNs kids), .int .i64 mn, .int .i64 mx]) hlk rfl (by kernel_rfl) ?_
        refine OD.runE 2 [3, 8, 9, 69, 70, 71, 72] (E' := [(3, litP bq 0), (8, .sl 1 l2.length (l2.map (D.int .i32))), (9, .loc 2 0), (69, .sl 1 ((endsR l2 (.mk k set no kids mn mx) at_).length) ((endsR l2 (.mk k set no kids mn mx) at_).map natD)), (70, .agg [.int .i64 k, .sl 2 set.length (set.flatMap encR), .bool no, .sl 6 kids.length (encNs kids), .int .i64 mn, .int .i64 mx]), (71, .sl 1 l2.length (l2.map (D.int .i32))), (72, .int .i64 at_)]) (by kernel_rfl) ?_
        refine OD.callE (rEnds_ok k set no kids mn mx l2 at_ hf hal (by omega)) rfl (by kernel_rfl) (by kernel_rfl) (by kernel_rfl) ?_
        refine OD.runE 0 [3, 8, 9, 69, 70, 71, 72, 73] (E' := [(3, litP bq 0), (8, .sl 1 l2.length (l2.map (D.int .i32))), (9, .loc 2 0), (69, .sl 1 ((endsR l2 (.mk k set no kids mn mx) at_).length) ((endsR l2 (.mk k set no kids mn mx) at_).map natD)), (70, .agg [.int .i64 k, .sl 2 set.length (set.flatMap encR), .bool no, .sl 6 kids.length (encNs kids), .int .i64 mn, .int .i64 mx]), (71, .sl 1 l2.length (l2.map (D.int .i32))), (72, .int .i64 at_), (73, .sl 1 ((endsR l2 (.mk k set no kids mn mx) at_).length) ((endsR l2 (.mk k set no kids mn mx) at_).map natD))]) (by kernel_rfl) ?_
        refine OD.callE (ints_ok (endsR l2 (.mk k set no kids mn mx) at_) (endsR l2 (.mk k set no kids mn mx) at_) (Nat.lt_of_le_of_lt (endsR_len _ _ _ hal) (by omega))) rfl (by kernel_rfl) (by kernel_rfl) (by kernel_rfl) ?_
        refine OD.runE 1 [3, 8, 9, 70, 71, 72, 75] (E' := [(3, litP bq 0), (8, .sl 1 l2.length (l2.map (D.int .i32))), (9, .loc 2 0), (70, .agg [.int .i64 k, .sl 2 set.length (set.flatMap encR), .bool no, .sl 6 kids.length (encNs kids), .int .i64 mn, .int .i64 mx]), (71, .sl 1 l2.length (l2.map (D.int .i32))), (72, .int .i64 at_), (75, .bool (decide ((endsR l2 (.mk k set no kids mn mx) at_) = (endsR l2 (.mk k set no kids mn mx) at_))))]) (by kernel_rfl) ?_
        refine OD.ifP 75 rfl (fun h7 => ?_) (fun h7 => ?_)
        ·
         refine OD.runE 2 [3, 8, 9, 70, 71, 72, 75, 76, 77] (E' := [(3, litP bq 0), (8, .sl 1 l2.length (l2.map (D.int .i32))), (9, .loc 2 0), (70, .agg [.int .i64 k, .sl 2 set.length (set.flatMap encR), .bool no, .sl 6 kids.length (encNs kids), .int .i64 mn, .int .i64 mx]), (71, .sl 1 l2.length (l2.map (D.int .i32))), (72, .int .i64 at_), (75, .bool true), (76, .loc 2 0), (77, .sl 1 l2.length (l2.map (D.int .i32)))]) (by kernel_rfl) ?_
         refine OD.guard rfl rfl ?_
         refine OD.callO [2] (ds := [.loc 2 0, .sl 1 l2.length (l2.map (D.int .i32)), .int .i64 (-1)]) (Ends_ok (.mk k set no kids mn mx) (machine K14 (.mk k set no kids mn mx)).1 (machine K14 (.mk k set no kids mn mx)).2 n1 ((wp K14 20001 (.mk k set no kids mn mx) : Nat) : Int) l2 (-1) hal rfl (machine_fs hf) hn1 (by omega) (by omega)) rfl (by kernel_rfl) (by kernel_rfl) (by kernel_rfl) (by kernel_rfl) (by kernel_rfl) (fun r L1 hr => ?_)
         rw [endsR_out (by omega)] at hr
         obtain ⟨rfl, rfl⟩ := hr
         refine OD.runE 9 [3, 70, 71, 72, 82, 83, 84, 87] (E' := [(3, litP bq 0), (70, .agg [.int .i64 k, .sl 2 set.length (set.flatMap encR), .bool no, .sl 6 kids.length (encNs kids), .int .i64 mn, .int .i64 mx]), (71, .sl 1 l2.length (l2.map (D.int .i32))), (72, .int .i64 at_), (82, .bool true), (83, .loc 2 0), (84, .sl 1 l2.length (l2.map (D.int .i32))), (87, .int .i64 (wrapQ .i64 (((l2.length : Nat) : Int) + 1)))]) (by kernel_rfl) ?_
         refine OD.is 87 rfl (wrn (m := l2.length + 1) (by omega) (by omega)) ?_
         refine OD.runE 0 [3, 70, 71, 72, 82, 83, 84, 87] (E' := [(3, litP bq 0), (70, .agg [.int .i64 k, .sl 2 set.length (set.flatMap encR), .bool no, .sl 6 kids.length (encNs kids), .int .i64 mn, .int .i64 mx]), (71, .sl 1 l2.length (l2.map (D.int .i32))), (72, .int .i64 at_), (82, .bool true), (83, .loc 2 0), (84, .sl 1 l2.length (l2.map (D.int .i32))), (87, .int .i64 ((l2.length + 1 : Nat) : Int))]) (by kernel_rfl) ?_
         refine OD.guard rfl rfl ?_
         refine OD.callO [2] (ds := [.loc 2 0, .sl 1 l2.length (l2.map (D.int .i32)), .int .i64 ((l2.length + 1 : Nat) : Int)]) (Ends_ok (.mk k set no kids mn mx) (machine K14 (.mk k set no kids mn mx)).1 (machine K14 (.mk k set no kids mn mx)).2 n1 ((wp K14 20001 (.mk k set no kids mn mx) : Nat) : Int) l2 ((l2.length + 1 : Nat) : Int) hal rfl (machine_fs hf) hn1 (by omega) (by omega)) rfl (by kernel_rfl) (by kernel_rfl) (by kernel_rfl) (by kernel_rfl) (by kernel_rfl) (fun r L1 hr => ?_)
         rw [endsR_out (by omega)] at hr
         obtain ⟨rfl, rfl⟩ := hr
         refine OD.runE 4 [3, 6, 70, 71, 72] (E' := [(3, litP bq 0), (6, .bool true), (70, .agg [.int .i64 k, .sl 2 set.length (set.flatMap encR), .bool no, .sl 6 kids.length (encNs kids), .int .i64 mn, .int .i64 mx]), (71, .sl 1 l2.length (l2.map (D.int .i32))), (72, .int .i64 at_)]) (by kernel_rfl) ?_
         refine OD.nil ⟨by kernel_rfl, ⟨⟨34, 3, by kernel_rfl, .inr ⟨0, .agg [.int .i64 k, .sl 2 set.length (set.flatMap encR), .bool no, .sl 6 kids.length (encNs kids), .int .i64 mn, .int .i64 mx], rfl, by kernel_rfl⟩⟩, trivial⟩, trivial, rfl, ?_⟩
         refine CD.ret ?_
         exact retP (by kernel_rfl) (by kernel_rfl) (r := .bool true) (rfl)
        ·
         refine OD.runE 17 [3, 6, 70, 71, 72] (E' := [(3, litP bq 0), (6, .bool false), (70, .agg [.int .i64 k, .sl 2 set.length (set.flatMap encR), .bool no, .sl 6 kids.length (encNs kids), .int .i64 mn, .int .i64 mx]), (71, .sl 1 l2.length (l2.map (D.int .i32))), (72, .int .i64 at_)]) (by kernel_rfl) ?_
         refine OD.nil ⟨by kernel_rfl, ⟨⟨34, 3, by kernel_rfl, .inr ⟨0, .agg [.int .i64 k, .sl 2 set.length (set.flatMap encR), .bool no, .sl 6 kids.length (encNs kids), .int .i64 mn, .int .i64 mx], rfl, by kernel_rfl⟩⟩, trivial⟩, trivial, rfl, ?_⟩
         refine CD.ret ?_
         exact retP (by kernel_rfl) (by kernel_rfl) (r := .bool false) (by exfalso; first | omega | (have := wr_small hc2; omega) | (have := wr_big hc2; omega) | exact absurd rfl (by assumption))
       ·
        refine CD.skip (CD.seq ?_)
        refine CD.drawnF [4] 0 [] rfl (by kernel_rfl) (by kernel_rfl) (fun M1 a1 g1 bx1 bq hg1 hlk => ?_)
        refine OD.runE 3 [2, 3, 8, 9, 66, 67, 68] (E' := [(2, .int .i64 at_), (3, litP bq 0), (8, .sl 1 l16.length (l16.map (D.int .i32))), (9, .loc 2 0), (66, .loc 2 0), (67, .sl 1 l16.length (l16.map (D.int .i32))), (68, .int .i64 at_)]) (by kernel_rfl) ?_
        refine OD.callO [2] (ds := [.loc 2 0, .sl 1 l16.length (l16.map (D.int .i32)), .int .i64 at_]) (Ends_ok (.mk k set no kids mn mx) (machine K14 (.mk k set no kids mn mx)).1 (machine K14 (.mk k set no kids mn mx)).2 n1 ((wp K14 20001 (.mk k set no kids mn mx) : Nat) : Int) l16 at_ hal rfl (machine_fs hf) hn1 (by omega) (by omega)) rfl (by kernel_rfl) (by kernel_rfl) (by kernel_rfl) (by kernel_rfl) (by kernel_rfl) (fun r L1 hr => ?_)
        obtain ⟨rfl, rfl⟩ := hr
        refine OD.runE 0 [2, 3, 8, 9, 69] (E' := [(2, .int .i64 at_), (3, litP bq 0), (8, .sl 1 l16.length (l16.map (D.int .i32))), (9, .loc 2 0), (69, .sl 1 ((endsR l16 (.mk k set no kids mn mx) at_).length) ((endsR l16 (.mk k set no kids mn mx) at_).map natD))]) (by kernel_rfl) ?_
        refine OD.ldF (d := .agg [.int .i64 k, .sl 2 set.length (set.flatMap encR), .bool no, .sl 6 kids.length (encNs kids), .int .i64 mn, .int .i64 mx]) hlk rfl (by kernel_rfl) ?_
        refine OD.runE 2 [3, 8, 9, 69, 70, 71, 72] (E' := [(3, litP bq 0), (8, .sl 1 l16.length (l16.map (D.int .i32))), (9, .loc 2 0), (69, .sl 1 ((endsR l16 (.mk k set no kids mn mx) at_).length) ((endsR l16 (.mk k set no kids mn mx) at_).map natD)), (70, .agg [.int .i64 k, .sl 2 set.length (set.flatMap encR), .bool no, .sl 6 kids.length (encNs kids), .int .i64 mn, .int .i64 mx]), (71, .sl 1 l16.length (l16.map (D.int .i32))), (72, .int .i64 at_)]) (by kernel_rfl) ?_
        refine OD.callE (rEnds_ok k set no kids mn mx l16 at_ hf hal (by omega)) rfl (by kernel_rfl) (by kernel_rfl) (by kernel_rfl) ?_
        refine OD.runE 0 [3, 8, 9, 69, 70, 71, 72, 73] (E' := [(3, litP bq 0), (8, .sl 1 l16.length (l16.map (D.int .i32))), (9, .loc 2 0), (69, .sl 1 ((endsR l16 (.mk k set no kids mn mx) at_).length) ((endsR l16 (.mk k set no kids mn mx) at_).map natD)), (70, .agg [.int .i64 k, .sl 2 set.length (set.flatMap encR), .bool no, .sl 6 kids.length (encNs kids), .int .i64 mn, .int .i64 mx]), (71, .sl 1 l16.length (l16.map (D.int .i32))), (72, .int .i64 at_), (73, .sl 1 ((endsR l16 (.mk k set no kids mn mx) at_).length) ((endsR l16 (.mk k set no kids mn mx) at_).map natD))]) (by kernel_rfl) ?_
        refine OD.callE (ints_ok (endsR l16 (.mk k set no kids mn mx) at_) (endsR l16 (.mk k set no kids mn mx) at_) (Nat.lt_of_le_of_lt (endsR_len _ _ _ hal) (by omega))) rfl (by kernel_rfl) (by kernel_rfl) (by kernel_rfl) ?_
        refine OD.runE 1 [3, 8, 9, 70, 71, 72, 75] (E' := [(3, litP bq 0), (8, .sl 1 l16.length (l16.map (D.int .i32))), (9, .loc 2 0), (70, .agg [.int .i64 k, .sl 2 set.length (set.flatMap encR), .bool no, .sl 6 kids.length (encNs kids), .int .i64 mn, .int .i64 mx]), (71, .sl 1 l16.length (l16.map (D.int .i32))), (72, .int .i64 at_), (75, .bool (decide ((endsR l16 (.mk k set no kids mn mx) at_) = (endsR l16 (.mk k set no kids mn mx) at_))))]) (by kernel_rfl) ?_
        refine OD.ifP 75 rfl (fun h8 => ?_) (fun h8 => ?_)
        ·
         refine OD.runE 2 [3, 8, 9, 70, 71, 72, 75, 76, 77] (E' := [(3, litP bq 0), (8, .sl 1 l16.length (l16.map (D.int .i32))), (9, .loc 2 0), (70, .agg [.int .i64 k, .sl 2 set.length (set.flatMap encR), .bool no, .sl 6 kids.length (encNs kids), .int .i64 mn, .int .i64 mx]), (71, .sl 1 l16.length (l16.map (D.int .i32))), (72, .int .i64 at_), (75, .bool true), (76, .loc 2 0), (77, .sl 1 l16.length (l16.map (D.int .i32)))]) (by kernel_rfl) ?_
         refine OD.guard rfl rfl ?_
         refine OD.callO [2] (ds := [.loc 2 0, .sl 1 l16.length (l16.map (D.int .i32)), .int .i64 (-1)]) (Ends_ok (.mk k set no kids mn mx) (machine K14 (.mk k set no kids mn mx)).1 (machine K14 (.mk k set no kids mn mx)).2 n1 ((wp K14 20001 (.mk k set no kids mn mx) : Nat) : Int) l16 (-1) hal rfl (machine_fs hf) hn1 (by omega) (by omega)) rfl (by kernel_rfl) (by kernel_rfl) (by kernel_rfl) (by kernel_rfl) (by kernel_rfl) (fun r L1 hr => ?_)
         rw [endsR_out (by omega)] at hr
         obtain ⟨rfl, rfl⟩ := hr
         refine OD.runE 9 [3, 70, 71, 72, 82, 83, 84, 87] (E' := [(3, litP bq 0), (70, .agg [.int .i64 k, .sl 2 set.length (set.flatMap encR), .bool no, .sl 6 kids.length (encNs kids), .int .i64 mn, .int .i64 mx]), (71, .sl 1 l16.length (l16.map (D.int .i32))), (72, .int .i64 at_), (82, .bool true), (83, .loc 2 0), (84, .sl 1 l16.length (l16.map (D.int .i32))), (87, .int .i64 (wrapQ .i64 (((l16.length : Nat) : Int) + 1)))]) (by kernel_rfl) ?_
         refine OD.is 87 rfl (wrn (m := l16.length + 1) (by omega) (by omega)) ?_
         refine OD.runE 0 [3, 70, 71, 72, 82, 83, 84, 87] (E' := [(3, litP bq 0), (70, .agg [.int .i64 k, .sl 2 set.length (set.flatMap encR), .bool no, .sl 6 kids.length (encNs kids), .int .i64 mn, .int .i64 mx]), (71, .sl 1 l16.length (l16.map (D.int .i32))), (72, .int .i64 at_), (82, .bool true), (83, .loc 2 0), (84, .sl 1 l16.length (l16.map (D.int .i32))), (87, .int .i64 ((l16.length + 1 : Nat) : Int))]) (by kernel_rfl) ?_
         refine OD.guard rfl rfl ?_
         refine OD.callO [2] (ds := [.loc 2 0, .sl 1 l16.length (l16.map (D.int .i32)), .int .i64 ((l16.length + 1 : Nat) : Int)]) (Ends_ok (.mk k set no kids mn mx) (machine K14 (.mk k set no kids mn mx)).1 (machine K14 (.mk k set no kids mn mx)).2 n1 ((wp K14 20001 (.mk k set no kids mn mx) : Nat) : Int) l16 ((l16.length + 1 : Nat) : Int) hal rfl (machine_fs hf) hn1 (by omega) (by omega)) rfl (by kernel_rfl) (by kernel_rfl) (by kernel_rfl) (by kernel_rfl) (by kernel_rfl) (fun r L1 hr => ?_)
         rw [endsR_out (by omega)] at hr
         obtain ⟨rfl, rfl⟩ := hr
         refine OD.runE 4 [3, 6, 70, 71, 72] (E' := [(3, litP bq 0), (6, .bool true), (70, .agg [.int .i64 k, .sl 2 set.length (set.flatMap encR), .bool no, .sl 6 kids.length (encNs kids), .int .i64 mn, .int .i64 mx]), (71, .sl 1 l16.length (l16.map (D.int .i32))), (72, .int .i64 at_)]) (by kernel_rfl) ?_
         refine OD.nil ⟨by kernel_rfl, ⟨⟨34, 3, by kernel_rfl, .inr ⟨0, .agg [.int .i64 k, .sl 2 set.length (set.flatMap encR), .bool no, .sl 6 kids.length (encNs kids), .int .i64 mn, .int .i64 mx], rfl, by kernel_rfl⟩⟩, trivial⟩, trivial, rfl, ?_⟩
         refine CD.ret ?_
         exact retP (by kernel_rfl) (by kernel_rfl) (r := .bool true) (rfl)
        ·
         refine OD.runE 17 [3, 6, 70, 71, 72] (E' := [(3, litP bq 0), (6, .bool false), (70, .agg [.int .i64 k, .sl 2 set.length (set.flatMap encR), .bool no, .sl 6 kids.length (encNs kids), .int .i64 mn, .int .i64 mx]), (71, .sl 1 l16.length (l16.map (D.int .i32))), (72, .int .i64 at_)]) (by kernel_rfl) ?_
         refine OD.nil ⟨by kernel_rfl, ⟨⟨34, 3, by kernel_rfl, .inr ⟨0, .agg [.int .i64 k, .sl 2 set.length (set.flatMap encR), .bool no, .sl 6 kids.length (encNs kids), .int .i64 mn, .int .i64 mx], rfl, by kernel_rfl⟩⟩, trivial⟩, trivial, rfl, ?_⟩
         refine CD.ret ?_
         exact retP (by kernel_rfl) (by kernel_rfl) (r := .bool false) (by exfalso; first | omega | (have := wr_small hc2; omega) | (have := wr_big hc2; omega) | exact absurd rfl (by assumption))
   ·
    refine OD.runE 5 [2, 3, 8, 9, 10] (E' := [(2, .int .i64 at_), (3, .loc 0 0), (8, .sl 1 l16.length (l16.map (D.int .i32))), (9, .lit (.pointer none)), (10, .int .i64 3)]) (by kernel_rfl) ?_
    refine OD.nil (CD.seq (CD.block (CD.seq (CD.region ?_))))
    refine OD.runE 1 [2, 3, 8, 9, 10, 30] (E' := [(2, .int .i64 at_), (3, .loc 0 0), (8, .sl 1 l16.length (l16.map (D.int .i32))), (9, .lit (.pointer none)), (10, .int .i64 3), (30, .agg [.int .i64 k, .sl 2 set.length (set.flatMap encR), .bool no, .sl 6 kids.length (encNs kids), .int .i64 mn, .int .i64 mx])]) (by kernel_rfl) ?_
    refine OD.callE (rMay_ok k set no kids mn mx hf hz) rfl (by kernel_rfl) (by kernel_rfl) (by kernel_rfl) ?_
    refine OD.is 31 rfl (may_same (by omega) (by omega)) ?_
    refine OD.runE 2 [2, 3, 8, 9, 10, 29] (E' := [(2, .int .i64 at_), (3, .loc 0 0), (8, .sl 1 l16.length (l16.map (D.int .i32))), (9, .lit (.pointer none)), (10, .int .i64 3), (29, .bool (!(decide (Nfa.cnt locB (.mk k set no kids mn mx) 1 ≤ 2000))))]) (by kernel_rfl) ?_
    refine OD.nil ?_
    refine CD.condB rfl (fun h9 => ?_) (fun h9 => ?_)
    ·
     have h9 := ndt h9
     refine CD.seq (CD.region ?_)
     refine OD.runE 7 [6] (E' := [(6, .bool false)]) (by kernel_rfl) ?_
     refine OD.nil (CD.ret ?_)
     exact retP (by kernel_rfl) (by kernel_rfl) (r := .bool false) (by exfalso; first | omega | (have := wr_small hc2; omega) | (have := wr_big hc2; omega) | exact absurd rfl (by assumption))
    ·
     have h9 := ndf h9
     refine CD.seq (CD.region ?_)
     refine OD.runE 1 [2, 3, 8, 9, 10, 40] (E' := [(2, .int .i64 at_), (3, .loc 0 0), (8, .sl 1 l16.length (l16.map (D.int .i32))), (9, .lit (.pointer none)), (10, .int .i64 3), (40, .agg [.int .i64 k, .sl 2 set.length (set.flatMap encR), .bool no, .sl 6 kids.length (encNs kids), .int .i64 mn, .int .i64 mx])]) (by kernel_rfl) ?_
     refine OD.callE (Weight_ok _ k set no kids mn mx (Nat.le_refl _) hf (by first | exact hal | exact cnt_loc hc1 | (exfalso; omega))) rfl (by kernel_rfl) (by kernel_rfl) (by kernel_rfl) ?_
     refine OD.runE 2 [2, 3, 8, 9, 10, 39] (E' := [(2, .int .i64 at_), (3, .loc 0 0), (8, .sl 1 l16.length (l16.map (D.int .i32))), (9, .lit (.pointer none)), (10, .int .i64 3), (39, .bool (decide ((20000 : Int) < ((wr K14 1000000 (.mk k set no kids mn mx) : Nat) : Int))))]) (by kernel_rfl) ?_
     refine OD.nil ?_
     refine CD.condP rfl (fun h10 => ?_) (fun h10 => ?_)
     ·
      refine CD.seq (CD.region ?_)
      refine OD.runE 7 [6] (E' := [(6, .bool true)]) (by kernel_rfl) ?_
      refine OD.nil (CD.ret ?_)
      exact retP (by kernel_rfl) (by kernel_rfl) (r := .bool true) (rfl)
     ·
      refine CD.skip (CD.seq (CD.seq ?_))
      refine CD.drawnF [5] 0 [(3, 0)] rfl (by kernel_rfl) (by kernel_rfl) (fun M1 a1 g1 bx1 bq hg1 hlk => ?_)
      refine OD.runE 9 [2, 3, 8, 9, 54, 57] (E' := [(2, .int .i64 at_), (3, litP bq 0), (8, .sl 1 l16.length (l16.map (D.int .i32))), (9, .lit (.pointer none)), (54, .tup []), (57, .bool true)]) (by kernel_rfl) ?_
      refine OD.nil ⟨by kernel_rfl, ⟨⟨34, 3, by kernel_rfl, .inr ⟨0, .agg [.int .i64 k, .sl 2 set.length (set.flatMap encR), .bool no, .sl 6 kids.length (encNs kids), .int .i64 mn, .int .i64 mx], rfl, by kernel_rfl⟩⟩, trivial⟩, ⟨rfl, trivial⟩, rfl, ?_⟩
      refine CD.condT rfl ?_
      refine CD.seq (CD.region ?_)
      refine OD.runE 1 [6] (E' := [(6, .bool false)]) (by kernel_rfl) ?_
      refine OD.nil (CD.ret ?_)
      exact retP (by kernel_rfl) (by kernel_rfl) (r := .bool false) (by exfalso; first | omega | (have := wr_small hc2; omega) | (have := wr_big hc2; omega) | exact absurd rfl (by assumption))
   ·
    refine OD.runE 5 [2, 3, 8, 9, 10] (E' := [(2, .int .i64 at_), (3, .loc 0 0), (8, .sl 1 l16.length (l16.map (D.int .i32))), (9, .lit (.pointer none)), (10, .int .i64 5)]) (by kernel_rfl) ?_
    refine OD.nil (CD.seq (CD.block (CD.seq (CD.region ?_))))
    refine OD.runE 1 [2, 3, 8, 9, 10, 30] (E' := [(2, .int .i64 at_), (3, .loc 0 0), (8, .sl 1 l16.length (l16.map (D.int .i32))), (9, .lit (.pointer none)), (10, .int .i64 5), (30, .agg [.int .i64 k, .sl 2 set.length (set.flatMap encR), .bool no, .sl 6 kids.length (encNs kids), .int .i64 mn, .int .i64 mx])]) (by kernel_rfl) ?_
    refine OD.callE (rMay_ok k set no kids mn mx hf hz) rfl (by kernel_rfl) (by kernel_rfl) (by kernel_rfl) ?_
    refine OD.is 31 rfl (may_same (by omega) (by omega)) ?_
    refine OD.runE 2 [2, 3, 8, 9, 10, 29] (E' := [(2, .int .i64 at_), (3, .loc 0 0), (8, .sl 1 l16.length (l16.map (D.int .i32))), (9, .lit (.pointer none)), (10, .int .i64 5), (29, .bool (!(decide (Nfa.cnt locB (.mk k set no kids mn mx) 1 ≤ 2000))))]) (by kernel_rfl) ?_
    refine OD.nil ?_
    refine CD.condB rfl (fun h11 => ?_) (fun h11 => ?_)
    ·
     have h11 := ndt h11
     refine CD.seq (CD.region ?_)
     refine OD.runE 7 [6] (E' := [(6, .bool true)]) (by kernel_rfl) ?_
     refine OD.nil (CD.ret ?_)
     exact retP (by kernel_rfl) (by kernel_rfl) (r := .bool true) (rfl)
    ·
     have h11 := ndf h11
     refine CD.seq (CD.region ?_)
     refine OD.runE 1 [2, 3, 8, 9, 10, 40] (E' := [(2, .int .i64 at_), (3, .loc 0 0), (8, .sl 1 l16.length (l16.map (D.int .i32))), (9, .lit (.pointer none)), (10, .int .i64 5), (40, .agg [.int .i64 k, .sl 2 set.length (set.flatMap encR), .bool no, .sl 6 kids.length (encNs kids), .int .i64 mn, .int .i64 mx])]) (by kernel_rfl) ?_
     refine OD.callE (Weight_ok _ k set no kids mn mx (Nat.le_refl _) hf (by first | exact hal | exact cnt_loc hc1 | (exfalso; omega))) rfl (by kernel_rfl) (by kernel_rfl) (by kernel_rfl) ?_
     refine OD.runE 2 [2, 3, 8, 9, 10, 39] (E' := [(2, .int .i64 at_), (3, .loc 0 0), (8, .sl 1 l16.length (l16.map (D.int .i32))), (9, .lit (.pointer none)), (10, .int .i64 5), (39, .bool (decide ((20000 : Int) < ((wr K14 1000000 (.mk k set no kids mn mx) : Nat) : Int))))]) (by kernel_rfl) ?_
     refine OD.nil ?_
     refine CD.condP rfl (fun h12 => ?_) (fun h12 => ?_)
     ·
      refine CD.seq (CD.region ?_)
      refine OD.runE 7 [6] (E' := [(6, .bool false)]) (by kernel_rfl) ?_
      refine OD.nil (CD.ret ?_)
      exact retP (by kernel_rfl) (by kernel_rfl) (r := .bool false) (by exfalso; first | omega | (have := wr_small hc2; omega) | (have := wr_big hc2; omega) | exact absurd rfl (by assumption))
     ·
      refine CD.skip (CD.seq (CD.seq ?_))
      refine CD.drawnF [5] 0 [(3, 0)] rfl (by kernel_rfl) (by kernel_rfl) (fun M1 a1 g1 bx1 bq hg1 hlk => ?_)
      refine OD.runE 9 [2, 3, 8, 9, 54, 57] (E' := [(2, .int .i64 at_), (3, litP bq 0), (8, .sl 1 l16.length (l16.map (D.int .i32))), (9, .lit (.pointer none)), (54, .tup []), (57, .bool true)]) (by kernel_rfl) ?_
      refine OD.nil ⟨by kernel_rfl, ⟨⟨34, 3, by kernel_rfl, .inr ⟨0, .agg [.int .i64 k, .sl 2 set.length (set.flatMap encR), .bool no, .sl 6 kids.length (encNs kids), .int .i64 mn, .int .i64 mx], rfl, by kernel_rfl⟩⟩, trivial⟩, ⟨rfl, trivial⟩, rfl, ?_⟩
      refine CD.condT rfl ?_
      refine CD.seq (CD.region ?_)
      refine OD.runE 1 [6] (E' := [(6, .bool false)]) (by kernel_rfl) ?_
      refine OD.nil (CD.ret ?_)
      exact retP (by kernel_rfl) (by kernel_rfl) (r := .bool false) (by exfalso; first | omega | (have := wr_small hc2; omega) | (have := wr_big hc2; omega) | exact absurd rfl (by assumption))
end
end Go.Proofs.YtiebldaihnbkmaaGreatDoor
