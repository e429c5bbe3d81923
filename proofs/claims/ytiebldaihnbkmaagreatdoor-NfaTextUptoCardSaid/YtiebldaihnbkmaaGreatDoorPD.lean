/-
  What is proved here: what functions of the pattern's package come to (walks that a program of mine has printed). No conditions. What is proved here: the reader's functions, so deep as may be. No conditions.
-/
import Derived.Test.YtiebldaihnbkmaaGreatDoorPB
import Derived.Test.YtiebldaihnbkmaaGreatDoorPEa
import Derived.Test.YtiebldaihnbkmaaGreatDoorRI
set_option linter.unusedVariables false
set_option linter.unusedSimpArgs false
set_option linter.unusedVariables false
set_option linter.unusedSimpArgs false
set_option maxRecDepth 100000
set_option maxHeartbeats 4000000
namespace Go.Proofs.YtiebldaihnbkmaaGreatDoor
open Go.Vai Go.Nfa
noncomputable section
theorem atom_ok (N : Nat) (hN0 : N ≤ 1000000) (alt : Rdr) (hP : ∀ s b, okS s → s.length + 1 ≤ N → FnD P ov 56 [.loc 0 0] [pbox s b] (postN (alt s b))) (s : List Int) (b : Bool) (hs : okS s) (hN : s.length ≤ N) : FnD P ov 111 [.loc 0 0] [pbox s b] (postN (atomM alt s b)) := by
 refine FnD.intro (by kernel_rfl) (fn := Tryz.f111) (by kernel_rfl) rfl (by kernel_rfl) fun M a0 g0 hg0 => ?_
 refine CD.seq (CD.region ?_)
 refine OD.rL 1 [(0, .loc 0 0), (2, .loc 1 0)] [pbox s b, .box [.int .i64 0, .lit (.slice none 0 0), .bool false, .lit (.slice none 0 0), .int .i64 0, .int .i64 0]] ?_
 refine OD.nil (CD.seq (CD.region ?_))
 refine OD.rE 1 [(0, .loc 0 0), (2, .loc 1 0), (5, .loc 0 0)] ?_
 refine OD.cO [0] [.loc 0 0] (take_ok s b) (fun r L1 hr => ?_)
 obtain ⟨rfl, rfl⟩ := hr
 refine OD.rE 1 [(0, .loc 0 0), (2, .loc 1 0), (3, .int .i32 ((tkM s b).1))] ?_
 refine OD.nil (CD.seq (CD.seq (CD.region ?_)))
 refine OD.rE 1 [(0, .loc 0 0), (2, .loc 1 0), (3, .int .i32 ((tkM s b).1)), (7, .int .i32 ((tkM s b).1))] ?_
 refine OD.nil (CD.block (CD.seq (CD.region ?_)))
 refine OD.rE 2 [(0, .loc 0 0), (2, .loc 1 0), (3, .int .i32 ((tkM s b).1)), (7, .int .i32 ((tkM s b).1)), (8, .bool (decide (((tkM s b).1 : Int) = 40)))] ?_
 refine OD.nil ?_
 refine CD.condP rfl (fun h1 => ?_) (fun h1 => ?_)
 ·
  refine CD.seq (CD.region ?_)
  refine OD.rE 1 [(0, .loc 0 0), (2, .loc 1 0), (10, .loc 0 0)] ?_
  refine OD.cO [0] [.loc 0 0] (hP ((tkM s b).2.1) (tkM s b).2.2 (hs.sfx (tk_le s b)) (by have := tk_one (by assumption); omega)) (fun r L1 hr => ?_)
  obtain ⟨rfl, rfl⟩ := hr
  refine OD.rL 2 [(0, .loc 0 0), (2, .loc 1 0), (4, .loc 2 0)] [pbox ((alt ((tkM s b).2.1) (tkM s b).2.2).2.1) (alt ((tkM s b).2.1) (tkM s b).2.2).2.2, .box [.int .i64 0, .lit (.slice none 0 0), .bool false, .lit (.slice none 0 0), .int .i64 0, .int .i64 0], .box (celN ((alt ((tkM s b).2.1) (tkM s b).2.2).1))] ?_
  refine OD.nil (CD.seq (CD.region ?_))
  refine OD.rE 6 [(0, .loc 0 0), (2, .loc 1 0), (4, .loc 2 0), (12, .loc 0 0), (17, .bool (alt ((tkM s b).2.1) (tkM s b).2.2).2.2)] ?_
  refine OD.ifB 17 rfl (fun h2 => ?_) (fun h2 => ?_)
  ·
   refine OD.rL 7 [(2, .loc 1 0), (4, .loc 2 0)] [pbox ((alt ((tkM s b).2.1) (tkM s b).2.2).2.1) true, .box [.int .i64 0, .lit (.slice none 0 0), .bool false, .lit (.slice none 0 0), .int .i64 0, .int .i64 0], .box (celN ((alt ((tkM s b).2.1) (tkM s b).2.2).1))] ?_
   refine OD.nil (CD.seq (CD.region ?_))
   refine OD.rL 2 [(2, .loc 1 0)] [pbox ((alt ((tkM s b).2.1) (tkM s b).2.2).2.1) true, .box (celN ((alt ((tkM s b).2.1) (tkM s b).2.2).1)), .box (celN ((alt ((tkM s b).2.1) (tkM s b).2.2).1))] ?_
   refine OD.nil (CD.ret ?_)
   (try dsimp only); first | refine resP_r ?_ | refine resP_n ?_
   exact rO 1 (.agg (celN ((alt ((tkM s b).2.1) (tkM s b).2.2).1))) [pbox ((alt ((tkM s b).2.1) (tkM s b).2.2).2.1) true] ((by constructor <;> first | (exfalso; omega) | (simp [atomM, mustM, isR, h1, h2]; done) | (simp [atomM, mustM, isR, h1, h2]; rfl)))
  ·
   refine OD.rE 1 [(2, .loc 1 0), (4, .loc 2 0), (12, .loc 0 0), (17, .bool false), (18, .loc 0 0)] ?_
   refine OD.guard rfl rfl ?_
   refine OD.cO [0] [.loc 0 0, .int .i32 41] (is_ok ((alt ((tkM s b).2.1) (tkM s b).2.2).2.1) (alt ((tkM s b).2.1) (tkM s b).2.2).2.2 41 (by decide)) (fun r L1 hr => ?_)
   rcases hr with ⟨hi3, rfl, rfl⟩ | ⟨hi3, rfl, rfl⟩
   ·
    refine OD.rL 5 [(2, .loc 1 0), (4, .loc 2 0)] [pbox (((alt ((tkM s b).2.1) (tkM s b).2.2).2.1).tail) false, .box [.int .i64 0, .lit (.slice none 0 0), .bool false, .lit (.slice none 0 0), .int .i64 0, .int .i64 0], .box (celN ((alt ((tkM s b).2.1) (tkM s b).2.2).1))] ?_
    refine OD.nil (CD.seq (CD.region ?_))
    refine OD.rL 2 [(2, .loc 1 0)] [pbox (((alt ((tkM s b).2.1) (tkM s b).2.2).2.1).tail) false, .box (celN ((alt ((tkM s b).2.1) (tkM s b).2.2).1)), .box (celN ((alt ((tkM s b).2.1) (tkM s b).2.2).1))] ?_
    refine OD.nil (CD.ret ?_)
    (try dsimp only); first | refine resP_r ?_ | refine resP_n ?_
    exact rO 1 (.agg (celN ((alt ((tkM s b).2.1) (tkM s b).2.2).1))) [pbox (((alt ((tkM s b).2.1) (tkM s b).2.2).2.1).tail) false] ((by constructor <;> first | (exfalso; omega) | (simp [atomM, mustM, isR, h1, h2, hi3]; done) | (simp [atomM, mustM, isR, h1, h2, hi3]; rfl)))
   ·
    refine OD.rL 5 [(2, .loc 1 0), (4, .loc 2 0)] [pbox ((alt ((tkM s b).2.1) (tkM s b).2.2).2.1) true, .box [.int .i64 0, .lit (.slice none 0 0), .bool false, .lit (.slice none 0 0), .int .i64 0, .int .i64 0], .box (celN ((alt ((tkM s b).2.1) (tkM s b).2.2).1))] ?_
    refine OD.nil (CD.seq (CD.region ?_))
    refine OD.rL 2 [(2, .loc 1 0)] [pbox ((alt ((tkM s b).2.1) (tkM s b).2.2).2.1) true, .box (celN ((alt ((tkM s b).2.1) (tkM s b).2.2).1)), .box (celN ((alt ((tkM s b).2.1) (tkM s b).2.2).1))] ?_
    refine OD.nil (CD.ret ?_)
    (try dsimp only); first | refine resP_r ?_ | refine resP_n ?_
    exact rO 1 (.agg (celN ((alt ((tkM s b).2.1) (tkM s b).2.2).1))) [pbox ((alt ((tkM s b).2.1) (tkM s b).2.2).2.1) true] ((by constructor <;> first | (exfalso; omega) | (simp [atomM, mustM, isR, h1, h2, hi3]; done) | (simp [atomM, mustM, isR, h1, h2, hi3]; rfl)))
 ·
  refine CD.seq (CD.region ?_)
  refine OD.rE 2 [(0, .loc 0 0), (2, .loc 1 0), (3, .int .i32 ((tkM s b).1)), (7, .int .i32 ((tkM s b).1)), (25, .bool (decide (((tkM s b).1 : Int) = 46)))] ?_
  refine OD.nil ?_
  refine CD.condP rfl (fun h4 => ?_) (fun h4 => ?_)
  ·
   refine CD.seq (CD.region ?_)
   refine OD.rE 1 [(2, .loc 1 0), (27, .agg [.int .i64 2, .lit (.slice none 0 0), .bool true, .lit (.slice none 0 0), .int .i64 0, .int .i64 0])] ?_
   refine OD.reNil 27 [0, 2, 0, 6, 0, 0] (ds' := [.int .i64 2, .sl 2 0 ([]), .bool true, .sl 6 0 ([]), .int .i64 0, .int .i64 0]) rfl (by kernel_rfl) ?_
   refine OD.rL 1 [(2, .loc 1 0)] [pbox ((tkM s b).2.1) (tkM s b).2.2, .box [.int .i64 2, .sl 2 0 ([]), .bool true, .sl 6 0 ([]), .int .i64 0, .int .i64 0]] ?_
   refine OD.nil (CD.ret ?_)
   (try dsimp only); first | refine resP_r ?_ | refine resP_n ?_
   exact rO 1 (.agg [.int .i64 2, .sl 2 0 ([]), .bool true, .sl 6 0 ([]), .int .i64 0, .int .i64 0]) [pbox ((tkM s b).2.1) (tkM s b).2.2] ((by constructor <;> first | (exfalso; omega) | (simp [atomM, mustM, isR, h1, h4]; done) | (simp [atomM, mustM, isR, h1, h4]; rfl)))
  ·
   refine CD.seq (CD.region ?_)
   refine OD.rE 2 [(0, .loc 0 0), (2, .loc 1 0), (3, .int .i32 ((tkM s b).1)), (7, .int .i32 ((tkM s b).1)), (28, .bool (decide (((tkM s b).1 : Int) = 94)))] ?_
   refine OD.nil ?_
   refine CD.condP rfl (fun h5 => ?_) (fun h5 => ?_)
   ·
    refine CD.seq (CD.region ?_)
    refine OD.rE 1 [(2, .loc 1 0), (30, .agg [.int .i64 6, .lit (.slice none 0 0), .bool false, .lit (.slice none 0 0), .int .i64 0, .int .i64 0])] ?_
    refine OD.reNil 30 [0, 2, 0, 6, 0, 0] (ds' := [.int .i64 6, .sl 2 0 ([]), .bool false, .sl 6 0 ([]), .int .i64 0, .int .i64 0]) rfl (by kernel_rfl) ?_
    refine OD.rL 1 [(2, .loc 1 0)] [pbox ((tkM s b).2.1) (tkM s b).2.2, .box [.int .i64 6, .sl 2 0 ([]), .bool false, .sl 6 0 ([]), .int .i64 0, .int .i64 0]] ?_
    refine OD.nil (CD.ret ?_)
    (try dsimp only); first | refine resP_r ?_ | refine resP_n ?_
    exact rO 1 (.agg [.int .i64 6, .sl 2 0 ([]), .bool false, .sl 6 0 ([]), .int .i64 0, .int .i64 0]) [pbox ((tkM s b).2.1) (tkM s b).2.2] ((by constructor <;> first | (exfalso; omega) | (simp [atomM, mustM, isR, h1, h4, h5]; done) | (simp [atomM, mustM, isR, h1, h4, h5]; rfl)))
   ·
    refine CD.seq (CD.region ?_)
    refine OD.rE 2 [(0, .loc 0 0), (2, .loc 1 0), (3, .int .i32 ((tkM s b).1)), (7, .int .i32 ((tkM s b).1)), (31, .bool (decide (((tkM s b).1 : Int) = 36)))] ?_
    refine OD.nil ?_
    refine CD.condP rfl (fun h6 => ?_) (fun h6 => ?_)
    ·
     refine CD.seq (CD.region ?_)
     refine OD.rE 1 [(2, .loc 1 0), (33, .agg [.int .i64 7, .lit (.slice none 0 0), .bool false, .lit (.slice none 0 0), .int .i64 0, .int .i64 0])] ?_
     refine OD.reNil 33 [0, 2, 0, 6, 0, 0] (ds' := [.int .i64 7, .sl 2 0 ([]), .bool false, .sl 6 0 ([]), .int .i64 0, .int .i64 0]) rfl (by kernel_rfl) ?_
     refine OD.rL 1 [(2, .loc 1 0)] [pbox ((tkM s b).2.1) (tkM s b).2.2, .box [.int .i64 7, .sl 2 0 ([]), .bool false, .sl 6 0 ([]), .int .i64 0, .int .i64 0]] ?_
     refine OD.nil (CD.ret ?_)
     (try dsimp only); first | refine resP_r ?_ | refine resP_n ?_
     exact rO 1 (.agg [.int .i64 7, .sl 2 0 ([]), .bool false, .sl 6 0 ([]), .int .i64 0, .int .i64 0]) [pbox ((tkM s b).2.1) (tkM s b).2.2] ((by constructor <;> first | (exfalso; omega) | (simp [atomM, mustM, isR, h1, h4, h5, h6]; done) | (simp [atomM, mustM, isR, h1, h4, h5, h6]; rfl)))
    ·
     refine CD.seq (CD.region ?_)
     refine OD.rE 2 [(0, .loc 0 0), (2, .loc 1 0), (3, .int .i32 ((tkM s b).1)), (7, .int .i32 ((tkM s b).1)), (34, .bool (decide (((tkM s b).1 : Int) = 92)))] ?_
     refine OD.nil ?_
     refine CD.condP rfl (fun h7 => ?_) (fun h7 => ?_)
     ·
      refine CD.seq (CD.region ?_)
      refine OD.rE 1 [(2, .loc 1 0), (36, .loc 0 0)] ?_
      refine OD.cO [0] [.loc 0 0] (take_ok ((tkM s b).2.1) (tkM s b).2.2) (fun r L1 hr => ?_)
      obtain ⟨rfl, rfl⟩ := hr
      refine OD.rE 0 [(2, .loc 1 0), (37, .int .i32 ((tkM ((tkM s b).2.1) (tkM s b).2.2).1))] ?_
      refine OD.cE (literal_ok ((tkM ((tkM s b).2.1) (tkM s b).2.2).1)) ?_
      refine OD.rL 1 [(2, .loc 1 0)] [pbox ((tkM ((tkM s b).2.1) (tkM s b).2.2).2.1) (tkM ((tkM s b).2.1) (tkM s b).2.2).2.2, .box (celN (litN ((tkM ((tkM s b).2.1) (tkM s b).2.2).1)))] ?_
      refine OD.nil (CD.ret ?_)
      (try dsimp only); first | refine resP_r ?_ | refine resP_n ?_
      exact rO 1 (.agg (celN (litN ((tkM ((tkM s b).2.1) (tkM s b).2.2).1)))) [pbox ((tkM ((tkM s b).2.1) (tkM s b).2.2).2.1) (tkM ((tkM s b).2.1) (tkM s b).2.2).2.2] ((by constructor <;> first | (exfalso; omega) | (simp [atomM, mustM, isR, h1, h4, h5, h6, h7]; done) | (simp [atomM, mustM, isR, h1, h4, h5, h6, h7]; rfl)))
     ·
      refine CD.seq (CD.region ?_)
      refine OD.rE 2 [(0, .loc 0 0), (2, .loc 1 0), (3, .int .i32 ((tkM s b).1)), (39, .bool (decide (((tkM s b).1 : Int) = 91)))] ?_
      refine OD.nil ?_
      refine CD.condP rfl (fun h8 => ?_) (fun h8 => ?_)
      ·
       refine CD.seq (CD.region ?_)
       refine OD.rE 1 [(2, .loc 1 0), (41, .loc 0 0)] ?_
       refine OD.cO [0] [.loc 0 0] (set_ok ((tkM s b).2.1) (tkM s b).2.2 (by have := (tk_le s b).length_le; omega)) (fun r L1 hr => ?_)
       obtain ⟨rfl, rfl⟩ := hr
       refine OD.rL 1 [(2, .loc 1 0)] [pbox ((setM ((tkM s b).2.1) (tkM s b).2.2).2.1) (setM ((tkM s b).2.1) (tkM s b).2.2).2.2, .box (celN ((setM ((tkM s b).2.1) (tkM s b).2.2).1))] ?_
       refine OD.nil (CD.ret ?_)
       (try dsimp only); first | refine resP_r ?_ | refine resP_n ?_
       exact rO 1 (.agg (celN ((setM ((tkM s b).2.1) (tkM s b).2.2).1))) [pbox ((setM ((tkM s b).2.1) (tkM s b).2.2).2.1) (setM ((tkM s b).2.1) (tkM s b).2.2).2.2] ((by constructor <;> first | (exfalso; omega) | (simp [atomM, mustM, isR, h1, h4, h5, h6, h7, h8]; done) | (simp [atomM, mustM, isR, h1, h4, h5, h6, h7, h8]; rfl)))
      ·
       refine CD.skip (CD.seq (CD.region ?_))
       refine OD.rE 6 [(2, .loc 1 0), (3, .int .i32 ((tkM s b).1)), (43, .loc 0 0), (48, .bool (tkM s b).2.2)] ?_
       refine OD.ifB 48 rfl (fun h9 => ?_) (fun h9 => ?_)
       ·
        refine OD.rL 6 [(2, .loc 1 0), (3, .int .i32 ((tkM s b).1))] [pbox ((tkM s b).2.1) true, .box [.int .i64 0, .lit (.slice none 0 0), .bool false, .lit (.slice none 0 0), .int .i64 0, .int .i64 0]] ?_
        refine OD.nil (CD.seq (CD.region ?_))
        refine OD.rE 1 [(2, .loc 1 0), (54, .int .i32 ((tkM s b).1))] ?_
        refine OD.cE (literal_ok ((tkM s b).1)) ?_
        refine OD.rL 1 [(2, .loc 1 0)] [pbox ((tkM s b).2.1) true, .box (celN (litN ((tkM s b).1)))] ?_
        refine OD.nil (CD.ret ?_)
        (try dsimp only); first | refine resP_r ?_ | refine resP_n ?_
        exact rO 1 (.agg (celN (litN ((tkM s b).1)))) [pbox ((tkM s b).2.1) true] ((by constructor <;> first | (exfalso; omega) | (simp [atomM, mustM, isR, h1, h4, h5, h6, h7, h8, h9]; done) | (simp [atomM, mustM, isR, h1, h4, h5, h6, h7, h8, h9]; rfl)))
       ·
        refine OD.rE 1 [(2, .loc 1 0), (3, .int .i32 ((tkM s b).1)), (43, .loc 0 0), (48, .bool false), (49, .int .i32 ((tkM s b).1))] ?_
        refine OD.guard rfl rfl ?_
        refine OD.cE (contains_ok ((tkM s b).1) (tk_sign hs (by assumption))) ?_
        refine OD.rL 4 [(2, .loc 1 0), (3, .int .i32 ((tkM s b).1))] [pbox ((tkM s b).2.1) (specB ((tkM s b).1)), .box [.int .i64 0, .lit (.slice none 0 0), .bool false, .lit (.slice none 0 0), .int .i64 0, .int .i64 0]] ?_
        refine OD.nil (CD.seq (CD.region ?_))
        refine OD.rE 1 [(2, .loc 1 0), (54, .int .i32 ((tkM s b).1))] ?_
        refine OD.cE (literal_ok ((tkM s b).1)) ?_
        refine OD.rL 1 [(2, .loc 1 0)] [pbox ((tkM s b).2.1) (specB ((tkM s b).1)), .box (celN (litN ((tkM s b).1)))] ?_
        refine OD.nil (CD.ret ?_)
        (try dsimp only); first | refine resP_r ?_ | refine resP_n ?_
        exact rO 1 (.agg (celN (litN ((tkM s b).1)))) [pbox ((tkM s b).2.1) (specB ((tkM s b).1))] ((by constructor <;> first | (exfalso; omega) | (simp [atomM, mustM, isR, h1, h4, h5, h6, h7, h8, h9]; done) | (simp [atomM, mustM, isR, h1, h4, h5, h6, h7, h8, h9]; rfl)))
end
end Go.Proofs.YtiebldaihnbkmaaGreatDoor
namespace Go.Proofs.YtiebldaihnbkmaaGreatDoor
open Go.Vai Go.Nfa
noncomputable section
theorem altF_ok : ∀ (f : Nat), f ≤ 1000000 → ∀ (s : List Int) (b : Bool), okS s → s.length + 1 ≤ f → FnD P ov 56 [.loc 0 0] [pbox s b] (postN (altF f s b)) := by
 intro f
 induction f with
 | zero => intro _ s b _ h; omega
 | succ f ih =>
  intro hf s b hs h
  have A : ∀ s b, okS s → s.length ≤ f → FnD P ov 111 [.loc 0 0] [pbox s b] (postN (atomF f s b)) := fun s b hs hl => atom_ok f (by omega) (altF f) (fun s b hs hl => ih (by omega) s b hs hl) s b hs hl
  have B : ∀ s b, okS s → s.length ≤ f → FnD P ov 98 [.loc 0 0] [pbox s b] (postN (pieceF f s b)) := fun s b hs hl => piece_ok f (by omega) (atomF f) A s b hs hl
  have R : ∀ s b, okS s → s.length ≤ f → FnD P ov 75 [.loc 0 0] [pbox s b] (postN (rowF f s b)) := fun s b hs hl => row_ok f (by omega) (pieceF f) B (pieceF_le f) (pieceF_lt f) s b hs hl
  exact alt_ok f (by omega) (rowF f) R (rowF_le f) s b hs (by omega)
end
end Go.Proofs.YtiebldaihnbkmaaGreatDoor
