/-
  What is proved here: what functions of the pattern's package come to (walks that a program of mine has printed). what functions of the pattern's package come to (walks that a program of mine has printed). No conditions but those that the theorems state.
-/
import Derived.Test.YtiebldaihnbkmaaGreatDoorNT
import Derived.Test.YtiebldaihnbkmaaGreatDoorPA
import Derived.Test.YtiebldaihnbkmaaGreatDoorRI
set_option linter.unusedVariables false
set_option linter.unusedSimpArgs false
set_option maxRecDepth 100000
set_option maxHeartbeats 4000000
namespace Go.Proofs.YtiebldaihnbkmaaGreatDoor
open Go.Vai Go.Nfa
noncomputable section
theorem X36 (s:List Int) (b:Bool):FnD P ov 97 [.loc 0 0] [X0I s b] (fun r L1=>r=.int .i32 (nx s)∧L1=[X0I s b]):=by
 refine FnD.intro (by kernel_rfl) (fn:=Tryz.f97) (by kernel_rfl) rfl (by kernel_rfl) fun M a0 g0 hg0=>?_
 refine CD.seq (CD.region ?_)
 refine OD.rE 1 [(0,.loc 0 0)] ?_
 refine OD.nil (CD.seq (CD.seq (CD.region ?_)))
 refine OD.rE 6 [(0,.loc 0 0),(8,.bool (decide ((((s.length:Nat):Int):Int)=0)))] ?_
 refine OD.nil ?_
 refine CD.condP rfl (fun h1=>?_) (fun h1=>?_)
 ·
  refine CD.seq (CD.region ?_)
  refine OD.rE 1 [(2,.int .i32 (-1))] ?_
  refine OD.nil (CD.ret ?_)
  (try dsimp only);first | refine X01 ?_ | refine X02 ?_
  exact rO 1 (.int .i32 (-1)) [X0I s b] (⟨congrArg (D.int .i32) (nx0 h1),rfl⟩)
 ·
  refine CD.skip (CD.seq (CD.region ?_))
  refine OD.rE 4 [(12,.vI s)] ?_
  refine OD.idxSV (i:=0) rfl rfl (by kernel_rfl) (by omega) (by omega) ?_
  refine OD.rE 0 [(13,.ep 1 s.length (s.map (D.int .i32)) 0)] ?_
  refine OD.ldSV 0 (f:=(D.int .i32)) (xs:=s) rfl (by kernel_rfl) (by first | omega | (simp<;>omega)) ?_
  refine OD.rE 1 [(2,.int .i32 (s.getD 0 0))] ?_
  refine OD.nil (CD.ret ?_)
  (try dsimp only);first | refine X01 ?_ | refine X02 ?_
  exact rO 1 (.int .i32 (s.getD 0 0)) [X0I s b] (⟨congrArg (D.int .i32) (nx1 h1),rfl⟩)
theorem X4R (s:List Int) (b:Bool):FnD P ov 119 [.loc 0 0] [X0I s b] (XGK .i32 (tkM s b)):=by
 refine FnD.intro (by kernel_rfl) (fn:=Tryz.f119) (by kernel_rfl) rfl (by kernel_rfl) fun M a0 g0 hg0=>?_
 refine CD.seq (CD.region ?_)
 refine OD.rE 1 [(0,.loc 0 0)] ?_
 refine OD.nil (CD.seq (CD.region ?_))
 refine OD.rE 1 [(0,.loc 0 0),(4,.loc 0 0)] ?_
 refine OD.cO [0] [.loc 0 0] (X36 s b) (fun r L1 hr=>?_)
 obtain⟨rfl,rfl⟩:=hr
 refine OD.rE 1 [(0,.loc 0 0),(3,.int .i32 (nx s))] ?_
 refine OD.nil (CD.seq (CD.seq (CD.region ?_)))
 refine OD.rE 2 [(0,.loc 0 0),(3,.int .i32 (nx s)),(7,.bool (decide (((nx s):Int)<0)))] ?_
 refine OD.nil ?_
 refine CD.condP rfl (fun h1=>?_) (fun h1=>?_)
 ·
  refine CD.seq (CD.region ?_)
  refine OD.rL 4 [(3,.int .i32 (nx s))] [X0I s true] ?_
  refine OD.nil (CD.seq (CD.region ?_))
  refine OD.rE 2 [(2,.int .i32 (nx s))] ?_
  refine OD.nil (CD.ret ?_)
  (try dsimp only);first | refine X01 ?_ | refine X02 ?_
  exact rO 1 (.int .i32 (nx s)) [X0I s true] ((by rw [tkM,if_pos h1];exact⟨rfl,rfl⟩))
 ·
  refine CD.skip (CD.seq (CD.region ?_))
  refine OD.rE 5 [(3,.int .i32 (nx s)),(12,.loc 0 0),(16,.vI s)] ?_
  refine OD.slSl (lw:=1) (u:=s.length) rfl (by kernel_rfl) (.inr ⟨_,_,rfl,rfl⟩) (.inl ⟨rfl,rfl⟩) (X81 (by omega)) (Nat.le_refl _) ?_
  refine OD.is 17 rfl XIL ?_
  refine OD.rL 3 [(3,.int .i32 (nx s))] [X0I s.tail b] ?_
  refine OD.nil (CD.seq (CD.region ?_))
  refine OD.rE 2 [(2,.int .i32 (nx s))] ?_
  refine OD.nil (CD.ret ?_)
  (try dsimp only);first | refine X01 ?_ | refine X02 ?_
  exact rO 1 (.int .i32 (nx s)) [X0I s.tail b] ((by rw [tkM,if_neg h1];exact⟨rfl,rfl⟩))
theorem X4y (s:List Int) (b:Bool) (r:Int) (h0:0≤r):FnD P ov 76 [.loc 0 0,.int .i32 r] [X0I s b] (fun v L1=>(nx s=r∧v=.bool true∧L1=[X0I s.tail b])∨(¬ nx s=r∧v=.bool false∧L1=[X0I s b])):=by
 refine FnD.intro (by kernel_rfl) (fn:=Tryz.f76) (by kernel_rfl) rfl (by kernel_rfl) fun M a0 g0 hg0=>?_
 refine CD.seq (CD.region ?_)
 refine OD.rE 1 [(0,.loc 0 0),(1,.int .i32 r)] ?_
 refine OD.nil (CD.seq (CD.seq (CD.region ?_)))
 refine OD.rE 1 [(0,.loc 0 0),(1,.int .i32 r),(5,.loc 0 0)] ?_
 refine OD.cO [0] [.loc 0 0] (X36 s b) (fun r L1 hr=>?_)
 obtain⟨rfl,rfl⟩:=hr
 refine OD.rE 2 [(0,.loc 0 0),(8,.bool (decide (¬ ((nx s):Int)=r)))] ?_
 refine OD.nil ?_
 refine CD.condP rfl (fun h1=>?_) (fun h1=>?_)
 ·
  refine CD.seq (CD.region ?_)
  refine OD.rE 1 [(4,.bool false)] ?_
  refine OD.nil (CD.ret ?_)
  (try dsimp only);first | refine X01 ?_ | refine X02 ?_
  exact rO 1 (.bool false) [X0I s b] (.inr ⟨h1,rfl,rfl⟩)
 ·
  refine CD.skip (CD.seq (CD.region ?_))
  refine OD.rE 5 [(9,.loc 0 0),(13,.vI s)] ?_
  refine OD.slSl (lw:=1) (u:=s.length) rfl (by kernel_rfl) (.inr ⟨_,_,rfl,rfl⟩) (.inl ⟨rfl,rfl⟩) (X81 (by omega)) (Nat.le_refl _) ?_
  refine OD.is 14 rfl XIL ?_
  refine OD.rL 3 [] [X0I s.tail b] ?_
  refine OD.nil (CD.seq (CD.region ?_))
  refine OD.rE 1 [(4,.bool true)] ?_
  refine OD.nil (CD.ret ?_)
  (try dsimp only);first | refine X01 ?_ | refine X02 ?_
  exact rO 1 (.bool true) [X0I s.tail b] (.inl ⟨Decidable.of_not_not h1,rfl,rfl⟩)
theorem XIP (s:List Int) (b:Bool) (r:Int) (h0:0≤r):FnD P ov 76 [.loc 0 0,.int .i32 r] [X0I s b] (fun v L1=>v=.bool (decide (nx s=r))∧L1=[X0I (isR r s) b]):=by
 refine(X4y s b r h0).mono ?_
 rintro d L' (⟨h,rfl,rfl⟩ | ⟨h,rfl,rfl⟩)
 · rw [decide_eq_true h,isR,if_pos h];exact⟨rfl,rfl⟩
 · rw [decide_eq_false h,isR,if_neg h];exact⟨rfl,rfl⟩
theorem XAC (s:List Int) (b:Bool):FnD P ov 122 [.loc 0 0] [X0I s b] (XGK .i64 (X0C s b)):=by
 refine FnD.intro (by kernel_rfl) (fn:=Tryz.f122) (by kernel_rfl) rfl (by kernel_rfl) fun M a0 g0 hg0=>?_
 refine CD.seq (CD.region ?_)
 refine OD.rE 1 [(0,.loc 0 0)] ?_
 refine OD.nil (CD.seq (CD.region ?_))
 refine OD.rE 1 [(0,.loc 0 0),(4,.loc 0 0)] ?_
 refine OD.cO [0] [.loc 0 0] (X4R s b) (fun r L1 hr=>?_)
 obtain⟨rfl,rfl⟩:=hr
 refine OD.rE 1 [(0,.loc 0 0),(3,.int .i32 ((tkM s b).1))] ?_
 refine OD.nil (CD.seq (CD.seq (CD.region ?_)))
 refine OD.rE 3 [(0,.loc 0 0),(3,.int .i32 ((tkM s b).1)),(8,.bool (decide (((tkM s b).1:Int)<48)))] ?_
 refine OD.ifP 8 rfl (fun h1=>?_) (fun h1=>?_)
 ·
  refine OD.rE 3 [(0,.loc 0 0),(3,.int .i32 ((tkM s b).1)),(11,.bool true)] ?_
  refine OD.nil ?_
  refine CD.condT rfl ?_
  refine CD.seq (CD.region ?_)
  refine OD.rL 4 [] [X0I ((tkM s b).2.1) true] ?_
  refine OD.nil (CD.seq (CD.region ?_))
  refine OD.rE 1 [(2,.i64 0)] ?_
  refine OD.nil (CD.ret ?_)
  (try dsimp only);first | refine X01 ?_ | refine X02 ?_
  exact rO 1 (.i64 0) [X0I ((tkM s b).2.1) true] ((by rw [X0C,if_pos (by omega)];exact⟨rfl,rfl⟩))
 ·
  refine OD.rE 3 [(0,.loc 0 0),(3,.int .i32 ((tkM s b).1)),(11,.bool (decide ((57:Int)<((tkM s b).1))))] ?_
  refine OD.nil ?_
  refine CD.condP rfl (fun h2=>?_) (fun h2=>?_)
  ·
   refine CD.seq (CD.region ?_)
   refine OD.rL 4 [] [X0I ((tkM s b).2.1) true] ?_
   refine OD.nil (CD.seq (CD.region ?_))
   refine OD.rE 1 [(2,.i64 0)] ?_
   refine OD.nil (CD.ret ?_)
   (try dsimp only);first | refine X01 ?_ | refine X02 ?_
   exact rO 1 (.i64 0) [X0I ((tkM s b).2.1) true] ((by rw [X0C,if_pos (by omega)];exact⟨rfl,rfl⟩))
  ·
   refine CD.skip (CD.seq (CD.region ?_))
   refine OD.rE 2 [(16,.int .i32 (X05 .i32 (((tkM s b).1) - 48)))] ?_
   refine OD.is 16 rfl (X6F (by omega) (by omega)) ?_
   refine OD.rE 1 [(17,.i64 (X05 .i64 (((tkM s b).1) - 48)))] ?_
   refine OD.is 17 rfl (XF1 (by omega) (by omega)) ?_
   refine OD.rE 1 [(2,.i64 (((tkM s b).1) - 48))] ?_
   refine OD.nil (CD.ret ?_)
   (try dsimp only);first | refine X01 ?_ | refine X02 ?_
   exact rO 1 (.i64 (((tkM s b).1) - 48)) [X0I ((tkM s b).2.1) (tkM s b).2.2] ((by rw [X0C,if_neg (by omega)];exact⟨rfl,rfl⟩))
theorem X83 (s:List Int) (b:Bool):FnD P ov 126 [.loc 0 0] [X0I s b] (XGK .i32 (X0J s b)):=by
 refine FnD.intro (by kernel_rfl) (fn:=Tryz.f126) (by kernel_rfl) rfl (by kernel_rfl) fun M a0 g0 hg0=>?_
 refine CD.seq (CD.region ?_)
 refine OD.rE 1 [(0,.loc 0 0)] ?_
 refine OD.nil (CD.seq (CD.region ?_))
 refine OD.rE 1 [(0,.loc 0 0),(4,.loc 0 0)] ?_
 refine OD.cO [0] [.loc 0 0] (X4R s b) (fun r L1 hr=>?_)
 obtain⟨rfl,rfl⟩:=hr
 refine OD.rE 1 [(0,.loc 0 0),(3,.int .i32 ((tkM s b).1))] ?_
 refine OD.nil (CD.seq (CD.seq (CD.region ?_)))
 refine OD.rE 2 [(0,.loc 0 0),(3,.int .i32 ((tkM s b).1)),(7,.bool (decide (((tkM s b).1:Int)=92)))] ?_
 refine OD.nil ?_
 refine CD.condP rfl (fun h1=>?_) (fun h1=>?_)
 ·
  refine CD.seq (CD.region ?_)
  refine OD.rE 1 [(8,.loc 0 0)] ?_
  refine OD.cO [0] [.loc 0 0] (X4R ((tkM s b).2.1) (tkM s b).2.2) (fun r L1 hr=>?_)
  obtain⟨rfl,rfl⟩:=hr
  refine OD.rE 1 [(2,.int .i32 ((tkM ((tkM s b).2.1) (tkM s b).2.2).1))] ?_
  refine OD.nil (CD.ret ?_)
  (try dsimp only);first | refine X01 ?_ | refine X02 ?_
  exact rO 1 (.int .i32 ((tkM ((tkM s b).2.1) (tkM s b).2.2).1)) [X0I ((tkM ((tkM s b).2.1) (tkM s b).2.2).2.1) (tkM ((tkM s b).2.1) (tkM s b).2.2).2.2] ((by rw [X0J,if_pos h1];exact⟨rfl,rfl⟩))
 ·
  refine CD.skip (CD.seq (CD.region ?_))
  refine OD.rE 2 [(2,.int .i32 ((tkM s b).1))] ?_
  refine OD.nil (CD.ret ?_)
  (try dsimp only);first | refine X01 ?_ | refine X02 ?_
  exact rO 1 (.int .i32 ((tkM s b).1)) [X0I ((tkM s b).2.1) (tkM s b).2.2] ((by rw [X0J,if_neg h1];exact⟨rfl,rfl⟩))
theorem XC7 (s:List Int) (b:Bool):FnD P ov 112 [.loc 0 0] [X0I s b] (postR (X0t s b)):=by
 refine FnD.intro (by kernel_rfl) (fn:=Tryz.f112) (by kernel_rfl) rfl (by kernel_rfl) fun M a0 g0 hg0=>?_
 refine CD.seq (CD.region ?_)
 refine OD.rE 3 [(0,.loc 0 0)] ?_
 refine OD.nil (CD.seq (CD.block (CD.seq (CD.region ?_))))
 refine OD.rE 1 [(0,.loc 0 0),(8,.loc 0 0)] ?_
 refine OD.cO [0] [.loc 0 0,.int .i32 42] (X4y s b 42 (by decide)) (fun r L1 hr=>?_)
 rcases hr with⟨hi1,rfl,rfl⟩ | ⟨hi1,rfl,rfl⟩
 ·
  refine OD.rE 1 [(0,.loc 0 0),(7,.bool true)] ?_
  refine OD.nil ?_
  refine CD.condT rfl ?_
  refine CD.seq (CD.region ?_)
  refine OD.rE 3 [(2,.i64 0),(3,.i64 (-1)),(4,.bool true)] ?_
  refine OD.nil (CD.ret ?_)
  (try dsimp only);first | refine X01 ?_ | refine X02 ?_
  exact rO 1 (.tup [.i64 0,.i64 (-1),.bool true]) [X0I s.tail b] ((by constructor<;>first | (exfalso;omega) | simp [X0t,X1n,X0i,isR,hi1]))
 ·
  refine OD.rE 1 [(0,.loc 0 0),(7,.bool false)] ?_
  refine OD.nil ?_
  refine CD.condF rfl ?_
  refine CD.seq (CD.region ?_)
  refine OD.rE 1 [(0,.loc 0 0),(11,.loc 0 0)] ?_
  refine OD.cO [0] [.loc 0 0,.int .i32 43] (X4y s b 43 (by decide)) (fun r L1 hr=>?_)
  rcases hr with⟨hi2,rfl,rfl⟩ | ⟨hi2,rfl,rfl⟩
  ·
   refine OD.rE 1 [(0,.loc 0 0),(10,.bool true)] ?_
   refine OD.nil ?_
   refine CD.condT rfl ?_
   refine CD.seq (CD.region ?_)
   refine OD.rE 3 [(2,.i64 1),(3,.i64 (-1)),(4,.bool true)] ?_
   refine OD.nil (CD.ret ?_)
   (try dsimp only);first | refine X01 ?_ | refine X02 ?_
   exact rO 1 (.tup [.i64 1,.i64 (-1),.bool true]) [X0I s.tail b] ((by constructor<;>first | (exfalso;omega) | simp [X0t,X1n,X0i,isR,hi1,hi2]))
  ·
   refine OD.rE 1 [(0,.loc 0 0),(10,.bool false)] ?_
   refine OD.nil ?_
   refine CD.condF rfl ?_
   refine CD.seq (CD.region ?_)
   refine OD.rE 1 [(0,.loc 0 0),(14,.loc 0 0)] ?_
   refine OD.cO [0] [.loc 0 0,.int .i32 63] (X4y s b 63 (by decide)) (fun r L1 hr=>?_)
   rcases hr with⟨hi3,rfl,rfl⟩ | ⟨hi3,rfl,rfl⟩
   ·
    refine OD.rE 1 [(0,.loc 0 0),(13,.bool true)] ?_
    refine OD.nil ?_
    refine CD.condT rfl ?_
    refine CD.seq (CD.region ?_)
    refine OD.rE 3 [(2,.i64 0),(3,.i64 1),(4,.bool true)] ?_
    refine OD.nil (CD.ret ?_)
    (try dsimp only);first | refine X01 ?_ | refine X02 ?_
    exact rO 1 (.tup [.i64 0,.i64 1,.bool true]) [X0I s.tail b] ((by constructor<;>first | (exfalso;omega) | simp [X0t,X1n,X0i,isR,hi1,hi2,hi3]))
   ·
    refine OD.rE 1 [(0,.loc 0 0),(13,.bool false)] ?_
    refine OD.nil ?_
    refine CD.condF rfl ?_
    refine CD.seq (CD.region ?_)
    refine OD.rE 1 [(0,.loc 0 0),(17,.loc 0 0)] ?_
    refine OD.cO [0] [.loc 0 0,.int .i32 123] (X4y s b 123 (by decide)) (fun r L1 hr=>?_)
    rcases hr with⟨hi4,rfl,rfl⟩ | ⟨hi4,rfl,rfl⟩
    ·
     refine OD.rE 2 [(0,.loc 0 0),(16,.bool false)] ?_
     refine OD.nil ?_
     refine CD.condF rfl ?_
     refine CD.skip (CD.seq (CD.region ?_))
     refine OD.rE 1 [(0,.loc 0 0),(20,.loc 0 0)] ?_
     refine OD.cO [0] [.loc 0 0] (XAC s.tail b) (fun r L1 hr=>?_)
     obtain⟨rfl,rfl⟩:=hr
     refine OD.rE 1 [(0,.loc 0 0),(5,.i64 ((X0C s.tail b).1))] ?_
     refine OD.nil (CD.seq (CD.region ?_))
     refine OD.rE 2 [(0,.loc 0 0),(5,.i64 ((X0C s.tail b).1)),(6,.i64 ((X0C s.tail b).1))] ?_
     refine OD.nil (CD.seq (CD.seq (CD.region ?_)))
     refine OD.rE 1 [(0,.loc 0 0),(5,.i64 ((X0C s.tail b).1)),(6,.i64 ((X0C s.tail b).1)),(23,.loc 0 0)] ?_
     refine OD.cO [0] [.loc 0 0,.int .i32 44] (X4y ((X0C s.tail b).2.1) (X0C s.tail b).2.2 44 (by decide)) (fun r L1 hr=>?_)
     rcases hr with⟨hi5,rfl,rfl⟩ | ⟨hi5,rfl,rfl⟩
     ·
      refine OD.rE 0 [(0,.loc 0 0),(5,.i64 ((X0C s.tail b).1)),(6,.i64 ((X0C s.tail b).1)),(24,.bool true)] ?_
      refine OD.nil ?_
      refine CD.condT rfl ?_
      refine CD.seq (CD.region ?_)
      refine OD.rE 1 [(0,.loc 0 0),(5,.i64 ((X0C s.tail b).1)),(6,.i64 (-1))] ?_
      refine OD.nil (CD.seq (CD.region ?_))
      refine OD.rE 1 [(0,.loc 0 0),(5,.i64 ((X0C s.tail b).1)),(6,.i64 (-1)),(25,.loc 0 0)] ?_
      refine OD.cO [0] [.loc 0 0] (X36 (((X0C s.tail b).2.1).tail) (X0C s.tail b).2.2) (fun r L1 hr=>?_)
      obtain⟨rfl,rfl⟩:=hr
      refine OD.rE 1 [(0,.loc 0 0),(5,.i64 ((X0C s.tail b).1)),(6,.i64 (-1)),(27,.bool (decide (¬ ((nx (((X0C s.tail b).2.1).tail)):Int)=125)))] ?_
      refine OD.nil ?_
      refine CD.condP rfl (fun h6=>?_) (fun h6=>?_)
      ·
       refine CD.seq (CD.region ?_)
       refine OD.rE 1 [(0,.loc 0 0),(5,.i64 ((X0C s.tail b).1)),(28,.loc 0 0)] ?_
       refine OD.cO [0] [.loc 0 0] (XAC (((X0C s.tail b).2.1).tail) (X0C s.tail b).2.2) (fun r L1 hr=>?_)
       obtain⟨rfl,rfl⟩:=hr
       refine OD.rE 1 [(0,.loc 0 0),(5,.i64 ((X0C s.tail b).1)),(6,.i64 ((X0C (((X0C s.tail b).2.1).tail) (X0C s.tail b).2.2).1))] ?_
       refine OD.nil (CD.region ?_)
       refine OD.rE 6 [(0,.loc 0 0),(5,.i64 ((X0C s.tail b).1)),(6,.i64 ((X0C (((X0C s.tail b).2.1).tail) (X0C s.tail b).2.2).1)),(30,.loc 0 0),(35,.bool (X0C (((X0C s.tail b).2.1).tail) (X0C s.tail b).2.2).2.2)] ?_
       refine OD.ifB 35 rfl (fun h7=>?_) (fun h7=>?_)
       ·
        refine OD.rL 7 [(0,.loc 0 0),(5,.i64 ((X0C s.tail b).1)),(6,.i64 ((X0C (((X0C s.tail b).2.1).tail) (X0C s.tail b).2.2).1))] [X0I ((X0C (((X0C s.tail b).2.1).tail) (X0C s.tail b).2.2).2.1) true] ?_
        refine OD.nil (CD.seq (CD.region ?_))
        refine OD.rE 13 [(5,.i64 ((X0C s.tail b).1)),(6,.i64 ((X0C (((X0C s.tail b).2.1).tail) (X0C s.tail b).2.2).1))] ?_
        refine OD.nil (CD.seq (CD.region ?_))
        refine OD.rE 5 [(2,.i64 ((X0C s.tail b).1)),(3,.i64 ((X0C (((X0C s.tail b).2.1).tail) (X0C s.tail b).2.2).1)),(4,.bool true)] ?_
        refine OD.nil (CD.ret ?_)
        (try dsimp only);first | refine X01 ?_ | refine X02 ?_
        exact rO 1 (.tup [.i64 ((X0C s.tail b).1),.i64 ((X0C (((X0C s.tail b).2.1).tail) (X0C s.tail b).2.2).1),.bool true]) [X0I ((X0C (((X0C s.tail b).2.1).tail) (X0C s.tail b).2.2).2.1) true] ((by constructor<;>first | (exfalso;omega) | simp [X0t,X1n,X0i,isR,hi1,hi2,hi3,hi4,hi5,h6,h7]))
       ·
        refine OD.rL 7 [(0,.loc 0 0),(5,.i64 ((X0C s.tail b).1)),(6,.i64 ((X0C (((X0C s.tail b).2.1).tail) (X0C s.tail b).2.2).1))] [X0I ((X0C (((X0C s.tail b).2.1).tail) (X0C s.tail b).2.2).2.1) (decide (((X0C (((X0C s.tail b).2.1).tail) (X0C s.tail b).2.2).1:Int)<((X0C s.tail b).1)))] ?_
        refine OD.nil (CD.seq (CD.region ?_))
        refine OD.rE 6 [(0,.loc 0 0),(5,.i64 ((X0C s.tail b).1)),(6,.i64 ((X0C (((X0C s.tail b).2.1).tail) (X0C s.tail b).2.2).1)),(42,.loc 0 0),(47,.bool (decide (((X0C (((X0C s.tail b).2.1).tail) (X0C s.tail b).2.2).1:Int)<((X0C s.tail b).1))))] ?_
        refine OD.ifP 47 rfl (fun h8=>?_) (fun h8=>?_)
        ·
         refine OD.rL 7 [(5,.i64 ((X0C s.tail b).1)),(6,.i64 ((X0C (((X0C s.tail b).2.1).tail) (X0C s.tail b).2.2).1))] [X0I ((X0C (((X0C s.tail b).2.1).tail) (X0C s.tail b).2.2).2.1) true] ?_
         refine OD.nil (CD.seq (CD.region ?_))
         refine OD.rE 5 [(2,.i64 ((X0C s.tail b).1)),(3,.i64 ((X0C (((X0C s.tail b).2.1).tail) (X0C s.tail b).2.2).1)),(4,.bool true)] ?_
         refine OD.nil (CD.ret ?_)
         (try dsimp only);first | refine X01 ?_ | refine X02 ?_
         exact rO 1 (.tup [.i64 ((X0C s.tail b).1),.i64 ((X0C (((X0C s.tail b).2.1).tail) (X0C s.tail b).2.2).1),.bool true]) [X0I ((X0C (((X0C s.tail b).2.1).tail) (X0C s.tail b).2.2).2.1) true] ((by constructor<;>first | (exfalso;omega) | simp [X0t,X1n,X0i,isR,hi1,hi2,hi3,hi4,hi5,h6,h7,h8]))
        ·
         refine OD.rE 1 [(5,.i64 ((X0C s.tail b).1)),(6,.i64 ((X0C (((X0C s.tail b).2.1).tail) (X0C s.tail b).2.2).1)),(42,.loc 0 0),(47,.bool false),(48,.loc 0 0)] ?_
         refine OD.guard rfl rfl ?_
         refine OD.cO [0] [.loc 0 0,.int .i32 125] (X4y ((X0C (((X0C s.tail b).2.1).tail) (X0C s.tail b).2.2).2.1) (decide (((X0C (((X0C s.tail b).2.1).tail) (X0C s.tail b).2.2).1:Int)<((X0C s.tail b).1))) 125 (by decide)) (fun r L1 hr=>?_)
         rcases hr with⟨hi9,rfl,rfl⟩ | ⟨hi9,rfl,rfl⟩
         ·
          refine OD.rL 5 [(5,.i64 ((X0C s.tail b).1)),(6,.i64 ((X0C (((X0C s.tail b).2.1).tail) (X0C s.tail b).2.2).1))] [X0I (((X0C (((X0C s.tail b).2.1).tail) (X0C s.tail b).2.2).2.1).tail) false] ?_
          refine OD.nil (CD.seq (CD.region ?_))
          refine OD.rE 5 [(2,.i64 ((X0C s.tail b).1)),(3,.i64 ((X0C (((X0C s.tail b).2.1).tail) (X0C s.tail b).2.2).1)),(4,.bool true)] ?_
          refine OD.nil (CD.ret ?_)
          (try dsimp only);first | refine X01 ?_ | refine X02 ?_
          exact rO 1 (.tup [.i64 ((X0C s.tail b).1),.i64 ((X0C (((X0C s.tail b).2.1).tail) (X0C s.tail b).2.2).1),.bool true]) [X0I (((X0C (((X0C s.tail b).2.1).tail) (X0C s.tail b).2.2).2.1).tail) false] ((by constructor<;>first | (exfalso;omega) | simp [X0t,X1n,X0i,isR,hi1,hi2,hi3,hi4,hi5,h6,h7,h8,hi9]))
         ·
          refine OD.rL 5 [(5,.i64 ((X0C s.tail b).1)),(6,.i64 ((X0C (((X0C s.tail b).2.1).tail) (X0C s.tail b).2.2).1))] [X0I ((X0C (((X0C s.tail b).2.1).tail) (X0C s.tail b).2.2).2.1) true] ?_
          refine OD.nil (CD.seq (CD.region ?_))
          refine OD.rE 5 [(2,.i64 ((X0C s.tail b).1)),(3,.i64 ((X0C (((X0C s.tail b).2.1).tail) (X0C s.tail b).2.2).1)),(4,.bool true)] ?_
          refine OD.nil (CD.ret ?_)
          (try dsimp only);first | refine X01 ?_ | refine X02 ?_
          exact rO 1 (.tup [.i64 ((X0C s.tail b).1),.i64 ((X0C (((X0C s.tail b).2.1).tail) (X0C s.tail b).2.2).1),.bool true]) [X0I ((X0C (((X0C s.tail b).2.1).tail) (X0C s.tail b).2.2).2.1) true] ((by constructor<;>first | (exfalso;omega) | simp [X0t,X1n,X0i,isR,hi1,hi2,hi3,hi4,hi5,h6,h7,h8,hi9]))
      ·
       refine CD.skip (CD.seq (CD.region ?_))
       refine OD.rE 6 [(0,.loc 0 0),(5,.i64 ((X0C s.tail b).1)),(6,.i64 (-1)),(42,.loc 0 0),(47,.bool (X0C s.tail b).2.2)] ?_
       refine OD.ifB 47 rfl (fun h10=>?_) (fun h10=>?_)
       ·
        refine OD.rL 7 [(5,.i64 ((X0C s.tail b).1)),(6,.i64 (-1))] [X0I (((X0C s.tail b).2.1).tail) true] ?_
        refine OD.nil (CD.seq (CD.region ?_))
        refine OD.rE 5 [(2,.i64 ((X0C s.tail b).1)),(3,.i64 (-1)),(4,.bool true)] ?_
        refine OD.nil (CD.ret ?_)
        (try dsimp only);first | refine X01 ?_ | refine X02 ?_
        exact rO 1 (.tup [.i64 ((X0C s.tail b).1),.i64 (-1),.bool true]) [X0I (((X0C s.tail b).2.1).tail) true] ((by constructor<;>first | (exfalso;omega) | simp [X0t,X1n,X0i,isR,hi1,hi2,hi3,hi4,hi5,Decidable.of_not_not h6,h10]))
       ·
        refine OD.rE 1 [(5,.i64 ((X0C s.tail b).1)),(6,.i64 (-1)),(42,.loc 0 0),(47,.bool false),(48,.loc 0 0)] ?_
        refine OD.guard rfl rfl ?_
        refine OD.cO [0] [.loc 0 0,.int .i32 125] (X4y (((X0C s.tail b).2.1).tail) (X0C s.tail b).2.2 125 (by decide)) (fun r L1 hr=>?_)
        rcases hr with⟨hi11,rfl,rfl⟩ | ⟨hi11,rfl,rfl⟩
        ·
         refine OD.rL 5 [(5,.i64 ((X0C s.tail b).1)),(6,.i64 (-1))] [X0I ((((X0C s.tail b).2.1).tail).tail) false] ?_
         refine OD.nil (CD.seq (CD.region ?_))
         refine OD.rE 5 [(2,.i64 ((X0C s.tail b).1)),(3,.i64 (-1)),(4,.bool true)] ?_
         refine OD.nil (CD.ret ?_)
         (try dsimp only);first | refine X01 ?_ | refine X02 ?_
         exact rO 1 (.tup [.i64 ((X0C s.tail b).1),.i64 (-1),.bool true]) [X0I ((((X0C s.tail b).2.1).tail).tail) false] ((by constructor<;>first | (exfalso;omega) | simp [X0t,X1n,X0i,isR,hi1,hi2,hi3,hi4,hi5,Decidable.of_not_not h6,h10,hi11]))
        ·
         refine OD.rL 5 [(5,.i64 ((X0C s.tail b).1)),(6,.i64 (-1))] [X0I (((X0C s.tail b).2.1).tail) true] ?_
         refine OD.nil (CD.seq (CD.region ?_))
         refine OD.rE 5 [(2,.i64 ((X0C s.tail b).1)),(3,.i64 (-1)),(4,.bool true)] ?_
         refine OD.nil (CD.ret ?_)
         (try dsimp only);first | refine X01 ?_ | refine X02 ?_
         exact rO 1 (.tup [.i64 ((X0C s.tail b).1),.i64 (-1),.bool true]) [X0I (((X0C s.tail b).2.1).tail) true] ((by constructor<;>first | (exfalso;omega) | simp [X0t,X1n,X0i,isR,hi1,hi2,hi3,hi4,hi5,Decidable.of_not_not h6,h10,hi11]))
     ·
      refine OD.rE 0 [(0,.loc 0 0),(5,.i64 ((X0C s.tail b).1)),(6,.i64 ((X0C s.tail b).1)),(24,.bool false)] ?_
      refine OD.nil ?_
      refine CD.condF rfl ?_
      refine CD.skip (CD.seq (CD.region ?_))
      refine OD.rE 6 [(0,.loc 0 0),(5,.i64 ((X0C s.tail b).1)),(6,.i64 ((X0C s.tail b).1)),(42,.loc 0 0),(47,.bool (X0C s.tail b).2.2)] ?_
      refine OD.ifB 47 rfl (fun h12=>?_) (fun h12=>?_)
      ·
       refine OD.rL 7 [(5,.i64 ((X0C s.tail b).1)),(6,.i64 ((X0C s.tail b).1))] [X0I ((X0C s.tail b).2.1) true] ?_
       refine OD.nil (CD.seq (CD.region ?_))
       refine OD.rE 5 [(2,.i64 ((X0C s.tail b).1)),(3,.i64 ((X0C s.tail b).1)),(4,.bool true)] ?_
       refine OD.nil (CD.ret ?_)
       (try dsimp only);first | refine X01 ?_ | refine X02 ?_
       exact rO 1 (.tup [.i64 ((X0C s.tail b).1),.i64 ((X0C s.tail b).1),.bool true]) [X0I ((X0C s.tail b).2.1) true] ((by constructor<;>first | (exfalso;omega) | simp [X0t,X1n,X0i,isR,hi1,hi2,hi3,hi4,hi5,h12]))
      ·
       refine OD.rE 1 [(5,.i64 ((X0C s.tail b).1)),(6,.i64 ((X0C s.tail b).1)),(42,.loc 0 0),(47,.bool false),(48,.loc 0 0)] ?_
       refine OD.guard rfl rfl ?_
       refine OD.cO [0] [.loc 0 0,.int .i32 125] (X4y ((X0C s.tail b).2.1) (X0C s.tail b).2.2 125 (by decide)) (fun r L1 hr=>?_)
       rcases hr with⟨hi13,rfl,rfl⟩ | ⟨hi13,rfl,rfl⟩
       ·
        refine OD.rL 5 [(5,.i64 ((X0C s.tail b).1)),(6,.i64 ((X0C s.tail b).1))] [X0I (((X0C s.tail b).2.1).tail) false] ?_
        refine OD.nil (CD.seq (CD.region ?_))
        refine OD.rE 5 [(2,.i64 ((X0C s.tail b).1)),(3,.i64 ((X0C s.tail b).1)),(4,.bool true)] ?_
        refine OD.nil (CD.ret ?_)
        (try dsimp only);first | refine X01 ?_ | refine X02 ?_
        exact rO 1 (.tup [.i64 ((X0C s.tail b).1),.i64 ((X0C s.tail b).1),.bool true]) [X0I (((X0C s.tail b).2.1).tail) false] ((by constructor<;>first | (exfalso;omega) | simp [X0t,X1n,X0i,isR,hi1,hi2,hi3,hi4,hi5,h12,hi13]))
       ·
        refine OD.rL 5 [(5,.i64 ((X0C s.tail b).1)),(6,.i64 ((X0C s.tail b).1))] [X0I ((X0C s.tail b).2.1) true] ?_
        refine OD.nil (CD.seq (CD.region ?_))
        refine OD.rE 5 [(2,.i64 ((X0C s.tail b).1)),(3,.i64 ((X0C s.tail b).1)),(4,.bool true)] ?_
        refine OD.nil (CD.ret ?_)
        (try dsimp only);first | refine X01 ?_ | refine X02 ?_
        exact rO 1 (.tup [.i64 ((X0C s.tail b).1),.i64 ((X0C s.tail b).1),.bool true]) [X0I ((X0C s.tail b).2.1) true] ((by constructor<;>first | (exfalso;omega) | simp [X0t,X1n,X0i,isR,hi1,hi2,hi3,hi4,hi5,h12,hi13]))
    ·
     refine OD.rE 2 [(0,.loc 0 0),(16,.bool true)] ?_
     refine OD.nil ?_
     refine CD.condT rfl ?_
     refine CD.seq (CD.region ?_)
     refine OD.rE 3 [(2,.i64 0),(3,.i64 0),(4,.bool false)] ?_
     refine OD.nil (CD.ret ?_)
     (try dsimp only);first | refine X01 ?_ | refine X02 ?_
     exact rO 1 (.tup [.i64 0,.i64 0,.bool false]) [X0I s b] ((by constructor<;>first | (exfalso;omega) | simp [X0t,X1n,X0i,isR,hi1,hi2,hi3,hi4]))
theorem X4S (r:Int):X1Q P ov 120 [.int .i32 r] (.agg (X11 (X34 r))):=by
 refine FnD.intro (by kernel_rfl) (fn:=Tryz.f120) (by kernel_rfl) rfl (by kernel_rfl) fun M a0 g0 hg0=>?_
 refine CD.seq (CD.region ?_)
 refine OD.rL 1 [(0,.int .i32 r),(2,.loc 0 0)] [.box [.i64 0,.lit (.slice none 0 0),.bool false,.lit (.slice none 0 0),.i64 0,.i64 0]] ?_
 refine OD.nil (CD.seq (CD.region ?_))
 refine OD.rE 3 [(2,.loc 0 0),(5,.agg [.int .i32 r,.int .i32 r])] ?_
 refine OD.bsl (e:=2) (cs:=[.int .i32 r,.int .i32 r]) rfl (by kernel_rfl) ?_
 refine OD.rE 1 [(2,.loc 0 0),(7,.agg [.i64 2,.sl 2 1 [.int .i32 r,.int .i32 r],.bool false,.lit (.slice none 0 0),.i64 0,.i64 0])] ?_
 refine OD.reNil 7 [0,0,0,6,0,0] (ds':=[.i64 2,.sl 2 1 [.int .i32 r,.int .i32 r],.bool false,.sl 6 0 ([]),.i64 0,.i64 0]) rfl (by kernel_rfl) ?_
 refine OD.rL 1 [(2,.loc 0 0)] [.box [.i64 2,.sl 2 1 [.int .i32 r,.int .i32 r],.bool false,.sl 6 0 ([]),.i64 0,.i64 0]] ?_
 refine OD.nil (CD.ret ?_)
 exact rP (.agg [.i64 2,.sl 2 1 [.int .i32 r,.int .i32 r],.bool false,.sl 6 0 ([]),.i64 0,.i64 0]) (rfl)
theorem XGR (k:Int) (ks:List Nd) (n:Nat) (hn:ks.length=n):X1Q P ov 77 [.i64 k,.sl 6 n (ks.flatMap X43)] (.agg (X11 (ofN k ks))):=by
 refine FnD.intro (by kernel_rfl) (fn:=Tryz.f77) (by kernel_rfl) rfl (by kernel_rfl) fun M a0 g0 hg0=>?_
 refine CD.seq (CD.region ?_)
 refine OD.rL 1 [(0,.i64 k),(1,.sl 6 n (ks.flatMap X43)),(4,.loc 0 0)] [.box [.i64 0,.lit (.slice none 0 0),.bool false,.lit (.slice none 0 0),.i64 0,.i64 0]] ?_
 refine OD.nil (CD.seq (CD.seq (CD.region ?_)))
 refine OD.rE 3 [(0,.i64 k),(1,.sl 6 n (ks.flatMap X43)),(4,.loc 0 0),(7,.bool (decide ((((n:Nat):Int):Int)=1)))] ?_
 refine OD.nil ?_
 refine CD.condP rfl (fun h1=>?_) (fun h1=>?_)
 ·
  refine CD.seq (CD.region ?_)
  refine OD.rE 1 [(4,.loc 0 0),(8,.sl 6 n (ks.flatMap X43))] ?_
  refine OD.idxSE (i:=0) (e:=6) rfl rfl (by kernel_rfl) (by omega) (by omega) ?_
  refine OD.rE 0 [(4,.loc 0 0),(9,.ep 6 n (ks.flatMap X43) (0*6))] ?_
  obtain⟨x,rfl⟩:=XIM (ks:=ks) (by omega)
  refine OD.ldA (ds:=X11 x) rfl (by kernel_rfl) (by kernel_rfl) (by rw [XC3,X2L];exact X0l (i:=0) X2L (show[x][0]?=some x from rfl)) rfl (by show 0<6;decide) ?_
  refine OD.rL 1 [(4,.loc 0 0)] [.box (X11 x)] ?_
  refine OD.nil (CD.ret ?_)
  exact rP (.agg (X11 x)) (rfl)
 ·
  refine CD.skip (CD.seq (CD.region ?_))
  refine OD.rE 3 [(4,.loc 0 0),(13,.agg [.i64 k,.lit (.slice none 0 0),.bool false,.sl 6 n (ks.flatMap X43),.i64 0,.i64 0])] ?_
  refine OD.reNil 13 [0,2,0,0,0,0] (ds':=[.i64 k,.sl 2 0 ([]),.bool false,.sl 6 n (ks.flatMap X43),.i64 0,.i64 0]) rfl (by kernel_rfl) ?_
  refine OD.rL 1 [(4,.loc 0 0)] [.box [.i64 k,.sl 2 0 ([]),.bool false,.sl 6 n (ks.flatMap X43),.i64 0,.i64 0]] ?_
  refine OD.nil (CD.ret ?_)
  exact rP (.agg [.i64 k,.sl 2 0 ([]),.bool false,.sl 6 n (ks.flatMap X43),.i64 0,.i64 0]) (of_ne hn h1)
end
end Go.Proofs.YtiebldaihnbkmaaGreatDoor
set_option maxRecDepth 100000
set_option maxHeartbeats 4000000
namespace Go.Proofs.YtiebldaihnbkmaaGreatDoor
open Go.Vai Go.Nfa
noncomputable section
theorem XIQ (N:Nat) (hN0:N≤1000000) (piece:Rdr) (hP:∀ s b,okS s→s.length≤N→FnD P ov 98 [.loc 0 0] [X0I s b] (X2j (piece s b))) (hp:Shr piece) (hp1:XIl piece) (s:List Int) (b:Bool) (hs:okS s) (hN:s.length≤N):FnD P ov 75 [.loc 0 0] [X0I s b] (X2j (X94 piece s b)):=by
 refine FnD.intro (by kernel_rfl) (fn:=Tryz.f75) (by kernel_rfl) rfl (by kernel_rfl) fun M a0 g0 hg0=>?_
 refine CD.seq (CD.region ?_)
 refine OD.rL 1 [(0,.loc 0 0),(2,.loc 1 0)] [X0I s b,.box [.i64 0,.lit (.slice none 0 0),.bool false,.lit (.slice none 0 0),.i64 0,.i64 0]] ?_
 refine OD.nil (CD.seq (CD.region ?_))
 refine OD.rE 1 [(0,.loc 0 0),(2,.loc 1 0),(3,.lit (.slice none 0 0))] ?_
 refine OD.nilRow 3 6 rfl ?_
 refine OD.rE 0 [(0,.loc 0 0),(2,.loc 1 0),(3,.row 2 0 0 0)] ?_
 refine OD.nil (CD.seq (CD.block ?_))
 refine CD.weak [0,2,3] 3 (E':=[(0,.loc 0 0),(2,.loc 1 0),(3,.row 2 0 0 0)]) (by kernel_rfl) (by simp [hg0]) (by kernel_rfl) ?_
 refine CD.loop (fun m σ=>∃ (s1:List Int) (b1:Bool) (ks:List Nd) (n:Nat) (f:Nat),σ=⟨[(0,.loc 0 0),(2,.loc 1 0),(3,.row 2 0 n n)],[X0I s1 b1,.box [.i64 0,.lit (.slice none 0 0),.bool false,.lit (.slice none 0 0),.i64 0,.i64 0],.row 6 n (ks.flatMap X43)]⟩∧(X4z piece s.length [] s b=X4z piece f ks s1 b1)∧(b1=false→s1.length≤f)∧(okS s1)∧(ks.length=n)∧(n+s1.length≤s.length)∧m=f+1) (fun m σ hI=>?_) _ ⟨s,b,([]:List Nd),0,s.length,(by kernel_rfl),rfl,fun _=>Nat.le_refl _,hs,rfl,by omega,rfl⟩
 obtain⟨s1,b1,ks,n,f,e,hr,hf,hs1,hn,hl,hm⟩:=hI
 subst e hm
 refine CD.seq ?_
 refine CD.seqM (fun σ=>σ=⟨[(0,.loc 0 0),(2,.loc 1 0),(3,.row 2 0 n n),(23,.bool (decide (b1=false∧0≤nx s1∧¬ nx s1=124∧¬ nx s1=41)))],[X0I s1 b1,.box [.i64 0,.lit (.slice none 0 0),.bool false,.lit (.slice none 0 0),.i64 0,.i64 0],.row 6 n (ks.flatMap X43)]⟩) ?_ (fun σ e=>?_)
 ·
  refine CD.region ?_
  refine OD.rE 6 [(0,.loc 0 0),(2,.loc 1 0),(3,.row 2 0 n n),(9,.bool (!b1))] ?_
  refine OD.ifB 9 rfl (fun h1=>?_) (fun h1=>?_)
  ·
   have h1:=XD2 h1
   refine OD.rE 1 [(0,.loc 0 0),(2,.loc 1 0),(3,.row 2 0 n n),(9,.bool true),(10,.loc 0 0)] ?_
   refine OD.guard rfl rfl ?_
   refine OD.cO [0] [.loc 0 0] (X36 s1 b1) (fun r L1 hr=>?_)
   obtain⟨rfl,rfl⟩:=hr
   refine OD.rE 3 [(0,.loc 0 0),(2,.loc 1 0),(3,.row 2 0 n n),(14,.bool (decide ((0:Int)≤(nx s1))))] ?_
   refine OD.ifP 14 rfl (fun h2=>?_) (fun h2=>?_)
   ·
    refine OD.rE 1 [(0,.loc 0 0),(2,.loc 1 0),(3,.row 2 0 n n),(14,.bool true),(15,.loc 0 0)] ?_
    refine OD.guard rfl rfl ?_
    refine OD.cO [0] [.loc 0 0] (X36 s1 b1) (fun r L1 hr=>?_)
    obtain⟨rfl,rfl⟩:=hr
    refine OD.rE 3 [(0,.loc 0 0),(2,.loc 1 0),(3,.row 2 0 n n),(19,.bool (decide (¬ ((nx s1):Int)=124)))] ?_
    refine OD.ifP 19 rfl (fun h3=>?_) (fun h3=>?_)
    ·
     refine OD.rE 1 [(0,.loc 0 0),(2,.loc 1 0),(3,.row 2 0 n n),(19,.bool true),(20,.loc 0 0)] ?_
     refine OD.guard rfl rfl ?_
     refine OD.cO [0] [.loc 0 0] (X36 s1 b1) (fun r L1 hr=>?_)
     obtain⟨rfl,rfl⟩:=hr
     refine OD.rE 2 [(0,.loc 0 0),(2,.loc 1 0),(3,.row 2 0 n n),(23,.bool (decide (¬ ((nx s1):Int)=41)))] ?_
     refine OD.nil ?_
     have hcut:decide (b1=false∧0≤nx s1∧¬ nx s1=124∧¬ nx s1=41)=(decide (¬ ((nx s1):Int)=41)):=by simp [h1,h2,h3]
     rw [hcut]<;>rfl
    ·
     refine OD.rE 4 [(0,.loc 0 0),(2,.loc 1 0),(3,.row 2 0 n n),(23,.bool false)] ?_
     refine OD.nil ?_
     have hcut:decide (b1=false∧0≤nx s1∧¬ nx s1=124∧¬ nx s1=41)=false:=by simp [h1,h2,Decidable.of_not_not h3]
     rw [hcut]<;>rfl
   ·
    refine OD.rE 9 [(0,.loc 0 0),(2,.loc 1 0),(3,.row 2 0 n n),(23,.bool false)] ?_
    refine OD.nil ?_
    have hcut:decide (b1=false∧0≤nx s1∧¬ nx s1=124∧¬ nx s1=41)=false:=by simp [h1,h2]
    rw [hcut]<;>rfl
  ·
   have h1:=XD3 h1
   refine OD.rE 14 [(0,.loc 0 0),(2,.loc 1 0),(3,.row 2 0 n n),(23,.bool false)] ?_
   refine OD.nil ?_
   have hcut:decide (b1=false∧0≤nx s1∧¬ nx s1=124∧¬ nx s1=41)=false:=by simp [h1]
   rw [hcut]<;>rfl
 ·
  subst e
  refine CD.condP rfl (fun h4=>?_) (fun h4=>?_)
  ·
   refine CD.skip (CD.block (CD.region ?_))
   refine OD.rE 2 [(0,.loc 0 0),(2,.loc 1 0),(24,.row 2 0 n n),(25,.loc 0 0)] ?_
   refine OD.cO [0] [.loc 0 0] (hP s1 b1 hs1 (by omega)) (fun r L1 hr=>?_)
   obtain⟨rfl,rfl⟩:=hr
   refine OD.rE 0 [(0,.loc 0 0),(2,.loc 1 0),(24,.row 2 0 n n),(26,.agg (X11 ((piece s1 b1).1)))] ?_
   refine OD.bsl (e:=6) (cs:=X11 ((piece s1 b1).1)) rfl (by kernel_rfl) ?_
   refine OD.rE 0 [(0,.loc 0 0),(2,.loc 1 0),(24,.row 2 0 n n),(27,.sl 6 1 (X11 ((piece s1 b1).1)))] ?_
   refine OD.appE (enc:=X43) (xs:=ks) (vs:=[((piece s1 b1).1)]) rfl (by kernel_rfl) rfl rfl rfl (XEG ((piece s1 b1).1)) X2L (by first | omega | (simp<;>omega)) (by decide) (by omega) (by omega) ?_
   refine OD.rE 1 [(0,.loc 0 0),(2,.loc 1 0),(3,.row 2 0 (n+1) (n+1))] ?_
   refine OD.nil ?_
   have hlt:=hp1 s1 b1 h4.2.1
   have hle:=X81 h4.2.1
   have hff:=hf h4.1
   exact⟨_,by omega,((piece s1 b1).2.1),(piece s1 b1).2.2,(ks++[((piece s1 b1).1)]),n+1,f - 1,(by kernel_rfl),hr.trans (XGL h4 hf),fun e=>by omega,hs1.sfx (hp s1 b1),by rw [List.length_append,hn];rfl,by omega,rfl⟩
  ·
   refine CD.exit ?_
   refine CD.seq (CD.seq (CD.region ?_))
   refine OD.rE 3 [(0,.loc 0 0),(2,.loc 1 0),(3,.row 2 0 n n),(31,.bool (decide ((((n:Nat):Int):Int)=0)))] ?_
   refine OD.nil ?_
   refine CD.condP rfl (fun h5=>?_) (fun h5=>?_)
   ·
    refine CD.seq (CD.region ?_)
    refine OD.rL 4 [(2,.loc 1 0)] [X0I s1 true,.box [.i64 0,.lit (.slice none 0 0),.bool false,.lit (.slice none 0 0),.i64 0,.i64 0],.row 6 n (ks.flatMap X43)] ?_
    refine OD.nil (CD.seq (CD.region ?_))
    refine OD.rE 1 [(2,.loc 1 0),(35,.agg [.i64 0,.lit (.slice none 0 0),.bool false,.lit (.slice none 0 0),.i64 0,.i64 0])] ?_
    refine OD.reNil 35 [0,2,0,6,0,0] (ds':=[.i64 0,.sl 2 0 ([]),.bool false,.sl 6 0 ([]),.i64 0,.i64 0]) rfl (by kernel_rfl) ?_
    refine OD.rL 1 [(2,.loc 1 0)] [X0I s1 true,.box [.i64 0,.sl 2 0 ([]),.bool false,.sl 6 0 ([]),.i64 0,.i64 0],.row 6 n (ks.flatMap X43)] ?_
    refine OD.nil (CD.ret ?_)
    (try dsimp only);first | refine X01 ?_ | refine X02 ?_
    exact rO 1 (.agg [.i64 0,.sl 2 0 ([]),.bool false,.sl 6 0 ([]),.i64 0,.i64 0]) [X0I s1 true] (XGP hr (by assumption) hn (by omega))
   ·
    refine CD.skip (CD.seq (CD.region ?_))
    refine OD.freeze 3 rfl rfl (Nat.le_refl _) ?_
    refine OD.rE 1 [(2,.loc 1 0),(36,.sl 6 n (ks.flatMap X43))] ?_
    refine OD.cE (XGR 3 ks n (by assumption)) ?_
    refine OD.rL 1 [(2,.loc 1 0)] [X0I s1 b1,.box (X11 (ofN 3 ks)),.dead] ?_
    refine OD.nil (CD.ret ?_)
    (try dsimp only);first | refine X01 ?_ | refine X02 ?_
    exact rO 1 (.agg (X11 (ofN 3 ks))) [X0I s1 b1] (XEH hr (by assumption) hn (by omega))
end
end Go.Proofs.YtiebldaihnbkmaaGreatDoor
