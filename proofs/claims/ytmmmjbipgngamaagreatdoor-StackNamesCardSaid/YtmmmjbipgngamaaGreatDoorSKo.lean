/-
  What is proved here: what functions of the stack come to (walks that a program of mine has printed). what is found at the end of the statement of names. which names may be; a named one does not go (a walk that a program of mine has printed). No conditions but those that the theorems state.
-/
import Derived.Test.YtmmmjbipgngamaaGreatDoorSKk
import Derived.Test.YtmmmjbipgngamaaGreatDoorSKi
set_option linter.unusedVariables false
set_option linter.unusedSimpArgs false
set_option maxRecDepth 100000
set_option maxHeartbeats 4000000
namespace Go.Proofs.YtmmmjbipgngamaaGreatDoor
open Go.Vai Go.RowKit
noncomputable section
theorem XDv (s:ByteArray):X2u P ov 38 [.str s] (.bool (X3N s)):=by
 refine FnD.intro (by kernel_rfl) (fn:=Tryz.f38) (by kernel_rfl) rfl (by kernel_rfl) fun M a0 g0 hg0=>?_
 refine CD.seq ?_
 refine CD.region ?_
 refine OD.runE 1 [0] (E':=[(0,.str s)]) (by kernel_rfl) ?_
 refine OD.nil ?_
 refine CD.seq ?_
 refine CD.region ?_
 refine OD.runE 1 [0,3] (E':=[(0,.str s),(3,.fn 59)]) (by kernel_rfl) ?_
 refine OD.nil ?_
 refine CD.seq ?_
 refine CD.region ?_
 refine OD.runE 1 [0,3,4] (E':=[(0,.str s),(3,.fn 59),(4,.str s)]) (by kernel_rfl) ?_
 refine OD.neS rfl rfl ?_
 refine OD.runE 1 [0,3,6] (E':=[(0,.str s),(3,.fn 59),(6,.bool (decide (¬ s=ByteArray.empty)))]) (by kernel_rfl) ?_
 refine OD.ifP 6 rfl (fun h1=>?_) (fun h1=>?_)
 ·
  refine OD.runE 5 [0,3,11] (E':=[(0,.str s),(3,.fn 59),(11,.bool (decide ((((s.size:Nat):Int):Int)≤20)))]) (by kernel_rfl) ?_
  refine OD.ifP 11 rfl (fun h2=>?_) (fun h2=>?_)
  ·
   refine OD.runE 2 [11,12,13] (E':=[(11,.bool true),(12,.str s),(13,.fn 59)]) (by kernel_rfl) ?_
   refine OD.guard rfl rfl ?_
   refine OD.callE (XCp s) rfl (by kernel_rfl) (by kernel_rfl) (by kernel_rfl) ?_
   refine OD.runE 3 [2] (E':=[(2,.bool (!(decide (0≤Lib.idxFunc X61 true s))))]) (by kernel_rfl) ?_
   refine OD.nil ?_
   refine CD.ret ?_
   exact X2v (by kernel_rfl) (by kernel_rfl) (r:=.bool (!(decide (0≤Lib.idxFunc X61 true s)))) ((congrArg D.bool (show _=X65 s by unfold X65;simp only [h1,h2,decide_true,decide_false,Bool.true_and,Bool.false_and,Bool.and_true,Bool.and_false,Bool.true_or,Bool.false_or,Bool.or_true,Bool.or_false,Bool.not_true,Bool.not_false,if_true,if_false,not_true,not_false_eq_true,and_true,true_and,or_true,true_or,or_false,false_or,and_false,false_and,ite_true,ite_false,reduceIte,Bool.false_eq_true])).trans (congrArg D.bool (X5X s)))
  ·
   refine OD.runE 6 [2] (E':=[(2,.bool false)]) (by kernel_rfl) ?_
   refine OD.nil ?_
   refine CD.ret ?_
   exact X2v (by kernel_rfl) (by kernel_rfl) (r:=.bool false) ((congrArg D.bool (show _=X65 s by unfold X65;simp only [h1,h2,decide_true,decide_false,Bool.true_and,Bool.false_and,Bool.and_true,Bool.and_false,Bool.true_or,Bool.false_or,Bool.or_true,Bool.or_false,Bool.not_true,Bool.not_false,if_true,if_false,not_true,not_false_eq_true,and_true,true_and,or_true,true_or,or_false,false_or,and_false,false_and,ite_true,ite_false,reduceIte,Bool.false_eq_true])).trans (congrArg D.bool (X5X s)))
 ·
  refine OD.runE 11 [2] (E':=[(2,.bool false)]) (by kernel_rfl) ?_
  refine OD.nil ?_
  refine CD.ret ?_
  exact X2v (by kernel_rfl) (by kernel_rfl) (r:=.bool false) ((congrArg D.bool (show _=X65 s by unfold X65;simp only [h1,decide_true,decide_false,Bool.true_and,Bool.false_and,Bool.and_true,Bool.and_false,Bool.true_or,Bool.false_or,Bool.or_true,Bool.or_false,Bool.not_true,Bool.not_false,if_true,if_false,not_true,not_false_eq_true,and_true,true_and,or_true,true_or,or_false,false_or,and_false,false_and,ite_true,ite_false,reduceIte,Bool.false_eq_true])).trans (congrArg D.bool (X5X s)))
theorem XCs (s:ByteArray) (hs:s.size≤1000000):X2u P ov 24 [.str s] (.bool (X3N s)):=by
 refine FnD.intro (by kernel_rfl) (fn:=Tryz.f24) (by kernel_rfl) rfl (by kernel_rfl) fun M a0 g0 hg0=>?_
 refine CD.seq ?_
 refine CD.region ?_
 refine OD.runE 1 [0] (E':=[(0,.str s)]) (by kernel_rfl) ?_
 refine OD.nil ?_
 refine CD.seq ?_
 refine CD.seq ?_
 refine CD.region ?_
 refine OD.runE 1 [0,3] (E':=[(0,.str s),(3,.int .i64 0)]) (by kernel_rfl) ?_
 refine OD.nil ?_
 refine CD.block ?_
 refine CD.weak [0,3] 0 (E':=[(0,.str s),(3,.int .i64 0)]) (by kernel_rfl) (by simp [hg0]) (by kernel_rfl) ?_
 refine CD.loop (fun m σ=>∃ (i:Nat),σ=⟨[(0,.str s),(3,.int .i64 ((i:Nat):Int))],[]⟩∧(i≤s.size)∧(∀ j,j<i→X2I (sB s j))∧m=s.size - i) (fun m σ hI=>?_) _ ⟨0,(by kernel_rfl),Nat.zero_le _,(fun j hj=>absurd hj (Nat.not_lt_zero j)),rfl⟩
 obtain⟨i,e,hi,hg,hm⟩:=hI
 subst e hm
 refine CD.seq ?_
 refine CD.seq ?_
 refine CD.region ?_
 refine OD.runE 4 [0,3,7] (E':=[(0,.str s),(3,.int .i64 ((i:Nat):Int)),(7,.bool (decide ((((i:Nat):Int):Int)<((s.size:Nat):Int))))]) (by kernel_rfl) ?_
 refine OD.nil ?_
 refine CD.condP rfl (fun h1=>?_) (fun h1=>?_)
 ·
  refine CD.skip ?_
  refine CD.seq ?_
  refine CD.block ?_
  refine CD.seq ?_
  refine CD.region ?_
  refine OD.runE 2 [0,3,10,11] (E':=[(0,.str s),(3,.int .i64 ((i:Nat):Int)),(10,.str s),(11,.int .i64 ((i:Nat):Int))]) (by kernel_rfl) ?_
  refine OD.ixS (i:=i) rfl rfl (by kernel_rfl) (by omega) (by omega) (fun hb1=>?_)
  refine OD.runE 2 [0,3,14] (E':=[(0,.str s),(3,.int .i64 ((i:Nat):Int)),(14,.bool (decide ((97:Int)≤((sB s i:Nat):Int))))]) (by kernel_rfl) ?_
  refine OD.ifP 14 rfl (fun h2=>?_) (fun h2=>?_)
  ·
   refine OD.runE 2 [0,3,14,15,16] (E':=[(0,.str s),(3,.int .i64 ((i:Nat):Int)),(14,.bool true),(15,.str s),(16,.int .i64 ((i:Nat):Int))]) (by kernel_rfl) ?_
   refine OD.guard rfl rfl ?_
   refine OD.ixS (i:=i) rfl rfl (by kernel_rfl) (by omega) (by omega) (fun hb2=>?_)
   refine OD.runE 3 [0,3,20] (E':=[(0,.str s),(3,.int .i64 ((i:Nat):Int)),(20,.bool (decide ((((sB s i:Nat):Int):Int)≤122)))]) (by kernel_rfl) ?_
   refine OD.ifP 20 rfl (fun h3=>?_) (fun h3=>?_)
   ·
    refine OD.runE 12 [0,3,32] (E':=[(0,.str s),(3,.int .i64 ((i:Nat):Int)),(32,.bool false)]) (by kernel_rfl) ?_
    refine OD.nil ?_
    refine CD.condF rfl ?_
    refine CD.skip ?_
    refine CD.region ?_
    refine OD.runE 2 [0,9] (E':=[(0,.str s),(9,.int .i64 (X0h .i64 (((i:Nat):Int)+1)))]) (by kernel_rfl) ?_
    refine OD.is 9 rfl (wrn (m:=i+1) (by omega) (by omega)) ?_
    refine OD.runE 1 [0,3] (E':=[(0,.str s),(3,.int .i64 ((i+1:Nat):Int))]) (by kernel_rfl) ?_
    refine OD.nil ?_
    exact⟨_,by omega,i+1,(by kernel_rfl),by omega,(fun j hj=>by by_cases e:j=i;(subst e;unfold X2I;omega);exact hg j (by omega)),rfl⟩
   ·
    refine OD.runE 2 [0,3,20,21,22] (E':=[(0,.str s),(3,.int .i64 ((i:Nat):Int)),(20,.bool false),(21,.str s),(22,.int .i64 ((i:Nat):Int))]) (by kernel_rfl) ?_
    refine OD.guard rfl rfl ?_
    refine OD.ixS (i:=i) rfl rfl (by kernel_rfl) (by omega) (by omega) (fun hb3=>?_)
    refine OD.runE 2 [0,3,20,25] (E':=[(0,.str s),(3,.int .i64 ((i:Nat):Int)),(20,.bool false),(25,.bool (decide ((48:Int)≤((sB s i:Nat):Int))))]) (by kernel_rfl) ?_
    refine OD.ifP 25 rfl (fun h4=>?_) (fun h4=>?_)
    ·
     refine OD.runE 2 [0,3,20,25,26,27] (E':=[(0,.str s),(3,.int .i64 ((i:Nat):Int)),(20,.bool false),(25,.bool true),(26,.str s),(27,.int .i64 ((i:Nat):Int))]) (by kernel_rfl) ?_
     refine OD.guard rfl rfl ?_
     refine OD.ixS (i:=i) rfl rfl (by kernel_rfl) (by omega) (by omega) (fun hb4=>?_)
     refine OD.runE 4 [0,3,32] (E':=[(0,.str s),(3,.int .i64 ((i:Nat):Int)),(32,.bool (!(decide ((((sB s i:Nat):Int):Int)≤57))))]) (by kernel_rfl) ?_
     refine OD.nil ?_
     refine CD.condB rfl (fun h5=>?_) (fun h5=>?_)
     ·
      have h5:=ndt h5
      refine CD.seq ?_
      refine CD.region ?_
      refine OD.runE 1 [2] (E':=[(2,.bool false)]) (by kernel_rfl) ?_
      refine OD.nil ?_
      refine CD.ret ?_
      exact X2v (by kernel_rfl) (by kernel_rfl) (r:=.bool false) (by first | exact congrArg D.bool (X1w (i:=i) (by omega) (by unfold X2I;omega)) | exact congrArg D.bool (X1J (by assumption)) | exact congrArg D.bool (X1x (fun j hj=>hg j (by omega)) (by assumption)))
     ·
      have h5:=ndf h5
      refine CD.skip ?_
      refine CD.region ?_
      refine OD.runE 2 [0,9] (E':=[(0,.str s),(9,.int .i64 (X0h .i64 (((i:Nat):Int)+1)))]) (by kernel_rfl) ?_
      refine OD.is 9 rfl (wrn (m:=i+1) (by omega) (by omega)) ?_
      refine OD.runE 1 [0,3] (E':=[(0,.str s),(3,.int .i64 ((i+1:Nat):Int))]) (by kernel_rfl) ?_
      refine OD.nil ?_
      exact⟨_,by omega,i+1,(by kernel_rfl),by omega,(fun j hj=>by by_cases e:j=i;(subst e;unfold X2I;omega);exact hg j (by omega)),rfl⟩
    ·
     refine OD.runE 7 [0,3,32] (E':=[(0,.str s),(3,.int .i64 ((i:Nat):Int)),(32,.bool true)]) (by kernel_rfl) ?_
     refine OD.nil ?_
     refine CD.condT rfl ?_
     refine CD.seq ?_
     refine CD.region ?_
     refine OD.runE 1 [2] (E':=[(2,.bool false)]) (by kernel_rfl) ?_
     refine OD.nil ?_
     refine CD.ret ?_
     exact X2v (by kernel_rfl) (by kernel_rfl) (r:=.bool false) (by first | exact congrArg D.bool (X1w (i:=i) (by omega) (by unfold X2I;omega)) | exact congrArg D.bool (X1J (by assumption)) | exact congrArg D.bool (X1x (fun j hj=>hg j (by omega)) (by assumption)))
  ·
   refine OD.runE 8 [0,3,20,21,22] (E':=[(0,.str s),(3,.int .i64 ((i:Nat):Int)),(20,.bool false),(21,.str s),(22,.int .i64 ((i:Nat):Int))]) (by kernel_rfl) ?_
   refine OD.guard rfl rfl ?_
   refine OD.ixS (i:=i) rfl rfl (by kernel_rfl) (by omega) (by omega) (fun hb5=>?_)
   refine OD.runE 2 [0,3,20,25] (E':=[(0,.str s),(3,.int .i64 ((i:Nat):Int)),(20,.bool false),(25,.bool (decide ((48:Int)≤((sB s i:Nat):Int))))]) (by kernel_rfl) ?_
   refine OD.ifP 25 rfl (fun h6=>?_) (fun h6=>?_)
   ·
    refine OD.runE 2 [0,3,20,25,26,27] (E':=[(0,.str s),(3,.int .i64 ((i:Nat):Int)),(20,.bool false),(25,.bool true),(26,.str s),(27,.int .i64 ((i:Nat):Int))]) (by kernel_rfl) ?_
    refine OD.guard rfl rfl ?_
    refine OD.ixS (i:=i) rfl rfl (by kernel_rfl) (by omega) (by omega) (fun hb6=>?_)
    refine OD.runE 4 [0,3,32] (E':=[(0,.str s),(3,.int .i64 ((i:Nat):Int)),(32,.bool (!(decide ((((sB s i:Nat):Int):Int)≤57))))]) (by kernel_rfl) ?_
    refine OD.nil ?_
    refine CD.condB rfl (fun h7=>?_) (fun h7=>?_)
    ·
     have h7:=ndt h7
     refine CD.seq ?_
     refine CD.region ?_
     refine OD.runE 1 [2] (E':=[(2,.bool false)]) (by kernel_rfl) ?_
     refine OD.nil ?_
     refine CD.ret ?_
     exact X2v (by kernel_rfl) (by kernel_rfl) (r:=.bool false) (by first | exact congrArg D.bool (X1w (i:=i) (by omega) (by unfold X2I;omega)) | exact congrArg D.bool (X1J (by assumption)) | exact congrArg D.bool (X1x (fun j hj=>hg j (by omega)) (by assumption)))
    ·
     have h7:=ndf h7
     refine CD.skip ?_
     refine CD.region ?_
     refine OD.runE 2 [0,9] (E':=[(0,.str s),(9,.int .i64 (X0h .i64 (((i:Nat):Int)+1)))]) (by kernel_rfl) ?_
     refine OD.is 9 rfl (wrn (m:=i+1) (by omega) (by omega)) ?_
     refine OD.runE 1 [0,3] (E':=[(0,.str s),(3,.int .i64 ((i+1:Nat):Int))]) (by kernel_rfl) ?_
     refine OD.nil ?_
     exact⟨_,by omega,i+1,(by kernel_rfl),by omega,(fun j hj=>by by_cases e:j=i;(subst e;unfold X2I;omega);exact hg j (by omega)),rfl⟩
   ·
    refine OD.runE 7 [0,3,32] (E':=[(0,.str s),(3,.int .i64 ((i:Nat):Int)),(32,.bool true)]) (by kernel_rfl) ?_
    refine OD.nil ?_
    refine CD.condT rfl ?_
    refine CD.seq ?_
    refine CD.region ?_
    refine OD.runE 1 [2] (E':=[(2,.bool false)]) (by kernel_rfl) ?_
    refine OD.nil ?_
    refine CD.ret ?_
    exact X2v (by kernel_rfl) (by kernel_rfl) (r:=.bool false) (by first | exact congrArg D.bool (X1w (i:=i) (by omega) (by unfold X2I;omega)) | exact congrArg D.bool (X1J (by assumption)) | exact congrArg D.bool (X1x (fun j hj=>hg j (by omega)) (by assumption)))
 ·
  refine CD.exit ?_
  refine CD.seq ?_
  refine CD.region ?_
  refine OD.runE 4 [0,36] (E':=[(0,.str s),(36,.bool (decide ((1:Int)≤((s.size:Nat):Int))))]) (by kernel_rfl) ?_
  refine OD.ifP 36 rfl (fun h8=>?_) (fun h8=>?_)
  ·
   refine OD.runE 5 [2] (E':=[(2,.bool (decide ((((s.size:Nat):Int):Int)≤20)))]) (by kernel_rfl) ?_
   refine OD.nil ?_
   refine CD.ret ?_
   exact X2v (by kernel_rfl) (by kernel_rfl) (r:=.bool (decide ((((s.size:Nat):Int):Int)≤20))) (by first | exact congrArg D.bool (X1w (i:=i) (by omega) (by unfold X2I;omega)) | exact congrArg D.bool (X1J (by assumption)) | exact congrArg D.bool (X1x (fun j hj=>hg j (by omega)) (by assumption)))
  ·
   refine OD.runE 5 [2] (E':=[(2,.bool false)]) (by kernel_rfl) ?_
   refine OD.nil ?_
   refine CD.ret ?_
   exact X2v (by kernel_rfl) (by kernel_rfl) (r:=.bool false) (by first | exact congrArg D.bool (X1w (i:=i) (by omega) (by unfold X2I;omega)) | exact congrArg D.bool (X1J (by assumption)) | exact congrArg D.bool (X1x (fun j hj=>hg j (by omega)) (by assumption)))
theorem XDw (room:Int) (name text:ByteArray):FnD P ov 14 [.loc 0 0,.str name,.str text] [.box [.int .i64 room,.int .i64 0,.row 1 0 0 0],.row 3 0 (([]:List X0g).flatMap X0U)] (fun r L1=>∃ (l2 r2:List X0g) (ok:Bool),(∀ tx,StN name text tx ok 0 l2 0)∧l2.length+r2.length≤1∧ok=(X3N name && decide (¬ text=ByteArray.empty))∧r=.bool ok∧L1=[.box [.int .i64 room,.int .i64 0,.row 1 0 l2.length (l2.length+r2.length)],.row 3 (l2.length+r2.length) ((l2++r2).flatMap X0U)]):=by
 refine FnD.intro (by kernel_rfl) (fn:=Tryz.f14) (by kernel_rfl) rfl (by kernel_rfl) fun M a0 g0 hg0=>?_
 refine CD.seq ?_
 refine CD.region ?_
 refine OD.runE 1 [0,1,2] (E':=[(0,.loc 0 0),(1,.str name),(2,.str text)]) (by kernel_rfl) ?_
 refine OD.nil ?_
 refine CD.seq ?_
 refine CD.seq ?_
 refine CD.region ?_
 refine OD.runE 4 [0,1,2,10,11] (E':=[(0,.loc 0 0),(1,.str name),(2,.str text),(10,.bool false),(11,.str name)]) (by kernel_rfl) ?_
 refine OD.guard rfl rfl ?_
 refine OD.callE (XDv name) rfl (by kernel_rfl) (by kernel_rfl) (by kernel_rfl) ?_
 refine OD.runE 3 [0,1,2,15] (E':=[(0,.loc 0 0),(1,.str name),(2,.str text),(15,.bool (!(X3N name)))]) (by kernel_rfl) ?_
 refine OD.ifB 15 rfl (fun h1=>?_) (fun h1=>?_)
 ·
  have h1:=XCX h1
  refine OD.runE 3 [0,1,2,18] (E':=[(0,.loc 0 0),(1,.str name),(2,.str text),(18,.bool true)]) (by kernel_rfl) ?_
  refine OD.nil ?_
  refine CD.condT rfl ?_
  refine CD.seq ?_
  refine CD.region ?_
  refine OD.runE 1 [6] (E':=[(6,.bool false)]) (by kernel_rfl) ?_
  refine OD.nil ?_
  refine CD.ret ?_
  first | refine X1H ?_ | refine X1I ?_ | (dsimp only;first | refine X1H ?_ | refine X1I ?_)
  refine XAL 2 (r:=.bool false) (L':=[.box [.int .i64 room,.int .i64 0,.row 1 0 0 0],.row 3 0 (([]:List X0g).flatMap X0U)]) (by kernel_rfl) ?_ ?_ (by kernel_rfl) (by kernel_rfl) ?_
  · exact Nat.le_of_ble_eq_true (by kernel_rfl)
  · exact Nat.le_of_ble_eq_true (by kernel_rfl)
  · exact⟨[],[],false,fun _=>.init0,by simp,(by simp [*]),rfl,rfl⟩
 ·
  have h1:=XBg h1
  refine OD.runE 1 [0,1,2,15,16] (E':=[(0,.loc 0 0),(1,.str name),(2,.str text),(15,.bool false),(16,.str text)]) (by kernel_rfl) ?_
  refine OD.guard rfl rfl ?_
  refine OD.eqS rfl rfl ?_
  refine OD.runE 1 [0,1,2,18] (E':=[(0,.loc 0 0),(1,.str name),(2,.str text),(18,.bool (decide (text=ByteArray.empty)))]) (by kernel_rfl) ?_
  refine OD.nil ?_
  refine CD.condP rfl (fun h2=>?_) (fun h2=>?_)
  ·
   refine CD.seq ?_
   refine CD.region ?_
   refine OD.runE 1 [6] (E':=[(6,.bool false)]) (by kernel_rfl) ?_
   refine OD.nil ?_
   refine CD.ret ?_
   first | refine X1H ?_ | refine X1I ?_ | (dsimp only;first | refine X1H ?_ | refine X1I ?_)
   refine XAL 2 (r:=.bool false) (L':=[.box [.int .i64 room,.int .i64 0,.row 1 0 0 0],.row 3 0 (([]:List X0g).flatMap X0U)]) (by kernel_rfl) ?_ ?_ (by kernel_rfl) (by kernel_rfl) ?_
   · exact Nat.le_of_ble_eq_true (by kernel_rfl)
   · exact Nat.le_of_ble_eq_true (by kernel_rfl)
   · exact⟨[],[],false,fun _=>.init0,by simp,(by simp [*]),rfl,rfl⟩
  ·
   refine CD.skip ?_
   refine CD.seq ?_
   refine CD.region ?_
   refine OD.runE 2 [0,1,2,19,20] (E':=[(0,.loc 0 0),(1,.str name),(2,.str text),(19,.loc 0 0),(20,.str name)]) (by kernel_rfl) ?_
   refine OD.callFz (jb:=0) (jr:=1) (o:=0) (n:=0) (c:=0) (e:=3) (N:=0) (d0:=.int .i64 room) (d1:=.int .i64 0) (cells:=([]:List D)) (rest:=[.str name]) (R:=fun r=>r=.int .i64 (-1)) (X7K room 0 [] name (by decide)) rfl (by kernel_rfl) rfl rfl rfl rfl (by kernel_rfl) (Nat.le_refl _) (Nat.le_refl _) (by kernel_rfl) (fun r hr=>by rw [hr];rfl) (fun r hr=>?_)
   subst hr
   refine OD.runE 1 [0,1,2,7] (E':=[(0,.loc 0 0),(1,.str name),(2,.str text),(7,.int .i64 (-1))]) (by kernel_rfl) ?_
   refine OD.nil ?_
   refine CD.seq ?_
   refine CD.seq ?_
   refine CD.region ?_
   refine OD.runE 14 [0,1,2,7,34,35] (E':=[(0,.loc 0 0),(1,.str name),(2,.str text),(7,.int .i64 (-1)),(34,.bool true),(35,.loc 0 0)]) (by kernel_rfl) ?_
   refine OD.guard rfl rfl ?_
   refine OD.callFz (jb:=0) (jr:=1) (o:=0) (n:=0) (c:=0) (e:=3) (N:=0) (d0:=.int .i64 room) (d1:=.int .i64 0) (cells:=([]:List D)) (rest:=[.bool false]) (R:=fun r=>r=.int .i64 0) (X82 room 0 [] false (by decide)) rfl (by kernel_rfl) rfl rfl rfl rfl (by kernel_rfl) (Nat.le_refl _) (Nat.le_refl _) (by kernel_rfl) (fun r hr=>by rw [hr];rfl) (fun r hr=>?_)
   subst hr
   refine OD.runE 2 [0,1,2,7,38] (E':=[(0,.loc 0 0),(1,.str name),(2,.str text),(7,.int .i64 (-1)),(38,.bool false)]) (by kernel_rfl) ?_
   refine OD.nil ?_
   refine CD.condF rfl ?_
   refine CD.skip ?_
   refine CD.seq ?_
   refine CD.seq ?_
   refine CD.region ?_
   refine OD.runE 2 [0,1,2,7,40] (E':=[(0,.loc 0 0),(1,.str name),(2,.str text),(7,.int .i64 (-1)),(40,.bool true)]) (by kernel_rfl) ?_
   refine OD.nil ?_
   refine CD.condT rfl ?_
   refine CD.region ?_
   refine OD.runE 4 [0,41,44] (E':=[(0,.loc 0 0),(41,.loc 0 0),(44,.agg [.str name,.str text,.bool false])]) (by kernel_rfl) ?_
   refine OD.bslR (e:=3) (cs:=[.str name,.str text,.bool false]) rfl (by kernel_rfl) ?_
   refine OD.runE 4 [41,45,49] (E':=[(41,.loc 0 0),(45,.row 2 0 1 1),(49,.row 1 0 0 0)]) (by kernel_rfl) ?_
   refine OD.appFR (e:=3) (ds:=[]) (m:=0) rfl (by kernel_rfl) rfl rfl rfl rfl (Nat.le_refl _) rfl rfl (by decide) (by decide) (by decide) ?_
   refine OD.run 3 [] (E':=[]) (L':=[.box [.int .i64 room,.int .i64 0,.row 2 0 1 1],.row 3 0 (([]:List X0g).flatMap X0U),.row 3 1 ([.str name,.str text,.bool false])]) (by kernel_rfl) ?_
   refine OD.rowIs 2 rfl (cs':=([(name,text,false)]:List X0g).flatMap X0U) rfl ?_
   refine OD.swap 1 2 rfl rfl ?_
   refine OD.weak [] 2 (E':=[]) (by kernel_rfl) (by simp [hg0]) (by kernel_rfl) ?_
   refine OD.run 0 [] (E':=[]) (L':=[.box [.int .i64 room,.int .i64 0,.row 1 0 1 1],.row 3 1 (([(name,text,false)]:List X0g).flatMap X0U)]) (by kernel_rfl) ?_
   refine OD.nil ?_
   refine CD.seq ?_
   refine CD.region ?_
   refine OD.runE 1 [6] (E':=[(6,.bool true)]) (by kernel_rfl) ?_
   refine OD.nil ?_
   refine CD.ret ?_
   first | refine X1H ?_ | refine X1I ?_ | (dsimp only;first | refine X1H ?_ | refine X1I ?_)
   refine XAL 2 (r:=.bool true) (L':=[.box [.int .i64 room,.int .i64 0,.row 1 0 1 1],.row 3 1 (([(name,text,false)]:List X0g).flatMap X0U)]) (by kernel_rfl) ?_ ?_ (by kernel_rfl) (by kernel_rfl) ?_
   · exact Nat.le_of_ble_eq_true (by kernel_rfl)
   · exact Nat.le_of_ble_eq_true (by kernel_rfl)
   · exact⟨[(name,text,false)],[],true,fun _=>.init1,by simp,(by simp [*]),rfl,rfl⟩
end
end Go.Proofs.YtmmmjbipgngamaaGreatDoor
namespace Go.Vai
noncomputable section
def AuP (x:ByteArray) (ok:Bool) (nn jj:Nat) (au:Bool):Prop:=au=true↔(ok=false∧∃ j,j<jj∧x=bn j∧nn≤j+2)
theorem AuP.first {x:ByteArray} {ok:Bool} {nn:Nat}:AuP x ok nn 0 false:=⟨fun h=>(by cases h),fun⟨_,j,h,_⟩=>absurd h (Nat.not_lt_zero j)⟩
theorem AuP.step {x:ByteArray} {ok:Bool} {nn jj:Nat} {au au':Bool} (h:AuP x ok nn jj au) (hs:au'=true↔(au=true∨(ok=false∧x=(⟨#[98]⟩:ByteArray)++X2l jj∧nn≤jj+2))):AuP x ok nn (jj+1) au':=by
 unfold AuP at h ⊢
 rw [hs,h]
 constructor
 ·
  rintro(⟨h1,j,h2,h3⟩ | ⟨h1,h2,h3⟩)
  · exact⟨h1,j,by omega,h3⟩
  · exact⟨h1,jj,by omega,h2,h3⟩
 ·
  rintro⟨h1,j,h2,h3,h4⟩
  by_cases e:j=jj
  · subst e;exact .inr ⟨h1,h3,h4⟩
  · exact .inl ⟨h1,j,by omega,h3,h4⟩
theorem XCt {x y tx:ByteArray} {ok au:Bool} {nn nx:Nat} {l:List X0g} (h:StN x y tx ok nn l nx) (ha:AuP x ok nn nn au):(X15 l x).2=(ok || au):=by
 rcases h with⟨rfl,h1,_⟩ | ⟨rfl,rfl,_⟩
 · rw [X85 h1];rfl
 ·
  unfold AuP at ha
  rw [Bool.false_or,Bool.eq_iff_iff,XBE,ha]
  simp
theorem XCu {x y tx:ByteArray} {ok:Bool} {nn nx:Nat} {l:List X0g} (h:StN x y tx ok nn l nx) (ho:ok=true):(X15 l x).1=y:=by
 rcases h with⟨_,h1,_⟩ | ⟨h0,_,_⟩
 · rw [X85 h1]
 · rw [ho]at h0;cases h0
theorem xS_ne:¬ (⟨#[120]⟩:ByteArray)=ByteArray.empty:=fun h=>by
 have:=congrArg ByteArray.size h
 exact absurd this (by decide)
theorem XBF {ok au gb nb p:Bool} (hok:ok=(nb && p)) (hge:gb=(ok || au)):(nb=true→ok=p)∧(nb=false→ok=false)∧(ok=true→gb=true)∧(ok=false→gb=au):=by
 subst hok hge
 cases nb<;>cases p<;>cases au<;>decide
end
end Go.Vai
set_option maxRecDepth 100000
set_option maxHeartbeats 4000000
namespace Go.Proofs.YtmmmjbipgngamaaGreatDoor
open Go.Vai Go.RowKit
noncomputable section
theorem X5l (a b:ByteArray) (z:Int) (has:a.size≤140737488351232) (hbs:b.size≤140737488351232) (hz8 : -9223372036854775808≤z∧z<9223372036854775808):X2u P ov 6 [.str a,.str b,.int .i64 z] (.bool true):=by
 refine FnD.intro (by kernel_rfl) (fn:=Tryz.f6) (by kernel_rfl) rfl (by kernel_rfl) fun M a0 g0 hg0=>?_
 refine CD.seq ?_
 refine CD.region ?_
 refine OD.runE 1 [0,1,2] (E':=[(0,.str a),(1,.str b),(2,.int .i64 z)]) (by kernel_rfl) ?_
 refine OD.nil ?_
 refine CD.seq ?_
 refine CD.region ?_
 refine OD.callE (XB6) rfl (by kernel_rfl) (by kernel_rfl) (by kernel_rfl) ?_
 refine OD.runE 1 [0,1,2,7] (E':=[(0,.str a),(1,.str b),(2,.int .i64 z),(7,.bool true)]) (by kernel_rfl) ?_
 refine OD.nil ?_
 refine CD.seq ?_
 refine CD.seq ?_
 refine CD.region ?_
 refine OD.runE 2 [0,1,2,17] (E':=[(0,.str a),(1,.str b),(2,.int .i64 z),(17,.bool false)]) (by kernel_rfl) ?_
 refine OD.nil ?_
 refine CD.condF rfl ?_
 refine CD.skip ?_
 refine CD.seq ?_
 refine CD.region ?_
 refine OD.runE 1 [1,2,18] (E':=[(1,.str b),(2,.int .i64 z),(18,.str a)]) (by kernel_rfl) ?_
 refine OD.callE (X83 a 25) rfl (by kernel_rfl) (by kernel_rfl) (by kernel_rfl) ?_
 refine OD.runE 1 [2,19,20] (E':=[(2,.int .i64 z),(19,.str (a.extract 0 (min a.size 25))),(20,.str b)]) (by kernel_rfl) ?_
 refine OD.callE (X83 b 20) rfl (by kernel_rfl) (by kernel_rfl) (by kernel_rfl) ?_
 refine OD.runE 2 [0,1,2] (E':=[(0,.str (a.extract 0 (min a.size 25))),(1,.str (b.extract 0 (min b.size 20))),(2,.int .i64 z)]) (by kernel_rfl) ?_
 obtain⟨x,hx⟩:∃ q,q=(a.extract 0 (min a.size 25)):=⟨_,rfl⟩
 have hxs:x.size≤25:=by rw [hx,ByteArray.size_extract];omega
 refine OD.is 0 rfl (congrArg D.str hx.symm) ?_
 obtain⟨y,hy⟩:∃ q,q=(b.extract 0 (min b.size 20)):=⟨_,rfl⟩
 have hys:y.size≤20:=by rw [hy,ByteArray.size_extract];omega
 refine OD.is 1 rfl (congrArg D.str hy.symm) ?_
 refine OD.runE 0 [0,1,2] (E':=[(0,.str x),(1,.str y),(2,.int .i64 z)]) (by kernel_rfl) ?_
 refine OD.nil ?_
 refine CD.seq ?_
 refine CD.region ?_
 refine OD.runE 1 [0,1,22] (E':=[(0,.str x),(1,.str y),(22,.int .i64 z)]) (by kernel_rfl) ?_
 have hlnn:=Int.lt_tmod_of_pos z (b:=8) (by decide)
 have hunn:=Int.tmod_lt_of_pos z (b:=8) (by decide)
 refine OD.remZ (n:=8) rfl rfl (by decide) ?_
 refine OD.runE 1 [0,1,24] (E':=[(0,.str x),(1,.str y),(24,.int .i64 (X0h .i64 ((z.tmod 8)+8)))]) (by kernel_rfl) ?_
 refine OD.is 24 rfl (wr64 (by omega) (by omega)) ?_
 refine OD.runE 0 [0,1,24] (E':=[(0,.str x),(1,.str y),(24,.int .i64 ((z.tmod 8)+8))]) (by kernel_rfl) ?_
 obtain⟨nn,hdnn⟩:∃ d,d=(z % 8).toNat:=⟨_,rfl⟩
 have hbnn:nn<8:=by omega
 refine OD.remZ (n:=8) rfl rfl (by decide) ?_
 refine OD.is 25 rfl (congrArg (D.int .i64) ((XAw (z:=z) (n:=8) (by decide)).trans (congrArg Nat.cast hdnn.symm))) ?_
 refine OD.runE 1 [0,1,2] (E':=[(0,.str x),(1,.str y),(2,.int .i64 ((nn:Nat):Int))]) (by kernel_rfl) ?_
 refine OD.nil ?_
 refine CD.seq ?_
 refine CD.region ?_
 refine OD.callO [] (ds:=[.int .i64 2]) (X7e 2) rfl (by kernel_rfl) (by kernel_rfl) (by kernel_rfl) (by kernel_rfl) (by kernel_rfl) (fun r L1 hr=>?_)
 obtain⟨rfl,rfl⟩:=hr
 refine OD.runE 1 [0,1,2,8] (E':=[(0,.str x),(1,.str y),(2,.int .i64 ((nn:Nat):Int)),(8,.loc 0 0)]) (by kernel_rfl) ?_
 refine OD.nil ?_
 refine CD.seq ?_
 refine CD.region ?_
 refine OD.runE 3 [0,1,2,8,27,28,29] (E':=[(0,.str x),(1,.str y),(2,.int .i64 ((nn:Nat):Int)),(8,.loc 0 0),(27,.loc 0 0),(28,.str x),(29,.str y)]) (by kernel_rfl) ?_
 refine OD.callO [0,1] (ds:=[.loc 0 0,.str x,.str y]) (XDw 2 x y) rfl (by kernel_rfl) (by kernel_rfl) (by kernel_rfl) (by kernel_rfl) (by kernel_rfl) (fun r L1 hr=>?_)
 obtain⟨l,rest,ok,hS0,hz,hok,rfl,rfl⟩:=hr
 have hS1:=hS0 (⟨#[120]⟩:ByteArray)
 refine OD.runE 1 [0,1,2,8,9] (E':=[(0,.str x),(1,.str y),(2,.int .i64 ((nn:Nat):Int)),(8,.loc 0 0),(9,.bool ok)]) (by kernel_rfl) ?_
 refine OD.nil ?_
 refine CD.seq ?_
 refine CD.seq ?_
 refine CD.region ?_
 refine OD.runE 1 [0,1,2,8,9,10] (E':=[(0,.str x),(1,.str y),(2,.int .i64 ((nn:Nat):Int)),(8,.loc 0 0),(9,.bool ok),(10,.int .i64 0)]) (by kernel_rfl) ?_
 refine OD.nil ?_
 refine CD.block ?_
 refine CD.weak [0,1,2,8,9,10] 2 (E':=[(0,.str x),(1,.str y),(2,.int .i64 ((nn:Nat):Int)),(8,.loc 0 0),(9,.bool ok),(10,.int .i64 0)]) (by kernel_rfl) (by simp [hg0]) (by kernel_rfl) ?_
 refine CD.loop (fun m σ=>∃ (i:Nat) (lq:List X0g) (rq:List X0g) (nx:Nat),σ=⟨[(0,.str x),(1,.str y),(2,.int .i64 ((nn:Nat):Int)),(8,.loc 0 0),(9,.bool ok),(10,.int .i64 ((i:Nat):Int))],[.box [.int .i64 2,.int .i64 ((nx:Nat):Int),.row 1 0 lq.length (lq.length+rq.length)],.row 3 (lq.length+rq.length) ((lq++rq).flatMap X0U)]⟩∧(i≤nn)∧(StN x y (⟨#[120]⟩:ByteArray) ok i lq nx)∧(lq.length+rq.length≤10)∧m=nn - i) (fun m σ hI=>?_) _ ⟨0,l,rest,0,(by kernel_rfl),Nat.zero_le _,hS1,by omega,rfl⟩
 obtain⟨i,lq,rq,nx,e,hi,hS,hlr,hm⟩:=hI
 subst e hm
 have hbd:=hS.len
 refine CD.seq ?_
 refine CD.seq ?_
 refine CD.region ?_
 refine OD.runE 3 [0,1,2,8,9,10,33] (E':=[(0,.str x),(1,.str y),(2,.int .i64 ((nn:Nat):Int)),(8,.loc 0 0),(9,.bool ok),(10,.int .i64 ((i:Nat):Int)),(33,.bool (decide ((((i:Nat):Int):Int)<((nn:Nat):Int))))]) (by kernel_rfl) ?_
 refine OD.nil ?_
 refine CD.condP rfl (fun h1=>?_) (fun h1=>?_)
 ·
  refine CD.skip ?_
  refine CD.seq ?_
  refine CD.block ?_
  refine CD.region ?_
  refine OD.runE 1 [0,1,2,8,9,10,36] (E':=[(0,.str x),(1,.str y),(2,.int .i64 ((nn:Nat):Int)),(8,.loc 0 0),(9,.bool ok),(10,.int .i64 ((i:Nat):Int)),(36,.loc 0 0)]) (by kernel_rfl) ?_
  refine OD.callO [0,1] (ds:=[.loc 0 0,.str (⟨#[120]⟩:ByteArray)]) (XCq 2 nx lq rq (⟨#[120]⟩:ByteArray) xS_ne (by omega) (by omega) (by omega) (by omega) (by omega)) rfl (by kernel_rfl) (by kernel_rfl) (by kernel_rfl) (by kernel_rfl) (by kernel_rfl) (fun r L1 hr=>?_)
  obtain⟨k,l2,r2,hk,he,hz2,rfl,rfl⟩:=hr
  have hS2:=hS.push hk he
  have hbd2:=hS2.len
  refine OD.runE 0 [0,1,2,8,9,10] (E':=[(0,.str x),(1,.str y),(2,.int .i64 ((nn:Nat):Int)),(8,.loc 0 0),(9,.bool ok),(10,.int .i64 ((i:Nat):Int))]) (by kernel_rfl) ?_
  refine OD.nil ?_
  refine CD.region ?_
  refine OD.runE 2 [0,1,2,8,9,35] (E':=[(0,.str x),(1,.str y),(2,.int .i64 ((nn:Nat):Int)),(8,.loc 0 0),(9,.bool ok),(35,.int .i64 (X0h .i64 (((i:Nat):Int)+1)))]) (by kernel_rfl) ?_
  refine OD.is 35 rfl (wrn (m:=i+1) (by omega) (by omega)) ?_
  refine OD.runE 1 [0,1,2,8,9,10] (E':=[(0,.str x),(1,.str y),(2,.int .i64 ((nn:Nat):Int)),(8,.loc 0 0),(9,.bool ok),(10,.int .i64 ((i+1:Nat):Int))]) (by kernel_rfl) ?_
  refine OD.nil ?_
  exact⟨_,by omega,(i+1),l2,r2,(k+1),(by kernel_rfl),by omega,hS2,by omega,rfl⟩
 ·
  refine CD.exit ?_
  refine CD.seq ?_
  refine CD.region ?_
  refine OD.runE 2 [0,1,2,9,39,40] (E':=[(0,.str x),(1,.str y),(2,.int .i64 ((nn:Nat):Int)),(9,.bool ok),(39,.loc 0 0),(40,.str x)]) (by kernel_rfl) ?_
  refine OD.callFz (jb:=0) (jr:=1) (o:=0) (n:=lq.length) (c:=lq.length+rq.length) (e:=3) (N:=lq.length+rq.length) (d0:=.int .i64 2) (d1:=.int .i64 ((nx:Nat):Int)) (cells:=(lq++rq).flatMap X0U) (rest:=[.str x]) (R:=fun r=>r=.tup [.str (X15 lq x).1,.bool (X15 lq x).2]) (by rw [X42];exact XDs _ _ lq x (by omega)) rfl (by kernel_rfl) rfl rfl rfl rfl (by kernel_rfl) (X81 lq rq) (by omega) (by kernel_rfl) (fun r hr=>by rw [hr];rfl) (fun r hr=>?_)
  subst hr
  refine OD.runE 5 [0,1,2,9,11,12] (E':=[(0,.str x),(1,.str y),(2,.int .i64 ((nn:Nat):Int)),(9,.bool ok),(11,.str ((X15 lq x).1)),(12,.bool (X15 lq x).2)]) (by kernel_rfl) ?_
  refine OD.nil ?_
  refine CD.seq ?_
  refine CD.region ?_
  refine OD.runE 1 [0,1,2,9,11,12,13] (E':=[(0,.str x),(1,.str y),(2,.int .i64 ((nn:Nat):Int)),(9,.bool ok),(11,.str ((X15 lq x).1)),(12,.bool (X15 lq x).2),(13,.bool false)]) (by kernel_rfl) ?_
  refine OD.nil ?_
  refine CD.seq ?_
  refine CD.seq ?_
  refine CD.region ?_
  refine OD.runE 1 [0,1,2,9,11,12,13,14] (E':=[(0,.str x),(1,.str y),(2,.int .i64 ((nn:Nat):Int)),(9,.bool ok),(11,.str ((X15 lq x).1)),(12,.bool (X15 lq x).2),(13,.bool false),(14,.int .i64 0)]) (by kernel_rfl) ?_
  refine OD.nil ?_
  refine CD.block ?_
  refine CD.weak [0,1,2,9,11,12,13,14] 2 (E':=[(0,.str x),(1,.str y),(2,.int .i64 ((nn:Nat):Int)),(9,.bool ok),(11,.str ((X15 lq x).1)),(12,.bool (X15 lq x).2),(13,.bool false),(14,.int .i64 0)]) (by kernel_rfl) (by simp [hg0]) (by kernel_rfl) ?_
  refine CD.loop (fun m σ=>∃ (jj:Nat) (au:Bool),σ=⟨[(0,.str x),(1,.str y),(2,.int .i64 ((nn:Nat):Int)),(9,.bool ok),(11,.str ((X15 lq x).1)),(12,.bool (X15 lq x).2),(13,.bool au),(14,.int .i64 ((jj:Nat):Int))],[.box [.int .i64 2,.int .i64 ((nx:Nat):Int),.row 1 0 lq.length (lq.length+rq.length)],.row 3 (lq.length+rq.length) ((lq++rq).flatMap X0U)]⟩∧(jj≤nn)∧(AuP x ok nn jj au)∧m=nn - jj) (fun m σ hI=>?_) _ ⟨0,false,(by kernel_rfl),Nat.zero_le _,AuP.first,rfl⟩
  obtain⟨jj,au,e,hjj,hau,hm⟩:=hI
  subst e hm
  refine CD.seq ?_
  refine CD.seq ?_
  refine CD.region ?_
  refine OD.runE 3 [0,1,2,9,11,12,13,14,46] (E':=[(0,.str x),(1,.str y),(2,.int .i64 ((nn:Nat):Int)),(9,.bool ok),(11,.str ((X15 lq x).1)),(12,.bool (X15 lq x).2),(13,.bool au),(14,.int .i64 ((jj:Nat):Int)),(46,.bool (decide ((((jj:Nat):Int):Int)<((nn:Nat):Int))))]) (by kernel_rfl) ?_
  refine OD.nil ?_
  refine CD.condP rfl (fun h2=>?_) (fun h2=>?_)
  ·
   refine CD.skip ?_
   refine CD.seq ?_
   refine CD.block ?_
   refine CD.region ?_
   refine OD.runE 2 [0,1,2,9,11,12,14,50] (E':=[(0,.str x),(1,.str y),(2,.int .i64 ((nn:Nat):Int)),(9,.bool ok),(11,.str ((X15 lq x).1)),(12,.bool (X15 lq x).2),(14,.int .i64 ((jj:Nat):Int)),(50,.bool au)]) (by kernel_rfl) ?_
   refine OD.ifB 50 rfl (fun h3=>?_) (fun h3=>?_)
   ·
    refine OD.runE 17 [0,1,2,9,11,12,13,14] (E':=[(0,.str x),(1,.str y),(2,.int .i64 ((nn:Nat):Int)),(9,.bool ok),(11,.str ((X15 lq x).1)),(12,.bool (X15 lq x).2),(13,.bool true),(14,.int .i64 ((jj:Nat):Int))]) (by kernel_rfl) ?_
    refine OD.nil ?_
    refine CD.region ?_
    refine OD.runE 2 [0,1,2,9,11,12,13,48] (E':=[(0,.str x),(1,.str y),(2,.int .i64 ((nn:Nat):Int)),(9,.bool ok),(11,.str ((X15 lq x).1)),(12,.bool (X15 lq x).2),(13,.bool true),(48,.int .i64 (X0h .i64 (((jj:Nat):Int)+1)))]) (by kernel_rfl) ?_
    refine OD.is 48 rfl (wrn (m:=jj+1) (by omega) (by omega)) ?_
    refine OD.runE 1 [0,1,2,9,11,12,13,14] (E':=[(0,.str x),(1,.str y),(2,.int .i64 ((nn:Nat):Int)),(9,.bool ok),(11,.str ((X15 lq x).1)),(12,.bool (X15 lq x).2),(13,.bool true),(14,.int .i64 ((jj+1:Nat):Int))]) (by kernel_rfl) ?_
    refine OD.nil ?_
    exact⟨_,by omega,(jj+1),true,(by kernel_rfl),by omega,hau.step (by simp [h1,h2,h3]<;>omega),rfl⟩
   ·
    refine OD.runE 3 [0,1,2,9,11,12,14,50,53] (E':=[(0,.str x),(1,.str y),(2,.int .i64 ((nn:Nat):Int)),(9,.bool ok),(11,.str ((X15 lq x).1)),(12,.bool (X15 lq x).2),(14,.int .i64 ((jj:Nat):Int)),(50,.bool false),(53,.bool (!ok))]) (by kernel_rfl) ?_
    refine OD.ifB 53 rfl (fun h4=>?_) (fun h4=>?_)
    ·
     have h4:=XCX h4
     refine OD.runE 2 [0,1,2,9,11,12,14,50,53,54,55] (E':=[(0,.str x),(1,.str y),(2,.int .i64 ((nn:Nat):Int)),(9,.bool ok),(11,.str ((X15 lq x).1)),(12,.bool (X15 lq x).2),(14,.int .i64 ((jj:Nat):Int)),(50,.bool false),(53,.bool true),(54,.str x),(55,.int .i64 ((jj:Nat):Int))]) (by kernel_rfl) ?_
     refine OD.guard rfl rfl ?_
     refine OD.callE (X9q (jj) (by omega)) rfl (by kernel_rfl) (by kernel_rfl) (by kernel_rfl) ?_
     refine OD.runE 0 [0,1,2,9,11,12,14,50,53,54,56] (E':=[(0,.str x),(1,.str y),(2,.int .i64 ((nn:Nat):Int)),(9,.bool ok),(11,.str ((X15 lq x).1)),(12,.bool (X15 lq x).2),(14,.int .i64 ((jj:Nat):Int)),(50,.bool false),(53,.bool true),(54,.str x),(56,.str (X2l jj))]) (by kernel_rfl) ?_
     refine OD.guard rfl rfl ?_
     refine OD.catS rfl rfl (XCm (by omega)) ?_
     refine OD.runE 0 [0,1,2,9,11,12,14,50,53,54,57] (E':=[(0,.str x),(1,.str y),(2,.int .i64 ((nn:Nat):Int)),(9,.bool ok),(11,.str ((X15 lq x).1)),(12,.bool (X15 lq x).2),(14,.int .i64 ((jj:Nat):Int)),(50,.bool false),(53,.bool true),(54,.str x),(57,.str ((⟨#[98]⟩:ByteArray)++(X2l jj)))]) (by kernel_rfl) ?_
     refine OD.guard rfl rfl ?_
     refine OD.eqS rfl rfl ?_
     refine OD.runE 2 [0,1,2,9,11,12,14,50,60] (E':=[(0,.str x),(1,.str y),(2,.int .i64 ((nn:Nat):Int)),(9,.bool ok),(11,.str ((X15 lq x).1)),(12,.bool (X15 lq x).2),(14,.int .i64 ((jj:Nat):Int)),(50,.bool false),(60,.bool (decide (x=((⟨#[98]⟩:ByteArray)++(X2l jj)))))]) (by kernel_rfl) ?_
     refine OD.ifP 60 rfl (fun h5=>?_) (fun h5=>?_)
     ·
      refine OD.runE 3 [0,1,2,9,11,12,14,50,60,61,63] (E':=[(0,.str x),(1,.str y),(2,.int .i64 ((nn:Nat):Int)),(9,.bool ok),(11,.str ((X15 lq x).1)),(12,.bool (X15 lq x).2),(14,.int .i64 ((jj:Nat):Int)),(50,.bool false),(60,.bool true),(61,.int .i64 ((jj:Nat):Int)),(63,.int .i64 (X0h .i64 (((nn:Nat):Int) - 2)))]) (by kernel_rfl) ?_
      refine OD.is 63 rfl (wr64 (by omega) (by omega)) ?_
      refine OD.runE 4 [0,1,2,9,11,12,13,14] (E':=[(0,.str x),(1,.str y),(2,.int .i64 ((nn:Nat):Int)),(9,.bool ok),(11,.str ((X15 lq x).1)),(12,.bool (X15 lq x).2),(13,.bool (decide (((((nn:Nat):Int) - 2):Int)≤((jj:Nat):Int)))),(14,.int .i64 ((jj:Nat):Int))]) (by kernel_rfl) ?_
      refine OD.nil ?_
      refine CD.region ?_
      refine OD.runE 2 [0,1,2,9,11,12,13,48] (E':=[(0,.str x),(1,.str y),(2,.int .i64 ((nn:Nat):Int)),(9,.bool ok),(11,.str ((X15 lq x).1)),(12,.bool (X15 lq x).2),(13,.bool (decide (((((nn:Nat):Int) - 2):Int)≤((jj:Nat):Int)))),(48,.int .i64 (X0h .i64 (((jj:Nat):Int)+1)))]) (by kernel_rfl) ?_
      refine OD.is 48 rfl (wrn (m:=jj+1) (by omega) (by omega)) ?_
      refine OD.runE 1 [0,1,2,9,11,12,13,14] (E':=[(0,.str x),(1,.str y),(2,.int .i64 ((nn:Nat):Int)),(9,.bool ok),(11,.str ((X15 lq x).1)),(12,.bool (X15 lq x).2),(13,.bool (decide (((((nn:Nat):Int) - 2):Int)≤((jj:Nat):Int)))),(14,.int .i64 ((jj+1:Nat):Int))]) (by kernel_rfl) ?_
      refine OD.nil ?_
      exact⟨_,by omega,(jj+1),(decide (((((nn:Nat):Int) - 2):Int)≤((jj:Nat):Int))),(by kernel_rfl),by omega,hau.step (by simp [h1,h2,h3,h4,h5]<;>omega),rfl⟩
     ·
      refine OD.runE 7 [0,1,2,9,11,12,13,14] (E':=[(0,.str x),(1,.str y),(2,.int .i64 ((nn:Nat):Int)),(9,.bool ok),(11,.str ((X15 lq x).1)),(12,.bool (X15 lq x).2),(13,.bool false),(14,.int .i64 ((jj:Nat):Int))]) (by kernel_rfl) ?_
      refine OD.nil ?_
      refine CD.region ?_
      refine OD.runE 2 [0,1,2,9,11,12,13,48] (E':=[(0,.str x),(1,.str y),(2,.int .i64 ((nn:Nat):Int)),(9,.bool ok),(11,.str ((X15 lq x).1)),(12,.bool (X15 lq x).2),(13,.bool false),(48,.int .i64 (X0h .i64 (((jj:Nat):Int)+1)))]) (by kernel_rfl) ?_
      refine OD.is 48 rfl (wrn (m:=jj+1) (by omega) (by omega)) ?_
      refine OD.runE 1 [0,1,2,9,11,12,13,14] (E':=[(0,.str x),(1,.str y),(2,.int .i64 ((nn:Nat):Int)),(9,.bool ok),(11,.str ((X15 lq x).1)),(12,.bool (X15 lq x).2),(13,.bool false),(14,.int .i64 ((jj+1:Nat):Int))]) (by kernel_rfl) ?_
      refine OD.nil ?_
      exact⟨_,by omega,(jj+1),false,(by kernel_rfl),by omega,hau.step (by simp [h1,h2,h3,h4,h5]<;>omega),rfl⟩
    ·
     have h4:=XBg h4
     refine OD.runE 14 [0,1,2,9,11,12,13,14] (E':=[(0,.str x),(1,.str y),(2,.int .i64 ((nn:Nat):Int)),(9,.bool ok),(11,.str ((X15 lq x).1)),(12,.bool (X15 lq x).2),(13,.bool false),(14,.int .i64 ((jj:Nat):Int))]) (by kernel_rfl) ?_
     refine OD.nil ?_
     refine CD.region ?_
     refine OD.runE 2 [0,1,2,9,11,12,13,48] (E':=[(0,.str x),(1,.str y),(2,.int .i64 ((nn:Nat):Int)),(9,.bool ok),(11,.str ((X15 lq x).1)),(12,.bool (X15 lq x).2),(13,.bool false),(48,.int .i64 (X0h .i64 (((jj:Nat):Int)+1)))]) (by kernel_rfl) ?_
     refine OD.is 48 rfl (wrn (m:=jj+1) (by omega) (by omega)) ?_
     refine OD.runE 1 [0,1,2,9,11,12,13,14] (E':=[(0,.str x),(1,.str y),(2,.int .i64 ((nn:Nat):Int)),(9,.bool ok),(11,.str ((X15 lq x).1)),(12,.bool (X15 lq x).2),(13,.bool false),(14,.int .i64 ((jj+1:Nat):Int))]) (by kernel_rfl) ?_
     refine OD.nil ?_
     exact⟨_,by omega,(jj+1),false,(by kernel_rfl),by omega,hau.step (by simp [h1,h2,h3,h4]<;>omega),rfl⟩
  ·
   refine CD.exit ?_
   refine CD.seq ?_
   refine CD.region ?_
   have hjn:jj=nn:=by omega
   have hin:i=nn:=by omega
   have hge:=XCt (hin ▸ hS) (hjn ▸ hau)
   have hgv:=XCu hS
   generalize X15 lq x=gg at hge hgv ⊢
   obtain⟨gx,gb⟩:=gg
   have hfb:=XBF hok (show gb=(ok || au)from hge)
   have hgv:ok=true→gx=y:=hgv
   refine OD.runE 2 [1,9,11,12,13,67,68] (E':=[(1,.str y),(9,.bool ok),(11,.str gx),(12,.bool gb),(13,.bool au),(67,.bool ok),(68,.str x)]) (by kernel_rfl) ?_
   refine OD.callE (XCs x (by omega)) rfl (by kernel_rfl) (by kernel_rfl) (by kernel_rfl) ?_
   refine OD.runE 1 [1,9,11,12,13,67,70] (E':=[(1,.str y),(9,.bool ok),(11,.str gx),(12,.bool gb),(13,.bool au),(67,.bool ok),(70,.bool (X3N x))]) (by kernel_rfl) ?_
   refine OD.ifB 70 rfl (fun h6=>?_) (fun h6=>?_)
   ·
    refine OD.runE 1 [1,9,11,12,13,67,70,71] (E':=[(1,.str y),(9,.bool ok),(11,.str gx),(12,.bool gb),(13,.bool au),(67,.bool ok),(70,.bool true),(71,.str y)]) (by kernel_rfl) ?_
    refine OD.guard rfl rfl ?_
    refine OD.neS rfl rfl ?_
    refine OD.runE 2 [1,9,11,12,13,74] (E':=[(1,.str y),(9,.bool ok),(11,.str gx),(12,.bool gb),(13,.bool au),(74,.bool (bif ok then(bif (decide (¬ y=ByteArray.empty))then true else false)else(bif (decide (¬ y=ByteArray.empty))then false else true)))]) (by kernel_rfl) ?_
    refine OD.is 74 rfl (congrArg D.bool X2x) ?_
    refine OD.runE 1 [1,9,11,12,13,75] (E':=[(1,.str y),(9,.bool ok),(11,.str gx),(12,.bool gb),(13,.bool au),(75,.bool (decide (ok=(decide (¬ y=ByteArray.empty)))))]) (by kernel_rfl) ?_
    refine OD.ifP 75 rfl (fun h7=>?_) (fun h7=>?_)
    ·
     refine OD.runE 3 [1,9,11,13,75,76,78] (E':=[(1,.str y),(9,.bool ok),(11,.str gx),(13,.bool au),(75,.bool true),(76,.bool gb),(78,.bool ok)]) (by kernel_rfl) ?_
     refine OD.ifB 78 rfl (fun h8=>?_) (fun h8=>?_)
     ·
      refine OD.runE 3 [1,9,11,75,81] (E':=[(1,.str y),(9,.bool ok),(11,.str gx),(75,.bool true),(81,.bool (bif gb then(bif true then true else false)else(bif true then false else true)))]) (by kernel_rfl) ?_
      refine OD.is 81 rfl (congrArg D.bool X2x) ?_
      refine OD.runE 2 [1,9,11,83] (E':=[(1,.str y),(9,.bool ok),(11,.str gx),(83,.bool (decide (gb=true)))]) (by kernel_rfl) ?_
      refine OD.ifP 83 rfl (fun h9=>?_) (fun h9=>?_)
      ·
       refine OD.runE 3 [1,11,83,86] (E':=[(1,.str y),(11,.str gx),(83,.bool true),(86,.bool (!ok))]) (by kernel_rfl) ?_
       refine OD.ifB 86 rfl (fun h10=>?_) (fun h10=>?_)
       ·
        have h10:=XCX h10
        refine OD.runE 6 [6] (E':=[(6,.bool true)]) (by kernel_rfl) ?_
        refine OD.nil ?_
        refine CD.ret ?_
        exact X2v (by kernel_rfl) (by kernel_rfl) (r:=.bool true) (rfl)
       ·
        have h10:=XBg h10
        refine OD.runE 2 [83,86,87,88] (E':=[(83,.bool true),(86,.bool false),(87,.str gx),(88,.str y)]) (by kernel_rfl) ?_
        refine OD.guard rfl rfl ?_
        refine OD.eqS rfl rfl ?_
        refine OD.runE 3 [6] (E':=[(6,.bool (decide (gx=y)))]) (by kernel_rfl) ?_
        refine OD.nil ?_
        refine CD.ret ?_
        exact X2v (by kernel_rfl) (by kernel_rfl) (r:=.bool (decide (gx=y))) (congrArg D.bool (decide_eq_true (hgv (by assumption))))
      ·
       refine OD.runE 9 [6] (E':=[(6,.bool false)]) (by kernel_rfl) ?_
       refine OD.nil ?_
       refine CD.ret ?_
       exact X2v (by kernel_rfl) (by kernel_rfl) (r:=.bool false) (by exfalso;first | exact(by assumption:¬ ok=_) (hfb.1 (by assumption)) | exact(by assumption:¬ ok=_) (hfb.2.1 (by assumption)) | exact(by assumption:¬ gb=_) (hfb.2.2.1 (by assumption)) | exact(by assumption:¬ gb=_) (hfb.2.2.2 (by assumption)))
     ·
      refine OD.runE 3 [1,9,11,75,81] (E':=[(1,.str y),(9,.bool ok),(11,.str gx),(75,.bool true),(81,.bool (bif gb then(bif au then true else false)else(bif au then false else true)))]) (by kernel_rfl) ?_
      refine OD.is 81 rfl (congrArg D.bool X2x) ?_
      refine OD.runE 2 [1,9,11,83] (E':=[(1,.str y),(9,.bool ok),(11,.str gx),(83,.bool (decide (gb=au)))]) (by kernel_rfl) ?_
      refine OD.ifP 83 rfl (fun h11=>?_) (fun h11=>?_)
      ·
       refine OD.runE 3 [1,11,83,86] (E':=[(1,.str y),(11,.str gx),(83,.bool true),(86,.bool (!ok))]) (by kernel_rfl) ?_
       refine OD.ifB 86 rfl (fun h12=>?_) (fun h12=>?_)
       ·
        have h12:=XCX h12
        refine OD.runE 6 [6] (E':=[(6,.bool true)]) (by kernel_rfl) ?_
        refine OD.nil ?_
        refine CD.ret ?_
        exact X2v (by kernel_rfl) (by kernel_rfl) (r:=.bool true) (rfl)
       ·
        have h12:=XBg h12
        refine OD.runE 2 [83,86,87,88] (E':=[(83,.bool true),(86,.bool false),(87,.str gx),(88,.str y)]) (by kernel_rfl) ?_
        refine OD.guard rfl rfl ?_
        refine OD.eqS rfl rfl ?_
        refine OD.runE 3 [6] (E':=[(6,.bool (decide (gx=y)))]) (by kernel_rfl) ?_
        refine OD.nil ?_
        refine CD.ret ?_
        exact X2v (by kernel_rfl) (by kernel_rfl) (r:=.bool (decide (gx=y))) (congrArg D.bool (decide_eq_true (hgv (by assumption))))
      ·
       refine OD.runE 9 [6] (E':=[(6,.bool false)]) (by kernel_rfl) ?_
       refine OD.nil ?_
       refine CD.ret ?_
       exact X2v (by kernel_rfl) (by kernel_rfl) (r:=.bool false) (by exfalso;first | exact(by assumption:¬ ok=_) (hfb.1 (by assumption)) | exact(by assumption:¬ ok=_) (hfb.2.1 (by assumption)) | exact(by assumption:¬ gb=_) (hfb.2.2.1 (by assumption)) | exact(by assumption:¬ gb=_) (hfb.2.2.2 (by assumption)))
    ·
     refine OD.runE 17 [6] (E':=[(6,.bool false)]) (by kernel_rfl) ?_
     refine OD.nil ?_
     refine CD.ret ?_
     exact X2v (by kernel_rfl) (by kernel_rfl) (r:=.bool false) (by exfalso;first | exact(by assumption:¬ ok=_) (hfb.1 (by assumption)) | exact(by assumption:¬ ok=_) (hfb.2.1 (by assumption)) | exact(by assumption:¬ gb=_) (hfb.2.2.1 (by assumption)) | exact(by assumption:¬ gb=_) (hfb.2.2.2 (by assumption)))
   ·
    refine OD.runE 4 [1,9,11,12,13,74] (E':=[(1,.str y),(9,.bool ok),(11,.str gx),(12,.bool gb),(13,.bool au),(74,.bool (bif ok then(bif false then true else false)else(bif false then false else true)))]) (by kernel_rfl) ?_
    refine OD.is 74 rfl (congrArg D.bool X2x) ?_
    refine OD.runE 1 [1,9,11,12,13,75] (E':=[(1,.str y),(9,.bool ok),(11,.str gx),(12,.bool gb),(13,.bool au),(75,.bool (decide (ok=false)))]) (by kernel_rfl) ?_
    refine OD.ifP 75 rfl (fun h13=>?_) (fun h13=>?_)
    ·
     refine OD.runE 3 [1,9,11,13,75,76,78] (E':=[(1,.str y),(9,.bool ok),(11,.str gx),(13,.bool au),(75,.bool true),(76,.bool gb),(78,.bool ok)]) (by kernel_rfl) ?_
     refine OD.ifB 78 rfl (fun h14=>?_) (fun h14=>?_)
     ·
      refine OD.runE 3 [1,9,11,75,81] (E':=[(1,.str y),(9,.bool ok),(11,.str gx),(75,.bool true),(81,.bool (bif gb then(bif true then true else false)else(bif true then false else true)))]) (by kernel_rfl) ?_
      refine OD.is 81 rfl (congrArg D.bool X2x) ?_
      refine OD.runE 2 [1,9,11,83] (E':=[(1,.str y),(9,.bool ok),(11,.str gx),(83,.bool (decide (gb=true)))]) (by kernel_rfl) ?_
      refine OD.ifP 83 rfl (fun h15=>?_) (fun h15=>?_)
      ·
       refine OD.runE 3 [1,11,83,86] (E':=[(1,.str y),(11,.str gx),(83,.bool true),(86,.bool (!ok))]) (by kernel_rfl) ?_
       refine OD.ifB 86 rfl (fun h16=>?_) (fun h16=>?_)
       ·
        have h16:=XCX h16
        refine OD.runE 6 [6] (E':=[(6,.bool true)]) (by kernel_rfl) ?_
        refine OD.nil ?_
        refine CD.ret ?_
        exact X2v (by kernel_rfl) (by kernel_rfl) (r:=.bool true) (rfl)
       ·
        have h16:=XBg h16
        refine OD.runE 2 [83,86,87,88] (E':=[(83,.bool true),(86,.bool false),(87,.str gx),(88,.str y)]) (by kernel_rfl) ?_
        refine OD.guard rfl rfl ?_
        refine OD.eqS rfl rfl ?_
        refine OD.runE 3 [6] (E':=[(6,.bool (decide (gx=y)))]) (by kernel_rfl) ?_
        refine OD.nil ?_
        refine CD.ret ?_
        exact X2v (by kernel_rfl) (by kernel_rfl) (r:=.bool (decide (gx=y))) (congrArg D.bool (decide_eq_true (hgv (by assumption))))
      ·
       refine OD.runE 9 [6] (E':=[(6,.bool false)]) (by kernel_rfl) ?_
       refine OD.nil ?_
       refine CD.ret ?_
       exact X2v (by kernel_rfl) (by kernel_rfl) (r:=.bool false) (by exfalso;first | exact(by assumption:¬ ok=_) (hfb.1 (by assumption)) | exact(by assumption:¬ ok=_) (hfb.2.1 (by assumption)) | exact(by assumption:¬ gb=_) (hfb.2.2.1 (by assumption)) | exact(by assumption:¬ gb=_) (hfb.2.2.2 (by assumption)))
     ·
      refine OD.runE 3 [1,9,11,75,81] (E':=[(1,.str y),(9,.bool ok),(11,.str gx),(75,.bool true),(81,.bool (bif gb then(bif au then true else false)else(bif au then false else true)))]) (by kernel_rfl) ?_
      refine OD.is 81 rfl (congrArg D.bool X2x) ?_
      refine OD.runE 2 [1,9,11,83] (E':=[(1,.str y),(9,.bool ok),(11,.str gx),(83,.bool (decide (gb=au)))]) (by kernel_rfl) ?_
      refine OD.ifP 83 rfl (fun h17=>?_) (fun h17=>?_)
      ·
       refine OD.runE 3 [1,11,83,86] (E':=[(1,.str y),(11,.str gx),(83,.bool true),(86,.bool (!ok))]) (by kernel_rfl) ?_
       refine OD.ifB 86 rfl (fun h18=>?_) (fun h18=>?_)
       ·
        have h18:=XCX h18
        refine OD.runE 6 [6] (E':=[(6,.bool true)]) (by kernel_rfl) ?_
        refine OD.nil ?_
        refine CD.ret ?_
        exact X2v (by kernel_rfl) (by kernel_rfl) (r:=.bool true) (rfl)
       ·
        have h18:=XBg h18
        refine OD.runE 2 [83,86,87,88] (E':=[(83,.bool true),(86,.bool false),(87,.str gx),(88,.str y)]) (by kernel_rfl) ?_
        refine OD.guard rfl rfl ?_
        refine OD.eqS rfl rfl ?_
        refine OD.runE 3 [6] (E':=[(6,.bool (decide (gx=y)))]) (by kernel_rfl) ?_
        refine OD.nil ?_
        refine CD.ret ?_
        exact X2v (by kernel_rfl) (by kernel_rfl) (r:=.bool (decide (gx=y))) (congrArg D.bool (decide_eq_true (hgv (by assumption))))
      ·
       refine OD.runE 9 [6] (E':=[(6,.bool false)]) (by kernel_rfl) ?_
       refine OD.nil ?_
       refine CD.ret ?_
       exact X2v (by kernel_rfl) (by kernel_rfl) (r:=.bool false) (by exfalso;first | exact(by assumption:¬ ok=_) (hfb.1 (by assumption)) | exact(by assumption:¬ ok=_) (hfb.2.1 (by assumption)) | exact(by assumption:¬ gb=_) (hfb.2.2.1 (by assumption)) | exact(by assumption:¬ gb=_) (hfb.2.2.2 (by assumption)))
    ·
     refine OD.runE 17 [6] (E':=[(6,.bool false)]) (by kernel_rfl) ?_
     refine OD.nil ?_
     refine CD.ret ?_
     exact X2v (by kernel_rfl) (by kernel_rfl) (r:=.bool false) (by exfalso;first | exact(by assumption:¬ ok=_) (hfb.1 (by assumption)) | exact(by assumption:¬ ok=_) (hfb.2.1 (by assumption)) | exact(by assumption:¬ gb=_) (hfb.2.2.1 (by assumption)) | exact(by assumption:¬ gb=_) (hfb.2.2.2 (by assumption)))
end
end Go.Proofs.YtmmmjbipgngamaaGreatDoor
