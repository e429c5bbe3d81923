/-
  What is proved here: the two stacks answer alike (a walk that a program of mine has printed). texts that were taken, named, dropped: the two stacks answer alike (a walk that a program of mine ha No conditions but those that the theorems state.
-/
import Derived.Test.YtmmmjbipgngamaaGreatDoorSLd
import Derived.Test.YtmmmjbipgngamaaGreatDoorNX
import Derived.Test.YtmmmjbipgngamaaGreatDoorSKi
set_option linter.unusedVariables false
set_option linter.unusedSimpArgs false
set_option maxRecDepth 100000
set_option maxHeartbeats 4000000
namespace Go.Proofs.YtmmmjbipgngamaaGreatDoor
open Go.Vai Go.RowKit
noncomputable section
theorem X5N (room room2:Int) (nx:Nat) (l rest ms:List X0A) (hl:l.length+rest.length≤900000) (hms:ms=l.reverse) (hnd:(X1T l).Nodup) (hne:∀ e∈l,¬ e.1=ByteArray.empty) (hsz:szE 1000 l):FnD P ov 18 [.loc 0 0,.loc 2 0] [.box [.int .i64 room,.int .i64 ((nx:Nat):Int),.row 1 0 l.length (l.length+rest.length)],.row 3 (l.length+rest.length) ((l++rest).flatMap X04),.box [.int .i64 room2,.row 3 0 ms.length ms.length,.int .i64 ((nx:Nat):Int)],.row 3 ms.length (ms.flatMap X04)] (fun r L1=>r=.bool true∧L1=[.box [.int .i64 room,.int .i64 ((nx:Nat):Int),.row 1 0 l.length (l.length+rest.length)],.row 3 (l.length+rest.length) ((l++rest).flatMap X04),.box [.int .i64 room2,.row 3 0 ms.length ms.length,.int .i64 ((nx:Nat):Int)],.row 3 ms.length (ms.flatMap X04)]):=by
 have hml:ms.length=l.length:=by rw [hms,List.length_reverse]
 have hszm:szE 1000 ms:=by rw [hms];exact fun e he=>hsz e (List.mem_reverse.1 he)
 refine FnD.intro (by kernel_rfl) (fn:=Tryz.f18) (by kernel_rfl) rfl (by kernel_rfl) fun M a0 g0 hg0=>?_
 refine CD.seq ?_
 refine CD.region ?_
 refine OD.runE 1 [0,1] (E':=[(0,.loc 0 0),(1,.loc 2 0)]) (by kernel_rfl) ?_
 refine OD.nil ?_
 refine CD.seq ?_
 refine CD.region ?_
 refine OD.runE 1 [0,1,25] (E':=[(0,.loc 0 0),(1,.loc 2 0),(25,.loc 0 0)]) (by kernel_rfl) ?_
 refine OD.callO [0,1] (ds:=[.loc 0 0]) (XDk room nx l rest (by omega)) rfl (by kernel_rfl) (by kernel_rfl) (by kernel_rfl) (by kernel_rfl) (by kernel_rfl) (fun r L1 hr=>?_)
 obtain⟨rfl,rfl⟩:=hr
 refine OD.runE 1 [0,1,26,27] (E':=[(0,.loc 0 0),(1,.loc 2 0),(26,.sl 1 l.length ((l.map Prod.fst).map D.str)),(27,.loc 2 0)]) (by kernel_rfl) ?_
 refine OD.callO [2,3] (ds:=[.loc 2 0]) (XC9 room2 nx ms (by omega)) rfl (by kernel_rfl) (by kernel_rfl) (by kernel_rfl) (by kernel_rfl) (by kernel_rfl) (fun r L1 hr=>?_)
 obtain⟨rfl,rfl⟩:=hr
 refine OD.is 28 rfl (show _=.sl 1 l.length ((l.map Prod.fst).map D.str)from(by rw [hms,List.reverse_reverse,List.length_reverse];rfl)) ?_
 refine OD.runE 2 [0,1,5,6] (E':=[(0,.loc 0 0),(1,.loc 2 0),(5,.sl 1 l.length ((l.map Prod.fst).map D.str)),(6,.sl 1 l.length ((l.map Prod.fst).map D.str))]) (by kernel_rfl) ?_
 refine OD.nil ?_
 refine CD.seq ?_
 refine CD.seq ?_
 refine CD.region ?_
 refine OD.runE 5 [0,1,5,6,33] (E':=[(0,.loc 0 0),(1,.loc 2 0),(5,.sl 1 l.length ((l.map Prod.fst).map D.str)),(6,.sl 1 l.length ((l.map Prod.fst).map D.str)),(33,.bool (decide (¬ (((l.length:Nat):Int):Int)=((l.length:Nat):Int))))]) (by kernel_rfl) ?_
 refine OD.nil ?_
 refine CD.condP rfl (fun h1=>?_) (fun h1=>?_)
 ·
  refine CD.seq ?_
  exact absurd rfl (by assumption)
 ·
  refine CD.skip ?_
  refine CD.seq ?_
  refine CD.seq ?_
  refine CD.region ?_
  refine OD.runE 1 [0,1,5,6,7] (E':=[(0,.loc 0 0),(1,.loc 2 0),(5,.sl 1 l.length ((l.map Prod.fst).map D.str)),(6,.sl 1 l.length ((l.map Prod.fst).map D.str)),(7,.int .i64 0)]) (by kernel_rfl) ?_
  refine OD.nil ?_
  refine CD.block ?_
  refine CD.weak [0,1,5,6,7] 4 (E':=[(0,.loc 0 0),(1,.loc 2 0),(5,.sl 1 l.length ((l.map Prod.fst).map D.str)),(6,.sl 1 l.length ((l.map Prod.fst).map D.str)),(7,.int .i64 0)]) (by kernel_rfl) (by simp [hg0]) (by kernel_rfl) ?_
  refine CD.loop (fun m σ=>∃ (i:Nat),σ=⟨[(0,.loc 0 0),(1,.loc 2 0),(5,.sl 1 l.length ((l.map Prod.fst).map D.str)),(6,.sl 1 l.length ((l.map Prod.fst).map D.str)),(7,.int .i64 ((i:Nat):Int))],[.box [.int .i64 room,.int .i64 ((nx:Nat):Int),.row 1 0 l.length (l.length+rest.length)],.row 3 (l.length+rest.length) ((l++rest).flatMap X04),.box [.int .i64 room2,.row 3 0 ms.length ms.length,.int .i64 ((nx:Nat):Int)],.row 3 ms.length (ms.flatMap X04)]⟩∧(i≤l.length)∧m=l.length - i) (fun m σ hI=>?_) _ ⟨0,(by kernel_rfl),Nat.zero_le _,rfl⟩
  obtain⟨i,e,hi,hm⟩:=hI
  subst e hm
  refine CD.seq ?_
  refine CD.seq ?_
  refine CD.region ?_
  refine OD.runE 4 [0,1,5,6,7,37] (E':=[(0,.loc 0 0),(1,.loc 2 0),(5,.sl 1 l.length ((l.map Prod.fst).map D.str)),(6,.sl 1 l.length ((l.map Prod.fst).map D.str)),(7,.int .i64 ((i:Nat):Int)),(37,.bool (decide ((((i:Nat):Int):Int)<((l.length:Nat):Int))))]) (by kernel_rfl) ?_
  refine OD.nil ?_
  refine CD.condP rfl (fun h2=>?_) (fun h2=>?_)
  ·
   refine CD.skip ?_
   refine CD.seq ?_
   refine CD.block ?_
   refine CD.seq ?_
   refine CD.region ?_
   refine OD.runE 3 [0,1,5,6,7,41,42,43] (E':=[(0,.loc 0 0),(1,.loc 2 0),(5,.sl 1 l.length ((l.map Prod.fst).map D.str)),(6,.sl 1 l.length ((l.map Prod.fst).map D.str)),(7,.int .i64 ((i:Nat):Int)),(41,.loc 0 0),(42,.sl 1 l.length ((l.map Prod.fst).map D.str)),(43,.int .i64 ((i:Nat):Int))]) (by kernel_rfl) ?_
   refine OD.idxSV (i:=i) rfl rfl (by kernel_rfl) (by omega) (by omega) ?_
   refine OD.runE 0 [0,1,5,6,7,41,44] (E':=[(0,.loc 0 0),(1,.loc 2 0),(5,.sl 1 l.length ((l.map Prod.fst).map D.str)),(6,.sl 1 l.length ((l.map Prod.fst).map D.str)),(7,.int .i64 ((i:Nat):Int)),(41,.loc 0 0),(44,.ep 1 l.length ((l.map Prod.fst).map D.str) i)]) (by kernel_rfl) ?_
   refine OD.ldSV ByteArray.empty (f:=D.str) (xs:=(l.map Prod.fst)) rfl (by kernel_rfl) (by rw [List.length_map];omega) ?_
   refine OD.is 45 rfl (show _=.str ((l.getD i e0).1)from(by rw [X2Z (by omega)])) ?_
   refine OD.runE 0 [0,1,5,6,7,41,45] (E':=[(0,.loc 0 0),(1,.loc 2 0),(5,.sl 1 l.length ((l.map Prod.fst).map D.str)),(6,.sl 1 l.length ((l.map Prod.fst).map D.str)),(7,.int .i64 ((i:Nat):Int)),(41,.loc 0 0),(45,.str ((l.getD i e0).1))]) (by kernel_rfl) ?_
   refine OD.callFz (jb:=0) (jr:=1) (o:=0) (n:=l.length) (c:=l.length+rest.length) (e:=3) (N:=l.length+rest.length) (d0:=.int .i64 room) (d1:=.int .i64 ((nx:Nat):Int)) (cells:=(l++rest).flatMap X04) (rest:=[.str (l.getD i e0).1]) (R:=fun r=>r=.tup [.str (X1j l (l.getD i e0).1).1,.bool (X1j l (l.getD i e0).1).2]) (by rw [X1N];exact XEa _ _ l _ (by omega)) rfl (by kernel_rfl) rfl rfl rfl rfl (by kernel_rfl) (X2t l rest) (by omega) (by kernel_rfl) (fun r hr=>by rw [hr];rfl) (fun r hr=>?_)
   subst hr
   refine OD.is 46 rfl (show _=.tup [.str ((X1j l (l.getD i e0).1).1),.bool true]from(by rw [X5L (by omega)])) ?_
   refine OD.runE 5 [0,1,5,6,7,8,9] (E':=[(0,.loc 0 0),(1,.loc 2 0),(5,.sl 1 l.length ((l.map Prod.fst).map D.str)),(6,.sl 1 l.length ((l.map Prod.fst).map D.str)),(7,.int .i64 ((i:Nat):Int)),(8,.str ((X1j l (l.getD i e0).1).1)),(9,.bool true)]) (by kernel_rfl) ?_
   refine OD.nil ?_
   refine CD.seq ?_
   refine CD.region ?_
   refine OD.runE 3 [0,1,5,6,7,8,9,50,51,52] (E':=[(0,.loc 0 0),(1,.loc 2 0),(5,.sl 1 l.length ((l.map Prod.fst).map D.str)),(6,.sl 1 l.length ((l.map Prod.fst).map D.str)),(7,.int .i64 ((i:Nat):Int)),(8,.str ((X1j l (l.getD i e0).1).1)),(9,.bool true),(50,.loc 2 0),(51,.sl 1 l.length ((l.map Prod.fst).map D.str)),(52,.int .i64 ((i:Nat):Int))]) (by kernel_rfl) ?_
   refine OD.idxSV (i:=i) rfl rfl (by kernel_rfl) (by omega) (by omega) ?_
   refine OD.runE 0 [0,1,5,6,7,8,9,50,53] (E':=[(0,.loc 0 0),(1,.loc 2 0),(5,.sl 1 l.length ((l.map Prod.fst).map D.str)),(6,.sl 1 l.length ((l.map Prod.fst).map D.str)),(7,.int .i64 ((i:Nat):Int)),(8,.str ((X1j l (l.getD i e0).1).1)),(9,.bool true),(50,.loc 2 0),(53,.ep 1 l.length ((l.map Prod.fst).map D.str) i)]) (by kernel_rfl) ?_
   refine OD.ldSV ByteArray.empty (f:=D.str) (xs:=(l.map Prod.fst)) rfl (by kernel_rfl) (by rw [List.length_map];omega) ?_
   refine OD.is 54 rfl (show _=.str ((l.getD i e0).1)from(by rw [X2Z (by omega)])) ?_
   refine OD.runE 0 [0,1,5,6,7,8,9,50,54] (E':=[(0,.loc 0 0),(1,.loc 2 0),(5,.sl 1 l.length ((l.map Prod.fst).map D.str)),(6,.sl 1 l.length ((l.map Prod.fst).map D.str)),(7,.int .i64 ((i:Nat):Int)),(8,.str ((X1j l (l.getD i e0).1).1)),(9,.bool true),(50,.loc 2 0),(54,.str ((l.getD i e0).1))]) (by kernel_rfl) ?_
   refine OD.callFy (jb:=2) (jr:=3) (o:=0) (n:=ms.length) (c:=ms.length) (e:=3) (N:=ms.length) (d0:=.int .i64 room2) (d1:=.int .i64 ((nx:Nat):Int)) (cells:=ms.flatMap X04) (rest:=[.str (l.getD i e0).1]) (R:=fun r=>r=.tup [.agg [.str ((X0h ms (l.getD i e0).1).1.1),.str ((X0h ms (l.getD i e0).1).1.2.1),.bool (X0h ms (l.getD i e0).1).1.2.2],.bool (X0h ms (l.getD i e0).1).2]) (by rw [X1K];exact X77 _ _ ms _ (by omega)) rfl (by kernel_rfl) rfl rfl rfl rfl (by kernel_rfl) (X2P ms) (Nat.le_refl _) (by kernel_rfl) (fun r hr=>by rw [hr];rfl) (fun r hr=>?_)
   subst hr
   refine OD.is 55 rfl (show _=.tup [.agg [.str ((X0h ms (l.getD i e0).1).1.1),.str ((X1j l (l.getD i e0).1).1),.bool (X0h ms (l.getD i e0).1).1.2.2],.bool true]from(by rw [hms,(X5K hnd (X9w hne (by omega))).1,(X5K hnd (X9w hne (by omega))).2,X5L (by omega)])) ?_
   refine OD.run 6 [0,1,5,6,7,8,9,10,11] (E':=[(0,.loc 0 0),(1,.loc 2 0),(5,.sl 1 l.length ((l.map Prod.fst).map D.str)),(6,.sl 1 l.length ((l.map Prod.fst).map D.str)),(7,.int .i64 ((i:Nat):Int)),(8,.str ((X1j l (l.getD i e0).1).1)),(9,.bool true),(10,.loc 4 0),(11,.bool true)]) (L':=[.box [.int .i64 room,.int .i64 ((nx:Nat):Int),.row 1 0 l.length (l.length+rest.length)],.row 3 (l.length+rest.length) ((l++rest).flatMap X04),.box [.int .i64 room2,.row 3 0 ms.length ms.length,.int .i64 ((nx:Nat):Int)],.row 3 ms.length (ms.flatMap X04),.box [.str ((X0h ms (l.getD i e0).1).1.1),.str ((X1j l (l.getD i e0).1).1),.bool (X0h ms (l.getD i e0).1).1.2.2]]) (by kernel_rfl) ?_
   refine OD.nil ?_
   refine CD.seq ?_
   refine CD.region ?_
   refine OD.runE 3 [0,1,5,6,7,8,9,10,11,59,60,61] (E':=[(0,.loc 0 0),(1,.loc 2 0),(5,.sl 1 l.length ((l.map Prod.fst).map D.str)),(6,.sl 1 l.length ((l.map Prod.fst).map D.str)),(7,.int .i64 ((i:Nat):Int)),(8,.str ((X1j l (l.getD i e0).1).1)),(9,.bool true),(10,.loc 4 0),(11,.bool true),(59,.loc 0 0),(60,.sl 1 l.length ((l.map Prod.fst).map D.str)),(61,.int .i64 ((i:Nat):Int))]) (by kernel_rfl) ?_
   refine OD.idxSV (i:=i) rfl rfl (by kernel_rfl) (by omega) (by omega) ?_
   refine OD.runE 0 [0,1,5,6,7,8,9,10,11,59,62] (E':=[(0,.loc 0 0),(1,.loc 2 0),(5,.sl 1 l.length ((l.map Prod.fst).map D.str)),(6,.sl 1 l.length ((l.map Prod.fst).map D.str)),(7,.int .i64 ((i:Nat):Int)),(8,.str ((X1j l (l.getD i e0).1).1)),(9,.bool true),(10,.loc 4 0),(11,.bool true),(59,.loc 0 0),(62,.ep 1 l.length ((l.map Prod.fst).map D.str) i)]) (by kernel_rfl) ?_
   refine OD.ldSV ByteArray.empty (f:=D.str) (xs:=(l.map Prod.fst)) rfl (by kernel_rfl) (by rw [List.length_map];omega) ?_
   refine OD.is 63 rfl (show _=.str ((l.getD i e0).1)from(by rw [X2Z (by omega)])) ?_
   refine OD.runE 0 [0,1,5,6,7,8,9,10,11,59,63] (E':=[(0,.loc 0 0),(1,.loc 2 0),(5,.sl 1 l.length ((l.map Prod.fst).map D.str)),(6,.sl 1 l.length ((l.map Prod.fst).map D.str)),(7,.int .i64 ((i:Nat):Int)),(8,.str ((X1j l (l.getD i e0).1).1)),(9,.bool true),(10,.loc 4 0),(11,.bool true),(59,.loc 0 0),(63,.str ((l.getD i e0).1))]) (by kernel_rfl) ?_
   refine OD.callFz (jb:=0) (jr:=1) (o:=0) (n:=l.length) (c:=l.length+rest.length) (e:=3) (N:=l.length+rest.length) (d0:=.int .i64 room) (d1:=.int .i64 ((nx:Nat):Int)) (cells:=(l++rest).flatMap X04) (rest:=[.str (l.getD i e0).1]) (R:=fun r=>r=.tup [.str (X0k l (l.getD i e0).1).1,.bool (X0k l (l.getD i e0).1).2]) (by rw [X1N];exact XEc _ _ l _ (by omega) hsz) rfl (by kernel_rfl) rfl rfl rfl rfl (by kernel_rfl) (X2t l rest) (by omega) (by kernel_rfl) (fun r hr=>by rw [hr];rfl) (fun r hr=>?_)
   subst hr
   refine OD.is 64 rfl (show _=.tup [.str ((X0k l (l.getD i e0).1).1),.bool true]from(by rw [XC7 (by omega) (X9w hne (by omega))])) ?_
   refine OD.runE 5 [0,1,5,6,7,8,9,10,11,12,13] (E':=[(0,.loc 0 0),(1,.loc 2 0),(5,.sl 1 l.length ((l.map Prod.fst).map D.str)),(6,.sl 1 l.length ((l.map Prod.fst).map D.str)),(7,.int .i64 ((i:Nat):Int)),(8,.str ((X1j l (l.getD i e0).1).1)),(9,.bool true),(10,.loc 4 0),(11,.bool true),(12,.str ((X0k l (l.getD i e0).1).1)),(13,.bool true)]) (by kernel_rfl) ?_
   refine OD.nil ?_
   refine CD.seq ?_
   refine CD.region ?_
   refine OD.runE 3 [0,1,5,6,7,8,9,10,11,12,13,68,69,70] (E':=[(0,.loc 0 0),(1,.loc 2 0),(5,.sl 1 l.length ((l.map Prod.fst).map D.str)),(6,.sl 1 l.length ((l.map Prod.fst).map D.str)),(7,.int .i64 ((i:Nat):Int)),(8,.str ((X1j l (l.getD i e0).1).1)),(9,.bool true),(10,.loc 4 0),(11,.bool true),(12,.str ((X0k l (l.getD i e0).1).1)),(13,.bool true),(68,.loc 2 0),(69,.sl 1 l.length ((l.map Prod.fst).map D.str)),(70,.int .i64 ((i:Nat):Int))]) (by kernel_rfl) ?_
   refine OD.idxSV (i:=i) rfl rfl (by kernel_rfl) (by omega) (by omega) ?_
   refine OD.runE 0 [0,1,5,6,7,8,9,10,11,12,13,68,71] (E':=[(0,.loc 0 0),(1,.loc 2 0),(5,.sl 1 l.length ((l.map Prod.fst).map D.str)),(6,.sl 1 l.length ((l.map Prod.fst).map D.str)),(7,.int .i64 ((i:Nat):Int)),(8,.str ((X1j l (l.getD i e0).1).1)),(9,.bool true),(10,.loc 4 0),(11,.bool true),(12,.str ((X0k l (l.getD i e0).1).1)),(13,.bool true),(68,.loc 2 0),(71,.ep 1 l.length ((l.map Prod.fst).map D.str) i)]) (by kernel_rfl) ?_
   refine OD.ldSV ByteArray.empty (f:=D.str) (xs:=(l.map Prod.fst)) rfl (by kernel_rfl) (by rw [List.length_map];omega) ?_
   refine OD.is 72 rfl (show _=.str ((l.getD i e0).1)from(by rw [X2Z (by omega)])) ?_
   refine OD.runE 0 [0,1,5,6,7,8,9,10,11,12,13,68,72] (E':=[(0,.loc 0 0),(1,.loc 2 0),(5,.sl 1 l.length ((l.map Prod.fst).map D.str)),(6,.sl 1 l.length ((l.map Prod.fst).map D.str)),(7,.int .i64 ((i:Nat):Int)),(8,.str ((X1j l (l.getD i e0).1).1)),(9,.bool true),(10,.loc 4 0),(11,.bool true),(12,.str ((X0k l (l.getD i e0).1).1)),(13,.bool true),(68,.loc 2 0),(72,.str ((l.getD i e0).1))]) (by kernel_rfl) ?_
   refine OD.callFy (jb:=2) (jr:=3) (o:=0) (n:=ms.length) (c:=ms.length) (e:=3) (N:=ms.length) (d0:=.int .i64 room2) (d1:=.int .i64 ((nx:Nat):Int)) (cells:=ms.flatMap X04) (rest:=[.str (l.getD i e0).1]) (R:=fun r=>r=.tup [.str (X4h ms (l.getD i e0).1).1,.bool (X4h ms (l.getD i e0).1).2]) (by rw [X1K];exact XC8 _ _ ms _ (by omega) hszm) rfl (by kernel_rfl) rfl rfl rfl rfl (by kernel_rfl) (X2P ms) (Nat.le_refl _) (by kernel_rfl) (fun r hr=>by rw [hr];rfl) (fun r hr=>?_)
   subst hr
   refine OD.is 73 rfl (show _=.tup [.str ((X0k l (l.getD i e0).1).1),.bool (X0k l (l.getD i e0).1).2]from(by rw [hms,XC6 hnd (X9w hne (by omega))])) ?_
   refine OD.runE 5 [0,1,5,6,7,8,9,10,11,12,13,14] (E':=[(0,.loc 0 0),(1,.loc 2 0),(5,.sl 1 l.length ((l.map Prod.fst).map D.str)),(6,.sl 1 l.length ((l.map Prod.fst).map D.str)),(7,.int .i64 ((i:Nat):Int)),(8,.str ((X1j l (l.getD i e0).1).1)),(9,.bool true),(10,.loc 4 0),(11,.bool true),(12,.str ((X0k l (l.getD i e0).1).1)),(13,.bool true),(14,.str ((X0k l (l.getD i e0).1).1))]) (by kernel_rfl) ?_
   refine OD.nil ?_
   refine CD.seq ?_
   refine CD.drawn (by kernel_rfl) ?_
   refine OD.runE 2 [0,1,5,6,7,8,9,10,11,12,13,14,76,77] (E':=[(0,.loc 0 0),(1,.loc 2 0),(5,.sl 1 l.length ((l.map Prod.fst).map D.str)),(6,.sl 1 l.length ((l.map Prod.fst).map D.str)),(7,.int .i64 ((i:Nat):Int)),(8,.str ((X1j l (l.getD i e0).1).1)),(9,.bool true),(10,.loc 4 0),(11,.bool true),(12,.str ((X0k l (l.getD i e0).1).1)),(13,.bool true),(14,.str ((X0k l (l.getD i e0).1).1)),(76,.sl 1 l.length ((l.map Prod.fst).map D.str)),(77,.int .i64 ((i:Nat):Int))]) (by kernel_rfl) ?_
   refine OD.idxSV (i:=i) rfl rfl (by kernel_rfl) (by omega) (by omega) ?_
   refine OD.runE 0 [0,1,5,6,7,8,9,10,11,12,13,14,78] (E':=[(0,.loc 0 0),(1,.loc 2 0),(5,.sl 1 l.length ((l.map Prod.fst).map D.str)),(6,.sl 1 l.length ((l.map Prod.fst).map D.str)),(7,.int .i64 ((i:Nat):Int)),(8,.str ((X1j l (l.getD i e0).1).1)),(9,.bool true),(10,.loc 4 0),(11,.bool true),(12,.str ((X0k l (l.getD i e0).1).1)),(13,.bool true),(14,.str ((X0k l (l.getD i e0).1).1)),(78,.ep 1 l.length ((l.map Prod.fst).map D.str) i)]) (by kernel_rfl) ?_
   refine OD.ldSV ByteArray.empty (f:=D.str) (xs:=(l.map Prod.fst)) rfl (by kernel_rfl) (by rw [List.length_map];omega) ?_
   refine OD.is 79 rfl (show _=.str ((l.getD i e0).1)from(by rw [X2Z (by omega)])) ?_
   refine OD.runE 2 [0,1,5,6,7,8,9,10,11,12,13,14,79,80,81] (E':=[(0,.loc 0 0),(1,.loc 2 0),(5,.sl 1 l.length ((l.map Prod.fst).map D.str)),(6,.sl 1 l.length ((l.map Prod.fst).map D.str)),(7,.int .i64 ((i:Nat):Int)),(8,.str ((X1j l (l.getD i e0).1).1)),(9,.bool true),(10,.loc 4 0),(11,.bool true),(12,.str ((X0k l (l.getD i e0).1).1)),(13,.bool true),(14,.str ((X0k l (l.getD i e0).1).1)),(79,.str ((l.getD i e0).1)),(80,.sl 1 l.length ((l.map Prod.fst).map D.str)),(81,.int .i64 ((i:Nat):Int))]) (by kernel_rfl) ?_
   refine OD.idxSV (i:=i) rfl rfl (by kernel_rfl) (by omega) (by omega) ?_
   refine OD.runE 0 [0,1,5,6,7,8,9,10,11,12,13,14,79,82] (E':=[(0,.loc 0 0),(1,.loc 2 0),(5,.sl 1 l.length ((l.map Prod.fst).map D.str)),(6,.sl 1 l.length ((l.map Prod.fst).map D.str)),(7,.int .i64 ((i:Nat):Int)),(8,.str ((X1j l (l.getD i e0).1).1)),(9,.bool true),(10,.loc 4 0),(11,.bool true),(12,.str ((X0k l (l.getD i e0).1).1)),(13,.bool true),(14,.str ((X0k l (l.getD i e0).1).1)),(79,.str ((l.getD i e0).1)),(82,.ep 1 l.length ((l.map Prod.fst).map D.str) i)]) (by kernel_rfl) ?_
   refine OD.ldSV ByteArray.empty (f:=D.str) (xs:=(l.map Prod.fst)) rfl (by kernel_rfl) (by rw [List.length_map];omega) ?_
   refine OD.is 83 rfl (show _=.str ((l.getD i e0).1)from(by rw [X2Z (by omega)])) ?_
   refine OD.runE 0 [0,1,5,6,7,8,9,10,11,12,13,14,79,83] (E':=[(0,.loc 0 0),(1,.loc 2 0),(5,.sl 1 l.length ((l.map Prod.fst).map D.str)),(6,.sl 1 l.length ((l.map Prod.fst).map D.str)),(7,.int .i64 ((i:Nat):Int)),(8,.str ((X1j l (l.getD i e0).1).1)),(9,.bool true),(10,.loc 4 0),(11,.bool true),(12,.str ((X0k l (l.getD i e0).1).1)),(13,.bool true),(14,.str ((X0k l (l.getD i e0).1).1)),(79,.str ((l.getD i e0).1)),(83,.str ((l.getD i e0).1))]) (by kernel_rfl) ?_
   refine OD.neS rfl rfl ?_
   refine OD.runE 1 [0,1,5,6,7,8,9,10,11,12,13,14,85] (E':=[(0,.loc 0 0),(1,.loc 2 0),(5,.sl 1 l.length ((l.map Prod.fst).map D.str)),(6,.sl 1 l.length ((l.map Prod.fst).map D.str)),(7,.int .i64 ((i:Nat):Int)),(8,.str ((X1j l (l.getD i e0).1).1)),(9,.bool true),(10,.loc 4 0),(11,.bool true),(12,.str ((X0k l (l.getD i e0).1).1)),(13,.bool true),(14,.str ((X0k l (l.getD i e0).1).1)),(85,.bool (decide (¬ (l.getD i e0).1=(l.getD i e0).1)))]) (by kernel_rfl) ?_
   refine OD.ifP 85 rfl (fun h3=>?_) (fun h3=>?_)
   ·
    refine OD.runE 22 [0,1,5,6,7,107] (E':=[(0,.loc 0 0),(1,.loc 2 0),(5,.sl 1 l.length ((l.map Prod.fst).map D.str)),(6,.sl 1 l.length ((l.map Prod.fst).map D.str)),(7,.int .i64 ((i:Nat):Int)),(107,.bool true)]) (by kernel_rfl) ?_
    refine OD.nil ⟨by kernel_rfl,?_⟩
    refine CD.condT rfl ?_
    refine CD.seq ?_
    refine CD.region ?_
    refine OD.runE 1 [4] (E':=[(4,.bool false)]) (by kernel_rfl) ?_
    refine OD.nil ?_
    refine CD.ret ?_
    first | refine X06 ?_ | refine X07 ?_ | (dsimp only;first | refine X06 ?_ | refine X07 ?_)
    refine X26 4 (r:=.bool false) (L':=[.box [.int .i64 room,.int .i64 ((nx:Nat):Int),.row 1 0 l.length (l.length+rest.length)],.row 3 (l.length+rest.length) ((l++rest).flatMap X04),.box [.int .i64 room2,.row 3 0 ms.length ms.length,.int .i64 ((nx:Nat):Int)],.row 3 ms.length (ms.flatMap X04)]) (by kernel_rfl) ?_ ?_ (by kernel_rfl) (by kernel_rfl) ?_
    · exact Nat.le_of_ble_eq_true (by kernel_rfl)
    · exact Nat.le_of_ble_eq_true (by kernel_rfl)
    · exact(by exfalso;first | exact absurd rfl h3 | exact absurd rfl h2 | exact absurd rfl h1)
   ·
    refine OD.runE 3 [0,1,5,6,7,9,11,12,13,14,85,86,88] (E':=[(0,.loc 0 0),(1,.loc 2 0),(5,.sl 1 l.length ((l.map Prod.fst).map D.str)),(6,.sl 1 l.length ((l.map Prod.fst).map D.str)),(7,.int .i64 ((i:Nat):Int)),(9,.bool true),(11,.bool true),(12,.str ((X0k l (l.getD i e0).1).1)),(13,.bool true),(14,.str ((X0k l (l.getD i e0).1).1)),(85,.bool false),(86,.str ((X1j l (l.getD i e0).1).1)),(88,.str ((X1j l (l.getD i e0).1).1))]) (by kernel_rfl) ?_
    refine OD.guard rfl rfl ?_
    refine OD.neS rfl rfl ?_
    refine OD.runE 2 [0,1,5,6,7,9,11,12,13,14,91] (E':=[(0,.loc 0 0),(1,.loc 2 0),(5,.sl 1 l.length ((l.map Prod.fst).map D.str)),(6,.sl 1 l.length ((l.map Prod.fst).map D.str)),(7,.int .i64 ((i:Nat):Int)),(9,.bool true),(11,.bool true),(12,.str ((X0k l (l.getD i e0).1).1)),(13,.bool true),(14,.str ((X0k l (l.getD i e0).1).1)),(91,.bool (decide (¬ (X1j l (l.getD i e0).1).1=(X1j l (l.getD i e0).1).1)))]) (by kernel_rfl) ?_
    refine OD.ifP 91 rfl (fun h4=>?_) (fun h4=>?_)
    ·
     refine OD.runE 16 [0,1,5,6,7,107] (E':=[(0,.loc 0 0),(1,.loc 2 0),(5,.sl 1 l.length ((l.map Prod.fst).map D.str)),(6,.sl 1 l.length ((l.map Prod.fst).map D.str)),(7,.int .i64 ((i:Nat):Int)),(107,.bool true)]) (by kernel_rfl) ?_
     refine OD.nil ⟨by kernel_rfl,?_⟩
     refine CD.condT rfl ?_
     refine CD.seq ?_
     refine CD.region ?_
     refine OD.runE 1 [4] (E':=[(4,.bool false)]) (by kernel_rfl) ?_
     refine OD.nil ?_
     refine CD.ret ?_
     first | refine X06 ?_ | refine X07 ?_ | (dsimp only;first | refine X06 ?_ | refine X07 ?_)
     refine X26 4 (r:=.bool false) (L':=[.box [.int .i64 room,.int .i64 ((nx:Nat):Int),.row 1 0 l.length (l.length+rest.length)],.row 3 (l.length+rest.length) ((l++rest).flatMap X04),.box [.int .i64 room2,.row 3 0 ms.length ms.length,.int .i64 ((nx:Nat):Int)],.row 3 ms.length (ms.flatMap X04)]) (by kernel_rfl) ?_ ?_ (by kernel_rfl) (by kernel_rfl) ?_
     · exact Nat.le_of_ble_eq_true (by kernel_rfl)
     · exact Nat.le_of_ble_eq_true (by kernel_rfl)
     · exact(by exfalso;first | exact absurd rfl h4 | exact absurd rfl h3 | exact absurd rfl h2 | exact absurd rfl h1)
    ·
     refine OD.runE 14 [0,1,5,6,7,103,104,105] (E':=[(0,.loc 0 0),(1,.loc 2 0),(5,.sl 1 l.length ((l.map Prod.fst).map D.str)),(6,.sl 1 l.length ((l.map Prod.fst).map D.str)),(7,.int .i64 ((i:Nat):Int)),(103,.bool false),(104,.str ((X0k l (l.getD i e0).1).1)),(105,.str ((X0k l (l.getD i e0).1).1))]) (by kernel_rfl) ?_
     refine OD.guard rfl rfl ?_
     refine OD.neS rfl rfl ?_
     refine OD.runE 1 [0,1,5,6,7,107] (E':=[(0,.loc 0 0),(1,.loc 2 0),(5,.sl 1 l.length ((l.map Prod.fst).map D.str)),(6,.sl 1 l.length ((l.map Prod.fst).map D.str)),(7,.int .i64 ((i:Nat):Int)),(107,.bool (decide (¬ (X0k l (l.getD i e0).1).1=(X0k l (l.getD i e0).1).1)))]) (by kernel_rfl) ?_
     refine OD.nil ⟨by kernel_rfl,?_⟩
     refine CD.condP rfl (fun h5=>?_) (fun h5=>?_)
     ·
      refine CD.seq ?_
      refine CD.region ?_
      refine OD.runE 1 [4] (E':=[(4,.bool false)]) (by kernel_rfl) ?_
      refine OD.nil ?_
      refine CD.ret ?_
      first | refine X06 ?_ | refine X07 ?_ | (dsimp only;first | refine X06 ?_ | refine X07 ?_)
      refine X26 4 (r:=.bool false) (L':=[.box [.int .i64 room,.int .i64 ((nx:Nat):Int),.row 1 0 l.length (l.length+rest.length)],.row 3 (l.length+rest.length) ((l++rest).flatMap X04),.box [.int .i64 room2,.row 3 0 ms.length ms.length,.int .i64 ((nx:Nat):Int)],.row 3 ms.length (ms.flatMap X04)]) (by kernel_rfl) ?_ ?_ (by kernel_rfl) (by kernel_rfl) ?_
      · exact Nat.le_of_ble_eq_true (by kernel_rfl)
      · exact Nat.le_of_ble_eq_true (by kernel_rfl)
      · exact(by exfalso;first | exact absurd rfl h5 | exact absurd rfl h4 | exact absurd rfl h3 | exact absurd rfl h2 | exact absurd rfl h1)
     ·
      refine CD.skip ?_
      refine CD.region ?_
      refine OD.runE 2 [0,1,5,6,39] (E':=[(0,.loc 0 0),(1,.loc 2 0),(5,.sl 1 l.length ((l.map Prod.fst).map D.str)),(6,.sl 1 l.length ((l.map Prod.fst).map D.str)),(39,.int .i64 (X0X .i64 (((i:Nat):Int)+1)))]) (by kernel_rfl) ?_
      refine OD.is 39 rfl (wrn (m:=i+1) (by omega) (by omega)) ?_
      refine OD.runE 1 [0,1,5,6,7] (E':=[(0,.loc 0 0),(1,.loc 2 0),(5,.sl 1 l.length ((l.map Prod.fst).map D.str)),(6,.sl 1 l.length ((l.map Prod.fst).map D.str)),(7,.int .i64 ((i+1:Nat):Int))]) (by kernel_rfl) ?_
      refine OD.nilW [0,1,5,6,7] 4 (E':=[(0,.loc 0 0),(1,.loc 2 0),(5,.sl 1 l.length ((l.map Prod.fst).map D.str)),(6,.sl 1 l.length ((l.map Prod.fst).map D.str)),(7,.int .i64 ((i+1:Nat):Int))]) (by kernel_rfl) (by simp [hg0]) (by kernel_rfl) ?_
      exact⟨_,by omega,(i+1),(by kernel_rfl),by omega,rfl⟩
  ·
   refine CD.exit ?_
   refine CD.seq ?_
   refine CD.region ?_
   refine OD.runE 1 [0,1,109] (E':=[(0,.loc 0 0),(1,.loc 2 0),(109,.loc 0 0)]) (by kernel_rfl) ?_
   refine OD.callFz (jb:=0) (jr:=1) (o:=0) (n:=l.length) (c:=l.length+rest.length) (e:=3) (N:=l.length+rest.length) (d0:=.int .i64 room) (d1:=.int .i64 ((nx:Nat):Int)) (cells:=(l++rest).flatMap X04) (rest:=[]) (R:=fun r=>r=.tup [.str (X0z l).1,.str (X0z l).2.1,.bool (X0z l).2.2]) (by rw [X1N];exact XEb _ _ l (by omega)) rfl (by kernel_rfl) rfl rfl rfl rfl (by kernel_rfl) (X2t l rest) (by omega) (by kernel_rfl) (fun r hr=>by rw [hr];rfl) (fun r hr=>?_)
   subst hr
   refine OD.runE 7 [0,1,16,17,18] (E':=[(0,.loc 0 0),(1,.loc 2 0),(16,.str ((X0z l).1)),(17,.str ((X0z l).2.1)),(18,.bool (X0z l).2.2)]) (by kernel_rfl) ?_
   refine OD.nil ?_
   refine CD.seq ?_
   refine CD.region ?_
   refine OD.runE 1 [0,1,16,17,18,115] (E':=[(0,.loc 0 0),(1,.loc 2 0),(16,.str ((X0z l).1)),(17,.str ((X0z l).2.1)),(18,.bool (X0z l).2.2),(115,.loc 2 0)]) (by kernel_rfl) ?_
   refine OD.callFy (jb:=2) (jr:=3) (o:=0) (n:=ms.length) (c:=ms.length) (e:=3) (N:=ms.length) (d0:=.int .i64 room2) (d1:=.int .i64 ((nx:Nat):Int)) (cells:=ms.flatMap X04) (rest:=[.str ByteArray.empty]) (R:=fun r=>r=.tup [.agg [.str ((X0h ms ByteArray.empty).1.1),.str ((X0h ms ByteArray.empty).1.2.1),.bool (X0h ms ByteArray.empty).1.2.2],.bool (X0h ms ByteArray.empty).2]) (by rw [X1K];exact X77 _ _ ms _ (by omega)) rfl (by kernel_rfl) rfl rfl rfl rfl (by kernel_rfl) (X2P ms) (Nat.le_refl _) (by kernel_rfl) (fun r hr=>by rw [hr];rfl) (fun r hr=>?_)
   subst hr
   refine OD.is 116 rfl (show _=.tup [.agg [.str ((X0z l).1),.str ((X0z l).2.1),.bool (X0h ms ByteArray.empty).1.2.2],.bool (X0z l).2.2]from(by rw [hms,(X4v l).1,(X4v l).2.1,(X4v l).2.2])) ?_
   refine OD.run 6 [0,1,16,17,18,19,20] (E':=[(0,.loc 0 0),(1,.loc 2 0),(16,.str ((X0z l).1)),(17,.str ((X0z l).2.1)),(18,.bool (X0z l).2.2),(19,.loc 4 0),(20,.bool (X0z l).2.2)]) (L':=[.box [.int .i64 room,.int .i64 ((nx:Nat):Int),.row 1 0 l.length (l.length+rest.length)],.row 3 (l.length+rest.length) ((l++rest).flatMap X04),.box [.int .i64 room2,.row 3 0 ms.length ms.length,.int .i64 ((nx:Nat):Int)],.row 3 ms.length (ms.flatMap X04),.box [.str ((X0z l).1),.str ((X0z l).2.1),.bool (X0h ms ByteArray.empty).1.2.2]]) (by kernel_rfl) ?_
   refine OD.nil ?_
   refine CD.seq ?_
   refine CD.region ?_
   refine OD.runE 1 [1,16,17,18,19,20,120] (E':=[(1,.loc 2 0),(16,.str ((X0z l).1)),(17,.str ((X0z l).2.1)),(18,.bool (X0z l).2.2),(19,.loc 4 0),(20,.bool (X0z l).2.2),(120,.loc 0 0)]) (by kernel_rfl) ?_
   refine OD.callFz (jb:=0) (jr:=1) (o:=0) (n:=l.length) (c:=l.length+rest.length) (e:=3) (N:=l.length+rest.length) (d0:=.int .i64 room) (d1:=.int .i64 ((nx:Nat):Int)) (cells:=(l++rest).flatMap X04) (rest:=[.str ByteArray.empty]) (R:=fun r=>r=.tup [.str (X0k l ByteArray.empty).1,.bool (X0k l ByteArray.empty).2]) (by rw [X1N];exact XEc _ _ l _ (by omega) hsz) rfl (by kernel_rfl) rfl rfl rfl rfl (by kernel_rfl) (X2t l rest) (by omega) (by kernel_rfl) (fun r hr=>by rw [hr];rfl) (fun r hr=>?_)
   subst hr
   refine OD.runE 5 [1,16,17,18,19,20,21,22] (E':=[(1,.loc 2 0),(16,.str ((X0z l).1)),(17,.str ((X0z l).2.1)),(18,.bool (X0z l).2.2),(19,.loc 4 0),(20,.bool (X0z l).2.2),(21,.str ((X0k l ByteArray.empty).1)),(22,.bool (X0k l ByteArray.empty).2)]) (by kernel_rfl) ?_
   refine OD.nil ?_
   refine CD.seq ?_
   refine CD.region ?_
   refine OD.runE 1 [16,17,18,19,20,21,22,125] (E':=[(16,.str ((X0z l).1)),(17,.str ((X0z l).2.1)),(18,.bool (X0z l).2.2),(19,.loc 4 0),(20,.bool (X0z l).2.2),(21,.str ((X0k l ByteArray.empty).1)),(22,.bool (X0k l ByteArray.empty).2),(125,.loc 2 0)]) (by kernel_rfl) ?_
   refine OD.callFy (jb:=2) (jr:=3) (o:=0) (n:=ms.length) (c:=ms.length) (e:=3) (N:=ms.length) (d0:=.int .i64 room2) (d1:=.int .i64 ((nx:Nat):Int)) (cells:=ms.flatMap X04) (rest:=[.str ByteArray.empty]) (R:=fun r=>r=.tup [.str (X4h ms ByteArray.empty).1,.bool (X4h ms ByteArray.empty).2]) (by rw [X1K];exact XC8 _ _ ms _ (by omega) hszm) rfl (by kernel_rfl) rfl rfl rfl rfl (by kernel_rfl) (X2P ms) (Nat.le_refl _) (by kernel_rfl) (fun r hr=>by rw [hr];rfl) (fun r hr=>?_)
   subst hr
   refine OD.is 126 rfl (show _=.tup [.str ((X0k l ByteArray.empty).1),.bool (X0k l ByteArray.empty).2]from(by rw [hms,XDo])) ?_
   refine OD.runE 5 [16,17,18,19,20,21,22,23,24] (E':=[(16,.str ((X0z l).1)),(17,.str ((X0z l).2.1)),(18,.bool (X0z l).2.2),(19,.loc 4 0),(20,.bool (X0z l).2.2),(21,.str ((X0k l ByteArray.empty).1)),(22,.bool (X0k l ByteArray.empty).2),(23,.str ((X0k l ByteArray.empty).1)),(24,.bool (X0k l ByteArray.empty).2)]) (by kernel_rfl) ?_
   refine OD.nil ?_
   refine CD.seq ?_
   refine CD.region ?_
   refine OD.runE 3 [17,18,19,20,21,22,23,24,129,131] (E':=[(17,.str ((X0z l).2.1)),(18,.bool (X0z l).2.2),(19,.loc 4 0),(20,.bool (X0z l).2.2),(21,.str ((X0k l ByteArray.empty).1)),(22,.bool (X0k l ByteArray.empty).2),(23,.str ((X0k l ByteArray.empty).1)),(24,.bool (X0k l ByteArray.empty).2),(129,.str ((X0z l).1)),(131,.str ((X0z l).1))]) (by kernel_rfl) ?_
   refine OD.eqS rfl rfl ?_
   refine OD.runE 1 [17,18,19,20,21,22,23,24,133] (E':=[(17,.str ((X0z l).2.1)),(18,.bool (X0z l).2.2),(19,.loc 4 0),(20,.bool (X0z l).2.2),(21,.str ((X0k l ByteArray.empty).1)),(22,.bool (X0k l ByteArray.empty).2),(23,.str ((X0k l ByteArray.empty).1)),(24,.bool (X0k l ByteArray.empty).2),(133,.bool (decide ((X0z l).1=(X0z l).1)))]) (by kernel_rfl) ?_
   refine OD.ifP 133 rfl (fun h6=>?_) (fun h6=>?_)
   ·
    refine OD.runE 3 [18,20,21,22,23,24,133,134,136] (E':=[(18,.bool (X0z l).2.2),(20,.bool (X0z l).2.2),(21,.str ((X0k l ByteArray.empty).1)),(22,.bool (X0k l ByteArray.empty).2),(23,.str ((X0k l ByteArray.empty).1)),(24,.bool (X0k l ByteArray.empty).2),(133,.bool true),(134,.str ((X0z l).2.1)),(136,.str ((X0z l).2.1))]) (by kernel_rfl) ?_
    refine OD.guard rfl rfl ?_
    refine OD.eqS rfl rfl ?_
    refine OD.runE 2 [18,20,21,22,23,24,139] (E':=[(18,.bool (X0z l).2.2),(20,.bool (X0z l).2.2),(21,.str ((X0k l ByteArray.empty).1)),(22,.bool (X0k l ByteArray.empty).2),(23,.str ((X0k l ByteArray.empty).1)),(24,.bool (X0k l ByteArray.empty).2),(139,.bool (decide ((X0z l).2.1=(X0z l).2.1)))]) (by kernel_rfl) ?_
    refine OD.ifP 139 rfl (fun h7=>?_) (fun h7=>?_)
    ·
     refine OD.runE 3 [21,22,23,24,139,142] (E':=[(21,.str ((X0k l ByteArray.empty).1)),(22,.bool (X0k l ByteArray.empty).2),(23,.str ((X0k l ByteArray.empty).1)),(24,.bool (X0k l ByteArray.empty).2),(139,.bool true),(142,.bool (bif (X0z l).2.2 then(bif (X0z l).2.2 then true else false)else(bif (X0z l).2.2 then false else true)))]) (by kernel_rfl) ?_
     refine OD.is 142 rfl (congrArg D.bool X8s) ?_
     refine OD.runE 2 [21,22,23,24,144] (E':=[(21,.str ((X0k l ByteArray.empty).1)),(22,.bool (X0k l ByteArray.empty).2),(23,.str ((X0k l ByteArray.empty).1)),(24,.bool (X0k l ByteArray.empty).2),(144,.bool (decide ((X0z l).2.2=(X0z l).2.2)))]) (by kernel_rfl) ?_
     refine OD.ifP 144 rfl (fun h8=>?_) (fun h8=>?_)
     ·
      refine OD.runE 2 [22,24,144,145,146] (E':=[(22,.bool (X0k l ByteArray.empty).2),(24,.bool (X0k l ByteArray.empty).2),(144,.bool true),(145,.str ((X0k l ByteArray.empty).1)),(146,.str ((X0k l ByteArray.empty).1))]) (by kernel_rfl) ?_
      refine OD.guard rfl rfl ?_
      refine OD.eqS rfl rfl ?_
      refine OD.runE 2 [22,24,149] (E':=[(22,.bool (X0k l ByteArray.empty).2),(24,.bool (X0k l ByteArray.empty).2),(149,.bool (decide ((X0k l ByteArray.empty).1=(X0k l ByteArray.empty).1)))]) (by kernel_rfl) ?_
      refine OD.ifP 149 rfl (fun h9=>?_) (fun h9=>?_)
      ·
       refine OD.runE 3 [149,152] (E':=[(149,.bool true),(152,.bool (bif (X0k l ByteArray.empty).2 then(bif (X0k l ByteArray.empty).2 then true else false)else(bif (X0k l ByteArray.empty).2 then false else true)))]) (by kernel_rfl) ?_
       refine OD.is 152 rfl (congrArg D.bool X8s) ?_
       refine OD.runE 2 [4] (E':=[(4,.bool (decide ((X0k l ByteArray.empty).2=(X0k l ByteArray.empty).2)))]) (by kernel_rfl) ?_
       refine OD.nil ?_
       refine CD.ret ?_
       first | refine X06 ?_ | refine X07 ?_ | (dsimp only;first | refine X06 ?_ | refine X07 ?_)
       refine X26 4 (r:=.bool (decide ((X0k l ByteArray.empty).2=(X0k l ByteArray.empty).2))) (L':=[.box [.int .i64 room,.int .i64 ((nx:Nat):Int),.row 1 0 l.length (l.length+rest.length)],.row 3 (l.length+rest.length) ((l++rest).flatMap X04),.box [.int .i64 room2,.row 3 0 ms.length ms.length,.int .i64 ((nx:Nat):Int)],.row 3 ms.length (ms.flatMap X04)]) (by kernel_rfl) ?_ ?_ (by kernel_rfl) (by kernel_rfl) ?_
       · exact Nat.le_of_ble_eq_true (by kernel_rfl)
       · exact Nat.le_of_ble_eq_true (by kernel_rfl)
       · exact⟨congrArg D.bool (decide_eq_true rfl),rfl⟩
      ·
       refine OD.runE 5 [4] (E':=[(4,.bool false)]) (by kernel_rfl) ?_
       refine OD.nil ?_
       refine CD.ret ?_
       first | refine X06 ?_ | refine X07 ?_ | (dsimp only;first | refine X06 ?_ | refine X07 ?_)
       refine X26 4 (r:=.bool false) (L':=[.box [.int .i64 room,.int .i64 ((nx:Nat):Int),.row 1 0 l.length (l.length+rest.length)],.row 3 (l.length+rest.length) ((l++rest).flatMap X04),.box [.int .i64 room2,.row 3 0 ms.length ms.length,.int .i64 ((nx:Nat):Int)],.row 3 ms.length (ms.flatMap X04)]) (by kernel_rfl) ?_ ?_ (by kernel_rfl) (by kernel_rfl) ?_
       · exact Nat.le_of_ble_eq_true (by kernel_rfl)
       · exact Nat.le_of_ble_eq_true (by kernel_rfl)
       · exact(by exfalso;first | exact absurd rfl h9 | exact absurd rfl h8 | exact absurd rfl h7 | exact absurd rfl h6 | exact absurd rfl h2 | exact absurd rfl h1)
     ·
      refine OD.runE 10 [4] (E':=[(4,.bool false)]) (by kernel_rfl) ?_
      refine OD.nil ?_
      refine CD.ret ?_
      first | refine X06 ?_ | refine X07 ?_ | (dsimp only;first | refine X06 ?_ | refine X07 ?_)
      refine X26 4 (r:=.bool false) (L':=[.box [.int .i64 room,.int .i64 ((nx:Nat):Int),.row 1 0 l.length (l.length+rest.length)],.row 3 (l.length+rest.length) ((l++rest).flatMap X04),.box [.int .i64 room2,.row 3 0 ms.length ms.length,.int .i64 ((nx:Nat):Int)],.row 3 ms.length (ms.flatMap X04)]) (by kernel_rfl) ?_ ?_ (by kernel_rfl) (by kernel_rfl) ?_
      · exact Nat.le_of_ble_eq_true (by kernel_rfl)
      · exact Nat.le_of_ble_eq_true (by kernel_rfl)
      · exact(by exfalso;first | exact absurd rfl h8 | exact absurd rfl h7 | exact absurd rfl h6 | exact absurd rfl h2 | exact absurd rfl h1)
    ·
     refine OD.runE 15 [4] (E':=[(4,.bool false)]) (by kernel_rfl) ?_
     refine OD.nil ?_
     refine CD.ret ?_
     first | refine X06 ?_ | refine X07 ?_ | (dsimp only;first | refine X06 ?_ | refine X07 ?_)
     refine X26 4 (r:=.bool false) (L':=[.box [.int .i64 room,.int .i64 ((nx:Nat):Int),.row 1 0 l.length (l.length+rest.length)],.row 3 (l.length+rest.length) ((l++rest).flatMap X04),.box [.int .i64 room2,.row 3 0 ms.length ms.length,.int .i64 ((nx:Nat):Int)],.row 3 ms.length (ms.flatMap X04)]) (by kernel_rfl) ?_ ?_ (by kernel_rfl) (by kernel_rfl) ?_
     · exact Nat.le_of_ble_eq_true (by kernel_rfl)
     · exact Nat.le_of_ble_eq_true (by kernel_rfl)
     · exact(by exfalso;first | exact absurd rfl h7 | exact absurd rfl h6 | exact absurd rfl h2 | exact absurd rfl h1)
   ·
    refine OD.runE 21 [4] (E':=[(4,.bool false)]) (by kernel_rfl) ?_
    refine OD.nil ?_
    refine CD.ret ?_
    first | refine X06 ?_ | refine X07 ?_ | (dsimp only;first | refine X06 ?_ | refine X07 ?_)
    refine X26 4 (r:=.bool false) (L':=[.box [.int .i64 room,.int .i64 ((nx:Nat):Int),.row 1 0 l.length (l.length+rest.length)],.row 3 (l.length+rest.length) ((l++rest).flatMap X04),.box [.int .i64 room2,.row 3 0 ms.length ms.length,.int .i64 ((nx:Nat):Int)],.row 3 ms.length (ms.flatMap X04)]) (by kernel_rfl) ?_ ?_ (by kernel_rfl) (by kernel_rfl) ?_
    · exact Nat.le_of_ble_eq_true (by kernel_rfl)
    · exact Nat.le_of_ble_eq_true (by kernel_rfl)
    · exact(by exfalso;first | exact absurd rfl h6 | exact absurd rfl h2 | exact absurd rfl h1)
end
end Go.Proofs.YtmmmjbipgngamaaGreatDoor
set_option maxRecDepth 100000
set_option maxHeartbeats 4000000
namespace Go.Proofs.YtmmmjbipgngamaaGreatDoor
open Go.Vai Go.RowKit
noncomputable section
theorem X93 (room:Int) (os:List OpW):X2G P ov 3 [.int .i64 room,.sl 3 os.length (os.flatMap X18)] (.bool true):=by
 refine FnD.intro (by kernel_rfl) (fn:=Tryz.f3) (by kernel_rfl) rfl (by kernel_rfl) fun M a0 g0 hg0=>?_
 refine CD.seq ?_
 refine CD.region ?_
 refine OD.runE 1 [0,1] (E':=[(0,.int .i64 room),(1,.sl 3 os.length (os.flatMap X18))]) (by kernel_rfl) ?_
 refine OD.nil ?_
 refine CD.seq ?_
 refine CD.region ?_
 refine OD.callE (XDf) rfl (by kernel_rfl) (by kernel_rfl) (by kernel_rfl) ?_
 refine OD.runE 1 [0,1,5] (E':=[(0,.int .i64 room),(1,.sl 3 os.length (os.flatMap X18)),(5,.bool true)]) (by kernel_rfl) ?_
 refine OD.nil ?_
 refine CD.seq ?_
 refine CD.seq ?_
 refine CD.region ?_
 refine OD.runE 2 [0,1,14] (E':=[(0,.int .i64 room),(1,.sl 3 os.length (os.flatMap X18)),(14,.bool false)]) (by kernel_rfl) ?_
 refine OD.nil ?_
 refine CD.condF rfl ?_
 refine CD.skip ?_
 refine CD.seq ?_
 refine CD.region ?_
 refine OD.runE 1 [0,1,15] (E':=[(0,.int .i64 room),(1,.sl 3 os.length (os.flatMap X18)),(15,.int .i64 room)]) (by kernel_rfl) ?_
 refine OD.callO [] (ds:=[.int .i64 room]) (X9S room) rfl (by kernel_rfl) (by kernel_rfl) (by kernel_rfl) (by kernel_rfl) (by kernel_rfl) (fun r L1 hr=>?_)
 obtain⟨rfl,rfl⟩:=hr
 refine OD.runE 1 [1,16,17] (E':=[(1,.sl 3 os.length (os.flatMap X18)),(16,.loc 0 0),(17,.int .i64 room)]) (by kernel_rfl) ?_
 refine OD.callO [] (ds:=[.int .i64 room]) (XFv room) rfl (by kernel_rfl) (by kernel_rfl) (by kernel_rfl) (by kernel_rfl) (by kernel_rfl) (fun r L1 hr=>?_)
 obtain⟨rfl,rfl⟩:=hr
 refine OD.runE 2 [1,6,7] (E':=[(1,.sl 3 os.length (os.flatMap X18)),(6,.loc 0 0),(7,.loc 2 0)]) (by kernel_rfl) ?_
 obtain⟨rm,hrm⟩:∃ x,x=min (max room 1) 50:=⟨_,rfl⟩
 have hrm1:1≤rm:=by omega
 refine OD.toL (L':=[.box [.int .i64 rm,.int .i64 ((0:Nat):Int),.row 1 0 (([]:List X0A).length) (([]:List X0A).length+([]:List X0A).length)],.row 3 (([]:List X0A).length+([]:List X0A).length) ((([]:List X0A)++([]:List X0A)).flatMap X04),.box [.int .i64 rm,.row 3 0 (([]:List X0A).reverse.length) (([]:List X0A).reverse.length),.int .i64 ((0:Nat):Int)],.row 3 (([]:List X0A).reverse.length) ((([]:List X0A).reverse).flatMap X04)]) (by rw [hrm,show max 1 (min room 50)=min (max room 1) 50 by omega];rfl) ?_
 refine OD.run 0 [1,6,7] (E':=[(1,.sl 3 os.length (os.flatMap X18)),(6,.loc 0 0),(7,.loc 2 0)]) (L':=[.box [.int .i64 rm,.int .i64 ((0:Nat):Int),.row 1 0 (([]:List X0A).length) (([]:List X0A).length+([]:List X0A).length)],.row 3 (([]:List X0A).length+([]:List X0A).length) ((([]:List X0A)++([]:List X0A)).flatMap X04),.box [.int .i64 rm,.row 3 0 (([]:List X0A).reverse.length) (([]:List X0A).reverse.length),.int .i64 ((0:Nat):Int)],.row 3 (([]:List X0A).reverse.length) ((([]:List X0A).reverse).flatMap X04)]) (by kernel_rfl) ?_
 refine OD.nil ?_
 refine CD.seq ?_
 refine CD.seq ?_
 refine CD.region ?_
 refine OD.runE 1 [1,6,7,8] (E':=[(1,.sl 3 os.length (os.flatMap X18)),(6,.loc 0 0),(7,.loc 2 0),(8,.int .i64 0)]) (by kernel_rfl) ?_
 refine OD.nil ?_
 refine CD.block ?_
 refine CD.weak [1,6,7,8] 4 (E':=[(1,.sl 3 os.length (os.flatMap X18)),(6,.loc 0 0),(7,.loc 2 0),(8,.int .i64 0)]) (by kernel_rfl) (by simp [hg0]) (by kernel_rfl) ?_
 refine CD.loop (fun m σ=>∃ (i:Nat) (l:List X0A) (rest:List X0A) (nx:Nat),σ=⟨[(1,.sl 3 os.length (os.flatMap X18)),(6,.loc 0 0),(7,.loc 2 0),(8,.int .i64 ((i:Nat):Int))],[.box [.int .i64 rm,.int .i64 ((nx:Nat):Int),.row 1 0 l.length (l.length+rest.length)],.row 3 (l.length+rest.length) ((l++rest).flatMap X04),.box [.int .i64 rm,.row 3 0 l.reverse.length l.reverse.length,.int .i64 ((nx:Nat):Int)],.row 3 l.reverse.length (l.reverse.flatMap X04)]⟩∧(i≤80)∧(X91 rm l)∧(l.length+rest.length≤i)∧(nx≤81*i)∧m=80 - i) (fun m σ hI=>?_) _ ⟨0,[],[],0,(by kernel_rfl),by omega,.nil hrm1,by simp,by omega,rfl⟩
 obtain⟨i,l,rest,nx,e,hi,hS,hlr,hnx,hm⟩:=hI
 subst e hm
 refine CD.seq ?_
 refine CD.seq ?_
 refine CD.region ?_
 refine OD.runE 5 [1,6,7,8,23] (E':=[(1,.sl 3 os.length (os.flatMap X18)),(6,.loc 0 0),(7,.loc 2 0),(8,.int .i64 ((i:Nat):Int)),(23,.bool (decide ((((i:Nat):Int):Int)<((os.length:Nat):Int))))]) (by kernel_rfl) ?_
 refine OD.ifP 23 rfl (fun h1=>?_) (fun h1=>?_)
 ·
  refine OD.runE 3 [1,6,7,8,26] (E':=[(1,.sl 3 os.length (os.flatMap X18)),(6,.loc 0 0),(7,.loc 2 0),(8,.int .i64 ((i:Nat):Int)),(26,.bool (decide ((((i:Nat):Int):Int)<80)))]) (by kernel_rfl) ?_
  refine OD.nil ?_
  refine CD.condP rfl (fun h2=>?_) (fun h2=>?_)
  ·
   refine CD.skip ?_
   refine CD.seq ?_
   refine CD.block ?_
   refine CD.seq ?_
   refine CD.region ?_
   refine OD.runE 2 [1,6,7,8,29,30] (E':=[(1,.sl 3 os.length (os.flatMap X18)),(6,.loc 0 0),(7,.loc 2 0),(8,.int .i64 ((i:Nat):Int)),(29,.sl 3 os.length (os.flatMap X18)),(30,.int .i64 ((i:Nat):Int))]) (by kernel_rfl) ?_
   refine OD.idxSE (i:=i) (e:=3) rfl rfl (by kernel_rfl) (by omega) (by omega) ?_
   refine OD.runE 0 [1,6,7,8,31] (E':=[(1,.sl 3 os.length (os.flatMap X18)),(6,.loc 0 0),(7,.loc 2 0),(8,.int .i64 ((i:Nat):Int)),(31,.ep 3 os.length (os.flatMap X18) (i*3))]) (by kernel_rfl) ?_
   refine OD.ldA (ds:=[.int .i64 ((os.getD i o0).1),.str ((os.getD i o0).2.1),.str ((os.getD i o0).2.2)]) rfl (by kernel_rfl) (by kernel_rfl) (XEv (by omega)) rfl (by decide) ?_
   refine OD.run 2 [1,6,7,8,9] (E':=[(1,.sl 3 os.length (os.flatMap X18)),(6,.loc 0 0),(7,.loc 2 0),(8,.int .i64 ((i:Nat):Int)),(9,.loc 4 0)]) (L':=[.box [.int .i64 rm,.int .i64 ((nx:Nat):Int),.row 1 0 l.length (l.length+rest.length)],.row 3 (l.length+rest.length) ((l++rest).flatMap X04),.box [.int .i64 rm,.row 3 0 l.reverse.length l.reverse.length,.int .i64 ((nx:Nat):Int)],.row 3 l.reverse.length (l.reverse.flatMap X04),.box [.int .i64 ((os.getD i o0).1),.str ((os.getD i o0).2.1),.str ((os.getD i o0).2.2)]]) (by kernel_rfl) ?_
   refine OD.nil ?_
   refine CD.seq ?_
   refine CD.region ?_
   refine OD.runE 2 [1,6,7,8,9,34] (E':=[(1,.sl 3 os.length (os.flatMap X18)),(6,.loc 0 0),(7,.loc 2 0),(8,.int .i64 ((i:Nat):Int)),(9,.loc 4 0),(34,.str ((os.getD i o0).2.2))]) (by kernel_rfl) ?_
   refine OD.callE (X9s ((os.getD i o0).2.2) 30) rfl (by kernel_rfl) (by kernel_rfl) (by kernel_rfl) ?_
   refine OD.runE 1 [1,6,7,8,9,10] (E':=[(1,.sl 3 os.length (os.flatMap X18)),(6,.loc 0 0),(7,.loc 2 0),(8,.int .i64 ((i:Nat):Int)),(9,.loc 4 0),(10,.str ((os.getD i o0).2.2.extract 0 (min (os.getD i o0).2.2.size 30)))]) (by kernel_rfl) ?_
   obtain⟨t,ht⟩:∃ q,q=((os.getD i o0).2.2.extract 0 (min (os.getD i o0).2.2.size 30)):=⟨_,rfl⟩
   have hts:t.size≤30:=by rw [ht,ByteArray.size_extract];omega
   refine OD.is 10 rfl (congrArg D.str ht.symm) ?_
   refine OD.runE 0 [1,6,7,8,9,10] (E':=[(1,.sl 3 os.length (os.flatMap X18)),(6,.loc 0 0),(7,.loc 2 0),(8,.int .i64 ((i:Nat):Int)),(9,.loc 4 0),(10,.str t)]) (by kernel_rfl) ?_
   refine OD.nil ?_
   refine CD.seq ?_
   refine CD.region ?_
   refine OD.runE 2 [1,6,7,8,9,10,37] (E':=[(1,.sl 3 os.length (os.flatMap X18)),(6,.loc 0 0),(7,.loc 2 0),(8,.int .i64 ((i:Nat):Int)),(9,.loc 4 0),(10,.str t),(37,.str ((os.getD i o0).2.1))]) (by kernel_rfl) ?_
   refine OD.callE (X9s ((os.getD i o0).2.1) 25) rfl (by kernel_rfl) (by kernel_rfl) (by kernel_rfl) ?_
   refine OD.runE 1 [1,6,7,8,9,10,11] (E':=[(1,.sl 3 os.length (os.flatMap X18)),(6,.loc 0 0),(7,.loc 2 0),(8,.int .i64 ((i:Nat):Int)),(9,.loc 4 0),(10,.str t),(11,.str ((os.getD i o0).2.1.extract 0 (min (os.getD i o0).2.1.size 25)))]) (by kernel_rfl) ?_
   obtain⟨nm,hnm⟩:∃ q,q=((os.getD i o0).2.1.extract 0 (min (os.getD i o0).2.1.size 25)):=⟨_,rfl⟩
   have hnms:nm.size≤25:=by rw [hnm,ByteArray.size_extract];omega
   refine OD.is 11 rfl (congrArg D.str hnm.symm) ?_
   refine OD.runE 0 [1,6,7,8,9,10,11] (E':=[(1,.sl 3 os.length (os.flatMap X18)),(6,.loc 0 0),(7,.loc 2 0),(8,.int .i64 ((i:Nat):Int)),(9,.loc 4 0),(10,.str t),(11,.str nm)]) (by kernel_rfl) ?_
   refine OD.nil ?_
   refine CD.seq ?_
   refine CD.seq ?_
   refine CD.region ?_
   refine OD.runE 2 [1,6,7,8,10,11,40] (E':=[(1,.sl 3 os.length (os.flatMap X18)),(6,.loc 0 0),(7,.loc 2 0),(8,.int .i64 ((i:Nat):Int)),(10,.str t),(11,.str nm),(40,.int .i64 ((os.getD i o0).1))]) (by kernel_rfl) ?_
   refine OD.nil ?_
   refine CD.block ?_
   refine CD.seq ?_
   refine CD.region ?_
   refine OD.runE 2 [1,6,7,8,10,11,40,48] (E':=[(1,.sl 3 os.length (os.flatMap X18)),(6,.loc 0 0),(7,.loc 2 0),(8,.int .i64 ((i:Nat):Int)),(10,.str t),(11,.str nm),(40,.int .i64 ((os.getD i o0).1)),(48,.bool (decide (((os.getD i o0).1:Int)=0)))]) (by kernel_rfl) ?_
   refine OD.nil ?_
   refine CD.condP rfl (fun h3=>?_) (fun h3=>?_)
   ·
    refine CD.seq ?_
    refine CD.region ?_
    refine OD.runE 2 [1,6,7,8,10,50,51] (E':=[(1,.sl 3 os.length (os.flatMap X18)),(6,.loc 0 0),(7,.loc 2 0),(8,.int .i64 ((i:Nat):Int)),(10,.str t),(50,.loc 0 0),(51,.str t)]) (by kernel_rfl) ?_
    by_cases hte:t=ByteArray.empty
    ·
     subst hte
     refine OD.callO [0,1] (ds:=[.loc 0 0,.str ByteArray.empty]) (XDj rm nx l rest) rfl (by kernel_rfl) (by kernel_rfl) (by kernel_rfl) (by kernel_rfl) (by kernel_rfl) (fun r L1 hr=>?_)
     obtain⟨rfl,rfl⟩:=hr
     refine OD.runE 2 [1,6,7,8,52,53,54] (E':=[(1,.sl 3 os.length (os.flatMap X18)),(6,.loc 0 0),(7,.loc 2 0),(8,.int .i64 ((i:Nat):Int)),(52,.str ByteArray.empty),(53,.loc 2 0),(54,.str ByteArray.empty)]) (by kernel_rfl) ?_
     refine OD.callO [2,3] (ds:=[.loc 2 0,.str ByteArray.empty]) (XCB rm nx l.reverse) rfl (by kernel_rfl) (by kernel_rfl) (by kernel_rfl) (by kernel_rfl) (by kernel_rfl) (fun r L1 hr=>?_)
     obtain⟨rfl,rfl⟩:=hr
     refine OD.runE 1 [1,6,7,8,56] (E':=[(1,.sl 3 os.length (os.flatMap X18)),(6,.loc 0 0),(7,.loc 2 0),(8,.int .i64 ((i:Nat):Int)),(56,.bool false)]) (by kernel_rfl) ?_
     refine OD.nil ?_
     refine CD.condF rfl ?_
     refine CD.skip ?_
     refine CD.seq ?_
     refine CD.region ?_
     refine OD.runE 2 [1,6,7,8,68,69] (E':=[(1,.sl 3 os.length (os.flatMap X18)),(6,.loc 0 0),(7,.loc 2 0),(8,.int .i64 ((i:Nat):Int)),(68,.loc 0 0),(69,.loc 2 0)]) (by kernel_rfl) ?_
     refine OD.callO [0,1,2,3] (ds:=[.loc 0 0,.loc 2 0]) (X5N rm rm nx l rest l.reverse (by omega) rfl hS.nd hS.ne (hS.sz.mono (by decide))) rfl (by kernel_rfl) (by kernel_rfl) (by kernel_rfl) (by kernel_rfl) (by kernel_rfl) (fun r L1 hr=>?_)
     obtain⟨rfl,rfl⟩:=hr
     refine OD.runE 1 [1,6,7,8,71] (E':=[(1,.sl 3 os.length (os.flatMap X18)),(6,.loc 0 0),(7,.loc 2 0),(8,.int .i64 ((i:Nat):Int)),(71,.bool false)]) (by kernel_rfl) ?_
     refine OD.nil ?_
     refine CD.condF rfl ?_
     refine CD.skip ?_
     refine CD.region ?_
     refine OD.runE 2 [1,6,7,28] (E':=[(1,.sl 3 os.length (os.flatMap X18)),(6,.loc 0 0),(7,.loc 2 0),(28,.int .i64 (X0X .i64 (((i:Nat):Int)+1)))]) (by kernel_rfl) ?_
     refine OD.is 28 rfl (wrn (m:=i+1) (by omega) (by omega)) ?_
     refine OD.runE 1 [1,6,7,8] (E':=[(1,.sl 3 os.length (os.flatMap X18)),(6,.loc 0 0),(7,.loc 2 0),(8,.int .i64 ((i+1:Nat):Int))]) (by kernel_rfl) ?_
     refine OD.nilW [1,6,7,8] 4 (E':=[(1,.sl 3 os.length (os.flatMap X18)),(6,.loc 0 0),(7,.loc 2 0),(8,.int .i64 ((i+1:Nat):Int))]) (by kernel_rfl) (by simp [hg0]) (by kernel_rfl) ?_
     exact⟨_,by omega,(i+1),l,rest,nx,(by kernel_rfl),by omega,hS,by omega,by omega,rfl⟩
    ·
     refine OD.callO [0,1] (ds:=[.loc 0 0,.str t]) (XFp rm nx l rest t hte hrm1 (by omega) (by omega) (by omega) hS.au) rfl (by kernel_rfl) (by kernel_rfl) (by kernel_rfl) (by kernel_rfl) (by kernel_rfl) (fun r L1 hr=>?_)
     obtain⟨k,l2,r2,hk,he,hz,rfl,rfl⟩:=hr
     have hkb:=hk.bound
     have hP:=hS.push hk hts he
     refine OD.runE 2 [1,6,7,8,52,53,54] (E':=[(1,.sl 3 os.length (os.flatMap X18)),(6,.loc 0 0),(7,.loc 2 0),(8,.int .i64 ((i:Nat):Int)),(52,.str (bn k)),(53,.loc 2 0),(54,.str t)]) (by kernel_rfl) ?_
     refine OD.callO [2,3] (ds:=[.loc 2 0,.str t]) (XDq rm nx l.reverse t hte hrm1 (by rw [List.length_reverse];omega) (by rw [List.length_reverse];omega)) rfl (by kernel_rfl) (by kernel_rfl) (by kernel_rfl) (by kernel_rfl) (by kernel_rfl) (fun r L1 hr=>?_)
     obtain⟨k',m2,hk',he',rfl,rfl⟩:=hr
     have hkk:k=k':=hk.uniq hk'.rev
     subst hkk
     have hm2:m2=l2.reverse:=XH3 he (by rw [List.reverse_cons];exact he')
     subst hm2
     refine OD.runE 0 [1,6,7,8,52,55] (E':=[(1,.sl 3 os.length (os.flatMap X18)),(6,.loc 0 0),(7,.loc 2 0),(8,.int .i64 ((i:Nat):Int)),(52,.str (bn k)),(55,.str (bn k))]) (by kernel_rfl) ?_
     refine OD.neS rfl rfl ?_
     refine OD.runE 0 [1,6,7,8,56] (E':=[(1,.sl 3 os.length (os.flatMap X18)),(6,.loc 0 0),(7,.loc 2 0),(8,.int .i64 ((i:Nat):Int)),(56,.bool (decide (¬ (bn k)=(bn k))))]) (by kernel_rfl) ?_
     refine OD.nil ?_
     refine CD.condP rfl (fun h4=>?_) (fun h4=>?_)
     ·
      refine CD.seq ?_
      refine CD.region ?_
      refine OD.runE 1 [4] (E':=[(4,.bool false)]) (by kernel_rfl) ?_
      refine OD.nil ?_
      refine CD.ret ?_
      exact X36 (by kernel_rfl) (by kernel_rfl) (r:=.bool false) (by exfalso;first | exact absurd rfl h4 | exact absurd rfl h3 | exact absurd rfl h2 | exact absurd rfl h1)
     ·
      refine CD.skip ?_
      refine CD.seq ?_
      refine CD.region ?_
      refine OD.runE 2 [1,6,7,8,68,69] (E':=[(1,.sl 3 os.length (os.flatMap X18)),(6,.loc 0 0),(7,.loc 2 0),(8,.int .i64 ((i:Nat):Int)),(68,.loc 0 0),(69,.loc 2 0)]) (by kernel_rfl) ?_
      refine OD.callO [0,1,2,3] (ds:=[.loc 0 0,.loc 2 0]) (X5N rm rm (k+1) l2 r2 l2.reverse (by omega) rfl hP.1.nd hP.1.ne (hP.1.sz.mono (by decide))) rfl (by kernel_rfl) (by kernel_rfl) (by kernel_rfl) (by kernel_rfl) (by kernel_rfl) (fun r L1 hr=>?_)
      obtain⟨rfl,rfl⟩:=hr
      refine OD.runE 1 [1,6,7,8,71] (E':=[(1,.sl 3 os.length (os.flatMap X18)),(6,.loc 0 0),(7,.loc 2 0),(8,.int .i64 ((i:Nat):Int)),(71,.bool false)]) (by kernel_rfl) ?_
      refine OD.nil ?_
      refine CD.condF rfl ?_
      refine CD.skip ?_
      refine CD.region ?_
      refine OD.runE 2 [1,6,7,28] (E':=[(1,.sl 3 os.length (os.flatMap X18)),(6,.loc 0 0),(7,.loc 2 0),(28,.int .i64 (X0X .i64 (((i:Nat):Int)+1)))]) (by kernel_rfl) ?_
      refine OD.is 28 rfl (wrn (m:=i+1) (by omega) (by omega)) ?_
      refine OD.runE 1 [1,6,7,8] (E':=[(1,.sl 3 os.length (os.flatMap X18)),(6,.loc 0 0),(7,.loc 2 0),(8,.int .i64 ((i+1:Nat):Int))]) (by kernel_rfl) ?_
      refine OD.nilW [1,6,7,8] 4 (E':=[(1,.sl 3 os.length (os.flatMap X18)),(6,.loc 0 0),(7,.loc 2 0),(8,.int .i64 ((i+1:Nat):Int))]) (by kernel_rfl) (by simp [hg0]) (by kernel_rfl) ?_
      exact⟨_,by omega,(i+1),l2,r2,(k+1),(by kernel_rfl),by omega,hP.1,by omega,by omega,rfl⟩
   ·
    refine CD.seq ?_
    refine CD.region ?_
    refine OD.runE 2 [1,6,7,8,10,11,57] (E':=[(1,.sl 3 os.length (os.flatMap X18)),(6,.loc 0 0),(7,.loc 2 0),(8,.int .i64 ((i:Nat):Int)),(10,.str t),(11,.str nm),(57,.bool (decide (((os.getD i o0).1:Int)=1)))]) (by kernel_rfl) ?_
    refine OD.nil ?_
    refine CD.condP rfl (fun h5=>?_) (fun h5=>?_)
    ·
     refine CD.seq ?_
     refine CD.region ?_
     refine OD.runE 3 [1,6,7,8,10,11,59,60,61] (E':=[(1,.sl 3 os.length (os.flatMap X18)),(6,.loc 0 0),(7,.loc 2 0),(8,.int .i64 ((i:Nat):Int)),(10,.str t),(11,.str nm),(59,.loc 0 0),(60,.str nm),(61,.str t)]) (by kernel_rfl) ?_
     by_cases hfu:¬ (X1J nm=true∧¬ t=ByteArray.empty)∨X2O l nm
     ·
      refine OD.callO [0,1] (ds:=[.loc 0 0,.str nm,.str t]) (XC0 rm nx l rest nm t (by omega)) rfl (by kernel_rfl) (by kernel_rfl) (by kernel_rfl) (by kernel_rfl) (by kernel_rfl) (fun r L1 hr=>?_)
      obtain⟨rfl,rfl⟩:=hr.1 hfu
      refine OD.runE 3 [1,6,7,8,62,63,64,65] (E':=[(1,.sl 3 os.length (os.flatMap X18)),(6,.loc 0 0),(7,.loc 2 0),(8,.int .i64 ((i:Nat):Int)),(62,.bool false),(63,.loc 2 0),(64,.str nm),(65,.str t)]) (by kernel_rfl) ?_
      refine OD.callO [2,3] (ds:=[.loc 2 0,.str nm,.str t]) (XCC rm nx l.reverse nm t (by rw [List.length_reverse];omega) (by omega)) rfl (by kernel_rfl) (by kernel_rfl) (by kernel_rfl) (by kernel_rfl) (by kernel_rfl) (fun r L1 hr=>?_)
      obtain⟨rfl,rfl⟩:=hr.1 (by rw [X9v hS.nd];exact hfu)
      refine OD.runE 1 [1,6,7,8,67] (E':=[(1,.sl 3 os.length (os.flatMap X18)),(6,.loc 0 0),(7,.loc 2 0),(8,.int .i64 ((i:Nat):Int)),(67,.bool false)]) (by kernel_rfl) ?_
      refine OD.nil ?_
      refine CD.condF rfl ?_
      refine CD.skip ?_
      refine CD.seq ?_
      refine CD.region ?_
      refine OD.runE 2 [1,6,7,8,68,69] (E':=[(1,.sl 3 os.length (os.flatMap X18)),(6,.loc 0 0),(7,.loc 2 0),(8,.int .i64 ((i:Nat):Int)),(68,.loc 0 0),(69,.loc 2 0)]) (by kernel_rfl) ?_
      refine OD.callO [0,1,2,3] (ds:=[.loc 0 0,.loc 2 0]) (X5N rm rm nx l rest l.reverse (by omega) rfl hS.nd hS.ne (hS.sz.mono (by decide))) rfl (by kernel_rfl) (by kernel_rfl) (by kernel_rfl) (by kernel_rfl) (by kernel_rfl) (fun r L1 hr=>?_)
      obtain⟨rfl,rfl⟩:=hr
      refine OD.runE 1 [1,6,7,8,71] (E':=[(1,.sl 3 os.length (os.flatMap X18)),(6,.loc 0 0),(7,.loc 2 0),(8,.int .i64 ((i:Nat):Int)),(71,.bool false)]) (by kernel_rfl) ?_
      refine OD.nil ?_
      refine CD.condF rfl ?_
      refine CD.skip ?_
      refine CD.region ?_
      refine OD.runE 2 [1,6,7,28] (E':=[(1,.sl 3 os.length (os.flatMap X18)),(6,.loc 0 0),(7,.loc 2 0),(28,.int .i64 (X0X .i64 (((i:Nat):Int)+1)))]) (by kernel_rfl) ?_
      refine OD.is 28 rfl (wrn (m:=i+1) (by omega) (by omega)) ?_
      refine OD.runE 1 [1,6,7,8] (E':=[(1,.sl 3 os.length (os.flatMap X18)),(6,.loc 0 0),(7,.loc 2 0),(8,.int .i64 ((i+1:Nat):Int))]) (by kernel_rfl) ?_
      refine OD.nilW [1,6,7,8] 4 (E':=[(1,.sl 3 os.length (os.flatMap X18)),(6,.loc 0 0),(7,.loc 2 0),(8,.int .i64 ((i+1:Nat):Int))]) (by kernel_rfl) (by simp [hg0]) (by kernel_rfl) ?_
      exact⟨_,by omega,(i+1),l,rest,nx,(by kernel_rfl),by omega,hS,by omega,by omega,rfl⟩
     ·
      obtain⟨hfa,hfb,hfc⟩:=XFu hfu
      have hT:=hS.set (XDn hfa) (t:=t) hts
      refine OD.callO [0,1] (ds:=[.loc 0 0,.str nm,.str t]) (XC0 rm nx l rest nm t (by omega)) rfl (by kernel_rfl) (by kernel_rfl) (by kernel_rfl) (by kernel_rfl) (by kernel_rfl) (fun r L1 hr=>?_)
      obtain⟨r2,rfl,rfl,hz⟩:=hr.2 ⟨hfa,hfb,hfc⟩
      refine OD.runE 3 [1,6,7,8,62,63,64,65] (E':=[(1,.sl 3 os.length (os.flatMap X18)),(6,.loc 0 0),(7,.loc 2 0),(8,.int .i64 ((i:Nat):Int)),(62,.bool true),(63,.loc 2 0),(64,.str nm),(65,.str t)]) (by kernel_rfl) ?_
      refine OD.callO [2,3] (ds:=[.loc 2 0,.str nm,.str t]) (XCC rm nx l.reverse nm t (by rw [List.length_reverse];omega) (by omega)) rfl (by kernel_rfl) (by kernel_rfl) (by kernel_rfl) (by kernel_rfl) (by kernel_rfl) (fun r L1 hr=>?_)
      have hr2:=hr.2 ⟨hfa,hfb,by rw [X9v hS.nd];exact hfc⟩
      rw [XDl hS.nd]at hr2
      obtain⟨rfl,rfl⟩:=hr2
      refine OD.runE 1 [1,6,7,8,67] (E':=[(1,.sl 3 os.length (os.flatMap X18)),(6,.loc 0 0),(7,.loc 2 0),(8,.int .i64 ((i:Nat):Int)),(67,.bool false)]) (by kernel_rfl) ?_
      refine OD.nil ?_
      refine CD.condF rfl ?_
      refine CD.skip ?_
      refine CD.seq ?_
      refine CD.region ?_
      refine OD.runE 2 [1,6,7,8,68,69] (E':=[(1,.sl 3 os.length (os.flatMap X18)),(6,.loc 0 0),(7,.loc 2 0),(8,.int .i64 ((i:Nat):Int)),(68,.loc 0 0),(69,.loc 2 0)]) (by kernel_rfl) ?_
      refine OD.callO [0,1,2,3] (ds:=[.loc 0 0,.loc 2 0]) (X5N rm rm nx (X7O l nm t) r2 (X7O l nm t).reverse (by omega) rfl hT.nd hT.ne (hT.sz.mono (by decide))) rfl (by kernel_rfl) (by kernel_rfl) (by kernel_rfl) (by kernel_rfl) (by kernel_rfl) (fun r L1 hr=>?_)
      obtain⟨rfl,rfl⟩:=hr
      refine OD.runE 1 [1,6,7,8,71] (E':=[(1,.sl 3 os.length (os.flatMap X18)),(6,.loc 0 0),(7,.loc 2 0),(8,.int .i64 ((i:Nat):Int)),(71,.bool false)]) (by kernel_rfl) ?_
      refine OD.nil ?_
      refine CD.condF rfl ?_
      refine CD.skip ?_
      refine CD.region ?_
      refine OD.runE 2 [1,6,7,28] (E':=[(1,.sl 3 os.length (os.flatMap X18)),(6,.loc 0 0),(7,.loc 2 0),(28,.int .i64 (X0X .i64 (((i:Nat):Int)+1)))]) (by kernel_rfl) ?_
      refine OD.is 28 rfl (wrn (m:=i+1) (by omega) (by omega)) ?_
      refine OD.runE 1 [1,6,7,8] (E':=[(1,.sl 3 os.length (os.flatMap X18)),(6,.loc 0 0),(7,.loc 2 0),(8,.int .i64 ((i+1:Nat):Int))]) (by kernel_rfl) ?_
      refine OD.nilW [1,6,7,8] 4 (E':=[(1,.sl 3 os.length (os.flatMap X18)),(6,.loc 0 0),(7,.loc 2 0),(8,.int .i64 ((i+1:Nat):Int))]) (by kernel_rfl) (by simp [hg0]) (by kernel_rfl) ?_
      exact⟨_,by omega,(i+1),(X7O l nm t),r2,nx,(by kernel_rfl),by omega,hT,by omega,by omega,rfl⟩
    ·
     refine CD.seq ?_
     refine CD.region ?_
     refine OD.runE 2 [1,6,7,8,11,41,42] (E':=[(1,.sl 3 os.length (os.flatMap X18)),(6,.loc 0 0),(7,.loc 2 0),(8,.int .i64 ((i:Nat):Int)),(11,.str nm),(41,.loc 0 0),(42,.str nm)]) (by kernel_rfl) ?_
     refine OD.callO [0,1] (ds:=[.loc 0 0,.str nm]) (XFr rm nx l rest nm (by omega)) rfl (by kernel_rfl) (by kernel_rfl) (by kernel_rfl) (by kernel_rfl) (by kernel_rfl) (fun r L1 hr=>?_)
     obtain⟨r2,rfl,rfl,hz⟩:=hr
     have hD:=hS.drop nm
     refine OD.runE 2 [1,6,7,8,43,44,45] (E':=[(1,.sl 3 os.length (os.flatMap X18)),(6,.loc 0 0),(7,.loc 2 0),(8,.int .i64 ((i:Nat):Int)),(43,.bool (X15 l nm).1),(44,.loc 2 0),(45,.str nm)]) (by kernel_rfl) ?_
     refine OD.callO [2,3] (ds:=[.loc 2 0,.str nm]) (XDp rm nx l.reverse nm (by rw [List.length_reverse];omega)) rfl (by kernel_rfl) (by kernel_rfl) (by kernel_rfl) (by kernel_rfl) (by kernel_rfl) (fun r L1 hr=>?_)
     rw [XDm hS.nd]at hr
     obtain⟨rfl,rfl⟩:=hr
     refine OD.runE 1 [1,6,7,8,47] (E':=[(1,.sl 3 os.length (os.flatMap X18)),(6,.loc 0 0),(7,.loc 2 0),(8,.int .i64 ((i:Nat):Int)),(47,.bool (bif (X15 l nm).1 then(bif (X15 l nm).1 then false else true)else(bif (X15 l nm).1 then true else false)))]) (by kernel_rfl) ?_
     refine OD.is 47 rfl (congrArg D.bool XFt) ?_
     refine OD.runE 0 [1,6,7,8,47] (E':=[(1,.sl 3 os.length (os.flatMap X18)),(6,.loc 0 0),(7,.loc 2 0),(8,.int .i64 ((i:Nat):Int)),(47,.bool (decide (¬ (X15 l nm).1=(X15 l nm).1)))]) (by kernel_rfl) ?_
     refine OD.nil ?_
     refine CD.condP rfl (fun h6=>?_) (fun h6=>?_)
     ·
      refine CD.seq ?_
      refine CD.region ?_
      refine OD.runE 1 [4] (E':=[(4,.bool false)]) (by kernel_rfl) ?_
      refine OD.nil ?_
      refine CD.ret ?_
      exact X36 (by kernel_rfl) (by kernel_rfl) (r:=.bool false) (by exfalso;first | exact absurd rfl h6 | exact absurd rfl h5 | exact absurd rfl h3 | exact absurd rfl h2 | exact absurd rfl h1)
     ·
      refine CD.skip ?_
      refine CD.seq ?_
      refine CD.region ?_
      refine OD.runE 2 [1,6,7,8,68,69] (E':=[(1,.sl 3 os.length (os.flatMap X18)),(6,.loc 0 0),(7,.loc 2 0),(8,.int .i64 ((i:Nat):Int)),(68,.loc 0 0),(69,.loc 2 0)]) (by kernel_rfl) ?_
      refine OD.callO [0,1,2,3] (ds:=[.loc 0 0,.loc 2 0]) (X5N rm rm nx ((X15 l nm).2) r2 (X15 l nm).2.reverse (by omega) rfl hD.nd hD.ne (hD.sz.mono (by decide))) rfl (by kernel_rfl) (by kernel_rfl) (by kernel_rfl) (by kernel_rfl) (by kernel_rfl) (fun r L1 hr=>?_)
      obtain⟨rfl,rfl⟩:=hr
      refine OD.runE 1 [1,6,7,8,71] (E':=[(1,.sl 3 os.length (os.flatMap X18)),(6,.loc 0 0),(7,.loc 2 0),(8,.int .i64 ((i:Nat):Int)),(71,.bool false)]) (by kernel_rfl) ?_
      refine OD.nil ?_
      refine CD.condF rfl ?_
      refine CD.skip ?_
      refine CD.region ?_
      refine OD.runE 2 [1,6,7,28] (E':=[(1,.sl 3 os.length (os.flatMap X18)),(6,.loc 0 0),(7,.loc 2 0),(28,.int .i64 (X0X .i64 (((i:Nat):Int)+1)))]) (by kernel_rfl) ?_
      refine OD.is 28 rfl (wrn (m:=i+1) (by omega) (by omega)) ?_
      refine OD.runE 1 [1,6,7,8] (E':=[(1,.sl 3 os.length (os.flatMap X18)),(6,.loc 0 0),(7,.loc 2 0),(8,.int .i64 ((i+1:Nat):Int))]) (by kernel_rfl) ?_
      refine OD.nilW [1,6,7,8] 4 (E':=[(1,.sl 3 os.length (os.flatMap X18)),(6,.loc 0 0),(7,.loc 2 0),(8,.int .i64 ((i+1:Nat):Int))]) (by kernel_rfl) (by simp [hg0]) (by kernel_rfl) ?_
      exact⟨_,by omega,(i+1),(X15 l nm).2,r2,nx,(by kernel_rfl),by omega,hD,by omega,by omega,rfl⟩
  ·
   refine CD.exit ?_
   refine CD.seq ?_
   refine CD.region ?_
   refine OD.runE 1 [4] (E':=[(4,.bool true)]) (by kernel_rfl) ?_
   refine OD.nil ?_
   refine CD.ret ?_
   exact X36 (by kernel_rfl) (by kernel_rfl) (r:=.bool true) (rfl)
 ·
  refine OD.runE 3 [1,6,7,8,26] (E':=[(1,.sl 3 os.length (os.flatMap X18)),(6,.loc 0 0),(7,.loc 2 0),(8,.int .i64 ((i:Nat):Int)),(26,.bool false)]) (by kernel_rfl) ?_
  refine OD.nil ?_
  refine CD.condF rfl ?_
  refine CD.exit ?_
  refine CD.seq ?_
  refine CD.region ?_
  refine OD.runE 1 [4] (E':=[(4,.bool true)]) (by kernel_rfl) ?_
  refine OD.nil ?_
  refine CD.ret ?_
  exact X36 (by kernel_rfl) (by kernel_rfl) (r:=.bool true) (rfl)
end
end Go.Proofs.YtmmmjbipgngamaaGreatDoor
