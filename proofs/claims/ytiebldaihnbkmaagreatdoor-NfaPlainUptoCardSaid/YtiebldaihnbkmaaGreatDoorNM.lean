/-
  What is proved here: what functions of the pattern's package come to (walks that a program of mine has printed). No conditions.
-/
import Derived.Test.YtiebldaihnbkmaaGreatDoorNJ
import Derived.Test.YtiebldaihnbkmaaGreatDoorRJ
import Derived.Test.YtiebldaihnbkmaaGreatDoorNI
import Derived.Test.YtiebldaihnbkmaaGreatDoorRI
set_option linter.unusedVariables false
set_option linter.unusedSimpArgs false
set_option maxRecDepth 100000
set_option maxHeartbeats 4000000
namespace Go.Proofs.YtiebldaihnbkmaaGreatDoor
open Go.Vai Go.Nfa
noncomputable section
theorem XAv (k:Int) (set:List (Int×Int)) (no:Bool) (kids:List Nd) (mn mx:Int) (hf:fit (.mk k set no kids mn mx)):FnD P ov 25 [.agg [.i64 k,.sl 2 set.length (set.flatMap X0s),.bool no,.sl 6 kids.length (X0R kids),.i64 mn,.i64 mx]] [] (XE6 (.mk k set no kids mn mx)):=by
 refine FnD.intro (by kernel_rfl) (fn:=Tryz.f25) (by kernel_rfl) rfl (by kernel_rfl) fun M a0 g0 hg0=>?_
 refine CD.seq (CD.region ?_)
 refine OD.rL 3 [(1,.loc 0 0)] [.box (cN k set no kids mn mx)] ?_
 refine OD.nil (CD.seq (CD.seq (CD.region ?_)))
 refine OD.rE 1 [(1,.loc 0 0),(5,.agg (cN k set no kids mn mx))] ?_
 refine OD.cE (XIH k set no kids mn mx hf) ?_
 refine OD.rE 1 [(1,.loc 0 0),(7,.bool (!(decide (Nfa.cnt X16 (.mk k set no kids mn mx) 1≤2000))))] ?_
 refine OD.nil ?_
 refine CD.condB rfl (fun h1=>?_) (fun h1=>?_)
 ·
  have h1:=ndt h1
  refine CD.seq (CD.region ?_)
  refine OD.rE 2 [(2,.lit (.pointer none)),(3,.i64 5)] ?_
  refine OD.nil (CD.ret ?_)
  (try dsimp only);first | refine X01 ?_ | refine X02 ?_
  exact rO 0 (.tup [.lit (.pointer none),.i64 5]) [] (XBw h1)
 ·
  have h1:=ndf h1
  refine CD.skip (CD.seq (CD.region ?_))
  refine OD.rE 1 [(1,.loc 0 0),(8,.agg (cN k set no kids mn mx))] ?_
  have hcn:=XBx h1
  refine OD.cE (XBs _ k set no kids mn mx (Nat.le_refl _) hf hcn.1 hcn.2) ?_
  refine OD.rL 2 [(1,.loc 0 0),(11,.loc 1 0)] [.box (cN k set no kids mn mx),.box [.lit (.slice none 0 0),.i64 0,.i64 ((wp K14 20001 (.mk k set no kids mn mx):Nat):Int)]] ?_
  refine OD.nilRowB 1 0 9 rfl rfl ?_
  refine OD.rE 1 [(1,.loc 0 0),(4,.loc 1 0)] ?_
  refine OD.nil (CD.seq (CD.seq (CD.region ?_)))
  refine OD.rE 5 [(1,.loc 0 0),(4,.loc 1 0),(16,.bool (decide ((20000:Int)<((wp K14 20001 (.mk k set no kids mn mx):Nat):Int))))] ?_
  refine OD.nil ?_
  refine CD.condP rfl (fun h2=>?_) (fun h2=>?_)
  ·
   refine CD.seq (CD.region ?_)
   refine OD.rE 2 [(2,.lit (.pointer none)),(3,.i64 3)] ?_
   refine OD.nil (CD.ret ?_)
   (try dsimp only);first | refine X01 ?_ | refine X02 ?_
   exact rO 0 (.tup [.lit (.pointer none),.i64 3]) [] (XAs h1 h2)
  ·
   refine CD.skip (CD.seq ?_)
   refine CD.drawnF [2] 0 [] rfl (by kernel_rfl) (by kernel_rfl) (fun M1 a1 g1 bx1 bq hg1 hlk=>?_)
   refine OD.rE 2 [(1,XDv bq 0),(4,.loc 1 0),(17,.loc 1 0),(18,.loc 1 0)] ?_
   refine OD.ldF (d:=.agg (cN k set no kids mn mx)) hlk rfl (by kernel_rfl) ?_
   refine OD.rE 2 [(1,XDv bq 0),(4,.loc 1 0),(17,.loc 1 0),(18,.loc 1 0),(19,.agg (cN k set no kids mn mx)),(20,.loc 1 0),(21,.agg [.i64 5,.i64 0,.lit (.slice none 0 0),.bool false,.lit (.slice none 0 0),.i64 0,.i64 0,.i64 0,.i64 0])] ?_
   refine OD.cO [1,2] [.loc 1 0,.agg [.i64 5,.i64 0,.lit (.slice none 0 0),.bool false,.lit (.slice none 0 0),.i64 0,.i64 0,.i64 0,.i64 0]] (XEA ([]:List Sta) 0 0 ((wp K14 20001 (.mk k set no kids mn mx):Nat):Int) (by first | assumption | rfl) (by omega)) (fun r L1 hr=>?_)
   obtain⟨m14,hm14,rfl,rfl⟩:=hr
   have hblm14:m14=0+1:=by rw [← hm14,List.length_append];simp only [List.length_singleton,List.length_nil]<;>omega
   refine OD.rE 0 [(1,XDv bq 0),(4,.loc 1 0),(17,.loc 1 0),(18,.loc 1 0),(19,.agg (cN k set no kids mn mx)),(22,.i64 0)] ?_
   refine OD.cO [1,2] [.loc 1 0,.agg (cN k set no kids mn mx),.i64 0] (XEB _ k set no kids mn mx (([]:List Sta)++[Sta.done]) m14 0 0 ((wp K14 20001 (.mk k set no kids mn mx):Nat):Int) (Nat.le_refl _) hf hcn.2 (by assumption) (by have:=XE8 h2;omega)) (fun r L1 hr=>?_)
   have hblm15:=X1E (.mk k set no kids mn mx) hcn.2 (([]:List Sta)++[Sta.done]) 0
   have hbgm15:=X2i hcn.2 (([]:List Sta)++[Sta.done]) 0
   obtain⟨m15,hm15,rfl,rfl⟩:=hr
   refine OD.rL 3 [(1,XDv bq 0),(4,.loc 1 0),(17,.loc 1 0),(18,.loc 1 0),(19,.agg (cN k set no kids mn mx))] [.dead,.box [.row 2 0 m15 m15,.i64 (((build K14 (.mk k set no kids mn mx) (([]:List Sta)++[Sta.done]) 0).2:Nat):Int),.i64 ((wp K14 20001 (.mk k set no kids mn mx):Nat):Int)],.row 9 m15 (((build K14 (.mk k set no kids mn mx) (([]:List Sta)++[Sta.done]) 0).1).flatMap X03)] ?_
   refine OD.nil ⟨by kernel_rfl,⟨⟨34,1,by kernel_rfl,.inr ⟨0,.agg (cN k set no kids mn mx),rfl,by kernel_rfl⟩⟩,trivial⟩,trivial,rfl,?_⟩
   refine CD.seq (CD.region ?_)
   refine OD.rE 3 [(2,.loc 1 0),(3,.i64 0)] ?_
   refine OD.freezeB 1 0 rfl rfl rfl (Nat.le_refl _) ?_
   refine OD.rE 0 [(2,.loc 1 0),(3,.i64 0)] ?_
   refine OD.nil (CD.ret ?_)
   (try dsimp only);first | refine X01 ?_ | refine X02 ?_
   exact rO 3 (.tup [.loc 1 0,.i64 0]) [.box (cN k set no kids mn mx),.box [.sl 9 m15 (((build K14 (.mk k set no kids mn mx) (([]:List Sta)++[Sta.done]) 0).1).flatMap X03),.i64 (((build K14 (.mk k set no kids mn mx) (([]:List Sta)++[Sta.done]) 0).2:Nat):Int),.i64 ((wp K14 20001 (.mk k set no kids mn mx):Nat):Int)],.dead] (XE7 h1 h2 (by assumption))
end
end Go.Proofs.YtiebldaihnbkmaaGreatDoor
