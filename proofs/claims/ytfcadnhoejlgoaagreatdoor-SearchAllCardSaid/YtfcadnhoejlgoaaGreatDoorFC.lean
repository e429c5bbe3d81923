/-
  What is proved here: what functions of the pattern's package come to (walks that a program of mine has printed). what functions of the pattern's package come to (walks that a program of mine has printed). No conditions but those that the theorems state.
-/
import Derived.Test.YtfcadnhoejlgoaaGreatDoorFA
import Derived.Test.YtfcadnhoejlgoaaGreatDoorUG
import Derived.Test.YtfcadnhoejlgoaaGreatDoorUJ
import Derived.Test.YtfcadnhoejlgoaaGreatDoorRI
import Derived.Test.YtfcadnhoejlgoaaGreatDoorPureEmp
set_option linter.unusedVariables false
set_option linter.unusedSimpArgs false
set_option maxRecDepth 100000
set_option maxHeartbeats 4000000
namespace Go.Proofs.YtfcadnhoejlgoaaGreatDoor
open Go.Vai Go.Nfa
noncomputable section
theorem XIo (s:ByteArray):FnD P ov 10 [.str s] [] (XIl (s.extract 0 (min s.size 30))):=by
 refine FnD.intro (by kernel_rfl) (fn:=Tryz.f10) (by kernel_rfl) rfl (by kernel_rfl) fun M a0 g0 hg0=>?_
 refine CD.seq (CD.region ?_)
 refine OD.rL 3 [(0,.str s),(2,.loc 0 0)] [.box [.i64 0,.lit (.slice none 0 0),.bool false,.lit (.slice none 0 0),.i64 0,.i64 0]] ?_
 refine OD.nil (CD.seq (CD.region ?_))
 refine OD.rE 1 [(2,.loc 0 0),(10,.str s)] ?_
 refine OD.cP (fun r=>∃ t:ByteArray,t=s.extract 0 (min s.size 30)∧t.size≤30∧r=.str t) (XGy s 30) (fun r hr=>?_)
 obtain⟨t1,ht1,ht1s,rfl⟩:=hr
 rw [← ht1]
 refine OD.rE 0 [(2,.loc 0 0),(11,.str t1)] ?_
 refine OD.cP (XIG t1) (XHe t1 (by omega)) (fun r hr=>?_)
 rcases hr with⟨hno,rfl⟩ | ⟨⟨k,set,no,kids,mn,mx⟩,hN,rfl⟩
 ·
  refine OD.rL 6 [(2,.loc 0 0),(5,.loc 1 0),(6,.i64 5)] [.box [.i64 0,.lit (.slice none 0 0),.bool false,.lit (.slice none 0 0),.i64 0,.i64 0],.box (X11 X8I)] ?_
  refine OD.nil (CD.seq (CD.seq (CD.region ?_)))
  refine OD.rE 12 [(2,.loc 0 0),(5,.loc 1 0),(26,.bool true)] ?_
  refine OD.nil ?_
  refine CD.condT rfl ?_
  refine CD.seq (CD.region ?_)
  refine OD.rL 4 [(2,.loc 0 0),(3,.lit (.pointer none)),(4,.bool false)] [.box (X11 X8I),.box (X11 X8I)] ?_
  refine OD.nil (CD.ret ?_)
  (try dsimp only);first | refine X01 ?_ | refine X02 ?_
  exact rO 0 (.tup [.agg (X11 X8I),.lit (.pointer none),.bool false]) [] (XCL hno)
 ·
  obtain⟨hf,hal,hz60⟩:=X7Z hN
  have hz:size (.mk k set no kids mn mx)<4611686018427387904:=by omega
  refine OD.rL 6 [(2,.loc 0 0),(5,.loc 1 0),(6,.i64 0)] [.box [.i64 0,.lit (.slice none 0 0),.bool false,.lit (.slice none 0 0),.i64 0,.i64 0],.box (cN k set no kids mn mx)] ?_
  refine OD.nil (CD.seq (CD.seq (CD.region ?_)))
  refine OD.rE 4 [(2,.loc 0 0),(5,.loc 1 0),(17,.bool false),(18,.agg (cN k set no kids mn mx))] ?_
  refine OD.guard rfl rfl ?_
  refine OD.cE (XDj _ k set no kids mn mx (Nat.le_refl _) hf hal) ?_
  refine OD.rE 3 [(2,.loc 0 0),(5,.loc 1 0),(22,.bool (decide ((400:Int)<((wr K14 1000000 (.mk k set no kids mn mx):Nat):Int))))] ?_
  refine OD.ifP 22 rfl (fun h1=>?_) (fun h1=>?_)
  ·
   refine OD.rE 4 [(2,.loc 0 0),(5,.loc 1 0),(26,.bool true)] ?_
   refine OD.nil ?_
   refine CD.condT rfl ?_
   refine CD.seq (CD.region ?_)
   refine OD.rL 4 [(2,.loc 0 0),(3,.lit (.pointer none)),(4,.bool false)] [.box (cN k set no kids mn mx),.box (cN k set no kids mn mx)] ?_
   refine OD.nil (CD.ret ?_)
   (try dsimp only);first | refine X01 ?_ | refine X02 ?_
   exact rO 0 (.tup [.agg (cN k set no kids mn mx),.lit (.pointer none),.bool false]) [] (X8u hN (by omega))
  ·
   refine OD.rE 1 [(2,.loc 0 0),(5,.loc 1 0),(22,.bool false),(23,.agg (cN k set no kids mn mx))] ?_
   refine OD.guard rfl rfl ?_
   refine OD.cE (XJ7 _ k set no kids mn mx (Nat.le_refl _) hf hz) ?_
   refine OD.rE 2 [(2,.loc 0 0),(5,.loc 1 0),(26,.bool (decide ((10:Int)<((X78 (.mk k set no kids mn mx):Nat):Int))))] ?_
   refine OD.nil ?_
   refine CD.condP rfl (fun h2=>?_) (fun h2=>?_)
   ·
    refine CD.seq (CD.region ?_)
    refine OD.rL 4 [(2,.loc 0 0),(3,.lit (.pointer none)),(4,.bool false)] [.box (cN k set no kids mn mx),.box (cN k set no kids mn mx)] ?_
    refine OD.nil (CD.ret ?_)
    (try dsimp only);first | refine X01 ?_ | refine X02 ?_
    exact rO 0 (.tup [.agg (cN k set no kids mn mx),.lit (.pointer none),.bool false]) [] (X8u hN (by omega))
   ·
    refine CD.skip (CD.seq (CD.region ?_))
    have hcn:=XLl (N:=(.mk k set no kids mn mx)) (by omega) hz60 hal
    refine OD.rE 1 [(2,.loc 0 0),(5,.loc 1 0),(29,.agg (cN k set no kids mn mx))] ?_
    refine OD.cO [] [.agg (cN k set no kids mn mx)] (XCZ k set no kids mn mx hf) (fun r L1 hr=>?_)
    rcases hr with⟨hc1,hc2,n1,hn1,rfl,rfl⟩ | ⟨hc1,hc2,rfl,rfl⟩ | ⟨hc1,rfl,rfl⟩
    ·
     have hal:=XJG hc1
     have hml:=X6J hal hc2
     refine OD.rE 5 [(2,.loc 0 0),(5,.loc 1 0),(7,.loc 3 0),(8,.i64 0)] ?_
     refine OD.nil (CD.seq (CD.region ?_))
     refine OD.rL 7 [(2,.loc 0 0),(3,.loc 3 0),(4,.bool true)] [.box (cN k set no kids mn mx),.box (cN k set no kids mn mx),.box (cN k set no kids mn mx),.pN (.mk k set no kids mn mx) n1,.dead] ?_
     refine OD.nil (CD.ret ?_)
     (try dsimp only);first | refine X01 ?_ | refine X02 ?_
     exact rO 4 (.tup [.agg (cN k set no kids mn mx),.loc 3 0,.bool true]) [.box (cN k set no kids mn mx),.box (cN k set no kids mn mx),.box (cN k set no kids mn mx),.pN (.mk k set no kids mn mx) n1] (.inr ⟨(.mk k set no kids mn mx),n1,hN,hn1,by omega,by omega,rfl,rfl⟩)
    ·
     refine OD.rE 5 [(2,.loc 0 0),(5,.loc 1 0),(7,.lit (.pointer none)),(8,.i64 3)] ?_
     refine OD.nil (CD.seq (CD.region ?_))
     refine OD.rL 7 [(2,.loc 0 0),(3,.lit (.pointer none)),(4,.bool false)] [.box (cN k set no kids mn mx),.box (cN k set no kids mn mx)] ?_
     refine OD.nil (CD.ret ?_)
     exfalso;first | omega | (have:=XBY hc2;omega) | (have:=XI7 hc2;omega)
    ·
     refine OD.rE 5 [(2,.loc 0 0),(5,.loc 1 0),(7,.lit (.pointer none)),(8,.i64 5)] ?_
     refine OD.nil (CD.seq (CD.region ?_))
     refine OD.rL 7 [(2,.loc 0 0),(3,.lit (.pointer none)),(4,.bool false)] [.box (cN k set no kids mn mx),.box (cN k set no kids mn mx)] ?_
     refine OD.nil (CD.ret ?_)
     exfalso;first | omega | (have:=XBY hc2;omega) | (have:=XI7 hc2;omega)
end
end Go.Proofs.YtfcadnhoejlgoaaGreatDoor
set_option maxRecDepth 100000
set_option maxHeartbeats 4000000
namespace Go.Proofs.YtfcadnhoejlgoaaGreatDoor
open Go.Vai Go.Nfa
noncomputable section
end
end Go.Proofs.YtfcadnhoejlgoaaGreatDoor
