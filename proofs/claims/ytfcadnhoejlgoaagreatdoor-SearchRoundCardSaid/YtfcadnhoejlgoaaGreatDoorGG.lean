/-
  What is proved here: what functions of the pattern's package come to (walks that a program of mine has printed). what functions of the pattern's package come to (walks that a program of mine has printed). what functions of the pattern's package come to (walks that a program of mine has printed). No conditions but those that the theorems state.
-/
import Derived.Test.YtfcadnhoejlgoaaGreatDoorGD
import Derived.Test.YtfcadnhoejlgoaaGreatDoorRI
import Derived.Test.YtfcadnhoejlgoaaGreatDoorFC
import Derived.Test.YtfcadnhoejlgoaaGreatDoorPureEmp
import Derived.Test.YtfcadnhoejlgoaaGreatDoorGA
set_option linter.unusedVariables false
set_option linter.unusedSimpArgs false
set_option maxRecDepth 100000
set_option maxHeartbeats 4000000
namespace Go.Proofs.YtfcadnhoejlgoaaGreatDoor
open Go.Vai Go.Nfa
noncomputable section
end
end Go.Proofs.YtfcadnhoejlgoaaGreatDoor
set_option maxRecDepth 100000
set_option maxHeartbeats 4000000
namespace Go.Proofs.YtfcadnhoejlgoaaGreatDoor
open Go.Vai Go.Nfa
noncomputable section
end
end Go.Proofs.YtfcadnhoejlgoaaGreatDoor
set_option maxRecDepth 100000
set_option maxHeartbeats 4000000
namespace Go.Proofs.YtfcadnhoejlgoaaGreatDoor
open Go.Vai Go.Nfa
noncomputable section
theorem X7B (re:ByteArray) (ls0:List (List Cel)):X1K P ov 7 [.str re,.sl 1 ls0.length (ls0.map X46)] (.bool true):=by
 refine FnD.intro (by kernel_rfl) (fn:=Tryz.f7) (by kernel_rfl) rfl (by kernel_rfl) fun M a0 g0 hg0=>?_
 refine CD.seq ?_
 refine CD.region ?_
 refine OD.runE 1 [0,1] (E':=[(0,.str re),(1,.vR ls0)]) (by kernel_rfl) ?_
 refine OD.nil ?_
 refine CD.seq ?_
 refine CD.region ?_
 refine OD.callE (FnD.known rfl (fun _=>rfl)) rfl (by kernel_rfl) (by kernel_rfl) (by kernel_rfl) ?_
 refine OD.runE 1 [0,1,5] (E':=[(0,.str re),(1,.vR ls0),(5,.bool true)]) (by kernel_rfl) ?_
 refine OD.nil ?_
 refine CD.seq ?_
 refine CD.seq ?_
 refine CD.region ?_
 refine OD.runE 2 [0,1,22] (E':=[(0,.str re),(1,.vR ls0),(22,.bool false)]) (by kernel_rfl) ?_
 refine OD.nil ?_
 refine CD.condF rfl ?_
 refine CD.skip ?_
 refine CD.seq ?_
 refine CD.region ?_
 refine OD.runE 1 [1,24] (E':=[(1,.vR ls0),(24,.str re)]) (by kernel_rfl) ?_
 refine OD.callO [] (ds:=[.str re]) (XIg re) rfl (by kernel_rfl) (by kernel_rfl) (by kernel_rfl) (by kernel_rfl) (by kernel_rfl) (fun r L1 hr=>?_)
 rcases hr with⟨⟨k,set,no,kids,mn,mx⟩,hno,rfl,rfl⟩ | ⟨⟨k,set,no,kids,mn,mx⟩,n1,hN,hn1,hwp,hdp,rfl,rfl⟩
 ·
  refine OD.run 8 [1,6,7,8] (E':=[(1,.vR ls0),(6,.loc 0 0),(7,.lit (.pointer none)),(8,.bool false)]) (L':=[.box (cN k set no kids mn mx)]) (by kernel_rfl) ?_
  refine OD.nil ?_
  refine CD.seq ?_
  refine CD.seq ?_
  refine CD.region ?_
  refine OD.runE 2 [1,6,7,30] (E':=[(1,.vR ls0),(6,.loc 0 0),(7,.lit (.pointer none)),(30,.bool true)]) (by kernel_rfl) ?_
  refine OD.nil ?_
  refine CD.condT rfl ?_
  refine CD.seq ?_
  refine CD.region ?_
  refine OD.runE 1 [4] (E':=[(4,.bool true)]) (by kernel_rfl) ?_
  refine OD.nil ?_
  refine CD.ret ?_
  exact retP (by kernel_rfl) (by kernel_rfl) (r:=.bool true) (rfl)
 ·
  obtain⟨hf,hal,hz60⟩:=X7Y hN
  have hml:=X6H hal hwp
  have hsb:n1≤1000000:=by omega
  refine OD.run 8 [1,6,7,8] (E':=[(1,.vR ls0),(6,.loc 4 0),(7,.loc 3 0),(8,.bool true)]) (L':=[.box (cN k set no kids mn mx),.box (cN k set no kids mn mx),.box (cN k set no kids mn mx),.pN (.mk k set no kids mn mx) n1,.box (cN k set no kids mn mx)]) (by kernel_rfl) ?_
  refine OD.nil ?_
  refine CD.seq ?_
  refine CD.seq ?_
  refine CD.region ?_
  refine OD.runE 2 [1,6,7,30] (E':=[(1,.vR ls0),(6,.loc 4 0),(7,.loc 3 0),(30,.bool false)]) (by kernel_rfl) ?_
  refine OD.nil ?_
  refine CD.condF rfl ?_
  refine CD.skip ?_
  refine CD.seq ?_
  refine CD.region ?_
  refine OD.runE 1 [6,7,31] (E':=[(6,.loc 4 0),(7,.loc 3 0),(31,.vR ls0)]) (by kernel_rfl) ?_
  refine OD.callP (R:=fun r=>∃ out:List (List Cel),r=.vR out∧out.length≤10∧∀ x∈out,x.length≤40) rfl (by kernel_rfl) (by kernel_rfl) (by kernel_rfl) (XGA ls0) (fun r hr=>?_)
  obtain⟨ls,rfl,hc10,hall⟩:=hr
  refine OD.runE 1 [1,6,7] (E':=[(1,.vR ls),(6,.loc 4 0),(7,.loc 3 0)]) (by kernel_rfl) ?_
  refine OD.nil ?_
  refine CD.seq ?_
  refine CD.region ?_
  refine OD.runE 1 [1,6,7,9] (E':=[(1,.vR ls),(6,.loc 4 0),(7,.loc 3 0),(9,.lit (.slice none 0 0))]) (by kernel_rfl) ?_
  refine OD.nilRow 9 1 rfl ?_
  refine OD.runE 0 [1,6,7,9] (E':=[(1,.vR ls),(6,.loc 4 0),(7,.loc 3 0),(9,.row 5 0 0 0)]) (by kernel_rfl) ?_
  refine OD.nil ?_
  refine CD.seq ?_
  refine CD.seq ?_
  refine CD.region ?_
  refine OD.runE 1 [1,6,7,9,10] (E':=[(1,.vR ls),(6,.loc 4 0),(7,.loc 3 0),(9,.row 5 0 0 0),(10,.int .i64 0)]) (by kernel_rfl) ?_
  refine OD.nil ?_
  refine CD.block ?_
  refine CD.weak [1,6,7,9,10] 6 (E':=[(1,.vR ls),(6,.loc 4 0),(7,.loc 3 0),(9,.row 5 0 0 0),(10,.int .i64 0)]) (by kernel_rfl) (by simp [hg0]) (by kernel_rfl) ?_
  refine CD.loop (fun m σ=>∃ (i:Nat) (out:List (List Int)) (n:Nat),σ=⟨[(1,.vR ls),(6,.loc 4 0),(7,.loc 3 0),(9,.row 5 0 n n),(10,.int .i64 ((i:Nat):Int))],[.box (cN k set no kids mn mx),.box (cN k set no kids mn mx),.box (cN k set no kids mn mx),.pN (.mk k set no kids mn mx) n1,.box (cN k set no kids mn mx),.row 1 n (out.map X38)]⟩∧(i≤ls.length)∧(out=(tOf ls).take i)∧(out.length=n)∧(n≤i)∧m=ls.length - i) (fun m σ hI=>?_) _ ⟨0,([]:List (List Int)),0,(by kernel_rfl),Nat.zero_le _,rfl,rfl,Nat.le_refl _,rfl⟩
  obtain⟨i,out,n,e,hi,hout,hn,hni,hm⟩:=hI
  subst e hm
  refine CD.seq ?_
  refine CD.seq ?_
  refine CD.region ?_
  refine OD.runE 4 [1,6,7,9,10,36] (E':=[(1,.vR ls),(6,.loc 4 0),(7,.loc 3 0),(9,.row 5 0 n n),(10,.int .i64 ((i:Nat):Int)),(36,.bool (decide ((((i:Nat):Int):Int)<((ls.length:Nat):Int))))]) (by kernel_rfl) ?_
  refine OD.nil ?_
  refine CD.condP rfl (fun h1=>?_) (fun h1=>?_)
  ·
   refine CD.skip ?_
   refine CD.seq ?_
   refine CD.block ?_
   refine CD.region ?_
   refine OD.runE 3 [1,6,7,10,39,40,41] (E':=[(1,.vR ls),(6,.loc 4 0),(7,.loc 3 0),(10,.int .i64 ((i:Nat):Int)),(39,.row 5 0 n n),(40,.vR ls),(41,.int .i64 ((i:Nat):Int))]) (by kernel_rfl) ?_
   refine OD.idxSV (i:=i) rfl rfl (by kernel_rfl) (by omega) (by omega) ?_
   refine OD.runE 0 [1,6,7,10,39,42] (E':=[(1,.vR ls),(6,.loc 4 0),(7,.loc 3 0),(10,.int .i64 ((i:Nat):Int)),(39,.row 5 0 n n),(42,.ep 1 ls.length (ls.map X46) i)]) (by kernel_rfl) ?_
   refine OD.ldSV [] (f:=X46) (xs:=ls) rfl (by kernel_rfl) (by first | omega | (simp only [List.length_set,List.length_replicate,List.length_append,List.length_singleton,List.length_cons,List.length_nil];omega)) ?_
   refine OD.runE 0 [1,6,7,10,39,43] (E':=[(1,.vR ls),(6,.loc 4 0),(7,.loc 3 0),(10,.int .i64 ((i:Nat):Int)),(39,.row 5 0 n n),(43,.sl 3 ((ls.getD i []).length) ((ls.getD i []).flatMap X2k))]) (by kernel_rfl) ?_
   have hlb0:=X2l hall i
   refine OD.callE (X87 (ls.getD i []) (by omega)) rfl (by kernel_rfl) (by kernel_rfl) (by kernel_rfl) ?_
   refine OD.runE 0 [1,6,7,10,39,44] (E':=[(1,.vR ls),(6,.loc 4 0),(7,.loc 3 0),(10,.int .i64 ((i:Nat):Int)),(39,.row 5 0 n n),(44,.sl 1 ((X4a (ls.getD i [])).length) ((X4a (ls.getD i [])).map (D.int .i32)))]) (by kernel_rfl) ?_
   refine OD.bsl (e:=1) (cs:=[.sl 1 ((X4a (ls.getD i [])).length) ((X4a (ls.getD i [])).map (D.int .i32))]) rfl (by kernel_rfl) ?_
   refine OD.runE 0 [1,6,7,10,39,45] (E':=[(1,.vR ls),(6,.loc 4 0),(7,.loc 3 0),(10,.int .i64 ((i:Nat):Int)),(39,.row 5 0 n n),(45,.sl 1 1 [.sl 1 ((X4a (ls.getD i [])).length) ((X4a (ls.getD i [])).map (D.int .i32))])]) (by kernel_rfl) ?_
   refine OD.appV (f:=X38) (xs:=out) (vs:=[(X4a (ls.getD i []))]) rfl (by kernel_rfl) rfl rfl rfl rfl (by first | omega | (simp only [List.length_set,List.length_replicate,List.length_append,List.length_singleton,List.length_cons,List.length_nil];omega)) (by decide) (by omega) ?_
   refine OD.runE 1 [1,6,7,9,10] (E':=[(1,.vR ls),(6,.loc 4 0),(7,.loc 3 0),(9,.row 5 0 (n+1) (n+1)),(10,.int .i64 ((i:Nat):Int))]) (by kernel_rfl) ?_
   refine OD.nil ?_
   refine CD.region ?_
   refine OD.runE 2 [1,6,7,9,38] (E':=[(1,.vR ls),(6,.loc 4 0),(7,.loc 3 0),(9,.row 5 0 (n+1) (n+1)),(38,.int .i64 (X09 .i64 (((i:Nat):Int)+1)))]) (by kernel_rfl) ?_
   refine OD.is 38 rfl (wrn (m:=i+1) (by omega) (by omega)) ?_
   refine OD.runE 1 [1,6,7,9,10] (E':=[(1,.vR ls),(6,.loc 4 0),(7,.loc 3 0),(9,.row 5 0 (n+1) (n+1)),(10,.int .i64 ((i+1:Nat):Int))]) (by kernel_rfl) ?_
   refine OD.nil ?_
   exact⟨_,by omega,i+1,(out++[(X4a (ls.getD i []))]),n+1,(by kernel_rfl),by omega,by rw [hout,XG6 (by omega)],by rw [List.length_append,hn];rfl,by omega,rfl⟩
  ·
   refine CD.exit ?_
   refine CD.seq ?_
   refine CD.region ?_
   refine OD.freeze 9 rfl rfl (Nat.le_refl _) ?_
   refine OD.is 9 rfl (XIs hout hn (by omega)) ?_
   refine OD.runE 2 [1,7,47,48] (E':=[(1,.vR ls),(7,.loc 3 0),(47,.sl 1 ((tOf ls).length) ((tOf ls).map X38)),(48,.agg (cN k set no kids mn mx))]) (by kernel_rfl) ?_
   refine OD.callE (XIw k set no kids mn mx (tOf ls) hf hal (by rw [X1E];omega) (XHr hall)) rfl (by kernel_rfl) (by kernel_rfl) (by kernel_rfl) ?_
   obtain⟨A,hA⟩:∃ A,A=X4V (tOf ls) (.mk k set no kids mn mx):=⟨_,rfl⟩
   have hAl:A.length≤400:=by rw [hA];exact XL8 (by rw [X1E];omega) (XHr hall)
   refine OD.is 49 rfl (congrArg (fun q:List H3=>D.sl 3 q.length (q.flatMap X2E)) hA.symm) ?_
   refine OD.runE 1 [1,7,11] (E':=[(1,.vR ls),(7,.loc 3 0),(11,.sl 3 A.length (A.flatMap X2E))]) (by kernel_rfl) ?_
   refine OD.nil ?_
   refine CD.seq ?_
   refine CD.region ?_
   refine OD.run 3 [1,7,11,12] (E':=[(1,.vR ls),(7,.loc 3 0),(11,.sl 3 A.length (A.flatMap X2E)),(12,.loc 6 0)]) (L':=[.box (cN k set no kids mn mx),.box (cN k set no kids mn mx),.box (cN k set no kids mn mx),.pN (.mk k set no kids mn mx) n1,.box (cN k set no kids mn mx),.dead,.box [.int .i64 (-1),.int .i64 0,.int .i64 0]]) (by kernel_rfl) ?_
   refine OD.nil ?_
   refine CD.seq ?_
   refine CD.seq ?_
   refine CD.region ?_
   refine OD.runE 1 [1,7,11,12,13] (E':=[(1,.vR ls),(7,.loc 3 0),(11,.sl 3 A.length (A.flatMap X2E)),(12,.loc 6 0),(13,.int .i64 0)]) (by kernel_rfl) ?_
   refine OD.nil ?_
   refine CD.block ?_
   refine CD.weak [1,7,11,12,13] 7 (E':=[(1,.vR ls),(7,.loc 3 0),(11,.sl 3 A.length (A.flatMap X2E)),(12,.loc 6 0),(13,.int .i64 0)]) (by kernel_rfl) (by simp [hg0]) (by kernel_rfl) ?_
   refine CD.loop (fun m σ=>∃ (i:Nat) (z:Int) (f:Int),σ=⟨[(1,.vR ls),(7,.loc 3 0),(11,.sl 3 A.length (A.flatMap X2E)),(12,.loc 6 0),(13,.int .i64 ((i:Nat):Int))],[.box (cN k set no kids mn mx),.box (cN k set no kids mn mx),.box (cN k set no kids mn mx),.pN (.mk k set no kids mn mx) n1,.box (cN k set no kids mn mx),.dead,.box [.int .i64 z,.int .i64 f,.int .i64 0]]⟩∧(i≤A.length+1)∧(A.length=0→i=0)∧(S7 A i z f)∧m=A.length+1 - i) (fun m σ hI=>?_) _ ⟨0,(-1),0,(by kernel_rfl),Nat.zero_le _,(fun _=>rfl),(.inl ⟨rfl,rfl,rfl⟩),rfl⟩
   obtain⟨i,z,f,e,hi,hi2,hs,hm⟩:=hI
   subst e hm
   refine CD.seq ?_
   refine CD.seq ?_
   refine CD.region ?_
   refine OD.runE 4 [1,7,11,12,13,51,54] (E':=[(1,.vR ls),(7,.loc 3 0),(11,.sl 3 A.length (A.flatMap X2E)),(12,.loc 6 0),(13,.int .i64 ((i:Nat):Int)),(51,.int .i64 ((i:Nat):Int)),(54,.int .i64 (X09 .i64 (((A.length:Nat):Int)+1)))]) (by kernel_rfl) ?_
   refine OD.is 54 rfl (wrn (m:=A.length+1) (by omega) (by omega)) ?_
   refine OD.runE 2 [1,7,11,12,13,56] (E':=[(1,.vR ls),(7,.loc 3 0),(11,.sl 3 A.length (A.flatMap X2E)),(12,.loc 6 0),(13,.int .i64 ((i:Nat):Int)),(56,.bool (decide ((((i:Nat):Int):Int)<((A.length+1:Nat):Int))))]) (by kernel_rfl) ?_
   refine OD.ifP 56 rfl (fun h2=>?_) (fun h2=>?_)
   ·
    refine OD.runE 4 [1,7,11,12,13,60] (E':=[(1,.vR ls),(7,.loc 3 0),(11,.sl 3 A.length (A.flatMap X2E)),(12,.loc 6 0),(13,.int .i64 ((i:Nat):Int)),(60,.bool (decide ((0:Int)<((A.length:Nat):Int))))]) (by kernel_rfl) ?_
    refine OD.nil ?_
    refine CD.condP rfl (fun h3=>?_) (fun h3=>?_)
    ·
     refine CD.skip ?_
     refine CD.seq ?_
     refine CD.block ?_
     refine CD.seq ?_
     refine CD.region ?_
     obtain⟨m,hm⟩:∃ m,m=i % A.length:=⟨_,rfl⟩
     have hml:m<A.length:=by rw [hm];exact Nat.mod_lt _ (by omega)
     obtain⟨x,hx⟩:∃ x,A[m]?=some x:=⟨_,List.getElem?_eq_getElem hml⟩
     have hfw:=(X8y hA (by omega) (by omega) hs).trans (hm ▸ hx)
     refine OD.runE 3 [1,7,11,12,13,64,65,66] (E':=[(1,.vR ls),(7,.loc 3 0),(11,.sl 3 A.length (A.flatMap X2E)),(12,.loc 6 0),(13,.int .i64 ((i:Nat):Int)),(64,.vR ls),(65,.loc 3 0),(66,.agg [.int .i64 z,.int .i64 f,.int .i64 0])]) (by kernel_rfl) ?_
     refine OD.callO [3] (ds:=[.vR ls,.loc 3 0,.agg [.int .i64 z,.int .i64 f,.int .i64 0]]) (XDJ k set no kids mn mx n1 ls (z,f) 0 hf hal hn1 hsb hc10 hall) rfl (by kernel_rfl) (by kernel_rfl) (by kernel_rfl) (by kernel_rfl) (by kernel_rfl) (fun r L1 hr=>?_)
     obtain⟨hr,rfl⟩:=hr
     obtain rfl:r=.tup [.agg [.int .i64 x.1,.int .i64 x.2.1,.int .i64 x.2.2],.bool true]:=hr.trans (by rw [XDH,hfw];rfl)
     refine OD.run 6 [1,7,11,12,13,14,15] (E':=[(1,.vR ls),(7,.loc 3 0),(11,.sl 3 A.length (A.flatMap X2E)),(12,.loc 6 0),(13,.int .i64 ((i:Nat):Int)),(14,.loc 7 0),(15,.bool true)]) (L':=[.box (cN k set no kids mn mx),.box (cN k set no kids mn mx),.box (cN k set no kids mn mx),.pN (.mk k set no kids mn mx) n1,.box (cN k set no kids mn mx),.dead,.box [.int .i64 z,.int .i64 f,.int .i64 0],.box [.int .i64 x.1,.int .i64 x.2.1,.int .i64 x.2.2]]) (by kernel_rfl) ?_
     refine OD.nil ?_
     refine CD.seq ?_
     refine CD.seq ?_
     refine CD.drawn (by kernel_rfl) ?_
     refine OD.runE 8 [1,7,11,12,13,14,72,73,74,75,77] (E':=[(1,.vR ls),(7,.loc 3 0),(11,.sl 3 A.length (A.flatMap X2E)),(12,.loc 6 0),(13,.int .i64 ((i:Nat):Int)),(14,.loc 7 0),(72,.bool false),(73,.agg [.int .i64 x.1,.int .i64 x.2.1,.int .i64 x.2.2]),(74,.sl 3 A.length (A.flatMap X2E)),(75,.int .i64 ((i:Nat):Int)),(77,.int .i64 ((A.length:Nat):Int))]) (by kernel_rfl) ?_
     refine OD.guard rfl rfl ?_
     refine OD.bit rfl rfl (XGm (m:=i) (n:=A.length) (by omega)) ?_
     refine OD.is 78 rfl (congrArg (D.int .i64) (congrArg Nat.cast hm.symm)) ?_
     refine OD.runE 0 [1,7,11,12,13,14,72,73,74,78] (E':=[(1,.vR ls),(7,.loc 3 0),(11,.sl 3 A.length (A.flatMap X2E)),(12,.loc 6 0),(13,.int .i64 ((i:Nat):Int)),(14,.loc 7 0),(72,.bool false),(73,.agg [.int .i64 x.1,.int .i64 x.2.1,.int .i64 x.2.2]),(74,.sl 3 A.length (A.flatMap X2E)),(78,.int .i64 ((m:Nat):Int))]) (by kernel_rfl) ?_
     refine OD.guard rfl rfl ?_
     refine OD.idxSE (i:=m) (e:=3) rfl rfl (by kernel_rfl) (by omega) (by omega) ?_
     refine OD.runE 0 [1,7,11,12,13,14,72,73,79] (E':=[(1,.vR ls),(7,.loc 3 0),(11,.sl 3 A.length (A.flatMap X2E)),(12,.loc 6 0),(13,.int .i64 ((i:Nat):Int)),(14,.loc 7 0),(72,.bool false),(73,.agg [.int .i64 x.1,.int .i64 x.2.1,.int .i64 x.2.2]),(79,.ep 3 A.length (A.flatMap X2E) (m*3))]) (by kernel_rfl) ?_
     refine OD.guard rfl rfl ?_
     refine OD.ldA rfl (by kernel_rfl) (by kernel_rfl) (XBD hx) rfl (by decide) ?_
     refine OD.runE 0 [1,7,11,12,13,14,72,73,80] (E':=[(1,.vR ls),(7,.loc 3 0),(11,.sl 3 A.length (A.flatMap X2E)),(12,.loc 6 0),(13,.int .i64 ((i:Nat):Int)),(14,.loc 7 0),(72,.bool false),(73,.agg [.int .i64 x.1,.int .i64 x.2.1,.int .i64 x.2.2]),(80,.agg [.int .i64 x.1,.int .i64 x.2.1,.int .i64 x.2.2])]) (by kernel_rfl) ?_
     refine OD.guard rfl rfl ?_
     refine OD.ne3 rfl rfl (by kernel_rfl) ?_
     refine OD.is 81 rfl (congrArg D.bool (show((!(decide (((x.1:Int)=x.1∧(x.2.1:Int)=x.2.1∧(x.2.2:Int)=x.2.2)))))=false from by simp)) ?_
     refine OD.runE 1 [1,7,11,12,13,14,82] (E':=[(1,.vR ls),(7,.loc 3 0),(11,.sl 3 A.length (A.flatMap X2E)),(12,.loc 6 0),(13,.int .i64 ((i:Nat):Int)),(14,.loc 7 0),(82,.bool false)]) (by kernel_rfl) ?_
     refine OD.nil ⟨by kernel_rfl,?_⟩
     refine CD.condF rfl ?_
     refine CD.skip ?_
     refine CD.seq ?_
     refine CD.region ?_
     refine OD.run 6 [1,7,11,12,13] (E':=[(1,.vR ls),(7,.loc 3 0),(11,.sl 3 A.length (A.flatMap X2E)),(12,.loc 6 0),(13,.int .i64 ((i:Nat):Int))]) (L':=[.box (cN k set no kids mn mx),.box (cN k set no kids mn mx),.box (cN k set no kids mn mx),.pN (.mk k set no kids mn mx) n1,.box (cN k set no kids mn mx),.dead,.box [.int .i64 x.1,.int .i64 x.2.1,.int .i64 0],.box [.int .i64 x.1,.int .i64 x.2.1,.int .i64 x.2.2]]) (by kernel_rfl) ?_
     refine OD.nil ?_
     refine CD.seq ?_
     refine CD.region ?_
     obtain⟨m2,hm2⟩:∃ m2,m2=(m+A.length - 1) % A.length:=⟨_,rfl⟩
     have hml2:m2<A.length:=by rw [hm2];exact Nat.mod_lt _ (by omega)
     obtain⟨y,hy⟩:∃ y,A[m2]?=some y:=⟨_,List.getElem?_eq_getElem hml2⟩
     have hbw:=(XDI hA hx).trans (hm2 ▸ hy)
     refine OD.runE 3 [1,7,11,12,13,89,90,91] (E':=[(1,.vR ls),(7,.loc 3 0),(11,.sl 3 A.length (A.flatMap X2E)),(12,.loc 6 0),(13,.int .i64 ((i:Nat):Int)),(89,.vR ls),(90,.loc 3 0),(91,.agg [.int .i64 x.1,.int .i64 x.2.1,.int .i64 0])]) (by kernel_rfl) ?_
     refine OD.callO [3] (ds:=[.vR ls,.loc 3 0,.agg [.int .i64 x.1,.int .i64 x.2.1,.int .i64 0]]) (XLE k set no kids mn mx n1 ls (x.1,x.2.1) 0 hf hal hn1 hsb hc10 hall) rfl (by kernel_rfl) (by kernel_rfl) (by kernel_rfl) (by kernel_rfl) (by kernel_rfl) (fun r L1 hr=>?_)
     obtain⟨hr,rfl⟩:=hr
     obtain rfl:r=.tup [.agg [.int .i64 y.1,.int .i64 y.2.1,.int .i64 y.2.2],.bool true]:=hr.trans (by rw [XL9,hbw];rfl)
     refine OD.run 6 [1,7,11,12,13,16,17] (E':=[(1,.vR ls),(7,.loc 3 0),(11,.sl 3 A.length (A.flatMap X2E)),(12,.loc 6 0),(13,.int .i64 ((i:Nat):Int)),(16,.loc 8 0),(17,.bool true)]) (L':=[.box (cN k set no kids mn mx),.box (cN k set no kids mn mx),.box (cN k set no kids mn mx),.pN (.mk k set no kids mn mx) n1,.box (cN k set no kids mn mx),.dead,.box [.int .i64 x.1,.int .i64 x.2.1,.int .i64 0],.box [.int .i64 x.1,.int .i64 x.2.1,.int .i64 x.2.2],.box [.int .i64 y.1,.int .i64 y.2.1,.int .i64 y.2.2]]) (by kernel_rfl) ?_
     refine OD.nil ?_
     refine CD.seq ?_
     refine CD.drawn (by kernel_rfl) ?_
     refine OD.runE 8 [1,7,11,12,13,97,98,99,100,102] (E':=[(1,.vR ls),(7,.loc 3 0),(11,.sl 3 A.length (A.flatMap X2E)),(12,.loc 6 0),(13,.int .i64 ((i:Nat):Int)),(97,.bool false),(98,.agg [.int .i64 y.1,.int .i64 y.2.1,.int .i64 y.2.2]),(99,.sl 3 A.length (A.flatMap X2E)),(100,.int .i64 ((i:Nat):Int)),(102,.int .i64 ((A.length:Nat):Int))]) (by kernel_rfl) ?_
     refine OD.guard rfl rfl ?_
     refine OD.bit rfl rfl (XGm (m:=i) (n:=A.length) (by omega)) ?_
     refine OD.is 103 rfl (congrArg (D.int .i64) (congrArg Nat.cast hm.symm)) ?_
     refine OD.runE 3 [1,7,11,12,13,97,98,99,106] (E':=[(1,.vR ls),(7,.loc 3 0),(11,.sl 3 A.length (A.flatMap X2E)),(12,.loc 6 0),(13,.int .i64 ((i:Nat):Int)),(97,.bool false),(98,.agg [.int .i64 y.1,.int .i64 y.2.1,.int .i64 y.2.2]),(99,.sl 3 A.length (A.flatMap X2E)),(106,.int .i64 (X09 .i64 (((m:Nat):Int)+((A.length:Nat):Int))))]) (by kernel_rfl) ?_
     refine OD.is 106 rfl (wrn (m:=m+A.length) (by omega) (by omega)) ?_
     refine OD.runE 1 [1,7,11,12,13,97,98,99,107] (E':=[(1,.vR ls),(7,.loc 3 0),(11,.sl 3 A.length (A.flatMap X2E)),(12,.loc 6 0),(13,.int .i64 ((i:Nat):Int)),(97,.bool false),(98,.agg [.int .i64 y.1,.int .i64 y.2.1,.int .i64 y.2.2]),(99,.sl 3 A.length (A.flatMap X2E)),(107,.int .i64 (X09 .i64 (((m+A.length:Nat):Int) - 1)))]) (by kernel_rfl) ?_
     refine OD.is 107 rfl (wrn (m:=(m+A.length) - 1) (by omega) (by omega)) ?_
     refine OD.runE 2 [1,7,11,12,13,97,98,99,107,109] (E':=[(1,.vR ls),(7,.loc 3 0),(11,.sl 3 A.length (A.flatMap X2E)),(12,.loc 6 0),(13,.int .i64 ((i:Nat):Int)),(97,.bool false),(98,.agg [.int .i64 y.1,.int .i64 y.2.1,.int .i64 y.2.2]),(99,.sl 3 A.length (A.flatMap X2E)),(107,.int .i64 (((m+A.length) - 1:Nat):Int)),(109,.int .i64 ((A.length:Nat):Int))]) (by kernel_rfl) ?_
     refine OD.guard rfl rfl ?_
     refine OD.bit rfl rfl (XGm (m:=((m+A.length) - 1)) (n:=A.length) (by omega)) ?_
     refine OD.is 110 rfl (congrArg (D.int .i64) (congrArg Nat.cast hm2.symm)) ?_
     refine OD.runE 0 [1,7,11,12,13,97,98,99,110] (E':=[(1,.vR ls),(7,.loc 3 0),(11,.sl 3 A.length (A.flatMap X2E)),(12,.loc 6 0),(13,.int .i64 ((i:Nat):Int)),(97,.bool false),(98,.agg [.int .i64 y.1,.int .i64 y.2.1,.int .i64 y.2.2]),(99,.sl 3 A.length (A.flatMap X2E)),(110,.int .i64 ((m2:Nat):Int))]) (by kernel_rfl) ?_
     refine OD.guard rfl rfl ?_
     refine OD.idxSE (i:=m2) (e:=3) rfl rfl (by kernel_rfl) (by omega) (by omega) ?_
     refine OD.runE 0 [1,7,11,12,13,97,98,111] (E':=[(1,.vR ls),(7,.loc 3 0),(11,.sl 3 A.length (A.flatMap X2E)),(12,.loc 6 0),(13,.int .i64 ((i:Nat):Int)),(97,.bool false),(98,.agg [.int .i64 y.1,.int .i64 y.2.1,.int .i64 y.2.2]),(111,.ep 3 A.length (A.flatMap X2E) (m2*3))]) (by kernel_rfl) ?_
     refine OD.guard rfl rfl ?_
     refine OD.ldA rfl (by kernel_rfl) (by kernel_rfl) (XBD hy) rfl (by decide) ?_
     refine OD.runE 0 [1,7,11,12,13,97,98,112] (E':=[(1,.vR ls),(7,.loc 3 0),(11,.sl 3 A.length (A.flatMap X2E)),(12,.loc 6 0),(13,.int .i64 ((i:Nat):Int)),(97,.bool false),(98,.agg [.int .i64 y.1,.int .i64 y.2.1,.int .i64 y.2.2]),(112,.agg [.int .i64 y.1,.int .i64 y.2.1,.int .i64 y.2.2])]) (by kernel_rfl) ?_
     refine OD.guard rfl rfl ?_
     refine OD.ne3 rfl rfl (by kernel_rfl) ?_
     refine OD.is 113 rfl (congrArg D.bool (show((!(decide (((y.1:Int)=y.1∧(y.2.1:Int)=y.2.1∧(y.2.2:Int)=y.2.2)))))=false from by simp)) ?_
     refine OD.runE 1 [1,7,11,12,13,114] (E':=[(1,.vR ls),(7,.loc 3 0),(11,.sl 3 A.length (A.flatMap X2E)),(12,.loc 6 0),(13,.int .i64 ((i:Nat):Int)),(114,.bool false)]) (by kernel_rfl) ?_
     refine OD.nil ⟨by kernel_rfl,?_⟩
     refine CD.condF rfl ?_
     refine CD.skip ?_
     refine CD.region ?_
     refine OD.runE 2 [1,7,11,12,62] (E':=[(1,.vR ls),(7,.loc 3 0),(11,.sl 3 A.length (A.flatMap X2E)),(12,.loc 6 0),(62,.int .i64 (X09 .i64 (((i:Nat):Int)+1)))]) (by kernel_rfl) ?_
     refine OD.is 62 rfl (wrn (m:=i+1) (by omega) (by omega)) ?_
     refine OD.runE 1 [1,7,11,12,13] (E':=[(1,.vR ls),(7,.loc 3 0),(11,.sl 3 A.length (A.flatMap X2E)),(12,.loc 6 0),(13,.int .i64 ((i+1:Nat):Int))]) (by kernel_rfl) ?_
     refine OD.nilW [1,7,11,12,13] 7 (E':=[(1,.vR ls),(7,.loc 3 0),(11,.sl 3 A.length (A.flatMap X2E)),(12,.loc 6 0),(13,.int .i64 ((i+1:Nat):Int))]) (by kernel_rfl) (by simp [hg0]) (by kernel_rfl) ?_
     exact⟨_,by omega,i+1,x.1,x.2.1,(by kernel_rfl),by omega,by omega,XIt hm hx,rfl⟩
    ·
     refine CD.exit ?_
     refine CD.seq ?_
     refine CD.region ?_
     refine OD.runE 3 [11,116,117,118] (E':=[(11,.sl 3 A.length (A.flatMap X2E)),(116,.vR ls),(117,.loc 3 0),(118,.agg [.int .i64 z,.int .i64 f,.int .i64 0])]) (by kernel_rfl) ?_
     refine OD.callO [3] (ds:=[.vR ls,.loc 3 0,.agg [.int .i64 z,.int .i64 f,.int .i64 0]]) (XDJ k set no kids mn mx n1 ls (z,f) 0 hf hal hn1 hsb hc10 hall) rfl (by kernel_rfl) (by kernel_rfl) (by kernel_rfl) (by kernel_rfl) (by kernel_rfl) (fun r L1 hr=>?_)
     obtain⟨hr,rfl⟩:=hr
     obtain rfl:r=.tup [.agg [.int .i64 (oH1 (X4W ls (.mk k set no kids mn mx) (z,f) false)),.int .i64 (oH2 (X4W ls (.mk k set no kids mn mx) (z,f) false)),.int .i64 (oH3 (X4W ls (.mk k set no kids mn mx) (z,f) false))],.bool (X4W ls (.mk k set no kids mn mx) (z,f) false).isSome]:=hr.trans (by rw [XDH];exact XHt _)
     refine OD.run 6 [11,19] (E':=[(11,.sl 3 A.length (A.flatMap X2E)),(19,.bool (X4W ls (.mk k set no kids mn mx) (z,f) false).isSome)]) (L':=[.box (cN k set no kids mn mx),.box (cN k set no kids mn mx),.box (cN k set no kids mn mx),.pN (.mk k set no kids mn mx) n1,.box (cN k set no kids mn mx),.dead,.box [.int .i64 z,.int .i64 f,.int .i64 0],.box [.int .i64 (oH1 (X4W ls (.mk k set no kids mn mx) (z,f) false)),.int .i64 (oH2 (X4W ls (.mk k set no kids mn mx) (z,f) false)),.int .i64 (oH3 (X4W ls (.mk k set no kids mn mx) (z,f) false))]]) (by kernel_rfl) ?_
     refine OD.nil ?_
     refine CD.seq ?_
     refine CD.region ?_
     refine OD.runE 5 [126] (E':=[(126,.bool (bif (X4W ls (.mk k set no kids mn mx) (z,f) false).isSome then(bif (decide ((0:Int)<((A.length:Nat):Int)))then true else false)else(bif (decide ((0:Int)<((A.length:Nat):Int)))then false else true)))]) (by kernel_rfl) ?_
     refine OD.is 126 rfl (congrArg D.bool XE5) ?_
     refine OD.is 126 rfl (congrArg D.bool (decide_eq_true (X8z hA (by split<;>omega) hs))) ?_
     refine OD.runE 1 [4] (E':=[(4,.bool true)]) (by kernel_rfl) ?_
     refine OD.nil ?_
     refine CD.ret ?_
     exact retP (by kernel_rfl) (by kernel_rfl) (r:=.bool true) (rfl)
   ·
    refine OD.runE 4 [1,7,11,12,13,60] (E':=[(1,.vR ls),(7,.loc 3 0),(11,.sl 3 A.length (A.flatMap X2E)),(12,.loc 6 0),(13,.int .i64 ((i:Nat):Int)),(60,.bool false)]) (by kernel_rfl) ?_
    refine OD.nil ?_
    refine CD.condF rfl ?_
    refine CD.exit ?_
    refine CD.seq ?_
    refine CD.region ?_
    refine OD.runE 3 [11,116,117,118] (E':=[(11,.sl 3 A.length (A.flatMap X2E)),(116,.vR ls),(117,.loc 3 0),(118,.agg [.int .i64 z,.int .i64 f,.int .i64 0])]) (by kernel_rfl) ?_
    refine OD.callO [3] (ds:=[.vR ls,.loc 3 0,.agg [.int .i64 z,.int .i64 f,.int .i64 0]]) (XDJ k set no kids mn mx n1 ls (z,f) 0 hf hal hn1 hsb hc10 hall) rfl (by kernel_rfl) (by kernel_rfl) (by kernel_rfl) (by kernel_rfl) (by kernel_rfl) (fun r L1 hr=>?_)
    obtain⟨hr,rfl⟩:=hr
    obtain rfl:r=.tup [.agg [.int .i64 (oH1 (X4W ls (.mk k set no kids mn mx) (z,f) false)),.int .i64 (oH2 (X4W ls (.mk k set no kids mn mx) (z,f) false)),.int .i64 (oH3 (X4W ls (.mk k set no kids mn mx) (z,f) false))],.bool (X4W ls (.mk k set no kids mn mx) (z,f) false).isSome]:=hr.trans (by rw [XDH];exact XHt _)
    refine OD.run 6 [11,19] (E':=[(11,.sl 3 A.length (A.flatMap X2E)),(19,.bool (X4W ls (.mk k set no kids mn mx) (z,f) false).isSome)]) (L':=[.box (cN k set no kids mn mx),.box (cN k set no kids mn mx),.box (cN k set no kids mn mx),.pN (.mk k set no kids mn mx) n1,.box (cN k set no kids mn mx),.dead,.box [.int .i64 z,.int .i64 f,.int .i64 0],.box [.int .i64 (oH1 (X4W ls (.mk k set no kids mn mx) (z,f) false)),.int .i64 (oH2 (X4W ls (.mk k set no kids mn mx) (z,f) false)),.int .i64 (oH3 (X4W ls (.mk k set no kids mn mx) (z,f) false))]]) (by kernel_rfl) ?_
    refine OD.nil ?_
    refine CD.seq ?_
    refine CD.region ?_
    refine OD.runE 5 [126] (E':=[(126,.bool (bif (X4W ls (.mk k set no kids mn mx) (z,f) false).isSome then(bif (decide ((0:Int)<((A.length:Nat):Int)))then true else false)else(bif (decide ((0:Int)<((A.length:Nat):Int)))then false else true)))]) (by kernel_rfl) ?_
    refine OD.is 126 rfl (congrArg D.bool XE5) ?_
    refine OD.is 126 rfl (congrArg D.bool (decide_eq_true (X8z hA (by split<;>omega) hs))) ?_
    refine OD.runE 1 [4] (E':=[(4,.bool true)]) (by kernel_rfl) ?_
    refine OD.nil ?_
    refine CD.ret ?_
    exact retP (by kernel_rfl) (by kernel_rfl) (r:=.bool true) (rfl)
end
end Go.Proofs.YtfcadnhoejlgoaaGreatDoor
