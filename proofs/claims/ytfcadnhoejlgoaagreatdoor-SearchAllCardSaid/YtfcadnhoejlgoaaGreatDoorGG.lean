/-
  What is proved here: what functions of the pattern's package come to (walks that a program of mine has printed). what functions of the pattern's package come to (walks that a program of mine has printed). No conditions but those that the theorems state.
-/
import Derived.Test.YtfcadnhoejlgoaaGreatDoorGD
import Derived.Test.YtfcadnhoejlgoaaGreatDoorRI
import Derived.Test.YtfcadnhoejlgoaaGreatDoorFC
import Derived.Test.YtfcadnhoejlgoaaGreatDoorPureEmp
set_option linter.unusedVariables false
set_option linter.unusedSimpArgs false
set_option maxRecDepth 100000
set_option maxHeartbeats 4000000
namespace Go.Proofs.YtfcadnhoejlgoaaGreatDoor
open Go.Vai Go.Nfa
noncomputable section
theorem XGJ (k:Int) (set:List (Int×Int)) (no:Bool) (kids:List Nd) (mn mx:Int) (ls:List (List Cel)) (s:Int×Int) (pa:Int) (hf:fit (.mk k set no kids mn mx)) (hal:X0H X18 (.mk k set no kids mn mx)) (hc10:ls.length≤10) (hall:∀ x∈ls,x.length≤40):X1G P ov 21 [.sl 1 ls.length (ls.map X38),.agg [.i64 k,.sl 2 set.length (set.flatMap X0I),.bool no,.sl 6 kids.length (X0G kids),.i64 mn,.i64 mx],.agg [.i64 s.1,.i64 s.2,.i64 pa],.bool false] (X5X (X0n ls (.mk k set no kids mn mx) s false)):=by
 refine FnD.intro (by kernel_rfl) (fn:=Tryz.f21) (by kernel_rfl) rfl (by kernel_rfl) fun M a0 g0 hg0=>?_
 refine CD.seq (CD.region ?_)
 refine OD.rL 4 [(0,.vR ls),(3,.bool false),(5,.loc 0 0),(6,.loc 1 0),(8,.loc 2 0)] [.box (cN k set no kids mn mx),.box [.i64 s.1,.i64 s.2,.i64 pa],.box [.i64 0,.i64 0,.i64 0]] ?_
 refine OD.nil (CD.seq (CD.region ?_))
 refine OD.rE 1 [(0,.vR ls),(3,.bool false),(5,.loc 0 0),(6,.loc 1 0),(8,.loc 2 0),(10,.lit (.slice none 0 0))] ?_
 refine OD.nilRow 10 1 rfl ?_
 refine OD.rE 0 [(0,.vR ls),(3,.bool false),(5,.loc 0 0),(6,.loc 1 0),(8,.loc 2 0),(10,.row 3 0 0 0)] ?_
 refine OD.nil (CD.seq (CD.seq (CD.region ?_)))
 refine OD.rE 1 [(0,.vR ls),(3,.bool false),(5,.loc 0 0),(6,.loc 1 0),(8,.loc 2 0),(10,.row 3 0 0 0),(11,.i64 0)] ?_
 refine OD.nil (CD.block ?_)
 refine CD.weak [0,3,5,6,8,10,11] 4 (E':=[(0,.vR ls),(3,.bool false),(5,.loc 0 0),(6,.loc 1 0),(8,.loc 2 0),(10,.row 3 0 0 0),(11,.i64 0)]) (by kernel_rfl) (by simp [hg0]) (by kernel_rfl) ?_
 refine CD.loop (fun m σ=>∃ (i:Nat) (out:List (List Int)) (n:Nat),σ=⟨[(0,.vR ls),(3,.bool false),(5,.loc 0 0),(6,.loc 1 0),(8,.loc 2 0),(10,.row 3 0 n n),(11,.i64 i)],[.box (cN k set no kids mn mx),.box [.i64 s.1,.i64 s.2,.i64 pa],.box [.i64 0,.i64 0,.i64 0],.row 1 n (out.map X2p)]⟩∧(i≤ls.length)∧(out=(tOf ls).take i)∧(out.length=n)∧(n≤i)∧m=ls.length - i) (fun m σ hI=>?_) _ ⟨0,([]:List (List Int)),0,(by kernel_rfl),Nat.zero_le _,rfl,rfl,Nat.le_refl _,rfl⟩
 obtain⟨i,out,n,e,hi,hout,hn,hni,hm⟩:=hI
 subst e hm
 refine CD.seq (CD.seq (CD.region ?_))
 refine OD.rE 4 [(0,.vR ls),(3,.bool false),(5,.loc 0 0),(6,.loc 1 0),(8,.loc 2 0),(10,.row 3 0 n n),(11,.i64 i),(19,.bool (decide ((((i:Nat):Int):Int)<((ls.length:Nat):Int))))] ?_
 refine OD.nil ?_
 refine CD.condP rfl (fun h1=>?_) (fun h1=>?_)
 ·
  refine CD.skip (CD.seq (CD.block (CD.region ?_)))
  refine OD.rE 3 [(0,.vR ls),(3,.bool false),(5,.loc 0 0),(6,.loc 1 0),(8,.loc 2 0),(11,.i64 i),(22,.row 3 0 n n),(23,.vR ls),(24,.i64 i)] ?_
  refine OD.idxSV (i:=i) rfl rfl (by kernel_rfl) (by omega) (by omega) ?_
  refine OD.rE 0 [(0,.vR ls),(3,.bool false),(5,.loc 0 0),(6,.loc 1 0),(8,.loc 2 0),(11,.i64 i),(22,.row 3 0 n n),(25,.ep 1 ls.length (ls.map X38) i)] ?_
  refine OD.ldSV [] (f:=X38) (xs:=ls) rfl (by kernel_rfl) (by first | omega | (simp<;>omega)) ?_
  refine OD.rE 0 [(0,.vR ls),(3,.bool false),(5,.loc 0 0),(6,.loc 1 0),(8,.loc 2 0),(11,.i64 i),(22,.row 3 0 n n),(26,.sl 3 ((ls.getD i []).length) ((ls.getD i []).flatMap X1o))] ?_
  have hlb0:=X2Z hall i
  refine OD.cE (X90 (ls.getD i []) (by omega)) ?_
  refine OD.rE 0 [(0,.vR ls),(3,.bool false),(5,.loc 0 0),(6,.loc 1 0),(8,.loc 2 0),(11,.i64 i),(22,.row 3 0 n n),(27,.sl 1 ((X3B (ls.getD i [])).length) ((X3B (ls.getD i [])).map (D.int .i32)))] ?_
  refine OD.bsl (e:=1) (cs:=[.sl 1 ((X3B (ls.getD i [])).length) ((X3B (ls.getD i [])).map (D.int .i32))]) rfl (by kernel_rfl) ?_
  refine OD.rE 0 [(0,.vR ls),(3,.bool false),(5,.loc 0 0),(6,.loc 1 0),(8,.loc 2 0),(11,.i64 i),(22,.row 3 0 n n),(28,.sl 1 1 [.sl 1 ((X3B (ls.getD i [])).length) ((X3B (ls.getD i [])).map (D.int .i32))])] ?_
  refine OD.appV (f:=X2p) (xs:=out) (vs:=[(X3B (ls.getD i []))]) rfl (by kernel_rfl) rfl rfl rfl rfl (by first | omega | (simp<;>omega)) (by decide) (by omega) ?_
  refine OD.rE 1 [(0,.vR ls),(3,.bool false),(5,.loc 0 0),(6,.loc 1 0),(8,.loc 2 0),(10,.row 3 0 (n+1) (n+1)),(11,.i64 i)] ?_
  refine OD.nil (CD.region ?_)
  refine OD.rE 2 [(0,.vR ls),(3,.bool false),(5,.loc 0 0),(6,.loc 1 0),(8,.loc 2 0),(10,.row 3 0 (n+1) (n+1)),(21,.i64 (X08 .i64 (((i:Nat):Int)+1)))] ?_
  refine OD.is 21 rfl (wrn (m:=i+1) (by omega) (by omega)) ?_
  refine OD.rE 1 [(0,.vR ls),(3,.bool false),(5,.loc 0 0),(6,.loc 1 0),(8,.loc 2 0),(10,.row 3 0 (n+1) (n+1)),(11,.i64 ((i+1:Nat):Int))] ?_
  refine OD.nil ?_
  exact⟨_,by omega,i+1,(out++[(X3B (ls.getD i []))]),n+1,(by kernel_rfl),by omega,by rw [hout,XBH (by omega)],by rw [List.length_append,hn];rfl,by omega,rfl⟩
 ·
  refine CD.exit ?_
  refine CD.seq (CD.region ?_)
  refine OD.freeze 10 rfl rfl (Nat.le_refl _) ?_
  refine OD.is 10 rfl (XDS hout hn (by omega)) ?_
  refine OD.rE 2 [(0,.vR ls),(3,.bool false),(6,.loc 1 0),(8,.loc 2 0),(30,.sl 1 ((tOf ls).length) ((tOf ls).map X2p)),(31,.agg (cN k set no kids mn mx))] ?_
  refine OD.cE (XDT k set no kids mn mx (tOf ls) hf hal (by rw [X1C];omega) (XBD hall)) ?_
  obtain⟨A,hA⟩:∃ A,A=X4c (tOf ls) (.mk k set no kids mn mx):=⟨_,rfl⟩
  have hAl:A.length≤400:=by rw [hA];exact XI1 (by rw [X1C];omega) (XBD hall)
  refine OD.is 32 rfl (congrArg (fun q:List H3=>D.sl 3 q.length (q.flatMap X0M)) hA.symm) ?_
  refine OD.rE 1 [(0,.vR ls),(3,.bool false),(6,.loc 1 0),(8,.loc 2 0),(12,.sl 3 A.length (A.flatMap X0M))] ?_
  refine OD.nil (CD.seq (CD.seq (CD.region ?_)))
  refine OD.rE 3 [(0,.vR ls),(3,.bool false),(6,.loc 1 0),(8,.loc 2 0),(12,.sl 3 A.length (A.flatMap X0M)),(35,.bool (decide ((((A.length:Nat):Int):Int)=0)))] ?_
  refine OD.nil ?_
  refine CD.condP rfl (fun h2=>?_) (fun h2=>?_)
  ·
   refine CD.seq (CD.region ?_)
   refine OD.rE 3 [(8,.loc 2 0),(9,.bool false)] ?_
   refine OD.nil (CD.ret ?_)
   exact rP (.tup [.agg [.i64 0,.i64 0,.i64 0],.bool false]) (by rw [XDR hA (by omega)];rfl:X5X (X0n ls (.mk k set no kids mn mx) s false)=.tup [.agg [.i64 0,.i64 0,.i64 0],.bool false]).symm
  ·
   refine CD.skip ?_
   refine CD.seqM (fun σ=>∃ (o:Bool),σ=⟨[(3,.bool false),(6,.loc 1 0),(8,.loc 2 0),(12,.sl 3 A.length (A.flatMap X0M)),(13,.bool o)],[.box (cN k set no kids mn mx),.box [.i64 s.1,.i64 s.2,.i64 pa],.box [.i64 0,.i64 0,.i64 0],.dead]⟩∧(o = !inB ls s)) ?_ (fun σ hI=>?_)
   ·
    refine CD.drawn (by kernel_rfl) ?_
    refine OD.rE 4 [(0,.vR ls),(3,.bool false),(6,.loc 1 0),(8,.loc 2 0),(12,.sl 3 A.length (A.flatMap X0M)),(40,.bool (decide ((s.1:Int)<0)))] ?_
    refine OD.ifP 40 rfl (fun h3=>?_) (fun h3=>?_)
    ·
     refine OD.rE 23 [(3,.bool false),(6,.loc 1 0),(8,.loc 2 0),(12,.sl 3 A.length (A.flatMap X0M)),(13,.bool true)] ?_
     refine OD.nil ⟨by kernel_rfl,?_⟩
     exact⟨true,(by kernel_rfl),XCT (by omega)⟩
    ·
     refine OD.rE 7 [(0,.vR ls),(3,.bool false),(6,.loc 1 0),(8,.loc 2 0),(12,.sl 3 A.length (A.flatMap X0M)),(47,.bool (decide ((((ls.length:Nat):Int):Int)≤s.1)))] ?_
     refine OD.ifP 47 rfl (fun h4=>?_) (fun h4=>?_)
     ·
      refine OD.rE 16 [(3,.bool false),(6,.loc 1 0),(8,.loc 2 0),(12,.sl 3 A.length (A.flatMap X0M)),(13,.bool true)] ?_
      refine OD.nil ⟨by kernel_rfl,?_⟩
      exact⟨true,(by kernel_rfl),XCT (by omega)⟩
     ·
      refine OD.rE 5 [(0,.vR ls),(3,.bool false),(6,.loc 1 0),(8,.loc 2 0),(12,.sl 3 A.length (A.flatMap X0M)),(52,.bool (decide ((s.2:Int)<0)))] ?_
      refine OD.ifP 52 rfl (fun h5=>?_) (fun h5=>?_)
      ·
       refine OD.rE 11 [(3,.bool false),(6,.loc 1 0),(8,.loc 2 0),(12,.sl 3 A.length (A.flatMap X0M)),(13,.bool true)] ?_
       refine OD.nil ⟨by kernel_rfl,?_⟩
       exact⟨true,(by kernel_rfl),XCT (by omega)⟩
      ·
       refine OD.rE 5 [(3,.bool false),(6,.loc 1 0),(8,.loc 2 0),(12,.sl 3 A.length (A.flatMap X0M)),(52,.bool false),(54,.i64 s.2),(55,.vR ls),(57,.i64 s.1)] ?_
       refine OD.guard rfl rfl ?_
       refine OD.idxSV (i:=s.1.toNat) rfl rfl (by kernel_rfl) (by omega) (by omega) ?_
       refine OD.rE 0 [(3,.bool false),(6,.loc 1 0),(8,.loc 2 0),(12,.sl 3 A.length (A.flatMap X0M)),(52,.bool false),(54,.i64 s.2),(58,.ep 1 ls.length (ls.map X38) s.1.toNat)] ?_
       refine OD.guard rfl rfl ?_
       refine OD.ldSV [] (f:=X38) (xs:=ls) rfl (by kernel_rfl) (by first | omega | (simp<;>omega)) ?_
       refine OD.rE 4 [(3,.bool false),(6,.loc 1 0),(8,.loc 2 0),(12,.sl 3 A.length (A.flatMap X0M)),(13,.bool (decide (((((ls.getD s.1.toNat []).length:Nat):Int):Int)<s.2)))] ?_
       refine OD.nil ⟨by kernel_rfl,?_⟩
       exact⟨(decide (((((ls.getD s.1.toNat []).length:Nat):Int):Int)<s.2)),(by kernel_rfl),XLG (by omega)⟩
   ·
    obtain⟨o,e,ho⟩:=hI
    subst e
    refine CD.seq (CD.seq (CD.region ?_))
    refine OD.rE 1 [(3,.bool false),(6,.loc 1 0),(8,.loc 2 0),(12,.sl 3 A.length (A.flatMap X0M)),(13,.bool o),(14,.i64 0)] ?_
    refine OD.nil (CD.block ?_)
    refine CD.weak [3,6,8,12,13,14] 4 (E':=[(3,.bool false),(6,.loc 1 0),(8,.loc 2 0),(12,.sl 3 A.length (A.flatMap X0M)),(13,.bool o),(14,.i64 0)]) (by kernel_rfl) (by simp [hg0]) (by kernel_rfl) ?_
    refine CD.loop (fun m σ=>∃ (i:Nat),σ=⟨[(3,.bool false),(6,.loc 1 0),(8,.loc 2 0),(12,.sl 3 A.length (A.flatMap X0M)),(13,.bool o),(14,.i64 i)],[.box (cN k set no kids mn mx),.box [.i64 s.1,.i64 s.2,.i64 pa],.box [.i64 0,.i64 0,.i64 0],.dead]⟩∧(i≤A.length)∧(A.find? (pF o s)=(A.drop i).find? (pF o s))∧m=A.length - i) (fun m σ hI=>?_) _ ⟨0,(by kernel_rfl),Nat.zero_le _,rfl,rfl⟩
    obtain⟨i,e,hi,hr,hm⟩:=hI
    subst e hm
    refine CD.seq (CD.seq (CD.region ?_))
    refine OD.rE 5 [(3,.bool false),(6,.loc 1 0),(8,.loc 2 0),(12,.sl 3 A.length (A.flatMap X0M)),(13,.bool o),(14,.i64 i),(67,.bool (decide ((((i:Nat):Int):Int)<((A.length:Nat):Int))))] ?_
    refine OD.ifP 67 rfl (fun h6=>?_) (fun h6=>?_)
    ·
     refine OD.rE 3 [(3,.bool false),(6,.loc 1 0),(8,.loc 2 0),(12,.sl 3 A.length (A.flatMap X0M)),(13,.bool o),(14,.i64 i),(70,.bool true)] ?_
     refine OD.nil ?_
     refine CD.condT rfl ?_
     refine CD.skip (CD.seq (CD.block (CD.seq ?_)))
     refine CD.drawn (by kernel_rfl) ?_
     obtain⟨x,hx,hd⟩:=nth (l:=A) (i:=i) (by omega)
     refine OD.rE 2 [(3,.bool false),(6,.loc 1 0),(8,.loc 2 0),(12,.sl 3 A.length (A.flatMap X0M)),(13,.bool o),(14,.i64 i),(74,.bool o)] ?_
     refine OD.ifB 74 rfl (fun h7=>?_) (fun h7=>?_)
     ·
      refine OD.rE 29 [(3,.bool false),(6,.loc 1 0),(8,.loc 2 0),(12,.sl 3 A.length (A.flatMap X0M)),(13,.bool o),(14,.i64 i),(103,.bool true)] ?_
      refine OD.nil ⟨by kernel_rfl,?_⟩
      refine CD.condT rfl ?_
      refine CD.seq (CD.region ?_)
      refine OD.rE 2 [(8,.loc 2 0),(104,.sl 3 A.length (A.flatMap X0M)),(105,.i64 i)] ?_
      refine OD.idxSE (i:=i) (e:=3) rfl rfl (by kernel_rfl) (by omega) (by omega) ?_
      refine OD.rE 0 [(8,.loc 2 0),(106,.ep 3 A.length (A.flatMap X0M) (i*3))] ?_
      refine OD.ldA rfl (by kernel_rfl) (by kernel_rfl) (X1M hx) rfl (by decide) ?_
      refine OD.rL 2 [(8,.loc 2 0),(9,.bool true)] [.box (cN k set no kids mn mx),.box [.i64 s.1,.i64 s.2,.i64 pa],.box [.i64 x.1,.i64 x.2.1,.i64 x.2.2],.dead] ?_
      refine OD.nil (CD.ret ?_)
      exact rP (.tup [.agg [.i64 x.1,.i64 x.2.1,.i64 x.2.2],.bool true]) (by rw [X6B hA ho hr hd (by first | exact pF_o (by assumption) | exact XCM (by omega))];rfl:X5X (X0n ls (.mk k set no kids mn mx) s false)=.tup [.agg [.i64 x.1,.i64 x.2.1,.i64 x.2.2],.bool true]).symm
     ·
      refine OD.rE 2 [(3,.bool false),(6,.loc 1 0),(8,.loc 2 0),(12,.sl 3 A.length (A.flatMap X0M)),(13,.bool o),(14,.i64 i),(74,.bool false),(75,.sl 3 A.length (A.flatMap X0M)),(76,.i64 i)] ?_
      refine OD.guard rfl rfl ?_
      refine OD.idxSE (i:=i) (e:=3) rfl rfl (by kernel_rfl) (by omega) (by omega) ?_
      refine OD.rE 1 [(3,.bool false),(6,.loc 1 0),(8,.loc 2 0),(12,.sl 3 A.length (A.flatMap X0M)),(13,.bool o),(14,.i64 i),(74,.bool false),(78,.ep 3 A.length (A.flatMap X0M) (i*3+0))] ?_
      refine OD.guard rfl rfl ?_
      refine OD.ldL rfl (by kernel_rfl) (XCR hx) ?_
      refine OD.rE 5 [(3,.bool false),(6,.loc 1 0),(8,.loc 2 0),(12,.sl 3 A.length (A.flatMap X0M)),(13,.bool o),(14,.i64 i),(84,.bool (decide ((s.1:Int)<x.1)))] ?_
      refine OD.ifP 84 rfl (fun h8=>?_) (fun h8=>?_)
      ·
       refine OD.rE 19 [(3,.bool false),(6,.loc 1 0),(8,.loc 2 0),(12,.sl 3 A.length (A.flatMap X0M)),(13,.bool o),(14,.i64 i),(103,.bool true)] ?_
       refine OD.nil ⟨by kernel_rfl,?_⟩
       refine CD.condT rfl ?_
       refine CD.seq (CD.region ?_)
       refine OD.rE 2 [(8,.loc 2 0),(104,.sl 3 A.length (A.flatMap X0M)),(105,.i64 i)] ?_
       refine OD.idxSE (i:=i) (e:=3) rfl rfl (by kernel_rfl) (by omega) (by omega) ?_
       refine OD.rE 0 [(8,.loc 2 0),(106,.ep 3 A.length (A.flatMap X0M) (i*3))] ?_
       refine OD.ldA rfl (by kernel_rfl) (by kernel_rfl) (X1M hx) rfl (by decide) ?_
       refine OD.rL 2 [(8,.loc 2 0),(9,.bool true)] [.box (cN k set no kids mn mx),.box [.i64 s.1,.i64 s.2,.i64 pa],.box [.i64 x.1,.i64 x.2.1,.i64 x.2.2],.dead] ?_
       refine OD.nil (CD.ret ?_)
       exact rP (.tup [.agg [.i64 x.1,.i64 x.2.1,.i64 x.2.2],.bool true]) (by rw [X6B hA ho hr hd (by first | exact pF_o (by assumption) | exact XCM (by omega))];rfl:X5X (X0n ls (.mk k set no kids mn mx) s false)=.tup [.agg [.i64 x.1,.i64 x.2.1,.i64 x.2.2],.bool true]).symm
      ·
       refine OD.rE 2 [(3,.bool false),(6,.loc 1 0),(8,.loc 2 0),(12,.sl 3 A.length (A.flatMap X0M)),(13,.bool o),(14,.i64 i),(84,.bool false),(85,.sl 3 A.length (A.flatMap X0M)),(86,.i64 i)] ?_
       refine OD.guard rfl rfl ?_
       refine OD.idxSE (i:=i) (e:=3) rfl rfl (by kernel_rfl) (by omega) (by omega) ?_
       refine OD.rE 1 [(3,.bool false),(6,.loc 1 0),(8,.loc 2 0),(12,.sl 3 A.length (A.flatMap X0M)),(13,.bool o),(14,.i64 i),(84,.bool false),(88,.ep 3 A.length (A.flatMap X0M) (i*3+0))] ?_
       refine OD.guard rfl rfl ?_
       refine OD.ldL rfl (by kernel_rfl) (XCR hx) ?_
       refine OD.rE 4 [(3,.bool false),(6,.loc 1 0),(8,.loc 2 0),(12,.sl 3 A.length (A.flatMap X0M)),(13,.bool o),(14,.i64 i),(84,.bool false),(93,.bool (decide ((x.1:Int)=s.1)))] ?_
       refine OD.ifP 93 rfl (fun h9=>?_) (fun h9=>?_)
       ·
        refine OD.rE 2 [(3,.bool false),(6,.loc 1 0),(8,.loc 2 0),(12,.sl 3 A.length (A.flatMap X0M)),(13,.bool o),(14,.i64 i),(84,.bool false),(93,.bool true),(94,.sl 3 A.length (A.flatMap X0M)),(95,.i64 i)] ?_
        refine OD.guard rfl rfl ?_
        refine OD.idxSE (i:=i) (e:=3) rfl rfl (by kernel_rfl) (by omega) (by omega) ?_
        refine OD.rE 1 [(3,.bool false),(6,.loc 1 0),(8,.loc 2 0),(12,.sl 3 A.length (A.flatMap X0M)),(13,.bool o),(14,.i64 i),(84,.bool false),(93,.bool true),(97,.ep 3 A.length (A.flatMap X0M) (i*3+1))] ?_
        refine OD.guard rfl rfl ?_
        refine OD.ldL rfl (by kernel_rfl) (XIq hx) ?_
        refine OD.rE 5 [(3,.bool false),(6,.loc 1 0),(8,.loc 2 0),(12,.sl 3 A.length (A.flatMap X0M)),(13,.bool o),(14,.i64 i),(103,.bool (decide ((s.2:Int)<x.2.1)))] ?_
        refine OD.nil ⟨by kernel_rfl,?_⟩
        refine CD.condP rfl (fun h10=>?_) (fun h10=>?_)
        ·
         refine CD.seq (CD.region ?_)
         refine OD.rE 2 [(8,.loc 2 0),(104,.sl 3 A.length (A.flatMap X0M)),(105,.i64 i)] ?_
         refine OD.idxSE (i:=i) (e:=3) rfl rfl (by kernel_rfl) (by omega) (by omega) ?_
         refine OD.rE 0 [(8,.loc 2 0),(106,.ep 3 A.length (A.flatMap X0M) (i*3))] ?_
         refine OD.ldA rfl (by kernel_rfl) (by kernel_rfl) (X1M hx) rfl (by decide) ?_
         refine OD.rL 2 [(8,.loc 2 0),(9,.bool true)] [.box (cN k set no kids mn mx),.box [.i64 s.1,.i64 s.2,.i64 pa],.box [.i64 x.1,.i64 x.2.1,.i64 x.2.2],.dead] ?_
         refine OD.nil (CD.ret ?_)
         exact rP (.tup [.agg [.i64 x.1,.i64 x.2.1,.i64 x.2.2],.bool true]) (by rw [X6B hA ho hr hd (by first | exact pF_o (by assumption) | exact XCM (by omega))];rfl:X5X (X0n ls (.mk k set no kids mn mx) s false)=.tup [.agg [.i64 x.1,.i64 x.2.1,.i64 x.2.2],.bool true]).symm
        ·
         refine CD.skip (CD.region ?_)
         refine OD.rE 2 [(3,.bool false),(6,.loc 1 0),(8,.loc 2 0),(12,.sl 3 A.length (A.flatMap X0M)),(13,.bool o),(72,.i64 (X08 .i64 (((i:Nat):Int)+1)))] ?_
         refine OD.is 72 rfl (wrn (m:=i+1) (by omega) (by omega)) ?_
         refine OD.rE 1 [(3,.bool false),(6,.loc 1 0),(8,.loc 2 0),(12,.sl 3 A.length (A.flatMap X0M)),(13,.bool o),(14,.i64 ((i+1:Nat):Int))] ?_
         refine OD.nil ?_
         exact⟨_,by omega,i+1,(by kernel_rfl),by omega,by rw [hr,X8x hd (XG6 (by assumption) (by omega))],rfl⟩
       ·
        refine OD.rE 10 [(3,.bool false),(6,.loc 1 0),(8,.loc 2 0),(12,.sl 3 A.length (A.flatMap X0M)),(13,.bool o),(14,.i64 i),(103,.bool false)] ?_
        refine OD.nil ⟨by kernel_rfl,?_⟩
        refine CD.condF rfl ?_
        refine CD.skip (CD.region ?_)
        refine OD.rE 2 [(3,.bool false),(6,.loc 1 0),(8,.loc 2 0),(12,.sl 3 A.length (A.flatMap X0M)),(13,.bool o),(72,.i64 (X08 .i64 (((i:Nat):Int)+1)))] ?_
        refine OD.is 72 rfl (wrn (m:=i+1) (by omega) (by omega)) ?_
        refine OD.rE 1 [(3,.bool false),(6,.loc 1 0),(8,.loc 2 0),(12,.sl 3 A.length (A.flatMap X0M)),(13,.bool o),(14,.i64 ((i+1:Nat):Int))] ?_
        refine OD.nil ?_
        exact⟨_,by omega,i+1,(by kernel_rfl),by omega,by rw [hr,X8x hd (XG6 (by assumption) (by omega))],rfl⟩
    ·
     refine OD.rE 3 [(3,.bool false),(6,.loc 1 0),(8,.loc 2 0),(12,.sl 3 A.length (A.flatMap X0M)),(13,.bool o),(14,.i64 i),(70,.bool false)] ?_
     refine OD.nil ?_
     refine CD.condF rfl ?_
     refine CD.exit ?_
     refine CD.seq (CD.seq (CD.region ?_))
     refine OD.rE 3 [(3,.bool false),(6,.loc 1 0),(8,.loc 2 0),(12,.sl 3 A.length (A.flatMap X0M)),(13,.bool o),(110,.i64 (X08 .i64 (((A.length:Nat):Int) - 1)))] ?_
     refine OD.is 110 rfl (X3z (by omega) (by omega)) ?_
     refine OD.rE 1 [(3,.bool false),(6,.loc 1 0),(8,.loc 2 0),(12,.sl 3 A.length (A.flatMap X0M)),(13,.bool o),(15,.i64 (((A.length:Nat):Int) - 1))] ?_
     refine OD.nil (CD.block ?_)
     refine CD.weak [3,6,8,12,13,15] 4 (E':=[(3,.bool false),(6,.loc 1 0),(8,.loc 2 0),(12,.sl 3 A.length (A.flatMap X0M)),(13,.bool o),(15,.i64 (((A.length:Nat):Int) - 1))]) (by kernel_rfl) (by simp [hg0]) (by kernel_rfl) ?_
     refine CD.loop (fun m σ=>σ=⟨[(3,.bool false),(6,.loc 1 0),(8,.loc 2 0),(12,.sl 3 A.length (A.flatMap X0M)),(13,.bool o),(15,.i64 (((A.length:Nat):Int) - 1))],[.box (cN k set no kids mn mx),.box [.i64 s.1,.i64 s.2,.i64 pa],.box [.i64 0,.i64 0,.i64 0],.dead]⟩∧m=0) (fun m σ hI=>?_) _ ⟨(by kernel_rfl),rfl⟩
     obtain⟨e,hm⟩:=hI
     subst e hm
     refine CD.seq (CD.seq (CD.region ?_))
     refine OD.rE 3 [(3,.bool false),(6,.loc 1 0),(8,.loc 2 0),(12,.sl 3 A.length (A.flatMap X0M)),(13,.bool o),(15,.i64 (((A.length:Nat):Int) - 1)),(113,.bool (decide ((0:Int)≤(((A.length:Nat):Int) - 1))))] ?_
     refine OD.ifP 113 rfl (fun h11=>?_) (fun h11=>?_)
     ·
      refine OD.rE 2 [(3,.bool false),(6,.loc 1 0),(8,.loc 2 0),(12,.sl 3 A.length (A.flatMap X0M)),(13,.bool o),(15,.i64 (((A.length:Nat):Int) - 1)),(115,.bool false)] ?_
      refine OD.nil ?_
      refine CD.condF rfl ?_
      refine CD.exit ?_
      refine CD.seq (CD.seq (CD.region ?_))
      refine OD.rE 1 [(8,.loc 2 0),(12,.sl 3 A.length (A.flatMap X0M)),(153,.bool false)] ?_
      refine OD.nil ?_
      refine CD.condF rfl ?_
      refine CD.skip (CD.seq (CD.region ?_))
      obtain⟨y,hy⟩:∃ y,A[0]?=some y:=⟨_,List.getElem?_eq_getElem (by omega)⟩
      refine OD.rE 1 [(8,.loc 2 0),(160,.sl 3 A.length (A.flatMap X0M))] ?_
      refine OD.idxSE (i:=0) (e:=3) rfl rfl (by kernel_rfl) (by omega) (by omega) ?_
      refine OD.rE 0 [(8,.loc 2 0),(161,.ep 3 A.length (A.flatMap X0M) (0*3))] ?_
      refine OD.ldA rfl (by kernel_rfl) (by kernel_rfl) (X1M hy) rfl (by decide) ?_
      refine OD.rL 2 [(8,.loc 2 0),(9,.bool true)] [.box (cN k set no kids mn mx),.box [.i64 s.1,.i64 s.2,.i64 pa],.box [.i64 y.1,.i64 y.2.1,.i64 y.2.2],.dead] ?_
      refine OD.nil (CD.ret ?_)
      exact rP (.tup [.agg [.i64 y.1,.i64 y.2.1,.i64 y.2.2],.bool true]) (by rw [X8y hA ho hr (by omega) hy];rfl:X5X (X0n ls (.mk k set no kids mn mx) s false)=.tup [.agg [.i64 y.1,.i64 y.2.1,.i64 y.2.2],.bool true]).symm
     ·
      refine OD.rE 2 [(3,.bool false),(6,.loc 1 0),(8,.loc 2 0),(12,.sl 3 A.length (A.flatMap X0M)),(13,.bool o),(15,.i64 (((A.length:Nat):Int) - 1)),(115,.bool false)] ?_
      refine OD.nil ?_
      refine CD.condF rfl ?_
      refine CD.exit ?_
      refine CD.seq (CD.seq (CD.region ?_))
      refine OD.rE 1 [(8,.loc 2 0),(12,.sl 3 A.length (A.flatMap X0M)),(153,.bool false)] ?_
      refine OD.nil ?_
      refine CD.condF rfl ?_
      refine CD.skip (CD.seq (CD.region ?_))
      obtain⟨y,hy⟩:∃ y,A[0]?=some y:=⟨_,List.getElem?_eq_getElem (by omega)⟩
      refine OD.rE 1 [(8,.loc 2 0),(160,.sl 3 A.length (A.flatMap X0M))] ?_
      refine OD.idxSE (i:=0) (e:=3) rfl rfl (by kernel_rfl) (by omega) (by omega) ?_
      refine OD.rE 0 [(8,.loc 2 0),(161,.ep 3 A.length (A.flatMap X0M) (0*3))] ?_
      refine OD.ldA rfl (by kernel_rfl) (by kernel_rfl) (X1M hy) rfl (by decide) ?_
      refine OD.rL 2 [(8,.loc 2 0),(9,.bool true)] [.box (cN k set no kids mn mx),.box [.i64 s.1,.i64 s.2,.i64 pa],.box [.i64 y.1,.i64 y.2.1,.i64 y.2.2],.dead] ?_
      refine OD.nil (CD.ret ?_)
      exact rP (.tup [.agg [.i64 y.1,.i64 y.2.1,.i64 y.2.2],.bool true]) (by rw [X8y hA ho hr (by omega) hy];rfl:X5X (X0n ls (.mk k set no kids mn mx) s false)=.tup [.agg [.i64 y.1,.i64 y.2.1,.i64 y.2.2],.bool true]).symm
theorem XGK (k:Int) (set:List (Int×Int)) (no:Bool) (kids:List Nd) (mn mx:Int) (ls:List (List Cel)) (s:Int×Int) (pa:Int) (hf:fit (.mk k set no kids mn mx)) (hal:X0H X18 (.mk k set no kids mn mx)) (hc10:ls.length≤10) (hall:∀ x∈ls,x.length≤40):X1G P ov 21 [.sl 1 ls.length (ls.map X38),.agg [.i64 k,.sl 2 set.length (set.flatMap X0I),.bool no,.sl 6 kids.length (X0G kids),.i64 mn,.i64 mx],.agg [.i64 s.1,.i64 s.2,.i64 pa],.bool true] (X5X (X0n ls (.mk k set no kids mn mx) s true)):=by
 refine FnD.intro (by kernel_rfl) (fn:=Tryz.f21) (by kernel_rfl) rfl (by kernel_rfl) fun M a0 g0 hg0=>?_
 refine CD.seq (CD.region ?_)
 refine OD.rL 4 [(0,.vR ls),(3,.bool true),(5,.loc 0 0),(6,.loc 1 0),(8,.loc 2 0)] [.box (cN k set no kids mn mx),.box [.i64 s.1,.i64 s.2,.i64 pa],.box [.i64 0,.i64 0,.i64 0]] ?_
 refine OD.nil (CD.seq (CD.region ?_))
 refine OD.rE 1 [(0,.vR ls),(3,.bool true),(5,.loc 0 0),(6,.loc 1 0),(8,.loc 2 0),(10,.lit (.slice none 0 0))] ?_
 refine OD.nilRow 10 1 rfl ?_
 refine OD.rE 0 [(0,.vR ls),(3,.bool true),(5,.loc 0 0),(6,.loc 1 0),(8,.loc 2 0),(10,.row 3 0 0 0)] ?_
 refine OD.nil (CD.seq (CD.seq (CD.region ?_)))
 refine OD.rE 1 [(0,.vR ls),(3,.bool true),(5,.loc 0 0),(6,.loc 1 0),(8,.loc 2 0),(10,.row 3 0 0 0),(11,.i64 0)] ?_
 refine OD.nil (CD.block ?_)
 refine CD.weak [0,3,5,6,8,10,11] 4 (E':=[(0,.vR ls),(3,.bool true),(5,.loc 0 0),(6,.loc 1 0),(8,.loc 2 0),(10,.row 3 0 0 0),(11,.i64 0)]) (by kernel_rfl) (by simp [hg0]) (by kernel_rfl) ?_
 refine CD.loop (fun m σ=>∃ (i:Nat) (out:List (List Int)) (n:Nat),σ=⟨[(0,.vR ls),(3,.bool true),(5,.loc 0 0),(6,.loc 1 0),(8,.loc 2 0),(10,.row 3 0 n n),(11,.i64 i)],[.box (cN k set no kids mn mx),.box [.i64 s.1,.i64 s.2,.i64 pa],.box [.i64 0,.i64 0,.i64 0],.row 1 n (out.map X2p)]⟩∧(i≤ls.length)∧(out=(tOf ls).take i)∧(out.length=n)∧(n≤i)∧m=ls.length - i) (fun m σ hI=>?_) _ ⟨0,([]:List (List Int)),0,(by kernel_rfl),Nat.zero_le _,rfl,rfl,Nat.le_refl _,rfl⟩
 obtain⟨i,out,n,e,hi,hout,hn,hni,hm⟩:=hI
 subst e hm
 refine CD.seq (CD.seq (CD.region ?_))
 refine OD.rE 4 [(0,.vR ls),(3,.bool true),(5,.loc 0 0),(6,.loc 1 0),(8,.loc 2 0),(10,.row 3 0 n n),(11,.i64 i),(19,.bool (decide ((((i:Nat):Int):Int)<((ls.length:Nat):Int))))] ?_
 refine OD.nil ?_
 refine CD.condP rfl (fun h1=>?_) (fun h1=>?_)
 ·
  refine CD.skip (CD.seq (CD.block (CD.region ?_)))
  refine OD.rE 3 [(0,.vR ls),(3,.bool true),(5,.loc 0 0),(6,.loc 1 0),(8,.loc 2 0),(11,.i64 i),(22,.row 3 0 n n),(23,.vR ls),(24,.i64 i)] ?_
  refine OD.idxSV (i:=i) rfl rfl (by kernel_rfl) (by omega) (by omega) ?_
  refine OD.rE 0 [(0,.vR ls),(3,.bool true),(5,.loc 0 0),(6,.loc 1 0),(8,.loc 2 0),(11,.i64 i),(22,.row 3 0 n n),(25,.ep 1 ls.length (ls.map X38) i)] ?_
  refine OD.ldSV [] (f:=X38) (xs:=ls) rfl (by kernel_rfl) (by first | omega | (simp<;>omega)) ?_
  refine OD.rE 0 [(0,.vR ls),(3,.bool true),(5,.loc 0 0),(6,.loc 1 0),(8,.loc 2 0),(11,.i64 i),(22,.row 3 0 n n),(26,.sl 3 ((ls.getD i []).length) ((ls.getD i []).flatMap X1o))] ?_
  have hlb0:=X2Z hall i
  refine OD.cE (X90 (ls.getD i []) (by omega)) ?_
  refine OD.rE 0 [(0,.vR ls),(3,.bool true),(5,.loc 0 0),(6,.loc 1 0),(8,.loc 2 0),(11,.i64 i),(22,.row 3 0 n n),(27,.sl 1 ((X3B (ls.getD i [])).length) ((X3B (ls.getD i [])).map (D.int .i32)))] ?_
  refine OD.bsl (e:=1) (cs:=[.sl 1 ((X3B (ls.getD i [])).length) ((X3B (ls.getD i [])).map (D.int .i32))]) rfl (by kernel_rfl) ?_
  refine OD.rE 0 [(0,.vR ls),(3,.bool true),(5,.loc 0 0),(6,.loc 1 0),(8,.loc 2 0),(11,.i64 i),(22,.row 3 0 n n),(28,.sl 1 1 [.sl 1 ((X3B (ls.getD i [])).length) ((X3B (ls.getD i [])).map (D.int .i32))])] ?_
  refine OD.appV (f:=X2p) (xs:=out) (vs:=[(X3B (ls.getD i []))]) rfl (by kernel_rfl) rfl rfl rfl rfl (by first | omega | (simp<;>omega)) (by decide) (by omega) ?_
  refine OD.rE 1 [(0,.vR ls),(3,.bool true),(5,.loc 0 0),(6,.loc 1 0),(8,.loc 2 0),(10,.row 3 0 (n+1) (n+1)),(11,.i64 i)] ?_
  refine OD.nil (CD.region ?_)
  refine OD.rE 2 [(0,.vR ls),(3,.bool true),(5,.loc 0 0),(6,.loc 1 0),(8,.loc 2 0),(10,.row 3 0 (n+1) (n+1)),(21,.i64 (X08 .i64 (((i:Nat):Int)+1)))] ?_
  refine OD.is 21 rfl (wrn (m:=i+1) (by omega) (by omega)) ?_
  refine OD.rE 1 [(0,.vR ls),(3,.bool true),(5,.loc 0 0),(6,.loc 1 0),(8,.loc 2 0),(10,.row 3 0 (n+1) (n+1)),(11,.i64 ((i+1:Nat):Int))] ?_
  refine OD.nil ?_
  exact⟨_,by omega,i+1,(out++[(X3B (ls.getD i []))]),n+1,(by kernel_rfl),by omega,by rw [hout,XBH (by omega)],by rw [List.length_append,hn];rfl,by omega,rfl⟩
 ·
  refine CD.exit ?_
  refine CD.seq (CD.region ?_)
  refine OD.freeze 10 rfl rfl (Nat.le_refl _) ?_
  refine OD.is 10 rfl (XDS hout hn (by omega)) ?_
  refine OD.rE 2 [(0,.vR ls),(3,.bool true),(6,.loc 1 0),(8,.loc 2 0),(30,.sl 1 ((tOf ls).length) ((tOf ls).map X2p)),(31,.agg (cN k set no kids mn mx))] ?_
  refine OD.cE (XDT k set no kids mn mx (tOf ls) hf hal (by rw [X1C];omega) (XBD hall)) ?_
  obtain⟨A,hA⟩:∃ A,A=X4c (tOf ls) (.mk k set no kids mn mx):=⟨_,rfl⟩
  have hAl:A.length≤400:=by rw [hA];exact XI1 (by rw [X1C];omega) (XBD hall)
  refine OD.is 32 rfl (congrArg (fun q:List H3=>D.sl 3 q.length (q.flatMap X0M)) hA.symm) ?_
  refine OD.rE 1 [(0,.vR ls),(3,.bool true),(6,.loc 1 0),(8,.loc 2 0),(12,.sl 3 A.length (A.flatMap X0M))] ?_
  refine OD.nil (CD.seq (CD.seq (CD.region ?_)))
  refine OD.rE 3 [(0,.vR ls),(3,.bool true),(6,.loc 1 0),(8,.loc 2 0),(12,.sl 3 A.length (A.flatMap X0M)),(35,.bool (decide ((((A.length:Nat):Int):Int)=0)))] ?_
  refine OD.nil ?_
  refine CD.condP rfl (fun h2=>?_) (fun h2=>?_)
  ·
   refine CD.seq (CD.region ?_)
   refine OD.rE 3 [(8,.loc 2 0),(9,.bool false)] ?_
   refine OD.nil (CD.ret ?_)
   exact rP (.tup [.agg [.i64 0,.i64 0,.i64 0],.bool false]) (by rw [XDR hA (by omega)];rfl:X5X (X0n ls (.mk k set no kids mn mx) s true)=.tup [.agg [.i64 0,.i64 0,.i64 0],.bool false]).symm
  ·
   refine CD.skip ?_
   refine CD.seqM (fun σ=>∃ (o:Bool),σ=⟨[(3,.bool true),(6,.loc 1 0),(8,.loc 2 0),(12,.sl 3 A.length (A.flatMap X0M)),(13,.bool o)],[.box (cN k set no kids mn mx),.box [.i64 s.1,.i64 s.2,.i64 pa],.box [.i64 0,.i64 0,.i64 0],.dead]⟩∧(o = !inB ls s)) ?_ (fun σ hI=>?_)
   ·
    refine CD.drawn (by kernel_rfl) ?_
    refine OD.rE 4 [(0,.vR ls),(3,.bool true),(6,.loc 1 0),(8,.loc 2 0),(12,.sl 3 A.length (A.flatMap X0M)),(40,.bool (decide ((s.1:Int)<0)))] ?_
    refine OD.ifP 40 rfl (fun h3=>?_) (fun h3=>?_)
    ·
     refine OD.rE 23 [(3,.bool true),(6,.loc 1 0),(8,.loc 2 0),(12,.sl 3 A.length (A.flatMap X0M)),(13,.bool true)] ?_
     refine OD.nil ⟨by kernel_rfl,?_⟩
     exact⟨true,(by kernel_rfl),XCT (by omega)⟩
    ·
     refine OD.rE 7 [(0,.vR ls),(3,.bool true),(6,.loc 1 0),(8,.loc 2 0),(12,.sl 3 A.length (A.flatMap X0M)),(47,.bool (decide ((((ls.length:Nat):Int):Int)≤s.1)))] ?_
     refine OD.ifP 47 rfl (fun h4=>?_) (fun h4=>?_)
     ·
      refine OD.rE 16 [(3,.bool true),(6,.loc 1 0),(8,.loc 2 0),(12,.sl 3 A.length (A.flatMap X0M)),(13,.bool true)] ?_
      refine OD.nil ⟨by kernel_rfl,?_⟩
      exact⟨true,(by kernel_rfl),XCT (by omega)⟩
     ·
      refine OD.rE 5 [(0,.vR ls),(3,.bool true),(6,.loc 1 0),(8,.loc 2 0),(12,.sl 3 A.length (A.flatMap X0M)),(52,.bool (decide ((s.2:Int)<0)))] ?_
      refine OD.ifP 52 rfl (fun h5=>?_) (fun h5=>?_)
      ·
       refine OD.rE 11 [(3,.bool true),(6,.loc 1 0),(8,.loc 2 0),(12,.sl 3 A.length (A.flatMap X0M)),(13,.bool true)] ?_
       refine OD.nil ⟨by kernel_rfl,?_⟩
       exact⟨true,(by kernel_rfl),XCT (by omega)⟩
      ·
       refine OD.rE 5 [(3,.bool true),(6,.loc 1 0),(8,.loc 2 0),(12,.sl 3 A.length (A.flatMap X0M)),(52,.bool false),(54,.i64 s.2),(55,.vR ls),(57,.i64 s.1)] ?_
       refine OD.guard rfl rfl ?_
       refine OD.idxSV (i:=s.1.toNat) rfl rfl (by kernel_rfl) (by omega) (by omega) ?_
       refine OD.rE 0 [(3,.bool true),(6,.loc 1 0),(8,.loc 2 0),(12,.sl 3 A.length (A.flatMap X0M)),(52,.bool false),(54,.i64 s.2),(58,.ep 1 ls.length (ls.map X38) s.1.toNat)] ?_
       refine OD.guard rfl rfl ?_
       refine OD.ldSV [] (f:=X38) (xs:=ls) rfl (by kernel_rfl) (by first | omega | (simp<;>omega)) ?_
       refine OD.rE 4 [(3,.bool true),(6,.loc 1 0),(8,.loc 2 0),(12,.sl 3 A.length (A.flatMap X0M)),(13,.bool (decide (((((ls.getD s.1.toNat []).length:Nat):Int):Int)<s.2)))] ?_
       refine OD.nil ⟨by kernel_rfl,?_⟩
       exact⟨(decide (((((ls.getD s.1.toNat []).length:Nat):Int):Int)<s.2)),(by kernel_rfl),XLG (by omega)⟩
   ·
    obtain⟨o,e,ho⟩:=hI
    subst e
    refine CD.seq (CD.seq (CD.region ?_))
    refine OD.rE 1 [(3,.bool true),(6,.loc 1 0),(8,.loc 2 0),(12,.sl 3 A.length (A.flatMap X0M)),(13,.bool o),(14,.i64 0)] ?_
    refine OD.nil (CD.block ?_)
    refine CD.weak [3,6,8,12,13,14] 4 (E':=[(3,.bool true),(6,.loc 1 0),(8,.loc 2 0),(12,.sl 3 A.length (A.flatMap X0M)),(13,.bool o),(14,.i64 0)]) (by kernel_rfl) (by simp [hg0]) (by kernel_rfl) ?_
    refine CD.loop (fun m σ=>σ=⟨[(3,.bool true),(6,.loc 1 0),(8,.loc 2 0),(12,.sl 3 A.length (A.flatMap X0M)),(13,.bool o),(14,.i64 0)],[.box (cN k set no kids mn mx),.box [.i64 s.1,.i64 s.2,.i64 pa],.box [.i64 0,.i64 0,.i64 0],.dead]⟩∧m=0) (fun m σ hI=>?_) _ ⟨(by kernel_rfl),rfl⟩
    obtain⟨e,hm⟩:=hI
    subst e hm
    refine CD.seq (CD.seq (CD.region ?_))
    refine OD.rE 5 [(3,.bool true),(6,.loc 1 0),(8,.loc 2 0),(12,.sl 3 A.length (A.flatMap X0M)),(13,.bool o),(14,.i64 0),(67,.bool (decide ((0:Int)<((A.length:Nat):Int))))] ?_
    refine OD.ifP 67 rfl (fun h6=>?_) (fun h6=>?_)
    ·
     refine OD.rE 3 [(3,.bool true),(6,.loc 1 0),(8,.loc 2 0),(12,.sl 3 A.length (A.flatMap X0M)),(13,.bool o),(14,.i64 0),(70,.bool false)] ?_
     refine OD.nil ?_
     refine CD.condF rfl ?_
     refine CD.exit ?_
     refine CD.seq (CD.seq (CD.region ?_))
     refine OD.rE 3 [(3,.bool true),(6,.loc 1 0),(8,.loc 2 0),(12,.sl 3 A.length (A.flatMap X0M)),(13,.bool o),(110,.i64 (X08 .i64 (((A.length:Nat):Int) - 1)))] ?_
     refine OD.is 110 rfl (X3z (by omega) (by omega)) ?_
     refine OD.rE 1 [(3,.bool true),(6,.loc 1 0),(8,.loc 2 0),(12,.sl 3 A.length (A.flatMap X0M)),(13,.bool o),(15,.i64 (((A.length:Nat):Int) - 1))] ?_
     refine OD.nil (CD.block ?_)
     refine CD.weak [3,6,8,12,13,15] 4 (E':=[(3,.bool true),(6,.loc 1 0),(8,.loc 2 0),(12,.sl 3 A.length (A.flatMap X0M)),(13,.bool o),(15,.i64 (((A.length:Nat):Int) - 1))]) (by kernel_rfl) (by simp [hg0]) (by kernel_rfl) ?_
     refine CD.loop (fun m σ=>∃ (j:Nat),σ=⟨[(3,.bool true),(6,.loc 1 0),(8,.loc 2 0),(12,.sl 3 A.length (A.flatMap X0M)),(13,.bool o),(15,.i64 (((j:Nat):Int) - 1))],[.box (cN k set no kids mn mx),.box [.i64 s.1,.i64 s.2,.i64 pa],.box [.i64 0,.i64 0,.i64 0],.dead]⟩∧(j≤A.length)∧(A.reverse.find? (qB o s)=((A.take j).reverse).find? (qB o s))∧m=j+1) (fun m σ hI=>?_) _ ⟨A.length,(by kernel_rfl),Nat.le_refl _,by rw [List.take_length],rfl⟩
     obtain⟨j,e,hj,hr,hm⟩:=hI
     subst e hm
     refine CD.seq (CD.seq (CD.region ?_))
     refine OD.rE 3 [(3,.bool true),(6,.loc 1 0),(8,.loc 2 0),(12,.sl 3 A.length (A.flatMap X0M)),(13,.bool o),(15,.i64 (((j:Nat):Int) - 1)),(113,.bool (decide ((0:Int)≤(((j:Nat):Int) - 1))))] ?_
     refine OD.ifP 113 rfl (fun h7=>?_) (fun h7=>?_)
     ·
      refine OD.rE 2 [(3,.bool true),(6,.loc 1 0),(8,.loc 2 0),(12,.sl 3 A.length (A.flatMap X0M)),(13,.bool o),(15,.i64 (((j:Nat):Int) - 1)),(115,.bool true)] ?_
      refine OD.nil ?_
      refine CD.condT rfl ?_
      refine CD.skip (CD.seq (CD.block (CD.seq ?_)))
      refine CD.drawn (by kernel_rfl) ?_
      obtain⟨j0,rfl⟩:∃ j0,j=j0+1:=⟨j - 1,by omega⟩
      obtain⟨x,hx,hd⟩:=nth (l:=A) (i:=j0) (by omega)
      refine OD.is 15 rfl (congrArg (D.int .i64) (show(((j0+1:Nat):Int) - 1)=((j0:Nat):Int)by omega)) ?_
      refine OD.rE 2 [(3,.bool true),(6,.loc 1 0),(8,.loc 2 0),(12,.sl 3 A.length (A.flatMap X0M)),(13,.bool o),(15,.i64 j0),(119,.bool o)] ?_
      refine OD.ifB 119 rfl (fun h8=>?_) (fun h8=>?_)
      ·
       refine OD.rE 29 [(3,.bool true),(6,.loc 1 0),(8,.loc 2 0),(12,.sl 3 A.length (A.flatMap X0M)),(13,.bool o),(15,.i64 j0),(148,.bool true)] ?_
       refine OD.nil ⟨by kernel_rfl,?_⟩
       refine CD.condT rfl ?_
       refine CD.seq (CD.region ?_)
       refine OD.rE 2 [(8,.loc 2 0),(149,.sl 3 A.length (A.flatMap X0M)),(150,.i64 j0)] ?_
       refine OD.idxSE (i:=j0) (e:=3) rfl rfl (by kernel_rfl) (by omega) (by omega) ?_
       refine OD.rE 0 [(8,.loc 2 0),(151,.ep 3 A.length (A.flatMap X0M) (j0*3))] ?_
       refine OD.ldA rfl (by kernel_rfl) (by kernel_rfl) (X1M hx) rfl (by decide) ?_
       refine OD.rL 2 [(8,.loc 2 0),(9,.bool true)] [.box (cN k set no kids mn mx),.box [.i64 s.1,.i64 s.2,.i64 pa],.box [.i64 x.1,.i64 x.2.1,.i64 x.2.2],.dead] ?_
       refine OD.nil (CD.ret ?_)
       exact rP (.tup [.agg [.i64 x.1,.i64 x.2.1,.i64 x.2.2],.bool true]) (by rw [X2s hA ho hr hx (by first | exact XIp (by assumption) | exact X85 (by omega))];rfl:X5X (X0n ls (.mk k set no kids mn mx) s true)=.tup [.agg [.i64 x.1,.i64 x.2.1,.i64 x.2.2],.bool true]).symm
      ·
       refine OD.rE 2 [(3,.bool true),(6,.loc 1 0),(8,.loc 2 0),(12,.sl 3 A.length (A.flatMap X0M)),(13,.bool o),(15,.i64 j0),(119,.bool false),(120,.sl 3 A.length (A.flatMap X0M)),(121,.i64 j0)] ?_
       refine OD.guard rfl rfl ?_
       refine OD.idxSE (i:=j0) (e:=3) rfl rfl (by kernel_rfl) (by omega) (by omega) ?_
       refine OD.rE 1 [(3,.bool true),(6,.loc 1 0),(8,.loc 2 0),(12,.sl 3 A.length (A.flatMap X0M)),(13,.bool o),(15,.i64 j0),(119,.bool false),(123,.ep 3 A.length (A.flatMap X0M) (j0*3+0))] ?_
       refine OD.guard rfl rfl ?_
       refine OD.ldL rfl (by kernel_rfl) (XCR hx) ?_
       refine OD.rE 5 [(3,.bool true),(6,.loc 1 0),(8,.loc 2 0),(12,.sl 3 A.length (A.flatMap X0M)),(13,.bool o),(15,.i64 j0),(129,.bool (decide ((x.1:Int)<s.1)))] ?_
       refine OD.ifP 129 rfl (fun h9=>?_) (fun h9=>?_)
       ·
        refine OD.rE 19 [(3,.bool true),(6,.loc 1 0),(8,.loc 2 0),(12,.sl 3 A.length (A.flatMap X0M)),(13,.bool o),(15,.i64 j0),(148,.bool true)] ?_
        refine OD.nil ⟨by kernel_rfl,?_⟩
        refine CD.condT rfl ?_
        refine CD.seq (CD.region ?_)
        refine OD.rE 2 [(8,.loc 2 0),(149,.sl 3 A.length (A.flatMap X0M)),(150,.i64 j0)] ?_
        refine OD.idxSE (i:=j0) (e:=3) rfl rfl (by kernel_rfl) (by omega) (by omega) ?_
        refine OD.rE 0 [(8,.loc 2 0),(151,.ep 3 A.length (A.flatMap X0M) (j0*3))] ?_
        refine OD.ldA rfl (by kernel_rfl) (by kernel_rfl) (X1M hx) rfl (by decide) ?_
        refine OD.rL 2 [(8,.loc 2 0),(9,.bool true)] [.box (cN k set no kids mn mx),.box [.i64 s.1,.i64 s.2,.i64 pa],.box [.i64 x.1,.i64 x.2.1,.i64 x.2.2],.dead] ?_
        refine OD.nil (CD.ret ?_)
        exact rP (.tup [.agg [.i64 x.1,.i64 x.2.1,.i64 x.2.2],.bool true]) (by rw [X2s hA ho hr hx (by first | exact XIp (by assumption) | exact X85 (by omega))];rfl:X5X (X0n ls (.mk k set no kids mn mx) s true)=.tup [.agg [.i64 x.1,.i64 x.2.1,.i64 x.2.2],.bool true]).symm
       ·
        refine OD.rE 2 [(3,.bool true),(6,.loc 1 0),(8,.loc 2 0),(12,.sl 3 A.length (A.flatMap X0M)),(13,.bool o),(15,.i64 j0),(129,.bool false),(130,.sl 3 A.length (A.flatMap X0M)),(131,.i64 j0)] ?_
        refine OD.guard rfl rfl ?_
        refine OD.idxSE (i:=j0) (e:=3) rfl rfl (by kernel_rfl) (by omega) (by omega) ?_
        refine OD.rE 1 [(3,.bool true),(6,.loc 1 0),(8,.loc 2 0),(12,.sl 3 A.length (A.flatMap X0M)),(13,.bool o),(15,.i64 j0),(129,.bool false),(133,.ep 3 A.length (A.flatMap X0M) (j0*3+0))] ?_
        refine OD.guard rfl rfl ?_
        refine OD.ldL rfl (by kernel_rfl) (XCR hx) ?_
        refine OD.rE 4 [(3,.bool true),(6,.loc 1 0),(8,.loc 2 0),(12,.sl 3 A.length (A.flatMap X0M)),(13,.bool o),(15,.i64 j0),(129,.bool false),(138,.bool (decide ((x.1:Int)=s.1)))] ?_
        refine OD.ifP 138 rfl (fun h10=>?_) (fun h10=>?_)
        ·
         refine OD.rE 2 [(3,.bool true),(6,.loc 1 0),(8,.loc 2 0),(12,.sl 3 A.length (A.flatMap X0M)),(13,.bool o),(15,.i64 j0),(129,.bool false),(138,.bool true),(139,.sl 3 A.length (A.flatMap X0M)),(140,.i64 j0)] ?_
         refine OD.guard rfl rfl ?_
         refine OD.idxSE (i:=j0) (e:=3) rfl rfl (by kernel_rfl) (by omega) (by omega) ?_
         refine OD.rE 1 [(3,.bool true),(6,.loc 1 0),(8,.loc 2 0),(12,.sl 3 A.length (A.flatMap X0M)),(13,.bool o),(15,.i64 j0),(129,.bool false),(138,.bool true),(142,.ep 3 A.length (A.flatMap X0M) (j0*3+1))] ?_
         refine OD.guard rfl rfl ?_
         refine OD.ldL rfl (by kernel_rfl) (XIq hx) ?_
         refine OD.rE 5 [(3,.bool true),(6,.loc 1 0),(8,.loc 2 0),(12,.sl 3 A.length (A.flatMap X0M)),(13,.bool o),(15,.i64 j0),(148,.bool (decide ((x.2.1:Int)<s.2)))] ?_
         refine OD.nil ⟨by kernel_rfl,?_⟩
         refine CD.condP rfl (fun h11=>?_) (fun h11=>?_)
         ·
          refine CD.seq (CD.region ?_)
          refine OD.rE 2 [(8,.loc 2 0),(149,.sl 3 A.length (A.flatMap X0M)),(150,.i64 j0)] ?_
          refine OD.idxSE (i:=j0) (e:=3) rfl rfl (by kernel_rfl) (by omega) (by omega) ?_
          refine OD.rE 0 [(8,.loc 2 0),(151,.ep 3 A.length (A.flatMap X0M) (j0*3))] ?_
          refine OD.ldA rfl (by kernel_rfl) (by kernel_rfl) (X1M hx) rfl (by decide) ?_
          refine OD.rL 2 [(8,.loc 2 0),(9,.bool true)] [.box (cN k set no kids mn mx),.box [.i64 s.1,.i64 s.2,.i64 pa],.box [.i64 x.1,.i64 x.2.1,.i64 x.2.2],.dead] ?_
          refine OD.nil (CD.ret ?_)
          exact rP (.tup [.agg [.i64 x.1,.i64 x.2.1,.i64 x.2.2],.bool true]) (by rw [X2s hA ho hr hx (by first | exact XIp (by assumption) | exact X85 (by omega))];rfl:X5X (X0n ls (.mk k set no kids mn mx) s true)=.tup [.agg [.i64 x.1,.i64 x.2.1,.i64 x.2.2],.bool true]).symm
         ·
          refine CD.skip (CD.region ?_)
          refine OD.rE 2 [(3,.bool true),(6,.loc 1 0),(8,.loc 2 0),(12,.sl 3 A.length (A.flatMap X0M)),(13,.bool o),(117,.i64 (X08 .i64 (((j0:Nat):Int) - 1)))] ?_
          refine OD.is 117 rfl (X3z (by omega) (by omega)) ?_
          refine OD.rE 1 [(3,.bool true),(6,.loc 1 0),(8,.loc 2 0),(12,.sl 3 A.length (A.flatMap X0M)),(13,.bool o),(15,.i64 (((j0:Nat):Int) - 1))] ?_
          refine OD.nil ?_
          exact⟨_,by omega,j0,(by kernel_rfl),by omega,by rw [hr,XBG hx (XCN (by assumption) (by omega))],rfl⟩
        ·
         refine OD.rE 10 [(3,.bool true),(6,.loc 1 0),(8,.loc 2 0),(12,.sl 3 A.length (A.flatMap X0M)),(13,.bool o),(15,.i64 j0),(148,.bool false)] ?_
         refine OD.nil ⟨by kernel_rfl,?_⟩
         refine CD.condF rfl ?_
         refine CD.skip (CD.region ?_)
         refine OD.rE 2 [(3,.bool true),(6,.loc 1 0),(8,.loc 2 0),(12,.sl 3 A.length (A.flatMap X0M)),(13,.bool o),(117,.i64 (X08 .i64 (((j0:Nat):Int) - 1)))] ?_
         refine OD.is 117 rfl (X3z (by omega) (by omega)) ?_
         refine OD.rE 1 [(3,.bool true),(6,.loc 1 0),(8,.loc 2 0),(12,.sl 3 A.length (A.flatMap X0M)),(13,.bool o),(15,.i64 (((j0:Nat):Int) - 1))] ?_
         refine OD.nil ?_
         exact⟨_,by omega,j0,(by kernel_rfl),by omega,by rw [hr,XBG hx (XCN (by assumption) (by omega))],rfl⟩
     ·
      refine OD.rE 2 [(3,.bool true),(6,.loc 1 0),(8,.loc 2 0),(12,.sl 3 A.length (A.flatMap X0M)),(13,.bool o),(15,.i64 (((j:Nat):Int) - 1)),(115,.bool false)] ?_
      refine OD.nil ?_
      refine CD.condF rfl ?_
      refine CD.exit ?_
      refine CD.seq (CD.seq (CD.region ?_))
      refine OD.rE 1 [(8,.loc 2 0),(12,.sl 3 A.length (A.flatMap X0M)),(153,.bool true)] ?_
      refine OD.nil ?_
      refine CD.condT rfl ?_
      refine CD.seq (CD.region ?_)
      obtain⟨y,hy⟩:∃ y,A[(((A.length:Nat):Int) - 1).toNat]?=some y:=⟨_,List.getElem?_eq_getElem (by omega)⟩
      refine OD.rE 4 [(8,.loc 2 0),(154,.sl 3 A.length (A.flatMap X0M)),(157,.i64 (X08 .i64 (((A.length:Nat):Int) - 1)))] ?_
      refine OD.is 157 rfl (X3z (by omega) (by omega)) ?_
      refine OD.rE 0 [(8,.loc 2 0),(154,.sl 3 A.length (A.flatMap X0M)),(157,.i64 (((A.length:Nat):Int) - 1))] ?_
      refine OD.idxSE (i:=(((A.length:Nat):Int) - 1).toNat) (e:=3) rfl rfl (by kernel_rfl) (by omega) (by omega) ?_
      refine OD.rE 0 [(8,.loc 2 0),(158,.ep 3 A.length (A.flatMap X0M) (((((A.length:Nat):Int) - 1).toNat)*3))] ?_
      refine OD.ldA rfl (by kernel_rfl) (by kernel_rfl) (X1M hy) rfl (by decide) ?_
      refine OD.rL 2 [(8,.loc 2 0),(9,.bool true)] [.box (cN k set no kids mn mx),.box [.i64 s.1,.i64 s.2,.i64 pa],.box [.i64 y.1,.i64 y.2.1,.i64 y.2.2],.dead] ?_
      refine OD.nil (CD.ret ?_)
      exact rP (.tup [.agg [.i64 y.1,.i64 y.2.1,.i64 y.2.2],.bool true]) (by rw [X8z hA ho hr (by omega) (by omega) hy];rfl:X5X (X0n ls (.mk k set no kids mn mx) s true)=.tup [.agg [.i64 y.1,.i64 y.2.1,.i64 y.2.2],.bool true]).symm
    ·
     refine OD.rE 3 [(3,.bool true),(6,.loc 1 0),(8,.loc 2 0),(12,.sl 3 A.length (A.flatMap X0M)),(13,.bool o),(14,.i64 0),(70,.bool false)] ?_
     refine OD.nil ?_
     refine CD.condF rfl ?_
     refine CD.exit ?_
     refine CD.seq (CD.seq (CD.region ?_))
     refine OD.rE 3 [(3,.bool true),(6,.loc 1 0),(8,.loc 2 0),(12,.sl 3 A.length (A.flatMap X0M)),(13,.bool o),(110,.i64 (X08 .i64 (((A.length:Nat):Int) - 1)))] ?_
     refine OD.is 110 rfl (X3z (by omega) (by omega)) ?_
     refine OD.rE 1 [(3,.bool true),(6,.loc 1 0),(8,.loc 2 0),(12,.sl 3 A.length (A.flatMap X0M)),(13,.bool o),(15,.i64 (((A.length:Nat):Int) - 1))] ?_
     refine OD.nil (CD.block ?_)
     refine CD.weak [3,6,8,12,13,15] 4 (E':=[(3,.bool true),(6,.loc 1 0),(8,.loc 2 0),(12,.sl 3 A.length (A.flatMap X0M)),(13,.bool o),(15,.i64 (((A.length:Nat):Int) - 1))]) (by kernel_rfl) (by simp [hg0]) (by kernel_rfl) ?_
     refine CD.loop (fun m σ=>∃ (j:Nat),σ=⟨[(3,.bool true),(6,.loc 1 0),(8,.loc 2 0),(12,.sl 3 A.length (A.flatMap X0M)),(13,.bool o),(15,.i64 (((j:Nat):Int) - 1))],[.box (cN k set no kids mn mx),.box [.i64 s.1,.i64 s.2,.i64 pa],.box [.i64 0,.i64 0,.i64 0],.dead]⟩∧(j≤A.length)∧(A.reverse.find? (qB o s)=((A.take j).reverse).find? (qB o s))∧m=j+1) (fun m σ hI=>?_) _ ⟨A.length,(by kernel_rfl),Nat.le_refl _,by rw [List.take_length],rfl⟩
     obtain⟨j,e,hj,hr,hm⟩:=hI
     subst e hm
     refine CD.seq (CD.seq (CD.region ?_))
     refine OD.rE 3 [(3,.bool true),(6,.loc 1 0),(8,.loc 2 0),(12,.sl 3 A.length (A.flatMap X0M)),(13,.bool o),(15,.i64 (((j:Nat):Int) - 1)),(113,.bool (decide ((0:Int)≤(((j:Nat):Int) - 1))))] ?_
     refine OD.ifP 113 rfl (fun h12=>?_) (fun h12=>?_)
     ·
      refine OD.rE 2 [(3,.bool true),(6,.loc 1 0),(8,.loc 2 0),(12,.sl 3 A.length (A.flatMap X0M)),(13,.bool o),(15,.i64 (((j:Nat):Int) - 1)),(115,.bool true)] ?_
      refine OD.nil ?_
      refine CD.condT rfl ?_
      refine CD.skip (CD.seq (CD.block (CD.seq ?_)))
      refine CD.drawn (by kernel_rfl) ?_
      obtain⟨j0,rfl⟩:∃ j0,j=j0+1:=⟨j - 1,by omega⟩
      obtain⟨x,hx,hd⟩:=nth (l:=A) (i:=j0) (by omega)
      refine OD.is 15 rfl (congrArg (D.int .i64) (show(((j0+1:Nat):Int) - 1)=((j0:Nat):Int)by omega)) ?_
      refine OD.rE 2 [(3,.bool true),(6,.loc 1 0),(8,.loc 2 0),(12,.sl 3 A.length (A.flatMap X0M)),(13,.bool o),(15,.i64 j0),(119,.bool o)] ?_
      refine OD.ifB 119 rfl (fun h13=>?_) (fun h13=>?_)
      ·
       refine OD.rE 29 [(3,.bool true),(6,.loc 1 0),(8,.loc 2 0),(12,.sl 3 A.length (A.flatMap X0M)),(13,.bool o),(15,.i64 j0),(148,.bool true)] ?_
       refine OD.nil ⟨by kernel_rfl,?_⟩
       refine CD.condT rfl ?_
       refine CD.seq (CD.region ?_)
       refine OD.rE 2 [(8,.loc 2 0),(149,.sl 3 A.length (A.flatMap X0M)),(150,.i64 j0)] ?_
       refine OD.idxSE (i:=j0) (e:=3) rfl rfl (by kernel_rfl) (by omega) (by omega) ?_
       refine OD.rE 0 [(8,.loc 2 0),(151,.ep 3 A.length (A.flatMap X0M) (j0*3))] ?_
       refine OD.ldA rfl (by kernel_rfl) (by kernel_rfl) (X1M hx) rfl (by decide) ?_
       refine OD.rL 2 [(8,.loc 2 0),(9,.bool true)] [.box (cN k set no kids mn mx),.box [.i64 s.1,.i64 s.2,.i64 pa],.box [.i64 x.1,.i64 x.2.1,.i64 x.2.2],.dead] ?_
       refine OD.nil (CD.ret ?_)
       exact rP (.tup [.agg [.i64 x.1,.i64 x.2.1,.i64 x.2.2],.bool true]) (by rw [X2s hA ho hr hx (by first | exact XIp (by assumption) | exact X85 (by omega))];rfl:X5X (X0n ls (.mk k set no kids mn mx) s true)=.tup [.agg [.i64 x.1,.i64 x.2.1,.i64 x.2.2],.bool true]).symm
      ·
       refine OD.rE 2 [(3,.bool true),(6,.loc 1 0),(8,.loc 2 0),(12,.sl 3 A.length (A.flatMap X0M)),(13,.bool o),(15,.i64 j0),(119,.bool false),(120,.sl 3 A.length (A.flatMap X0M)),(121,.i64 j0)] ?_
       refine OD.guard rfl rfl ?_
       refine OD.idxSE (i:=j0) (e:=3) rfl rfl (by kernel_rfl) (by omega) (by omega) ?_
       refine OD.rE 1 [(3,.bool true),(6,.loc 1 0),(8,.loc 2 0),(12,.sl 3 A.length (A.flatMap X0M)),(13,.bool o),(15,.i64 j0),(119,.bool false),(123,.ep 3 A.length (A.flatMap X0M) (j0*3+0))] ?_
       refine OD.guard rfl rfl ?_
       refine OD.ldL rfl (by kernel_rfl) (XCR hx) ?_
       refine OD.rE 5 [(3,.bool true),(6,.loc 1 0),(8,.loc 2 0),(12,.sl 3 A.length (A.flatMap X0M)),(13,.bool o),(15,.i64 j0),(129,.bool (decide ((x.1:Int)<s.1)))] ?_
       refine OD.ifP 129 rfl (fun h14=>?_) (fun h14=>?_)
       ·
        refine OD.rE 19 [(3,.bool true),(6,.loc 1 0),(8,.loc 2 0),(12,.sl 3 A.length (A.flatMap X0M)),(13,.bool o),(15,.i64 j0),(148,.bool true)] ?_
        refine OD.nil ⟨by kernel_rfl,?_⟩
        refine CD.condT rfl ?_
        refine CD.seq (CD.region ?_)
        refine OD.rE 2 [(8,.loc 2 0),(149,.sl 3 A.length (A.flatMap X0M)),(150,.i64 j0)] ?_
        refine OD.idxSE (i:=j0) (e:=3) rfl rfl (by kernel_rfl) (by omega) (by omega) ?_
        refine OD.rE 0 [(8,.loc 2 0),(151,.ep 3 A.length (A.flatMap X0M) (j0*3))] ?_
        refine OD.ldA rfl (by kernel_rfl) (by kernel_rfl) (X1M hx) rfl (by decide) ?_
        refine OD.rL 2 [(8,.loc 2 0),(9,.bool true)] [.box (cN k set no kids mn mx),.box [.i64 s.1,.i64 s.2,.i64 pa],.box [.i64 x.1,.i64 x.2.1,.i64 x.2.2],.dead] ?_
        refine OD.nil (CD.ret ?_)
        exact rP (.tup [.agg [.i64 x.1,.i64 x.2.1,.i64 x.2.2],.bool true]) (by rw [X2s hA ho hr hx (by first | exact XIp (by assumption) | exact X85 (by omega))];rfl:X5X (X0n ls (.mk k set no kids mn mx) s true)=.tup [.agg [.i64 x.1,.i64 x.2.1,.i64 x.2.2],.bool true]).symm
       ·
        refine OD.rE 2 [(3,.bool true),(6,.loc 1 0),(8,.loc 2 0),(12,.sl 3 A.length (A.flatMap X0M)),(13,.bool o),(15,.i64 j0),(129,.bool false),(130,.sl 3 A.length (A.flatMap X0M)),(131,.i64 j0)] ?_
        refine OD.guard rfl rfl ?_
        refine OD.idxSE (i:=j0) (e:=3) rfl rfl (by kernel_rfl) (by omega) (by omega) ?_
        refine OD.rE 1 [(3,.bool true),(6,.loc 1 0),(8,.loc 2 0),(12,.sl 3 A.length (A.flatMap X0M)),(13,.bool o),(15,.i64 j0),(129,.bool false),(133,.ep 3 A.length (A.flatMap X0M) (j0*3+0))] ?_
        refine OD.guard rfl rfl ?_
        refine OD.ldL rfl (by kernel_rfl) (XCR hx) ?_
        refine OD.rE 4 [(3,.bool true),(6,.loc 1 0),(8,.loc 2 0),(12,.sl 3 A.length (A.flatMap X0M)),(13,.bool o),(15,.i64 j0),(129,.bool false),(138,.bool (decide ((x.1:Int)=s.1)))] ?_
        refine OD.ifP 138 rfl (fun h15=>?_) (fun h15=>?_)
        ·
         refine OD.rE 2 [(3,.bool true),(6,.loc 1 0),(8,.loc 2 0),(12,.sl 3 A.length (A.flatMap X0M)),(13,.bool o),(15,.i64 j0),(129,.bool false),(138,.bool true),(139,.sl 3 A.length (A.flatMap X0M)),(140,.i64 j0)] ?_
         refine OD.guard rfl rfl ?_
         refine OD.idxSE (i:=j0) (e:=3) rfl rfl (by kernel_rfl) (by omega) (by omega) ?_
         refine OD.rE 1 [(3,.bool true),(6,.loc 1 0),(8,.loc 2 0),(12,.sl 3 A.length (A.flatMap X0M)),(13,.bool o),(15,.i64 j0),(129,.bool false),(138,.bool true),(142,.ep 3 A.length (A.flatMap X0M) (j0*3+1))] ?_
         refine OD.guard rfl rfl ?_
         refine OD.ldL rfl (by kernel_rfl) (XIq hx) ?_
         refine OD.rE 5 [(3,.bool true),(6,.loc 1 0),(8,.loc 2 0),(12,.sl 3 A.length (A.flatMap X0M)),(13,.bool o),(15,.i64 j0),(148,.bool (decide ((x.2.1:Int)<s.2)))] ?_
         refine OD.nil ⟨by kernel_rfl,?_⟩
         refine CD.condP rfl (fun h16=>?_) (fun h16=>?_)
         ·
          refine CD.seq (CD.region ?_)
          refine OD.rE 2 [(8,.loc 2 0),(149,.sl 3 A.length (A.flatMap X0M)),(150,.i64 j0)] ?_
          refine OD.idxSE (i:=j0) (e:=3) rfl rfl (by kernel_rfl) (by omega) (by omega) ?_
          refine OD.rE 0 [(8,.loc 2 0),(151,.ep 3 A.length (A.flatMap X0M) (j0*3))] ?_
          refine OD.ldA rfl (by kernel_rfl) (by kernel_rfl) (X1M hx) rfl (by decide) ?_
          refine OD.rL 2 [(8,.loc 2 0),(9,.bool true)] [.box (cN k set no kids mn mx),.box [.i64 s.1,.i64 s.2,.i64 pa],.box [.i64 x.1,.i64 x.2.1,.i64 x.2.2],.dead] ?_
          refine OD.nil (CD.ret ?_)
          exact rP (.tup [.agg [.i64 x.1,.i64 x.2.1,.i64 x.2.2],.bool true]) (by rw [X2s hA ho hr hx (by first | exact XIp (by assumption) | exact X85 (by omega))];rfl:X5X (X0n ls (.mk k set no kids mn mx) s true)=.tup [.agg [.i64 x.1,.i64 x.2.1,.i64 x.2.2],.bool true]).symm
         ·
          refine CD.skip (CD.region ?_)
          refine OD.rE 2 [(3,.bool true),(6,.loc 1 0),(8,.loc 2 0),(12,.sl 3 A.length (A.flatMap X0M)),(13,.bool o),(117,.i64 (X08 .i64 (((j0:Nat):Int) - 1)))] ?_
          refine OD.is 117 rfl (X3z (by omega) (by omega)) ?_
          refine OD.rE 1 [(3,.bool true),(6,.loc 1 0),(8,.loc 2 0),(12,.sl 3 A.length (A.flatMap X0M)),(13,.bool o),(15,.i64 (((j0:Nat):Int) - 1))] ?_
          refine OD.nil ?_
          exact⟨_,by omega,j0,(by kernel_rfl),by omega,by rw [hr,XBG hx (XCN (by assumption) (by omega))],rfl⟩
        ·
         refine OD.rE 10 [(3,.bool true),(6,.loc 1 0),(8,.loc 2 0),(12,.sl 3 A.length (A.flatMap X0M)),(13,.bool o),(15,.i64 j0),(148,.bool false)] ?_
         refine OD.nil ⟨by kernel_rfl,?_⟩
         refine CD.condF rfl ?_
         refine CD.skip (CD.region ?_)
         refine OD.rE 2 [(3,.bool true),(6,.loc 1 0),(8,.loc 2 0),(12,.sl 3 A.length (A.flatMap X0M)),(13,.bool o),(117,.i64 (X08 .i64 (((j0:Nat):Int) - 1)))] ?_
         refine OD.is 117 rfl (X3z (by omega) (by omega)) ?_
         refine OD.rE 1 [(3,.bool true),(6,.loc 1 0),(8,.loc 2 0),(12,.sl 3 A.length (A.flatMap X0M)),(13,.bool o),(15,.i64 (((j0:Nat):Int) - 1))] ?_
         refine OD.nil ?_
         exact⟨_,by omega,j0,(by kernel_rfl),by omega,by rw [hr,XBG hx (XCN (by assumption) (by omega))],rfl⟩
     ·
      refine OD.rE 2 [(3,.bool true),(6,.loc 1 0),(8,.loc 2 0),(12,.sl 3 A.length (A.flatMap X0M)),(13,.bool o),(15,.i64 (((j:Nat):Int) - 1)),(115,.bool false)] ?_
      refine OD.nil ?_
      refine CD.condF rfl ?_
      refine CD.exit ?_
      refine CD.seq (CD.seq (CD.region ?_))
      refine OD.rE 1 [(8,.loc 2 0),(12,.sl 3 A.length (A.flatMap X0M)),(153,.bool true)] ?_
      refine OD.nil ?_
      refine CD.condT rfl ?_
      refine CD.seq (CD.region ?_)
      obtain⟨y,hy⟩:∃ y,A[(((A.length:Nat):Int) - 1).toNat]?=some y:=⟨_,List.getElem?_eq_getElem (by omega)⟩
      refine OD.rE 4 [(8,.loc 2 0),(154,.sl 3 A.length (A.flatMap X0M)),(157,.i64 (X08 .i64 (((A.length:Nat):Int) - 1)))] ?_
      refine OD.is 157 rfl (X3z (by omega) (by omega)) ?_
      refine OD.rE 0 [(8,.loc 2 0),(154,.sl 3 A.length (A.flatMap X0M)),(157,.i64 (((A.length:Nat):Int) - 1))] ?_
      refine OD.idxSE (i:=(((A.length:Nat):Int) - 1).toNat) (e:=3) rfl rfl (by kernel_rfl) (by omega) (by omega) ?_
      refine OD.rE 0 [(8,.loc 2 0),(158,.ep 3 A.length (A.flatMap X0M) (((((A.length:Nat):Int) - 1).toNat)*3))] ?_
      refine OD.ldA rfl (by kernel_rfl) (by kernel_rfl) (X1M hy) rfl (by decide) ?_
      refine OD.rL 2 [(8,.loc 2 0),(9,.bool true)] [.box (cN k set no kids mn mx),.box [.i64 s.1,.i64 s.2,.i64 pa],.box [.i64 y.1,.i64 y.2.1,.i64 y.2.2],.dead] ?_
      refine OD.nil (CD.ret ?_)
      exact rP (.tup [.agg [.i64 y.1,.i64 y.2.1,.i64 y.2.2],.bool true]) (by rw [X8z hA ho hr (by omega) (by omega) hy];rfl:X5X (X0n ls (.mk k set no kids mn mx) s true)=.tup [.agg [.i64 y.1,.i64 y.2.1,.i64 y.2.2],.bool true]).symm
end
end Go.Proofs.YtfcadnhoejlgoaaGreatDoor
set_option maxRecDepth 100000
set_option maxHeartbeats 4000000
namespace Go.Proofs.YtfcadnhoejlgoaaGreatDoor
open Go.Vai Go.Nfa
noncomputable section
theorem X92 (re:ByteArray) (ls0:List (List Cel)) (s:Int×Int) (pa:Int):X1G P ov 6 [.str re,.sl 1 ls0.length (ls0.map X38),.agg [.i64 s.1,.i64 s.2,.i64 pa]] (.bool true):=by
 refine FnD.intro (by kernel_rfl) (fn:=Tryz.f6) (by kernel_rfl) rfl (by kernel_rfl) fun M a0 g0 hg0=>?_
 refine CD.seq (CD.region ?_)
 refine OD.rL 2 [(0,.str re),(1,.vR ls0),(5,.loc 0 0)] [.box [.i64 s.1,.i64 s.2,.i64 pa]] ?_
 refine OD.nil (CD.seq (CD.region ?_))
 refine OD.cE (FnD.known rfl (fun _=>rfl)) ?_
 refine OD.rE 1 [(0,.str re),(1,.vR ls0),(5,.loc 0 0),(7,.bool true)] ?_
 refine OD.nil (CD.seq (CD.seq (CD.region ?_)))
 refine OD.rE 2 [(0,.str re),(1,.vR ls0),(5,.loc 0 0),(21,.bool false)] ?_
 refine OD.nil ?_
 refine CD.condF rfl ?_
 refine CD.skip (CD.seq (CD.region ?_))
 refine OD.rE 1 [(1,.vR ls0),(5,.loc 0 0),(23,.str re)] ?_
 refine OD.cO [] [.str re] (XIo re) (fun r L1 hr=>?_)
 rcases hr with⟨⟨k,set,no,kids,mn,mx⟩,hno,rfl,rfl⟩ | ⟨⟨k,set,no,kids,mn,mx⟩,n1,hN,hn1,hwp,hdp,rfl,rfl⟩
 ·
  refine OD.rL 8 [(1,.vR ls0),(5,.loc 0 0),(8,.loc 1 0),(9,.lit (.pointer none)),(10,.bool false)] [.box [.i64 s.1,.i64 s.2,.i64 pa],.box (cN k set no kids mn mx)] ?_
  refine OD.nil (CD.seq (CD.seq (CD.region ?_)))
  refine OD.rE 2 [(1,.vR ls0),(5,.loc 0 0),(8,.loc 1 0),(9,.lit (.pointer none)),(29,.bool true)] ?_
  refine OD.nil ?_
  refine CD.condT rfl ?_
  refine CD.seq (CD.region ?_)
  refine OD.rE 1 [(6,.bool true)] ?_
  refine OD.nil (CD.ret ?_)
  exact rP (.bool true) (rfl)
 ·
  obtain⟨hf,hal,hz60⟩:=X7Z hN
  have hml:=X6J hal hwp
  have hsb:n1≤1000000:=by omega
  refine OD.rL 8 [(1,.vR ls0),(5,.loc 0 0),(8,.loc 5 0),(9,.loc 4 0),(10,.bool true)] [.box [.i64 s.1,.i64 s.2,.i64 pa],.box (cN k set no kids mn mx),.box (cN k set no kids mn mx),.box (cN k set no kids mn mx),.pN (.mk k set no kids mn mx) n1,.box (cN k set no kids mn mx)] ?_
  refine OD.nil (CD.seq (CD.seq (CD.region ?_)))
  refine OD.rE 2 [(1,.vR ls0),(5,.loc 0 0),(8,.loc 5 0),(9,.loc 4 0),(29,.bool false)] ?_
  refine OD.nil ?_
  refine CD.condF rfl ?_
  refine CD.skip (CD.seq (CD.region ?_))
  refine OD.rE 1 [(5,.loc 0 0),(8,.loc 5 0),(9,.loc 4 0),(30,.vR ls0)] ?_
  refine OD.cP (fun r=>∃ out:List (List Cel),r=.vR out∧out.length≤10∧∀ x∈out,x.length≤40) (XGI ls0) (fun r hr=>?_)
  obtain⟨ls,rfl,hc10,hall⟩:=hr
  refine OD.rE 1 [(1,.vR ls),(5,.loc 0 0),(8,.loc 5 0),(9,.loc 4 0)] ?_
  refine OD.nil (CD.seq (CD.region ?_))
  refine OD.rE 3 [(1,.vR ls),(5,.loc 0 0),(8,.loc 5 0),(9,.loc 4 0),(33,.vR ls),(34,.loc 4 0),(35,.agg [.i64 s.1,.i64 s.2,.i64 pa])] ?_
  refine OD.cO [4] [.vR ls,.loc 4 0,.agg [.i64 s.1,.i64 s.2,.i64 pa]] (XLH k set no kids mn mx n1 ls s pa hf hal hn1 hsb hc10 hall) (fun r L1 hr=>?_)
  obtain⟨hr,rfl⟩:=hr
  obtain rfl:r=.tup [.agg [.i64 (oH1 (X0n ls (.mk k set no kids mn mx) s false)),.i64 (oH2 (X0n ls (.mk k set no kids mn mx) s false)),.i64 (oH3 (X0n ls (.mk k set no kids mn mx) s false))],.bool (X0n ls (.mk k set no kids mn mx) s false).isSome]:=hr.trans (by rw [XLA];exact XBI _)
  refine OD.rL 6 [(1,.vR ls),(5,.loc 0 0),(8,.loc 5 0),(9,.loc 4 0),(11,.loc 6 0),(12,.bool (X0n ls (.mk k set no kids mn mx) s false).isSome)] [.box [.i64 s.1,.i64 s.2,.i64 pa],.box (cN k set no kids mn mx),.box (cN k set no kids mn mx),.box (cN k set no kids mn mx),.pN (.mk k set no kids mn mx) n1,.box (cN k set no kids mn mx),.box [.i64 (oH1 (X0n ls (.mk k set no kids mn mx) s false)),.i64 (oH2 (X0n ls (.mk k set no kids mn mx) s false)),.i64 (oH3 (X0n ls (.mk k set no kids mn mx) s false))]] ?_
  refine OD.nil (CD.seq (CD.region ?_))
  refine OD.rE 3 [(1,.vR ls),(5,.loc 0 0),(8,.loc 5 0),(9,.loc 4 0),(11,.loc 6 0),(12,.bool (X0n ls (.mk k set no kids mn mx) s false).isSome),(40,.vR ls),(41,.agg (cN k set no kids mn mx)),(42,.agg [.i64 s.1,.i64 s.2,.i64 pa])] ?_
  refine OD.cE (XGJ k set no kids mn mx ls s pa hf hal hc10 hall) ?_
  refine OD.is 43 rfl (XBI _) ?_
  refine OD.rL 6 [(1,.vR ls),(5,.loc 0 0),(8,.loc 5 0),(9,.loc 4 0),(11,.loc 6 0),(12,.bool (X0n ls (.mk k set no kids mn mx) s false).isSome),(13,.loc 7 0),(14,.bool (X0n ls (.mk k set no kids mn mx) s false).isSome)] [.box [.i64 s.1,.i64 s.2,.i64 pa],.box (cN k set no kids mn mx),.box (cN k set no kids mn mx),.box (cN k set no kids mn mx),.pN (.mk k set no kids mn mx) n1,.box (cN k set no kids mn mx),.box [.i64 (oH1 (X0n ls (.mk k set no kids mn mx) s false)),.i64 (oH2 (X0n ls (.mk k set no kids mn mx) s false)),.i64 (oH3 (X0n ls (.mk k set no kids mn mx) s false))],.box [.i64 (oH1 (X0n ls (.mk k set no kids mn mx) s false)),.i64 (oH2 (X0n ls (.mk k set no kids mn mx) s false)),.i64 (oH3 (X0n ls (.mk k set no kids mn mx) s false))]] ?_
  refine OD.nil (CD.seq (CD.region ?_))
  refine OD.rE 3 [(1,.vR ls),(5,.loc 0 0),(8,.loc 5 0),(11,.loc 6 0),(12,.bool (X0n ls (.mk k set no kids mn mx) s false).isSome),(13,.loc 7 0),(14,.bool (X0n ls (.mk k set no kids mn mx) s false).isSome),(47,.vR ls),(48,.loc 4 0),(49,.agg [.i64 s.1,.i64 s.2,.i64 pa])] ?_
  refine OD.cO [4] [.vR ls,.loc 4 0,.agg [.i64 s.1,.i64 s.2,.i64 pa]] (XLI k set no kids mn mx n1 ls s pa hf hal hn1 hsb hc10 hall) (fun r L1 hr=>?_)
  obtain⟨hr,rfl⟩:=hr
  obtain rfl:r=.tup [.agg [.i64 (oH1 (X0n ls (.mk k set no kids mn mx) s true)),.i64 (oH2 (X0n ls (.mk k set no kids mn mx) s true)),.i64 (oH3 (X0n ls (.mk k set no kids mn mx) s true))],.bool (X0n ls (.mk k set no kids mn mx) s true).isSome]:=hr.trans (by rw [XLB];exact XBI _)
  refine OD.rL 6 [(1,.vR ls),(5,.loc 0 0),(8,.loc 5 0),(11,.loc 6 0),(12,.bool (X0n ls (.mk k set no kids mn mx) s false).isSome),(13,.loc 7 0),(14,.bool (X0n ls (.mk k set no kids mn mx) s false).isSome),(15,.loc 8 0),(16,.bool (X0n ls (.mk k set no kids mn mx) s true).isSome)] [.box [.i64 s.1,.i64 s.2,.i64 pa],.box (cN k set no kids mn mx),.box (cN k set no kids mn mx),.box (cN k set no kids mn mx),.pN (.mk k set no kids mn mx) n1,.box (cN k set no kids mn mx),.box [.i64 (oH1 (X0n ls (.mk k set no kids mn mx) s false)),.i64 (oH2 (X0n ls (.mk k set no kids mn mx) s false)),.i64 (oH3 (X0n ls (.mk k set no kids mn mx) s false))],.box [.i64 (oH1 (X0n ls (.mk k set no kids mn mx) s false)),.i64 (oH2 (X0n ls (.mk k set no kids mn mx) s false)),.i64 (oH3 (X0n ls (.mk k set no kids mn mx) s false))],.box [.i64 (oH1 (X0n ls (.mk k set no kids mn mx) s true)),.i64 (oH2 (X0n ls (.mk k set no kids mn mx) s true)),.i64 (oH3 (X0n ls (.mk k set no kids mn mx) s true))]] ?_
  refine OD.nil (CD.seq (CD.region ?_))
  refine OD.rE 3 [(11,.loc 6 0),(12,.bool (X0n ls (.mk k set no kids mn mx) s false).isSome),(13,.loc 7 0),(14,.bool (X0n ls (.mk k set no kids mn mx) s false).isSome),(15,.loc 8 0),(16,.bool (X0n ls (.mk k set no kids mn mx) s true).isSome),(54,.vR ls),(55,.agg (cN k set no kids mn mx)),(56,.agg [.i64 s.1,.i64 s.2,.i64 pa])] ?_
  refine OD.cE (XGK k set no kids mn mx ls s pa hf hal hc10 hall) ?_
  refine OD.is 57 rfl (XBI _) ?_
  refine OD.rL 6 [(11,.loc 6 0),(12,.bool (X0n ls (.mk k set no kids mn mx) s false).isSome),(13,.loc 7 0),(14,.bool (X0n ls (.mk k set no kids mn mx) s false).isSome),(15,.loc 8 0),(16,.bool (X0n ls (.mk k set no kids mn mx) s true).isSome),(17,.loc 9 0),(18,.bool (X0n ls (.mk k set no kids mn mx) s true).isSome)] [.box [.i64 s.1,.i64 s.2,.i64 pa],.box (cN k set no kids mn mx),.box (cN k set no kids mn mx),.box (cN k set no kids mn mx),.pN (.mk k set no kids mn mx) n1,.box (cN k set no kids mn mx),.box [.i64 (oH1 (X0n ls (.mk k set no kids mn mx) s false)),.i64 (oH2 (X0n ls (.mk k set no kids mn mx) s false)),.i64 (oH3 (X0n ls (.mk k set no kids mn mx) s false))],.box [.i64 (oH1 (X0n ls (.mk k set no kids mn mx) s false)),.i64 (oH2 (X0n ls (.mk k set no kids mn mx) s false)),.i64 (oH3 (X0n ls (.mk k set no kids mn mx) s false))],.box [.i64 (oH1 (X0n ls (.mk k set no kids mn mx) s true)),.i64 (oH2 (X0n ls (.mk k set no kids mn mx) s true)),.i64 (oH3 (X0n ls (.mk k set no kids mn mx) s true))],.box [.i64 (oH1 (X0n ls (.mk k set no kids mn mx) s true)),.i64 (oH2 (X0n ls (.mk k set no kids mn mx) s true)),.i64 (oH3 (X0n ls (.mk k set no kids mn mx) s true))]] ?_
  refine OD.nil (CD.seq (CD.region ?_))
  refine OD.rE 2 [(12,.bool (X0n ls (.mk k set no kids mn mx) s false).isSome),(14,.bool (X0n ls (.mk k set no kids mn mx) s false).isSome),(15,.loc 8 0),(16,.bool (X0n ls (.mk k set no kids mn mx) s true).isSome),(17,.loc 9 0),(18,.bool (X0n ls (.mk k set no kids mn mx) s true).isSome),(60,.agg [.i64 (oH1 (X0n ls (.mk k set no kids mn mx) s false)),.i64 (oH2 (X0n ls (.mk k set no kids mn mx) s false)),.i64 (oH3 (X0n ls (.mk k set no kids mn mx) s false))]),(61,.agg [.i64 (oH1 (X0n ls (.mk k set no kids mn mx) s false)),.i64 (oH2 (X0n ls (.mk k set no kids mn mx) s false)),.i64 (oH3 (X0n ls (.mk k set no kids mn mx) s false))])] ?_
  refine OD.eq3 rfl rfl (by kernel_rfl) ?_
  refine OD.is 62 rfl (congrArg D.bool (decide_eq_true ⟨rfl,rfl,rfl⟩)) ?_
  refine OD.rE 4 [(15,.loc 8 0),(16,.bool (X0n ls (.mk k set no kids mn mx) s true).isSome),(17,.loc 9 0),(18,.bool (X0n ls (.mk k set no kids mn mx) s true).isSome),(63,.bool true),(66,.bool (bif (X0n ls (.mk k set no kids mn mx) s false).isSome then(bif (X0n ls (.mk k set no kids mn mx) s false).isSome then true else false)else(bif (X0n ls (.mk k set no kids mn mx) s false).isSome then false else true)))] ?_
  refine OD.is 66 rfl (congrArg D.bool XEG) ?_
  refine OD.is 66 rfl (congrArg D.bool (decide_eq_true rfl)) ?_
  refine OD.rE 4 [(16,.bool (X0n ls (.mk k set no kids mn mx) s true).isSome),(18,.bool (X0n ls (.mk k set no kids mn mx) s true).isSome),(68,.bool true),(69,.agg [.i64 (oH1 (X0n ls (.mk k set no kids mn mx) s true)),.i64 (oH2 (X0n ls (.mk k set no kids mn mx) s true)),.i64 (oH3 (X0n ls (.mk k set no kids mn mx) s true))]),(70,.agg [.i64 (oH1 (X0n ls (.mk k set no kids mn mx) s true)),.i64 (oH2 (X0n ls (.mk k set no kids mn mx) s true)),.i64 (oH3 (X0n ls (.mk k set no kids mn mx) s true))])] ?_
  refine OD.guard rfl rfl ?_
  refine OD.eq3 rfl rfl (by kernel_rfl) ?_
  refine OD.is 71 rfl (congrArg D.bool (decide_eq_true ⟨rfl,rfl,rfl⟩)) ?_
  refine OD.rE 5 [(73,.bool true),(76,.bool (bif (X0n ls (.mk k set no kids mn mx) s true).isSome then(bif (X0n ls (.mk k set no kids mn mx) s true).isSome then true else false)else(bif (X0n ls (.mk k set no kids mn mx) s true).isSome then false else true)))] ?_
  refine OD.is 76 rfl (congrArg D.bool XEG) ?_
  refine OD.is 76 rfl (congrArg D.bool (decide_eq_true rfl)) ?_
  refine OD.rE 2 [(6,.bool true)] ?_
  refine OD.nil (CD.ret ?_)
  exact rP (.bool true) (rfl)
end
end Go.Proofs.YtfcadnhoejlgoaaGreatDoor
