/-
  What is proved here: what functions of the pattern's package come to (walks that a program of mine has printed). what functions of the pattern's package come to (walks that a program of mine has printed). No conditions but those that the theorems state.
-/
import Derived.Test.YtiebldaihnbkmaaGreatDoorNP
import Derived.Test.YtiebldaihnbkmaaGreatDoorNQ
import Derived.Test.YtiebldaihnbkmaaGreatDoorRI
set_option linter.unusedVariables false
set_option linter.unusedSimpArgs false
set_option maxRecDepth 100000
set_option maxHeartbeats 4000000
namespace Go.Proofs.YtiebldaihnbkmaaGreatDoor
open Go.Vai Go.Nfa
noncomputable section
theorem XEE (S:List Sta) (l:List Int) (at_ n nn:Nat) (first sz:Int) (seen:List Int) (now:List Nat) (hSn:S.length=n) (hnn:now.length=nn) (hnow:∀ s∈now,s<S.length) (hnb:nn≤1000000):FnD P ov 50 [.loc 0 0] [.box [.loc 1 0,.sl 1 l.length (l.map (D.int .i32)),.i64 at_,.row 2 0 n n,.row 3 0 nn nn],.box [.sl 9 n (S.flatMap X03),.i64 first,.i64 sz],.row 1 n (seen.map (D.int .i64)),.row 1 nn (now.map X0e)] (fun r L1=>r=.bool (now.any (X3d S))∧L1=tbl S l at_ n nn first sz seen now):=by
 refine FnD.intro (by kernel_rfl) (fn:=Tryz.f50) (by kernel_rfl) rfl (by kernel_rfl) fun M a0 g0 hg0=>?_
 refine CD.seq (CD.region ?_)
 refine OD.rE 1 [(0,.loc 0 0)] ?_
 refine OD.nil (CD.seq (CD.seq (CD.region ?_)))
 refine OD.rE 6 [(0,.loc 0 0),(8,.row 3 0 nn nn),(9,.i64 nn),(10,.i64 0)] ?_
 refine OD.nil (CD.block ?_)
 refine CD.weak [0,8,9,10] 4 (E':=[(0,.loc 0 0),(8,.row 3 0 nn nn),(9,.i64 nn),(10,.i64 0)]) (by kernel_rfl) (by simp [hg0]) (by kernel_rfl) ?_
 refine CD.loop (fun m σ=>∃ (i:Nat),σ=⟨[(0,.loc 0 0),(8,.row 3 0 nn nn),(9,.i64 nn),(10,.i64 i)],[.box [.loc 1 0,.vI l,.i64 at_,.row 2 0 n n,.row 3 0 nn nn],.box [.sl 9 n (S.flatMap X03),.i64 first,.i64 sz],.row 1 n (seen.map (D.int .i64)),.row 1 nn (now.map X0e)]⟩∧(i≤nn)∧(now.any (X3d S)=(now.drop i).any (X3d S))∧m=nn - i) (fun m σ hI=>?_) _ ⟨0,(by kernel_rfl),Nat.zero_le _,rfl,rfl⟩
 obtain⟨i,e,hi,hr,hm⟩:=hI
 subst e hm
 refine CD.seq (CD.region ?_)
 refine OD.rE 1 [(0,.loc 0 0),(8,.row 3 0 nn nn),(9,.i64 nn),(10,.i64 i),(11,.bool (decide ((((i:Nat):Int):Int)<((nn:Nat):Int))))] ?_
 refine OD.nil (CD.seq ?_)
 refine CD.condP rfl (fun h1=>?_) (fun h1=>?_)
 ·
  obtain⟨x,hx,hd⟩:=nth (l:=now) (i:=i) (by omega)
  have hxl:=hnow x (List.mem_of_getElem? hx)
  refine CD.skip (CD.seq (CD.block (CD.seq (CD.region ?_))))
  refine OD.idxV (i:=i) rfl rfl (by kernel_rfl) (by omega) (by omega) ?_
  refine OD.rE 0 [(0,.loc 0 0),(8,.row 3 0 nn nn),(9,.i64 nn),(10,.i64 i),(12,.loc 3 i)] ?_
  refine OD.ldV 0 (f:=X0e) (xs:=now) rfl rfl (by kernel_rfl) (by first | omega | (simp<;>omega)) ?_
  refine OD.rE 1 [(0,.loc 0 0),(4,.i64 (((now.getD i 0):Nat):Int)),(8,.row 3 0 nn nn),(9,.i64 nn),(10,.i64 i)] ?_
  refine OD.is 4 rfl (congrArg (fun z:Nat=>D.int .i64 (z:Int)) (X5j hx)) ?_
  refine OD.rE 0 [(0,.loc 0 0),(4,.i64 x),(8,.row 3 0 nn nn),(9,.i64 nn),(10,.i64 i)] ?_
  refine OD.nil (CD.seq (CD.region ?_))
  refine OD.rE 8 [(0,.loc 0 0),(8,.row 3 0 nn nn),(9,.i64 nn),(10,.i64 i),(20,.sl 9 n (S.flatMap X03)),(21,.i64 x)] ?_
  refine OD.idxSE (i:=x) (e:=9) rfl rfl (by kernel_rfl) (by omega) (by omega) ?_
  refine OD.rE 1 [(0,.loc 0 0),(8,.row 3 0 nn nn),(9,.i64 nn),(10,.i64 i),(23,.ep 9 n (S.flatMap X03) (x*9+0))] ?_
  obtain⟨σ,hσ⟩:=XBy (S:=S) (x:=x) (by omega)
  cases σ with
  | takes set1 no1 y1 =>
   refine OD.ldL (d:=.i64 1) rfl (by kernel_rfl) (X35 hσ) ?_
   refine OD.rE 1 [(0,.loc 0 0),(8,.row 3 0 nn nn),(9,.i64 nn),(10,.i64 i),(25,.bool false)] ?_
   refine OD.nil ?_
   refine CD.condF rfl ?_
   refine CD.skip (CD.region ?_)
   refine OD.rE 1 [(0,.loc 0 0),(8,.row 3 0 nn nn),(9,.i64 nn),(26,.i64 (X05 .i64 (((i:Nat):Int)+1)))] ?_
   refine OD.is 26 rfl (wrn (m:=i+1) (by omega) (by omega)) ?_
   refine OD.rE 1 [(0,.loc 0 0),(8,.row 3 0 nn nn),(9,.i64 nn),(10,.i64 ((i+1:Nat):Int))] ?_
   refine OD.nil ?_
   exact⟨_,by omega,i+1,(by kernel_rfl),by omega,by rw [hr,hd,List.any_cons,show X3d S x=false by simp only [X3d,hσ]];rfl,rfl⟩
  | splits y1 z1 =>
   refine OD.ldL (d:=.i64 2) rfl (by kernel_rfl) (X35 hσ) ?_
   refine OD.rE 1 [(0,.loc 0 0),(8,.row 3 0 nn nn),(9,.i64 nn),(10,.i64 i),(25,.bool false)] ?_
   refine OD.nil ?_
   refine CD.condF rfl ?_
   refine CD.skip (CD.region ?_)
   refine OD.rE 1 [(0,.loc 0 0),(8,.row 3 0 nn nn),(9,.i64 nn),(26,.i64 (X05 .i64 (((i:Nat):Int)+1)))] ?_
   refine OD.is 26 rfl (wrn (m:=i+1) (by omega) (by omega)) ?_
   refine OD.rE 1 [(0,.loc 0 0),(8,.row 3 0 nn nn),(9,.i64 nn),(10,.i64 ((i+1:Nat):Int))] ?_
   refine OD.nil ?_
   exact⟨_,by omega,i+1,(by kernel_rfl),by omega,by rw [hr,hd,List.any_cons,show X3d S x=false by simp only [X3d,hσ]];rfl,rfl⟩
  | begins y1 =>
   refine OD.ldL (d:=.i64 3) rfl (by kernel_rfl) (X35 hσ) ?_
   refine OD.rE 1 [(0,.loc 0 0),(8,.row 3 0 nn nn),(9,.i64 nn),(10,.i64 i),(25,.bool false)] ?_
   refine OD.nil ?_
   refine CD.condF rfl ?_
   refine CD.skip (CD.region ?_)
   refine OD.rE 1 [(0,.loc 0 0),(8,.row 3 0 nn nn),(9,.i64 nn),(26,.i64 (X05 .i64 (((i:Nat):Int)+1)))] ?_
   refine OD.is 26 rfl (wrn (m:=i+1) (by omega) (by omega)) ?_
   refine OD.rE 1 [(0,.loc 0 0),(8,.row 3 0 nn nn),(9,.i64 nn),(10,.i64 ((i+1:Nat):Int))] ?_
   refine OD.nil ?_
   exact⟨_,by omega,i+1,(by kernel_rfl),by omega,by rw [hr,hd,List.any_cons,show X3d S x=false by simp only [X3d,hσ]];rfl,rfl⟩
  | ends y1 =>
   refine OD.ldL (d:=.i64 4) rfl (by kernel_rfl) (X35 hσ) ?_
   refine OD.rE 1 [(0,.loc 0 0),(8,.row 3 0 nn nn),(9,.i64 nn),(10,.i64 i),(25,.bool false)] ?_
   refine OD.nil ?_
   refine CD.condF rfl ?_
   refine CD.skip (CD.region ?_)
   refine OD.rE 1 [(0,.loc 0 0),(8,.row 3 0 nn nn),(9,.i64 nn),(26,.i64 (X05 .i64 (((i:Nat):Int)+1)))] ?_
   refine OD.is 26 rfl (wrn (m:=i+1) (by omega) (by omega)) ?_
   refine OD.rE 1 [(0,.loc 0 0),(8,.row 3 0 nn nn),(9,.i64 nn),(10,.i64 ((i+1:Nat):Int))] ?_
   refine OD.nil ?_
   exact⟨_,by omega,i+1,(by kernel_rfl),by omega,by rw [hr,hd,List.any_cons,show X3d S x=false by simp only [X3d,hσ]];rfl,rfl⟩
  | done  =>
   refine OD.ldL (d:=.i64 5) rfl (by kernel_rfl) (X35 hσ) ?_
   refine OD.rE 1 [(0,.loc 0 0),(8,.row 3 0 nn nn),(9,.i64 nn),(10,.i64 i),(25,.bool true)] ?_
   refine OD.nil ?_
   refine CD.condT rfl ?_
   refine CD.seq (CD.region ?_)
   refine OD.rE 1 [(2,.bool true)] ?_
   refine OD.nil (CD.ret ?_)
   (try dsimp only);first | refine X01 ?_ | refine X02 ?_
   exact rO 4 (.bool true) [.box [.loc 1 0,.vI l,.i64 at_,.row 2 0 n n,.row 3 0 nn nn],.box [.sl 9 n (S.flatMap X03),.i64 first,.i64 sz],.row 1 n (seen.map (D.int .i64)),.row 1 nn (now.map X0e)] (⟨congrArg D.bool (by rw [hr,hd,List.any_cons,X5V.2 hσ];rfl),rfl⟩)
 ·
  refine CD.exit ?_
  refine CD.seq (CD.region ?_)
  refine OD.rE 1 [(2,.bool false)] ?_
  refine OD.nil (CD.ret ?_)
  (try dsimp only);first | refine X01 ?_ | refine X02 ?_
  exact rO 4 (.bool false) [.box [.loc 1 0,.vI l,.i64 at_,.row 2 0 n n,.row 3 0 nn nn],.box [.sl 9 n (S.flatMap X03),.i64 first,.i64 sz],.row 1 n (seen.map (D.int .i64)),.row 1 nn (now.map X0e)] (⟨congrArg D.bool (by rw [hr,List.drop_eq_nil_of_le (by omega)];rfl),rfl⟩)
theorem XC1 (S:List Sta) (l:List Int) (at_ n nn0:Nat) (first sz:Int) (seen0:List Int) (now0:List Nat) (hT:Tgt S) (hfs:X6c S) (hSn:S.length=n) (hSb:n≤1000000) (hat:at_<l.length) (hlb:l.length<10000000) (hnn0:now0.length=nn0) (hsl0:seen0.length=n) (hnow:∀ s∈now0,s<S.length) (hnb0:nn0≤1000000) (hle:∀ (t:Nat) v,seen0[t]?=some v→v≤(at_:Int)+1):FnD P ov 51 [.loc 0 0] [.box [.loc 1 0,.sl 1 l.length (l.map (D.int .i32)),.i64 at_,.row 2 0 n n,.row 3 0 nn0 nn0],.box [.sl 9 n (S.flatMap X03),.i64 first,.i64 sz],.row 1 n (seen0.map (D.int .i64)),.row 1 nn0 (now0.map X0e)] (goQ S l at_ n first sz now0):=by
 refine FnD.intro (by kernel_rfl) (fn:=Tryz.f51) (by kernel_rfl) rfl (by kernel_rfl) fun M a0 g0 hg0=>?_
 refine CD.seq (CD.region ?_)
 refine OD.rE 5 [(0,.loc 0 0),(2,.row 3 0 nn0 nn0)] ?_
 refine OD.freeze 2 rfl rfl (Nat.le_refl _) ?_
 refine OD.rE 0 [(0,.loc 0 0),(2,.sl 1 nn0 (now0.map X0e))] ?_
 refine OD.nil (CD.seq (CD.region ?_))
 refine OD.rL 4 [(0,.loc 0 0),(2,.sl 1 nn0 (now0.map X0e))] [.box [.loc 1 0,.vI l,.i64 at_,.row 2 0 n n,.lit (.slice none 0 0)],.box [.sl 9 n (S.flatMap X03),.i64 first,.i64 sz],.row 1 n (seen0.map (D.int .i64)),.dead] ?_
 refine OD.nilRowAt 0 4 3 1 rfl rfl rfl ?_
 refine OD.rE 0 [(0,.loc 0 0),(2,.sl 1 nn0 (now0.map X0e))] ?_
 refine OD.nil (CD.seq ?_)
 refine CD.drawn (by kernel_rfl) ?_
 refine OD.rE 8 [(0,.loc 0 0),(2,.sl 1 nn0 (now0.map X0e)),(17,.vI l),(21,.i64 at_)] ?_
 refine OD.idxSV (i:=at_) rfl rfl (by kernel_rfl) (by omega) (by omega) ?_
 refine OD.rE 0 [(0,.loc 0 0),(2,.sl 1 nn0 (now0.map X0e)),(22,.ep 1 l.length (l.map (D.int .i32)) at_)] ?_
 refine OD.ldSV 0 (f:=(D.int .i32)) (xs:=l) rfl (by kernel_rfl) (by first | omega | (simp<;>omega)) ?_
 refine OD.rE 1 [(0,.loc 0 0),(2,.sl 1 nn0 (now0.map X0e)),(3,.int .i32 (l.getD at_ 0))] ?_
 refine OD.nil ⟨by kernel_rfl,?_⟩
 refine CD.seq (CD.region ?_)
 refine OD.rE 5 [(0,.loc 0 0),(2,.sl 1 nn0 (now0.map X0e)),(3,.int .i32 (l.getD at_ 0)),(24,.loc 0 0),(28,.i64 (X05 .i64 (((at_:Nat):Int)+1)))] ?_
 refine OD.is 28 rfl (wrn (m:=at_+1) (by omega) (by omega)) ?_
 refine OD.rL 3 [(0,.loc 0 0),(2,.sl 1 nn0 (now0.map X0e)),(3,.int .i32 (l.getD at_ 0))] [.box [.loc 1 0,.vI l,.i64 ((at_+1:Nat):Int),.row 2 0 n n,.row 3 0 0 0],.box [.sl 9 n (S.flatMap X03),.i64 first,.i64 sz],.row 1 n (seen0.map (D.int .i64)),.row 1 0 (([]:List Nat).map X0e)] ?_
 refine OD.nil (CD.seq (CD.region ?_))
 refine OD.rE 3 [(0,.loc 0 0),(3,.int .i32 (l.getD at_ 0)),(31,.sl 1 nn0 (now0.map X0e)),(32,.i64 nn0),(33,.i64 0)] ?_
 refine OD.nil (CD.block ?_)
 refine CD.weak [0,3,31,32,33] 4 (E':=[(0,.loc 0 0),(3,.int .i32 (l.getD at_ 0)),(31,.sl 1 nn0 (now0.map X0e)),(32,.i64 nn0),(33,.i64 0)]) (by kernel_rfl) (by simp [hg0]) (by kernel_rfl) ?_
 refine CD.loop (fun m σ=>∃ (i:Nat) (seen:List Int) (nw:List Nat) (nn:Nat),σ=⟨[(0,.loc 0 0),(3,.int .i32 (l.getD at_ 0)),(31,.sl 1 nn0 (now0.map X0e)),(32,.i64 nn0),(33,.i64 i)],[.box [.loc 1 0,.vI l,.i64 ((at_+1:Nat):Int),.row 2 0 n n,.row 3 0 nn nn],.box [.sl 9 n (S.flatMap X03),.i64 first,.i64 sz],.row 1 n (seen.map (D.int .i64)),.row 1 nn (nw.map X0e)]⟩∧(i≤nn0)∧(SI S l at_ now0 i seen nw)∧(nw.length=nn)∧(seen.length=n)∧m=nn0 - i) (fun m σ hI=>?_) _ ⟨0,seen0,([]:List Nat),0,(by kernel_rfl),Nat.zero_le _,SI.first (by omega) hle,rfl,hsl0,rfl⟩
 obtain⟨i,seen,nw,nn,e,hi,hE,hnn,hsl,hm⟩:=hI
 subst e hm
 refine CD.seq (CD.region ?_)
 refine OD.rE 1 [(0,.loc 0 0),(3,.int .i32 (l.getD at_ 0)),(31,.sl 1 nn0 (now0.map X0e)),(32,.i64 nn0),(33,.i64 i),(34,.bool (decide ((((i:Nat):Int):Int)<((nn0:Nat):Int))))] ?_
 refine OD.nil (CD.seq ?_)
 refine CD.condP rfl (fun h1=>?_) (fun h1=>?_)
 ·
  obtain⟨x,hx,hd⟩:=nth (l:=now0) (i:=i) (by omega)
  have hxl:=hnow x (List.mem_of_getElem? hx)
  refine CD.skip (CD.seq (CD.block (CD.seq (CD.region ?_))))
  refine OD.idxSV (i:=i) rfl rfl (by kernel_rfl) (by omega) (by omega) ?_
  refine OD.rE 0 [(0,.loc 0 0),(3,.int .i32 (l.getD at_ 0)),(31,.sl 1 nn0 (now0.map X0e)),(32,.i64 nn0),(33,.i64 i),(35,.ep 1 nn0 (now0.map X0e) i)] ?_
  refine OD.ldSV 0 (f:=X0e) (xs:=now0) rfl (by kernel_rfl) (by first | omega | (simp<;>omega)) ?_
  refine OD.rE 1 [(0,.loc 0 0),(3,.int .i32 (l.getD at_ 0)),(5,.i64 (((now0.getD i 0):Nat):Int)),(31,.sl 1 nn0 (now0.map X0e)),(32,.i64 nn0),(33,.i64 i)] ?_
  refine OD.is 5 rfl (congrArg (fun z:Nat=>D.int .i64 (z:Int)) (X5j hx)) ?_
  refine OD.rE 0 [(0,.loc 0 0),(3,.int .i32 (l.getD at_ 0)),(5,.i64 x),(31,.sl 1 nn0 (now0.map X0e)),(32,.i64 nn0),(33,.i64 i)] ?_
  refine OD.nil (CD.seq (CD.region ?_))
  refine OD.rE 8 [(0,.loc 0 0),(3,.int .i32 (l.getD at_ 0)),(31,.sl 1 nn0 (now0.map X0e)),(32,.i64 nn0),(33,.i64 i),(43,.sl 9 n (S.flatMap X03)),(44,.i64 x)] ?_
  refine OD.idxSE (i:=x) (e:=9) rfl rfl (by kernel_rfl) (by omega) (by omega) ?_
  refine OD.rE 0 [(0,.loc 0 0),(3,.int .i32 (l.getD at_ 0)),(31,.sl 1 nn0 (now0.map X0e)),(32,.i64 nn0),(33,.i64 i),(45,.ep 9 n (S.flatMap X03) (x*9))] ?_
  obtain⟨σ,hσ⟩:=XBy (S:=S) (x:=x) (by omega)
  cases σ with
  | takes set1 no1 y1 =>
   refine OD.ldA rfl (by kernel_rfl) (by kernel_rfl) (X0l X0Q hσ) rfl (by decide) ?_
   refine OD.rL 2 [(0,.loc 0 0),(3,.int .i32 (l.getD at_ 0)),(6,.loc 4 0),(31,.sl 1 nn0 (now0.map X0e)),(32,.i64 nn0),(33,.i64 i)] [.box [.loc 1 0,.vI l,.i64 ((at_+1:Nat):Int),.row 2 0 n n,.row 3 0 nn nn],.box [.sl 9 n (S.flatMap X03),.i64 first,.i64 sz],.row 1 n (seen.map (D.int .i64)),.row 1 nn (nw.map X0e),.box [.i64 1,.i64 2,.sl 2 set1.length (set1.flatMap X0s),.bool no1,.sl 6 0 ([]),.i64 0,.i64 0,.i64 y1,.i64 0]] ?_
   refine OD.nil (CD.seq (CD.region ?_))
   refine OD.rE 7 [(0,.loc 0 0),(3,.int .i32 (l.getD at_ 0)),(6,.loc 4 0),(31,.sl 1 nn0 (now0.map X0e)),(32,.i64 nn0),(33,.i64 i),(50,.bool true),(52,.agg [.i64 2,.sl 2 set1.length (set1.flatMap X0s),.bool no1,.sl 6 0 ([]),.i64 0,.i64 0]),(53,.int .i32 (l.getD at_ 0))] ?_
   refine OD.guard rfl rfl ?_
   refine OD.cE (in_ok set1 no1 [] 0 2 0 0 (l.getD at_ 0) (hfs _ _ _ (List.mem_of_getElem? hσ))) ?_
   refine OD.rE 1 [(0,.loc 0 0),(3,.int .i32 (l.getD at_ 0)),(6,.loc 4 0),(31,.sl 1 nn0 (now0.map X0e)),(32,.i64 nn0),(33,.i64 i),(55,.bool (X2k set1 no1 (l.getD at_ 0)))] ?_
   refine OD.nil ?_
   refine CD.condB rfl (fun h2=>?_) (fun h2=>?_)
   ·
    refine CD.region ?_
    refine OD.rE 3 [(0,.loc 0 0),(3,.int .i32 (l.getD at_ 0)),(31,.sl 1 nn0 (now0.map X0e)),(32,.i64 nn0),(33,.i64 i),(56,.loc 0 0),(58,.i64 y1)] ?_
    refine OD.cO [0,1,2,3] [.loc 0 0,.i64 y1] (X7z S l (at_+1) n nn y1 first sz _ seen nw hT hSn hSb (by omega) hlb hE.ent (hT _ (List.mem_of_getElem? hσ) y1 (by simp [tg])) hE.le hE.nb hnn) (fun r L1 hr=>?_)
    obtain⟨seen2,nw2,nn2,rfl,⟨q1,q2,q3,q4,q5⟩,hnn2,hsl2,rfl⟩:=hr
    refine OD.rE 0 [(0,.loc 0 0),(3,.int .i32 (l.getD at_ 0)),(31,.sl 1 nn0 (now0.map X0e)),(32,.i64 nn0),(33,.i64 i)] ?_
    refine OD.nil (CD.region ?_)
    refine OD.rE 1 [(0,.loc 0 0),(3,.int .i32 (l.getD at_ 0)),(31,.sl 1 nn0 (now0.map X0e)),(32,.i64 nn0),(60,.i64 (X05 .i64 (((i:Nat):Int)+1)))] ?_
    refine OD.is 60 rfl (wrn (m:=i+1) (by omega) (by omega)) ?_
    refine OD.rE 1 [(0,.loc 0 0),(3,.int .i32 (l.getD at_ 0)),(31,.sl 1 nn0 (now0.map X0e)),(32,.i64 nn0),(33,.i64 ((i+1:Nat):Int))] ?_
    refine OD.nilW [0,3,31,32,33] 4 (E':=[(0,.loc 0 0),(3,.int .i32 (l.getD at_ 0)),(31,.sl 1 nn0 (now0.map X0e)),(32,.i64 nn0),(33,.i64 ((i+1:Nat):Int))]) (by kernel_rfl) (by simp [hg0]) (by kernel_rfl) ?_
    exact⟨_,by omega,i+1,seen2,nw2,nn2,(by kernel_rfl),by omega,hE.enter hx hσ h2 q1 q2 q3 q4 q5,hnn2,hsl2,rfl⟩
   ·
    refine CD.skip (CD.region ?_)
    refine OD.rE 1 [(0,.loc 0 0),(3,.int .i32 (l.getD at_ 0)),(31,.sl 1 nn0 (now0.map X0e)),(32,.i64 nn0),(60,.i64 (X05 .i64 (((i:Nat):Int)+1)))] ?_
    refine OD.is 60 rfl (wrn (m:=i+1) (by omega) (by omega)) ?_
    refine OD.rE 1 [(0,.loc 0 0),(3,.int .i32 (l.getD at_ 0)),(31,.sl 1 nn0 (now0.map X0e)),(32,.i64 nn0),(33,.i64 ((i+1:Nat):Int))] ?_
    refine OD.nilW [0,3,31,32,33] 4 (E':=[(0,.loc 0 0),(3,.int .i32 (l.getD at_ 0)),(31,.sl 1 nn0 (now0.map X0e)),(32,.i64 nn0),(33,.i64 ((i+1:Nat):Int))]) (by kernel_rfl) (by simp [hg0]) (by kernel_rfl) ?_
    exact⟨_,by omega,i+1,seen,nw,nn,(by kernel_rfl),by omega,hE.skip hx (fun y ⟨_,_,t,t2⟩=>by rw [hσ]at t;cases t;rw [t2]at h2;cases h2),hnn,hsl,rfl⟩
  | splits y1 z1 =>
   refine OD.ldA rfl (by kernel_rfl) (by kernel_rfl) (X0l X0Q hσ) rfl (by decide) ?_
   refine OD.rL 2 [(0,.loc 0 0),(3,.int .i32 (l.getD at_ 0)),(6,.loc 4 0),(31,.sl 1 nn0 (now0.map X0e)),(32,.i64 nn0),(33,.i64 i)] [.box [.loc 1 0,.vI l,.i64 ((at_+1:Nat):Int),.row 2 0 n n,.row 3 0 nn nn],.box [.sl 9 n (S.flatMap X03),.i64 first,.i64 sz],.row 1 n (seen.map (D.int .i64)),.row 1 nn (nw.map X0e),.box [.i64 2,.i64 0,.lit (.slice none 0 0),.bool false,.lit (.slice none 0 0),.i64 0,.i64 0,.i64 y1,.i64 z1]] ?_
   refine OD.nil (CD.seq (CD.region ?_))
   refine OD.rE 9 [(0,.loc 0 0),(3,.int .i32 (l.getD at_ 0)),(6,.loc 4 0),(31,.sl 1 nn0 (now0.map X0e)),(32,.i64 nn0),(33,.i64 i),(55,.bool false)] ?_
   refine OD.nil ?_
   refine CD.condF rfl ?_
   refine CD.skip (CD.region ?_)
   refine OD.rE 1 [(0,.loc 0 0),(3,.int .i32 (l.getD at_ 0)),(31,.sl 1 nn0 (now0.map X0e)),(32,.i64 nn0),(60,.i64 (X05 .i64 (((i:Nat):Int)+1)))] ?_
   refine OD.is 60 rfl (wrn (m:=i+1) (by omega) (by omega)) ?_
   refine OD.rE 1 [(0,.loc 0 0),(3,.int .i32 (l.getD at_ 0)),(31,.sl 1 nn0 (now0.map X0e)),(32,.i64 nn0),(33,.i64 ((i+1:Nat):Int))] ?_
   refine OD.nilW [0,3,31,32,33] 4 (E':=[(0,.loc 0 0),(3,.int .i32 (l.getD at_ 0)),(31,.sl 1 nn0 (now0.map X0e)),(32,.i64 nn0),(33,.i64 ((i+1:Nat):Int))]) (by kernel_rfl) (by simp [hg0]) (by kernel_rfl) ?_
   exact⟨_,by omega,i+1,seen,nw,nn,(by kernel_rfl),by omega,hE.skip hx (fun y ⟨_,_,t,t2⟩=>by rw [hσ]at t;cases t),hnn,hsl,rfl⟩
  | begins y1 =>
   refine OD.ldA rfl (by kernel_rfl) (by kernel_rfl) (X0l X0Q hσ) rfl (by decide) ?_
   refine OD.rL 2 [(0,.loc 0 0),(3,.int .i32 (l.getD at_ 0)),(6,.loc 4 0),(31,.sl 1 nn0 (now0.map X0e)),(32,.i64 nn0),(33,.i64 i)] [.box [.loc 1 0,.vI l,.i64 ((at_+1:Nat):Int),.row 2 0 n n,.row 3 0 nn nn],.box [.sl 9 n (S.flatMap X03),.i64 first,.i64 sz],.row 1 n (seen.map (D.int .i64)),.row 1 nn (nw.map X0e),.box [.i64 3,.i64 0,.lit (.slice none 0 0),.bool false,.lit (.slice none 0 0),.i64 0,.i64 0,.i64 y1,.i64 0]] ?_
   refine OD.nil (CD.seq (CD.region ?_))
   refine OD.rE 9 [(0,.loc 0 0),(3,.int .i32 (l.getD at_ 0)),(6,.loc 4 0),(31,.sl 1 nn0 (now0.map X0e)),(32,.i64 nn0),(33,.i64 i),(55,.bool false)] ?_
   refine OD.nil ?_
   refine CD.condF rfl ?_
   refine CD.skip (CD.region ?_)
   refine OD.rE 1 [(0,.loc 0 0),(3,.int .i32 (l.getD at_ 0)),(31,.sl 1 nn0 (now0.map X0e)),(32,.i64 nn0),(60,.i64 (X05 .i64 (((i:Nat):Int)+1)))] ?_
   refine OD.is 60 rfl (wrn (m:=i+1) (by omega) (by omega)) ?_
   refine OD.rE 1 [(0,.loc 0 0),(3,.int .i32 (l.getD at_ 0)),(31,.sl 1 nn0 (now0.map X0e)),(32,.i64 nn0),(33,.i64 ((i+1:Nat):Int))] ?_
   refine OD.nilW [0,3,31,32,33] 4 (E':=[(0,.loc 0 0),(3,.int .i32 (l.getD at_ 0)),(31,.sl 1 nn0 (now0.map X0e)),(32,.i64 nn0),(33,.i64 ((i+1:Nat):Int))]) (by kernel_rfl) (by simp [hg0]) (by kernel_rfl) ?_
   exact⟨_,by omega,i+1,seen,nw,nn,(by kernel_rfl),by omega,hE.skip hx (fun y ⟨_,_,t,t2⟩=>by rw [hσ]at t;cases t),hnn,hsl,rfl⟩
  | ends y1 =>
   refine OD.ldA rfl (by kernel_rfl) (by kernel_rfl) (X0l X0Q hσ) rfl (by decide) ?_
   refine OD.rL 2 [(0,.loc 0 0),(3,.int .i32 (l.getD at_ 0)),(6,.loc 4 0),(31,.sl 1 nn0 (now0.map X0e)),(32,.i64 nn0),(33,.i64 i)] [.box [.loc 1 0,.vI l,.i64 ((at_+1:Nat):Int),.row 2 0 n n,.row 3 0 nn nn],.box [.sl 9 n (S.flatMap X03),.i64 first,.i64 sz],.row 1 n (seen.map (D.int .i64)),.row 1 nn (nw.map X0e),.box [.i64 4,.i64 0,.lit (.slice none 0 0),.bool false,.lit (.slice none 0 0),.i64 0,.i64 0,.i64 y1,.i64 0]] ?_
   refine OD.nil (CD.seq (CD.region ?_))
   refine OD.rE 9 [(0,.loc 0 0),(3,.int .i32 (l.getD at_ 0)),(6,.loc 4 0),(31,.sl 1 nn0 (now0.map X0e)),(32,.i64 nn0),(33,.i64 i),(55,.bool false)] ?_
   refine OD.nil ?_
   refine CD.condF rfl ?_
   refine CD.skip (CD.region ?_)
   refine OD.rE 1 [(0,.loc 0 0),(3,.int .i32 (l.getD at_ 0)),(31,.sl 1 nn0 (now0.map X0e)),(32,.i64 nn0),(60,.i64 (X05 .i64 (((i:Nat):Int)+1)))] ?_
   refine OD.is 60 rfl (wrn (m:=i+1) (by omega) (by omega)) ?_
   refine OD.rE 1 [(0,.loc 0 0),(3,.int .i32 (l.getD at_ 0)),(31,.sl 1 nn0 (now0.map X0e)),(32,.i64 nn0),(33,.i64 ((i+1:Nat):Int))] ?_
   refine OD.nilW [0,3,31,32,33] 4 (E':=[(0,.loc 0 0),(3,.int .i32 (l.getD at_ 0)),(31,.sl 1 nn0 (now0.map X0e)),(32,.i64 nn0),(33,.i64 ((i+1:Nat):Int))]) (by kernel_rfl) (by simp [hg0]) (by kernel_rfl) ?_
   exact⟨_,by omega,i+1,seen,nw,nn,(by kernel_rfl),by omega,hE.skip hx (fun y ⟨_,_,t,t2⟩=>by rw [hσ]at t;cases t),hnn,hsl,rfl⟩
  | done  =>
   refine OD.ldA rfl (by kernel_rfl) (by kernel_rfl) (X0l X0Q hσ) rfl (by decide) ?_
   refine OD.rL 2 [(0,.loc 0 0),(3,.int .i32 (l.getD at_ 0)),(6,.loc 4 0),(31,.sl 1 nn0 (now0.map X0e)),(32,.i64 nn0),(33,.i64 i)] [.box [.loc 1 0,.vI l,.i64 ((at_+1:Nat):Int),.row 2 0 n n,.row 3 0 nn nn],.box [.sl 9 n (S.flatMap X03),.i64 first,.i64 sz],.row 1 n (seen.map (D.int .i64)),.row 1 nn (nw.map X0e),.box [.i64 5,.i64 0,.lit (.slice none 0 0),.bool false,.lit (.slice none 0 0),.i64 0,.i64 0,.i64 0,.i64 0]] ?_
   refine OD.nil (CD.seq (CD.region ?_))
   refine OD.rE 9 [(0,.loc 0 0),(3,.int .i32 (l.getD at_ 0)),(6,.loc 4 0),(31,.sl 1 nn0 (now0.map X0e)),(32,.i64 nn0),(33,.i64 i),(55,.bool false)] ?_
   refine OD.nil ?_
   refine CD.condF rfl ?_
   refine CD.skip (CD.region ?_)
   refine OD.rE 1 [(0,.loc 0 0),(3,.int .i32 (l.getD at_ 0)),(31,.sl 1 nn0 (now0.map X0e)),(32,.i64 nn0),(60,.i64 (X05 .i64 (((i:Nat):Int)+1)))] ?_
   refine OD.is 60 rfl (wrn (m:=i+1) (by omega) (by omega)) ?_
   refine OD.rE 1 [(0,.loc 0 0),(3,.int .i32 (l.getD at_ 0)),(31,.sl 1 nn0 (now0.map X0e)),(32,.i64 nn0),(33,.i64 ((i+1:Nat):Int))] ?_
   refine OD.nilW [0,3,31,32,33] 4 (E':=[(0,.loc 0 0),(3,.int .i32 (l.getD at_ 0)),(31,.sl 1 nn0 (now0.map X0e)),(32,.i64 nn0),(33,.i64 ((i+1:Nat):Int))]) (by kernel_rfl) (by simp [hg0]) (by kernel_rfl) ?_
   exact⟨_,by omega,i+1,seen,nw,nn,(by kernel_rfl),by omega,hE.skip hx (fun y ⟨_,_,t,t2⟩=>by rw [hσ]at t;cases t),hnn,hsl,rfl⟩
 ·
  refine CD.exit ?_
  (try dsimp only);first | refine X01 ?_ | refine X02 ?_
  exact rO 4 (.tup []) [.box [.loc 1 0,.vI l,.i64 ((at_+1:Nat):Int),.row 2 0 n n,.row 3 0 nn nn],.box [.sl 9 n (S.flatMap X03),.i64 first,.i64 sz],.row 1 n (seen.map (D.int .i64)),.row 1 nn (nw.map X0e)] (⟨seen,nw,nn,rfl,by rw [hnn0,← show i=nn0 by omega];exact hE,hnn,hsl,rfl⟩)
end
end Go.Proofs.YtiebldaihnbkmaaGreatDoor
set_option maxRecDepth 100000
set_option maxHeartbeats 4000000
namespace Go.Proofs.YtiebldaihnbkmaaGreatDoor
open Go.Vai Go.Nfa
noncomputable section
theorem XC2 (N:Nd) (S:List Sta) (s0 n:Nat) (sz:Int) (l:List Int) (at_:Int) (hl:X0L X16 N) (hS:X0x K14 N=(S,s0)) (hfs:X6c S) (hSn:S.length=n) (hSb:n≤1000000) (hlb:l.length<10000000):FnD P ov 30 [.loc 0 0,.sl 1 l.length (l.map (D.int .i32)),.i64 at_] [.box [.sl 9 n (S.flatMap X03),.i64 s0,.i64 sz]] (fun r L1=>r=.sl 1 (X5M l N at_).length ((X5M l N at_).map X0e)∧L1=[.box [.sl 9 n (S.flatMap X03),.i64 s0,.i64 sz]]):=by
 have htg:=XB8 K14 N
 have hT:Tgt S:=by rw [hS]at htg;exact htg.1
 refine FnD.intro (by kernel_rfl) (fn:=Tryz.f30) (by kernel_rfl) rfl (by kernel_rfl) fun M a0 g0 hg0=>?_
 refine CD.seq (CD.region ?_)
 refine OD.rE 1 [(0,.loc 0 0),(1,.vI l),(2,.i64 at_)] ?_
 refine OD.nil (CD.seq (CD.seq (CD.region ?_)))
 refine OD.rE 7 [(0,.loc 0 0),(1,.vI l),(2,.i64 at_),(15,.bool (decide ((at_:Int)<0)))] ?_
 refine OD.ifP 15 rfl (fun h1=>?_) (fun h1=>?_)
 ·
  refine OD.rE 5 [(0,.loc 0 0),(1,.vI l),(2,.i64 at_),(20,.bool true)] ?_
  refine OD.nil ?_
  refine CD.condT rfl ?_
  refine CD.seq (CD.region ?_)
  refine OD.rE 1 [(6,.lit (.slice none 0 0))] ?_
  refine OD.nil ?_
  refine CD.nilSl 6 1 rfl ?_
  refine CD.ret ?_
  (try dsimp only);first | refine X01 ?_ | refine X02 ?_
  exact rO 1 (.sl 1 0 (([]:List Nat).map X0e)) [.box [.sl 9 n (S.flatMap X03),.i64 s0,.i64 sz]] (⟨by rw [X7x (by omega)];rfl,rfl⟩)
 ·
  refine OD.rE 5 [(0,.loc 0 0),(1,.vI l),(2,.i64 at_),(20,.bool (decide ((((l.length:Nat):Int):Int)<at_)))] ?_
  refine OD.nil ?_
  refine CD.condP rfl (fun h2=>?_) (fun h2=>?_)
  ·
   refine CD.seq (CD.region ?_)
   refine OD.rE 1 [(6,.lit (.slice none 0 0))] ?_
   refine OD.nil ?_
   refine CD.nilSl 6 1 rfl ?_
   refine CD.ret ?_
   (try dsimp only);first | refine X01 ?_ | refine X02 ?_
   exact rO 1 (.sl 1 0 (([]:List Nat).map X0e)) [.box [.sl 9 n (S.flatMap X03),.i64 s0,.i64 sz]] (⟨by rw [X7x (by omega)];rfl,rfl⟩)
  ·
   refine CD.skip (CD.seq (CD.region ?_))
   obtain⟨a,ha⟩:∃ a:Nat,at_=(a:Int):=⟨at_.toNat,by omega⟩
   refine OD.is 2 rfl (congrArg (D.int .i64) ha) ?_
   refine OD.rE 8 [(0,.loc 0 0),(1,.vI l),(21,.loc 0 0),(22,.vI l),(23,.i64 a),(28,.i64 n)] ?_
   refine OD.mkV (D.int .i64) 0 (n:=n) (by_:=8) (by kernel_rfl) rfl rfl (by omega) (by omega) ?_
   refine OD.rL 3 [(0,.loc 0 0),(1,.vI l),(7,.loc 2 0)] [.box [.sl 9 n (S.flatMap X03),.i64 s0,.i64 sz],.row 1 n ((List.replicate n 0).map (D.int .i64)),.box [.loc 0 0,.vI l,.i64 a,.row 1 0 n n,.lit (.slice none 0 0)]] ?_
   refine OD.nilRowB 2 4 1 rfl rfl ?_
   refine OD.rE 0 [(0,.loc 0 0),(1,.vI l),(7,.loc 2 0)] ?_
   refine OD.nil (CD.seq (CD.region ?_))
   refine OD.rE 5 [(1,.vI l),(7,.loc 2 0),(32,.loc 2 0),(36,.i64 s0)] ?_
   refine OD.cO [2,0,1,3] [.loc 2 0,.i64 s0] (X7z S l a n 0 s0 ((s0:Nat):Int) sz (fun _=>False) (List.replicate n 0) [] hT hSn hSb (by omega) hlb (XC0 hSn) (by rw [hS]at htg;exact htg.2) (fun t v e=>by have:=List.eq_of_mem_replicate (List.mem_of_getElem? e);omega) (by have:=XCK a (List.replicate n 0);rw [List.length_replicate]at this;simp only [List.length_nil];omega) rfl) (fun r L1 hr=>?_)
   obtain⟨seen1,now1,nn1,rfl,⟨q1,q2,q3,q4,q5⟩,hnn1,hsl1,rfl⟩:=hr
   have hLI:=LI.first (fun _ h=>h) q1 q2 q4 q5 (by omega)
   refine OD.rE 0 [(1,.vI l),(7,.loc 2 0)] ?_
   refine OD.nil (CD.seq (CD.region ?_))
   refine OD.rE 1 [(1,.vI l),(7,.loc 2 0),(8,.lit (.slice none 0 0))] ?_
   refine OD.nilRow 8 1 rfl ?_
   refine OD.rE 0 [(1,.vI l),(7,.loc 2 0),(8,.row 4 0 0 0)] ?_
   refine OD.nil (CD.seq (CD.block ?_))
   refine CD.weak [1,7,8] 5 (E':=[(1,.vI l),(7,.loc 2 0),(8,.row 4 0 0 0)]) (by kernel_rfl) (by simp [hg0]) (by kernel_rfl) ?_
   refine CD.loop (fun m σ=>∃ (p:Nat) (seen:List Int) (nw:List Nat) (nn:Nat) (out:List Nat) (mo:Nat),σ=⟨[(1,.vI l),(7,.loc 2 0),(8,.row 4 0 mo mo)],[.box [.sl 9 n (S.flatMap X03),.i64 s0,.i64 sz],.row 1 n (seen.map (D.int .i64)),.box [.loc 0 0,.vI l,.i64 p,.row 1 0 n n,.row 3 0 nn nn],.row 1 nn (nw.map X0e),.row 1 mo (out.map X0e)]⟩∧(LI S l s0 a p seen nw out)∧(nw.length=nn)∧(seen.length=n)∧(out.length=mo)∧(mo≤p)∧m=l.length - p) (fun m σ hI=>?_) _ ⟨a,seen1,now1,nn1,([]:List Nat),0,(by kernel_rfl),hLI,hnn1,hsl1,rfl,Nat.zero_le _,rfl⟩
   obtain⟨p,seen,nw,nn,out,mo,e,hL,hnn,hsl,hm,hmp,hm⟩:=hI
   subst e hm
   have hpl:=hL.hi
   have hnb:=hL.nb
   refine CD.seq (CD.seq (CD.region ?_))
   refine OD.rE 6 [(1,.vI l),(7,.loc 2 0),(8,.row 4 0 mo mo),(43,.bool (decide ((0:Int)<((nn:Nat):Int))))] ?_
   refine OD.nil ?_
   refine CD.condP rfl (fun h3=>?_) (fun h3=>?_)
   ·
    refine CD.skip (CD.block (CD.seq (CD.seq (CD.region ?_))))
    refine OD.rE 1 [(1,.vI l),(7,.loc 2 0),(8,.row 4 0 mo mo),(44,.loc 2 0)] ?_
    refine OD.cO [2,0,1,3] [.loc 2 0] (XEE S l p n nn ((s0:Nat):Int) sz seen nw hSn hnn (fun s hs=>X7D ((hL.now_mem s).1 hs).2) (by omega)) (fun r L1 hr=>?_)
    obtain⟨rfl,rfl⟩:=hr
    refine OD.rE 0 [(1,.vI l),(7,.loc 2 0),(8,.row 4 0 mo mo),(45,.bool (nw.any (X3d S)))] ?_
    refine OD.nil ?_
    refine CD.condB rfl (fun h4=>?_) (fun h4=>?_)
    ·
     refine CD.region ?_
     refine OD.rE 5 [(1,.vI l),(7,.loc 2 0),(46,.row 4 0 mo mo),(50,.i64 p)] ?_
     refine OD.bsl (e:=1) (cs:=[.i64 p]) rfl (by kernel_rfl) ?_
     refine OD.rE 0 [(1,.vI l),(7,.loc 2 0),(46,.row 4 0 mo mo),(51,.sl 1 1 [.i64 p])] ?_
     refine OD.appV (f:=X0e) (xs:=out) (vs:=[p]) rfl (by kernel_rfl) rfl rfl rfl rfl (by first | omega | (simp<;>omega)) (by decide) (by omega) ?_
     refine OD.rE 1 [(1,.vI l),(7,.loc 2 0),(8,.row 4 0 (mo+1) (mo+1))] ?_
     refine OD.nil (CD.seq (CD.seq (CD.region ?_)))
     refine OD.rE 7 [(1,.vI l),(7,.loc 2 0),(8,.row 4 0 (mo+1) (mo+1)),(59,.bool (decide ((((p:Nat):Int):Int)=((l.length:Nat):Int))))] ?_
     refine OD.nil ?_
     refine CD.condP rfl (fun h5=>?_) (fun h5=>?_)
     ·
      refine CD.exit ?_
      refine CD.seq (CD.region ?_)
      refine OD.rE 2 [(6,.row 4 0 (mo+1) (mo+1))] ?_
      refine OD.nil ?_
      refine CD.freeze 6 rfl rfl (Nat.le_refl _) ?_
      refine CD.ret ?_
      (try dsimp only);first | refine X01 ?_ | refine X02 ?_
      exact rO 1 (.sl 1 (mo+1) ((out++[p]).map X0e)) [.box [.sl 9 n (S.flatMap X03),.i64 s0,.i64 sz]] (⟨XGH (by rw [ha];have h1:=hL.out_srt;have h2:=hL.fin_end (by omega);rw [X6J,if_pos h4]at h1 h2;exact X98 hl hS (by omega) h1 h2) (by rw [List.length_append,hm];rfl),rfl⟩)
     ·
      refine CD.skip (CD.region ?_)
      refine OD.rE 1 [(1,.vI l),(7,.loc 2 0),(8,.row 4 0 (mo+1) (mo+1)),(60,.loc 2 0)] ?_
      refine OD.cO [2,0,1,3] [.loc 2 0] (XC1 S l p n nn ((s0:Nat):Int) sz seen nw hT hfs hSn hSb (by omega) hlb hnn hsl (fun s hs=>X7D ((hL.now_mem s).1 hs).2) (by omega) hL.le) (fun r L1 hr=>?_)
      obtain⟨seen3,nw3,nn3,rfl,hsi,hnn3,hsl3,rfl⟩:=hr
      have hL3:=hL.step (by omega) hsi
      rw [X6J,if_pos h4]at hL3
      refine OD.rE 0 [(1,.vI l),(7,.loc 2 0),(8,.row 4 0 (mo+1) (mo+1))] ?_
      refine OD.nil ?_
      exact⟨_,by omega,p+1,seen3,nw3,nn3,(out++[p]),mo+1,(by kernel_rfl),hL3,hnn3,hsl3,by first | exact hm | (rw [List.length_append,hm];rfl),by omega,rfl⟩
    ·
     refine CD.skip (CD.seq (CD.seq (CD.region ?_)))
     refine OD.rE 7 [(1,.vI l),(7,.loc 2 0),(8,.row 4 0 mo mo),(59,.bool (decide ((((p:Nat):Int):Int)=((l.length:Nat):Int))))] ?_
     refine OD.nil ?_
     refine CD.condP rfl (fun h6=>?_) (fun h6=>?_)
     ·
      refine CD.exit ?_
      refine CD.seq (CD.region ?_)
      refine OD.rE 2 [(6,.row 4 0 mo mo)] ?_
      refine OD.nil ?_
      refine CD.freeze 6 rfl rfl (Nat.le_refl _) ?_
      refine CD.ret ?_
      (try dsimp only);first | refine X01 ?_ | refine X02 ?_
      exact rO 1 (.sl 1 mo (out.map X0e)) [.box [.sl 9 n (S.flatMap X03),.i64 s0,.i64 sz]] (⟨XGH (by rw [ha];have h1:=hL.out_srt;have h2:=hL.fin_end (by omega);rw [X6J,if_neg (by rw [h4];decide)]at h1 h2;exact X98 hl hS (by omega) h1 h2) hm,rfl⟩)
     ·
      refine CD.skip (CD.region ?_)
      refine OD.rE 1 [(1,.vI l),(7,.loc 2 0),(8,.row 4 0 mo mo),(60,.loc 2 0)] ?_
      refine OD.cO [2,0,1,3] [.loc 2 0] (XC1 S l p n nn ((s0:Nat):Int) sz seen nw hT hfs hSn hSb (by omega) hlb hnn hsl (fun s hs=>X7D ((hL.now_mem s).1 hs).2) (by omega) hL.le) (fun r L1 hr=>?_)
      obtain⟨seen3,nw3,nn3,rfl,hsi,hnn3,hsl3,rfl⟩:=hr
      have hL3:=hL.step (by omega) hsi
      rw [X6J,if_neg (by rw [h4];decide)]at hL3
      refine OD.rE 0 [(1,.vI l),(7,.loc 2 0),(8,.row 4 0 mo mo)] ?_
      refine OD.nil ?_
      exact⟨_,by omega,p+1,seen3,nw3,nn3,out,mo,(by kernel_rfl),hL3,hnn3,hsl3,by first | exact hm | (rw [List.length_append,hm];rfl),by omega,rfl⟩
   ·
    refine CD.exit ?_
    refine CD.seq (CD.region ?_)
    refine OD.rE 2 [(6,.row 4 0 mo mo)] ?_
    refine OD.nil ?_
    refine CD.freeze 6 rfl rfl (Nat.le_refl _) ?_
    refine CD.ret ?_
    (try dsimp only);first | refine X01 ?_ | refine X02 ?_
    exact rO 1 (.sl 1 mo (out.map X0e)) [.box [.sl 9 n (S.flatMap X03),.i64 s0,.i64 sz]] (⟨XGH (by rw [ha];exact X98 hl hS (by omega) hL.srt (by have hz:nw=[]:=List.length_eq_zero_iff.1 (by omega);rw [hz]at hL;exact hL.fin_none)) hm,rfl⟩)
end
end Go.Proofs.YtiebldaihnbkmaaGreatDoor
