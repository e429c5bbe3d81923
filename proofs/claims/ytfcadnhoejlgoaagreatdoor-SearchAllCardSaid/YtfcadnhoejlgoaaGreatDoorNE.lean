/-
  What is proved here: what functions of the pattern's package come to (walks that a program of mine has printed). what functions of the pattern's package come to (walks that a program of mine has printed). what functions of the pattern's package come to (walks that a program of mine has printed). No conditions but those that the theorems state.
-/
import Derived.Test.YtfcadnhoejlgoaaGreatDoorNB
import Derived.Test.YtfcadnhoejlgoaaGreatDoorNA
import Derived.Test.YtfcadnhoejlgoaaGreatDoorRI
set_option linter.unusedVariables false
set_option linter.unusedSimpArgs false
set_option maxRecDepth 100000
set_option maxHeartbeats 4000000
namespace Go.Proofs.YtfcadnhoejlgoaaGreatDoor
open Go.Vai Go.Nfa
noncomputable section
theorem X8B (a b:List Bool) (n:Nat) (ha:a.length=n) (hb:b.length=n) (hs:n<100000000):X1G P ov 102 [.sl 1 n (a.map D.bool),.sl 1 n (b.map D.bool)] (.sl 1 n ((Nfa.X2K a b).map D.bool)):=by
 refine FnD.intro (by kernel_rfl) (fn:=Tryz.f102) (by kernel_rfl) rfl (by kernel_rfl) fun M a0 g0 hg0=>?_
 refine CD.seq (CD.region ?_)
 refine OD.rE 1 [(0,.sl 1 n (a.map D.bool)),(1,.sl 1 n (b.map D.bool))] ?_
 refine OD.nil (CD.seq (CD.region ?_))
 refine OD.rE 2 [(0,.sl 1 n (a.map D.bool)),(1,.sl 1 n (b.map D.bool)),(8,.i64 n)] ?_
 refine OD.mkV D.bool false (n:=n) (by_:=1) (by kernel_rfl) rfl rfl (by omega) (by omega) ?_
 refine OD.rE 1 [(0,.sl 1 n (a.map D.bool)),(1,.sl 1 n (b.map D.bool)),(5,.row 0 0 n n)] ?_
 refine OD.nil (CD.seq (CD.seq (CD.region ?_)))
 refine OD.rE 1 [(0,.sl 1 n (a.map D.bool)),(1,.sl 1 n (b.map D.bool)),(5,.row 0 0 n n),(6,.i64 0)] ?_
 refine OD.nil (CD.block ?_)
 refine CD.weak [0,1,5,6] 1 (E':=[(0,.sl 1 n (a.map D.bool)),(1,.sl 1 n (b.map D.bool)),(5,.row 0 0 n n),(6,.i64 0)]) (by kernel_rfl) (by simp [hg0]) (by kernel_rfl) ?_
 refine CD.loop (fun m σ=>∃ (i:Nat) (out:List Bool),σ=⟨[(0,.sl 1 n (a.map D.bool)),(1,.sl 1 n (b.map D.bool)),(5,.row 0 0 n n),(6,.i64 i)],[.row 1 n (out.map D.bool)]⟩∧(i≤n)∧(out.length=n)∧(out.take i=(Nfa.X2K a b).take i)∧m=n - i) (fun m σ hI=>?_) _ ⟨0,List.replicate n false,(by kernel_rfl),Nat.zero_le _,by simp,rfl,rfl⟩
 obtain⟨i,out,e,hi,ho,hr,hm⟩:=hI
 subst e hm
 refine CD.seq (CD.seq (CD.region ?_))
 refine OD.rE 4 [(0,.sl 1 n (a.map D.bool)),(1,.sl 1 n (b.map D.bool)),(5,.row 0 0 n n),(6,.i64 i),(13,.bool (decide ((((i:Nat):Int):Int)<((n:Nat):Int))))] ?_
 refine OD.nil ?_
 refine CD.condP rfl (fun h1=>?_) (fun h1=>?_)
 ·
  refine CD.skip (CD.seq (CD.block (CD.region ?_)))
  refine OD.rE 4 [(0,.sl 1 n (a.map D.bool)),(1,.sl 1 n (b.map D.bool)),(5,.row 0 0 n n),(6,.i64 i),(16,.row 0 0 n n),(17,.i64 i),(18,.sl 1 n (a.map D.bool)),(19,.i64 i)] ?_
  refine OD.idxSV (i:=i) rfl rfl (by kernel_rfl) (by omega) (by omega) ?_
  refine OD.rE 0 [(0,.sl 1 n (a.map D.bool)),(1,.sl 1 n (b.map D.bool)),(5,.row 0 0 n n),(6,.i64 i),(16,.row 0 0 n n),(17,.i64 i),(20,.ep 1 n (a.map D.bool) i)] ?_
  refine OD.ldSV false (f:=D.bool) (xs:=a) rfl (by kernel_rfl) (by first | omega | (simp<;>omega)) ?_
  refine OD.rE 1 [(0,.sl 1 n (a.map D.bool)),(1,.sl 1 n (b.map D.bool)),(5,.row 0 0 n n),(6,.i64 i),(16,.row 0 0 n n),(17,.i64 i),(22,.bool (a.getD i false))] ?_
  refine OD.ifB 22 rfl (fun h2=>?_) (fun h2=>?_)
  ·
   refine OD.rE 5 [(0,.sl 1 n (a.map D.bool)),(1,.sl 1 n (b.map D.bool)),(5,.row 0 0 n n),(6,.i64 i),(16,.row 0 0 n n),(17,.i64 i),(27,.bool true)] ?_
   refine OD.idxV (i:=i) rfl rfl (by kernel_rfl) (by omega) (by omega) ?_
   refine OD.rE 0 [(0,.sl 1 n (a.map D.bool)),(1,.sl 1 n (b.map D.bool)),(5,.row 0 0 n n),(6,.i64 i),(27,.bool true),(28,.loc 0 i)] ?_
   refine OD.stV D.bool true (xs:=out) rfl rfl rfl rfl rfl (by kernel_rfl) (by first | omega | (simp<;>omega)) ?_
   refine OD.rE 0 [(0,.sl 1 n (a.map D.bool)),(1,.sl 1 n (b.map D.bool)),(5,.row 0 0 n n),(6,.i64 i)] ?_
   refine OD.nil (CD.region ?_)
   refine OD.rE 2 [(0,.sl 1 n (a.map D.bool)),(1,.sl 1 n (b.map D.bool)),(5,.row 0 0 n n),(15,.i64 (X08 .i64 (((i:Nat):Int)+1)))] ?_
   refine OD.is 15 rfl (wrn (m:=i+1) (by omega) (by omega)) ?_
   refine OD.rE 1 [(0,.sl 1 n (a.map D.bool)),(1,.sl 1 n (b.map D.bool)),(5,.row 0 0 n n),(6,.i64 ((i+1:Nat):Int))] ?_
   refine OD.nil ?_
   exact⟨_,by omega,i+1,(out.set i true),(by kernel_rfl),by omega,by rw [List.length_set];exact ho,X60 hr (by omega) (by rw [XBT (ha.trans hb.symm) (by omega),h2];rfl),rfl⟩
  ·
   refine OD.rE 2 [(0,.sl 1 n (a.map D.bool)),(1,.sl 1 n (b.map D.bool)),(5,.row 0 0 n n),(6,.i64 i),(16,.row 0 0 n n),(17,.i64 i),(22,.bool false),(23,.sl 1 n (b.map D.bool)),(24,.i64 i)] ?_
   refine OD.guard rfl rfl ?_
   refine OD.idxSV (i:=i) rfl rfl (by kernel_rfl) (by omega) (by omega) ?_
   refine OD.rE 0 [(0,.sl 1 n (a.map D.bool)),(1,.sl 1 n (b.map D.bool)),(5,.row 0 0 n n),(6,.i64 i),(16,.row 0 0 n n),(17,.i64 i),(22,.bool false),(25,.ep 1 n (b.map D.bool) i)] ?_
   refine OD.guard rfl rfl ?_
   refine OD.ldSV false (f:=D.bool) (xs:=b) rfl (by kernel_rfl) (by first | omega | (simp<;>omega)) ?_
   refine OD.rE 1 [(0,.sl 1 n (a.map D.bool)),(1,.sl 1 n (b.map D.bool)),(5,.row 0 0 n n),(6,.i64 i),(16,.row 0 0 n n),(17,.i64 i),(27,.bool (b.getD i false))] ?_
   refine OD.idxV (i:=i) rfl rfl (by kernel_rfl) (by omega) (by omega) ?_
   refine OD.rE 0 [(0,.sl 1 n (a.map D.bool)),(1,.sl 1 n (b.map D.bool)),(5,.row 0 0 n n),(6,.i64 i),(27,.bool (b.getD i false)),(28,.loc 0 i)] ?_
   refine OD.stV D.bool (b.getD i false) (xs:=out) rfl rfl rfl rfl rfl (by kernel_rfl) (by first | omega | (simp<;>omega)) ?_
   refine OD.rE 0 [(0,.sl 1 n (a.map D.bool)),(1,.sl 1 n (b.map D.bool)),(5,.row 0 0 n n),(6,.i64 i)] ?_
   refine OD.nil (CD.region ?_)
   refine OD.rE 2 [(0,.sl 1 n (a.map D.bool)),(1,.sl 1 n (b.map D.bool)),(5,.row 0 0 n n),(15,.i64 (X08 .i64 (((i:Nat):Int)+1)))] ?_
   refine OD.is 15 rfl (wrn (m:=i+1) (by omega) (by omega)) ?_
   refine OD.rE 1 [(0,.sl 1 n (a.map D.bool)),(1,.sl 1 n (b.map D.bool)),(5,.row 0 0 n n),(6,.i64 ((i+1:Nat):Int))] ?_
   refine OD.nil ?_
   exact⟨_,by omega,i+1,(out.set i (b.getD i false)),(by kernel_rfl),by omega,by rw [List.length_set];exact ho,X60 hr (by omega) (by rw [XBT (ha.trans hb.symm) (by omega),h2];rfl),rfl⟩
 ·
  refine CD.exit ?_
  refine CD.seq (CD.region ?_)
  refine OD.rE 2 [(4,.row 0 0 n n)] ?_
  refine OD.nil ?_
  refine CD.freeze 4 rfl rfl (Nat.le_refl _) ?_
  refine CD.ret ?_
  exact rP (.sl 1 n (out.map D.bool)) (by have e:i=n:=(by omega);subst e;rw [XC4 hr ho ((Nfa.X2D (ha.trans hb.symm)).trans ha)])
theorem XDk (a b:List Bool) (n:Nat) (ha:a.length=n) (hb:b.length=n) (hs:n<100000000):X1G P ov 103 [.sl 1 n (a.map D.bool),.sl 1 n (b.map D.bool)] (.bool (decide (a=b))):=by
 refine FnD.intro (by kernel_rfl) (fn:=Tryz.f103) (by kernel_rfl) rfl (by kernel_rfl) fun M a0 g0 hg0=>?_
 refine CD.seq (CD.region ?_)
 refine OD.rE 1 [(0,.sl 1 n (a.map D.bool)),(1,.sl 1 n (b.map D.bool))] ?_
 refine OD.nil (CD.seq (CD.seq (CD.region ?_)))
 refine OD.rE 1 [(0,.sl 1 n (a.map D.bool)),(1,.sl 1 n (b.map D.bool)),(5,.i64 0)] ?_
 refine OD.nil (CD.block ?_)
 refine CD.weak [0,1,5] 0 (E':=[(0,.sl 1 n (a.map D.bool)),(1,.sl 1 n (b.map D.bool)),(5,.i64 0)]) (by kernel_rfl) (by simp [hg0]) (by kernel_rfl) ?_
 refine CD.loop (fun m σ=>∃ (i:Nat),σ=⟨[(0,.sl 1 n (a.map D.bool)),(1,.sl 1 n (b.map D.bool)),(5,.i64 i)],[]⟩∧(i≤n)∧(decide (a=b)=decide (a.drop i=b.drop i))∧m=n - i) (fun m σ hI=>?_) _ ⟨0,(by kernel_rfl),Nat.zero_le _,rfl,rfl⟩
 obtain⟨i,e,hi,hr,hm⟩:=hI
 subst e hm
 refine CD.seq (CD.seq (CD.region ?_))
 refine OD.rE 4 [(0,.sl 1 n (a.map D.bool)),(1,.sl 1 n (b.map D.bool)),(5,.i64 i),(9,.bool (decide ((((i:Nat):Int):Int)<((n:Nat):Int))))] ?_
 refine OD.nil ?_
 refine CD.condP rfl (fun h1=>?_) (fun h1=>?_)
 ·
  refine CD.skip (CD.seq (CD.block (CD.seq ?_)))
  refine CD.drawn (by kernel_rfl) ?_
  refine OD.rE 2 [(0,.sl 1 n (a.map D.bool)),(1,.sl 1 n (b.map D.bool)),(5,.i64 i),(12,.sl 1 n (a.map D.bool)),(13,.i64 i)] ?_
  refine OD.idxSV (i:=i) rfl rfl (by kernel_rfl) (by omega) (by omega) ?_
  refine OD.rE 0 [(0,.sl 1 n (a.map D.bool)),(1,.sl 1 n (b.map D.bool)),(5,.i64 i),(14,.ep 1 n (a.map D.bool) i)] ?_
  refine OD.ldSV false (f:=D.bool) (xs:=a) rfl (by kernel_rfl) (by first | omega | (simp<;>omega)) ?_
  refine OD.rE 2 [(0,.sl 1 n (a.map D.bool)),(1,.sl 1 n (b.map D.bool)),(5,.i64 i),(15,.bool (a.getD i false)),(16,.sl 1 n (b.map D.bool)),(17,.i64 i)] ?_
  refine OD.idxSV (i:=i) rfl rfl (by kernel_rfl) (by omega) (by omega) ?_
  refine OD.rE 0 [(0,.sl 1 n (a.map D.bool)),(1,.sl 1 n (b.map D.bool)),(5,.i64 i),(15,.bool (a.getD i false)),(18,.ep 1 n (b.map D.bool) i)] ?_
  refine OD.ldSV false (f:=D.bool) (xs:=b) rfl (by kernel_rfl) (by first | omega | (simp<;>omega)) ?_
  refine OD.rE 1 [(0,.sl 1 n (a.map D.bool)),(1,.sl 1 n (b.map D.bool)),(5,.i64 i),(20,.bool (bif (a.getD i false)then(bif (b.getD i false)then false else true)else(bif (b.getD i false)then true else false)))] ?_
  refine OD.is 20 rfl (congrArg D.bool XJ2) ?_
  refine OD.rE 0 [(0,.sl 1 n (a.map D.bool)),(1,.sl 1 n (b.map D.bool)),(5,.i64 i),(20,.bool (decide (¬ (a.getD i false)=(b.getD i false))))] ?_
  refine OD.nil ⟨by kernel_rfl,?_⟩
  refine CD.condP rfl (fun h2=>?_) (fun h2=>?_)
  ·
   refine CD.seq (CD.region ?_)
   refine OD.rE 1 [(4,.bool false)] ?_
   refine OD.nil (CD.ret ?_)
   exact rP (.bool false) (by rw [hr,X95 (ha.trans hb.symm) (by omega),decide_eq_false h2,Bool.false_and])
  ·
   refine CD.skip (CD.region ?_)
   refine OD.rE 2 [(0,.sl 1 n (a.map D.bool)),(1,.sl 1 n (b.map D.bool)),(11,.i64 (X08 .i64 (((i:Nat):Int)+1)))] ?_
   refine OD.is 11 rfl (wrn (m:=i+1) (by omega) (by omega)) ?_
   refine OD.rE 1 [(0,.sl 1 n (a.map D.bool)),(1,.sl 1 n (b.map D.bool)),(5,.i64 ((i+1:Nat):Int))] ?_
   refine OD.nil ?_
   exact⟨_,by omega,i+1,(by kernel_rfl),by omega,by rw [hr,X95 (ha.trans hb.symm) (by omega),decide_eq_true (Decidable.of_not_not h2),Bool.true_and],rfl⟩
 ·
  refine CD.exit ?_
  refine CD.seq (CD.region ?_)
  refine OD.rE 1 [(4,.bool true)] ?_
  refine OD.nil (CD.ret ?_)
  exact rP (.bool true) (by rw [hr,List.drop_eq_nil_of_le (by omega),List.drop_eq_nil_of_le (by omega)];rfl)
end
end Go.Proofs.YtfcadnhoejlgoaaGreatDoor
set_option maxRecDepth 100000
set_option maxHeartbeats 4000000
namespace Go.Proofs.YtfcadnhoejlgoaaGreatDoor
open Go.Vai Go.Nfa
noncomputable section
theorem X4L (l:List Int) (hl0:l.length<10000000):∀ (m:Nat) (k:Int) (set:List (Int×Int)) (no:Bool) (kids:List Nd) (mn mx:Int) (b:List Bool),size (.mk k set no kids mn mx)≤m→fit (.mk k set no kids mn mx)→(X0H X18 (.mk k set no kids mn mx))→(b.length=l.length+1)→X1G P ov 62 [.agg [.i64 k,.sl 2 set.length (set.flatMap X0I),.bool no,.sl 6 kids.length (X0G kids),.i64 mn,.i64 mx],.sl 1 l.length (l.map (D.int .i32)),.sl 1 (l.length+1) (b.map D.bool)] (.sl 1 (l.length+1) ((X0B K14 l (.mk k set no kids mn mx) b).map D.bool)):=by
 intro m
 induction m with
 | zero=>intro k set no kids mn mx b hs;exact absurd hs (by have:=X3G (.mk k set no kids mn mx);omega)
 | succ m ih =>
  intro k set no kids mn mx b hs hf hl hb
  have hf1:=hf.1
  have hf2:=hf.2.1
  have hf3:=hf.2.2.1
  have hf4:=hf.2.2.2.1
  refine FnD.intro (by kernel_rfl) (fn:=Tryz.f62) (by kernel_rfl) rfl (by kernel_rfl) fun M a0 g0 hg0=>?_
  refine CD.seq (CD.region ?_)
  refine OD.rL 2 [(1,.vI l),(2,.sl 1 (l.length+1) (b.map D.bool)),(3,.loc 0 0)] [.box (cN k set no kids mn mx)] ?_
  refine OD.nil (CD.seq (CD.region ?_))
  refine OD.rE 3 [(1,.vI l),(2,.sl 1 (l.length+1) (b.map D.bool)),(3,.loc 0 0),(17,.i64 (X08 .i64 (((l.length:Nat):Int)+1)))] ?_
  refine OD.is 17 rfl (wrn (m:=l.length+1) (by omega) (by omega)) ?_
  refine OD.rE 0 [(1,.vI l),(2,.sl 1 (l.length+1) (b.map D.bool)),(3,.loc 0 0),(17,.i64 ((l.length+1:Nat):Int))] ?_
  refine OD.mkV D.bool false (n:=(l.length+1)) (by_:=1) (by kernel_rfl) rfl rfl (by omega) (by omega) ?_
  refine OD.rE 1 [(1,.vI l),(2,.sl 1 (l.length+1) (b.map D.bool)),(3,.loc 0 0),(7,.row 1 0 (l.length+1) (l.length+1))] ?_
  refine OD.nil (CD.seq (CD.seq (CD.region ?_)))
  refine OD.rE 2 [(1,.vI l),(2,.sl 1 (l.length+1) (b.map D.bool)),(3,.loc 0 0),(7,.row 1 0 (l.length+1) (l.length+1)),(20,.i64 k)] ?_
  refine OD.nil (CD.block (CD.seq (CD.region ?_)))
  refine OD.rE 2 [(1,.vI l),(2,.sl 1 (l.length+1) (b.map D.bool)),(3,.loc 0 0),(7,.row 1 0 (l.length+1) (l.length+1)),(20,.i64 k),(21,.bool (decide ((k:Int)=2)))] ?_
  refine OD.nil ?_
  refine CD.condP rfl (fun h1=>?_) (fun h1=>?_)
  ·
   refine CD.seq (CD.region ?_)
   refine OD.rE 1 [(1,.vI l),(2,.sl 1 (l.length+1) (b.map D.bool)),(3,.loc 0 0),(7,.row 1 0 (l.length+1) (l.length+1)),(8,.i64 0)] ?_
   refine OD.nil (CD.block ?_)
   refine CD.weak [1,2,3,7,8] 2 (E':=[(1,.vI l),(2,.sl 1 (l.length+1) (b.map D.bool)),(3,.loc 0 0),(7,.row 1 0 (l.length+1) (l.length+1)),(8,.i64 0)]) (by kernel_rfl) (by simp [hg0]) (by kernel_rfl) ?_
   refine CD.loop (fun m σ=>∃ (i:Nat) (out:List Bool),σ=⟨[(1,.vI l),(2,.sl 1 (l.length+1) (b.map D.bool)),(3,.loc 0 0),(7,.row 1 0 (l.length+1) (l.length+1)),(8,.i64 i)],[.box (cN k set no kids mn mx),.row 1 (l.length+1) (out.map D.bool)]⟩∧(i≤l.length)∧(out.length=l.length+1)∧(out.take (i+1)=(shift l set no b).take (i+1))∧m=l.length - i) (fun m σ hI=>?_) _ ⟨0,List.replicate (l.length+1) false,(by kernel_rfl),Nat.zero_le _,by simp,by simp [shift,List.range_succ_eq_map],rfl⟩
   obtain⟨i,out,e,hi,ho,hr,hm⟩:=hI
   subst e hm
   refine CD.seq (CD.seq (CD.region ?_))
   refine OD.rE 4 [(1,.vI l),(2,.sl 1 (l.length+1) (b.map D.bool)),(3,.loc 0 0),(7,.row 1 0 (l.length+1) (l.length+1)),(8,.i64 i),(26,.bool (decide ((((i:Nat):Int):Int)<((l.length:Nat):Int))))] ?_
   refine OD.nil ?_
   refine CD.condP rfl (fun h2=>?_) (fun h2=>?_)
   ·
    refine CD.skip (CD.seq (CD.block ?_))
    refine CD.drawn (by kernel_rfl) ?_
    refine OD.rE 3 [(1,.vI l),(2,.sl 1 (l.length+1) (b.map D.bool)),(3,.loc 0 0),(7,.row 1 0 (l.length+1) (l.length+1)),(8,.i64 i),(29,.row 1 0 (l.length+1) (l.length+1)),(30,.i64 i),(31,.i64 (X08 .i64 (((i:Nat):Int)+1)))] ?_
    refine OD.is 31 rfl (wrn (m:=i+1) (by omega) (by omega)) ?_
    refine OD.rE 2 [(1,.vI l),(2,.sl 1 (l.length+1) (b.map D.bool)),(3,.loc 0 0),(7,.row 1 0 (l.length+1) (l.length+1)),(8,.i64 i),(29,.row 1 0 (l.length+1) (l.length+1)),(30,.i64 i),(31,.i64 ((i+1:Nat):Int)),(32,.sl 1 (l.length+1) (b.map D.bool)),(33,.i64 i)] ?_
    refine OD.idxSV (i:=i) rfl rfl (by kernel_rfl) (by omega) (by omega) ?_
    refine OD.rE 0 [(1,.vI l),(2,.sl 1 (l.length+1) (b.map D.bool)),(3,.loc 0 0),(7,.row 1 0 (l.length+1) (l.length+1)),(8,.i64 i),(29,.row 1 0 (l.length+1) (l.length+1)),(30,.i64 i),(31,.i64 ((i+1:Nat):Int)),(34,.ep 1 (l.length+1) (b.map D.bool) i)] ?_
    refine OD.ldSV false (f:=D.bool) (xs:=b) rfl (by kernel_rfl) (by first | omega | (simp<;>omega)) ?_
    refine OD.rE 1 [(1,.vI l),(2,.sl 1 (l.length+1) (b.map D.bool)),(3,.loc 0 0),(7,.row 1 0 (l.length+1) (l.length+1)),(8,.i64 i),(29,.row 1 0 (l.length+1) (l.length+1)),(30,.i64 i),(31,.i64 ((i+1:Nat):Int)),(36,.bool (b.getD i false))] ?_
    refine OD.ifB 36 rfl (fun h3=>?_) (fun h3=>?_)
    ·
     refine OD.rE 3 [(1,.vI l),(2,.sl 1 (l.length+1) (b.map D.bool)),(3,.loc 0 0),(7,.row 1 0 (l.length+1) (l.length+1)),(8,.i64 i),(29,.row 1 0 (l.length+1) (l.length+1)),(30,.i64 i),(31,.i64 ((i+1:Nat):Int)),(36,.bool true),(37,.agg (cN k set no kids mn mx)),(38,.vI l),(39,.i64 i)] ?_
     refine OD.guard rfl rfl ?_
     refine OD.idxSV (i:=i) rfl rfl (by kernel_rfl) (by omega) (by omega) ?_
     refine OD.rE 0 [(1,.vI l),(2,.sl 1 (l.length+1) (b.map D.bool)),(3,.loc 0 0),(7,.row 1 0 (l.length+1) (l.length+1)),(8,.i64 i),(29,.row 1 0 (l.length+1) (l.length+1)),(30,.i64 i),(31,.i64 ((i+1:Nat):Int)),(36,.bool true),(37,.agg (cN k set no kids mn mx)),(40,.ep 1 l.length (l.map (D.int .i32)) i)] ?_
     refine OD.guard rfl rfl ?_
     refine OD.ldSV 0 (f:=(D.int .i32)) (xs:=l) rfl (by kernel_rfl) (by first | omega | (simp<;>omega)) ?_
     refine OD.rE 0 [(1,.vI l),(2,.sl 1 (l.length+1) (b.map D.bool)),(3,.loc 0 0),(7,.row 1 0 (l.length+1) (l.length+1)),(8,.i64 i),(29,.row 1 0 (l.length+1) (l.length+1)),(30,.i64 i),(31,.i64 ((i+1:Nat):Int)),(36,.bool true),(37,.agg (cN k set no kids mn mx)),(41,.int .i32 (l.getD i 0))] ?_
     refine OD.guard rfl rfl ?_
     refine OD.cE (XLU set no (X0G kids) kids.length k mn mx (l.getD i 0) hf1) ?_
     refine OD.rE 1 [(1,.vI l),(2,.sl 1 (l.length+1) (b.map D.bool)),(3,.loc 0 0),(7,.row 1 0 (l.length+1) (l.length+1)),(8,.i64 i),(29,.row 1 0 (l.length+1) (l.length+1)),(30,.i64 i),(31,.i64 ((i+1:Nat):Int)),(43,.bool (X2L set no (l.getD i 0)))] ?_
     refine OD.idxV (i:=(i+1)) rfl rfl (by kernel_rfl) (by omega) (by omega) ?_
     refine OD.rE 0 [(1,.vI l),(2,.sl 1 (l.length+1) (b.map D.bool)),(3,.loc 0 0),(7,.row 1 0 (l.length+1) (l.length+1)),(8,.i64 i),(29,.row 1 0 (l.length+1) (l.length+1)),(30,.i64 i),(31,.i64 ((i+1:Nat):Int)),(43,.bool (X2L set no (l.getD i 0))),(44,.loc 1 (i+1))] ?_
     refine OD.stV D.bool (X2L set no (l.getD i 0)) (xs:=out) rfl rfl rfl rfl rfl (by kernel_rfl) (by first | omega | (simp<;>omega)) ?_
     refine OD.rE 0 [(1,.vI l),(2,.sl 1 (l.length+1) (b.map D.bool)),(3,.loc 0 0),(7,.row 1 0 (l.length+1) (l.length+1)),(8,.i64 i),(29,.row 1 0 (l.length+1) (l.length+1)),(30,.i64 i),(31,.i64 ((i+1:Nat):Int))] ?_
     refine OD.nil ⟨by kernel_rfl,?_⟩
     refine CD.region ?_
     refine OD.rE 2 [(1,.vI l),(2,.sl 1 (l.length+1) (b.map D.bool)),(3,.loc 0 0),(7,.row 1 0 (l.length+1) (l.length+1)),(28,.i64 (X08 .i64 (((i:Nat):Int)+1)))] ?_
     refine OD.is 28 rfl (wrn (m:=i+1) (by omega) (by omega)) ?_
     refine OD.rE 1 [(1,.vI l),(2,.sl 1 (l.length+1) (b.map D.bool)),(3,.loc 0 0),(7,.row 1 0 (l.length+1) (l.length+1)),(8,.i64 ((i+1:Nat):Int))] ?_
     refine OD.nil ?_
     exact⟨_,by omega,i+1,(out.set (i+1) (X2L set no (l.getD i 0))),(by kernel_rfl),by omega,by rw [List.length_set];exact ho,X60 hr (by omega) (by rw [X96 (by omega),h3];rfl),rfl⟩
    ·
     refine OD.rE 7 [(1,.vI l),(2,.sl 1 (l.length+1) (b.map D.bool)),(3,.loc 0 0),(7,.row 1 0 (l.length+1) (l.length+1)),(8,.i64 i),(29,.row 1 0 (l.length+1) (l.length+1)),(30,.i64 i),(31,.i64 ((i+1:Nat):Int)),(43,.bool false)] ?_
     refine OD.idxV (i:=(i+1)) rfl rfl (by kernel_rfl) (by omega) (by omega) ?_
     refine OD.rE 0 [(1,.vI l),(2,.sl 1 (l.length+1) (b.map D.bool)),(3,.loc 0 0),(7,.row 1 0 (l.length+1) (l.length+1)),(8,.i64 i),(29,.row 1 0 (l.length+1) (l.length+1)),(30,.i64 i),(31,.i64 ((i+1:Nat):Int)),(43,.bool false),(44,.loc 1 (i+1))] ?_
     refine OD.stV D.bool false (xs:=out) rfl rfl rfl rfl rfl (by kernel_rfl) (by first | omega | (simp<;>omega)) ?_
     refine OD.rE 0 [(1,.vI l),(2,.sl 1 (l.length+1) (b.map D.bool)),(3,.loc 0 0),(7,.row 1 0 (l.length+1) (l.length+1)),(8,.i64 i),(29,.row 1 0 (l.length+1) (l.length+1)),(30,.i64 i),(31,.i64 ((i+1:Nat):Int))] ?_
     refine OD.nil ⟨by kernel_rfl,?_⟩
     refine CD.region ?_
     refine OD.rE 2 [(1,.vI l),(2,.sl 1 (l.length+1) (b.map D.bool)),(3,.loc 0 0),(7,.row 1 0 (l.length+1) (l.length+1)),(28,.i64 (X08 .i64 (((i:Nat):Int)+1)))] ?_
     refine OD.is 28 rfl (wrn (m:=i+1) (by omega) (by omega)) ?_
     refine OD.rE 1 [(1,.vI l),(2,.sl 1 (l.length+1) (b.map D.bool)),(3,.loc 0 0),(7,.row 1 0 (l.length+1) (l.length+1)),(8,.i64 ((i+1:Nat):Int))] ?_
     refine OD.nil ?_
     exact⟨_,by omega,i+1,(out.set (i+1) false),(by kernel_rfl),by omega,by rw [List.length_set];exact ho,X60 hr (by omega) (by rw [X96 (by omega),h3];rfl),rfl⟩
   ·
    refine CD.exit ?_
    refine CD.seq (CD.region ?_)
    refine OD.rE 2 [(6,.row 1 0 (l.length+1) (l.length+1))] ?_
    refine OD.nil ?_
    refine CD.freeze 6 rfl rfl (Nat.le_refl _) ?_
    refine CD.ret ?_
    exact rP (.sl 1 (l.length+1) (out.map D.bool)) (by have e:i=l.length:=(by omega);subst e;rw [X1Z];simp only [h1,reduceIte];rw [XC4 hr ho (by simp [shift])])
  ·
   refine CD.seq (CD.region ?_)
   refine OD.rE 2 [(1,.vI l),(2,.sl 1 (l.length+1) (b.map D.bool)),(3,.loc 0 0),(7,.row 1 0 (l.length+1) (l.length+1)),(20,.i64 k),(45,.bool (decide ((k:Int)=6)))] ?_
   refine OD.nil ?_
   refine CD.condP rfl (fun h4=>?_) (fun h4=>?_)
   ·
    refine CD.region ?_
    refine OD.rE 2 [(7,.row 1 0 (l.length+1) (l.length+1)),(47,.row 1 0 (l.length+1) (l.length+1)),(48,.sl 1 (l.length+1) (b.map D.bool))] ?_
    refine OD.idxSV (i:=0) rfl rfl (by kernel_rfl) (by omega) (by omega) ?_
    refine OD.rE 0 [(7,.row 1 0 (l.length+1) (l.length+1)),(47,.row 1 0 (l.length+1) (l.length+1)),(49,.ep 1 (l.length+1) (b.map D.bool) 0)] ?_
    refine OD.ldSV false (f:=D.bool) (xs:=b) rfl (by kernel_rfl) (by first | omega | (simp<;>omega)) ?_
    refine OD.rE 0 [(7,.row 1 0 (l.length+1) (l.length+1)),(47,.row 1 0 (l.length+1) (l.length+1)),(50,.bool (b.getD 0 false))] ?_
    refine OD.idxV (i:=0) rfl rfl (by kernel_rfl) (by omega) (by omega) ?_
    refine OD.rE 0 [(7,.row 1 0 (l.length+1) (l.length+1)),(50,.bool (b.getD 0 false)),(51,.loc 1 0)] ?_
    refine OD.stV D.bool (b.getD 0 false) (xs:=(List.replicate (l.length+1) false)) rfl rfl rfl rfl rfl (by kernel_rfl) (by first | omega | (simp<;>omega)) ?_
    refine OD.rE 0 [(7,.row 1 0 (l.length+1) (l.length+1))] ?_
    refine OD.nil (CD.seq (CD.region ?_))
    refine OD.rE 2 [(6,.row 1 0 (l.length+1) (l.length+1))] ?_
    refine OD.nil ?_
    refine CD.freeze 6 rfl rfl (Nat.le_refl _) ?_
    refine CD.ret ?_
    exact rP (.sl 1 (l.length+1) (((List.replicate (l.length+1) false).set 0 (b.getD 0 false)).map D.bool)) (by rw [X1Z];simp only [h1,h4,reduceIte,Int.reduceEq]<;>rfl)
   ·
    refine CD.seq (CD.region ?_)
    refine OD.rE 2 [(1,.vI l),(2,.sl 1 (l.length+1) (b.map D.bool)),(3,.loc 0 0),(7,.row 1 0 (l.length+1) (l.length+1)),(20,.i64 k),(52,.bool (decide ((k:Int)=7)))] ?_
    refine OD.nil ?_
    refine CD.condP rfl (fun h5=>?_) (fun h5=>?_)
    ·
     refine CD.region ?_
     refine OD.rE 6 [(7,.row 1 0 (l.length+1) (l.length+1)),(54,.row 1 0 (l.length+1) (l.length+1)),(56,.i64 l.length),(57,.sl 1 (l.length+1) (b.map D.bool)),(59,.i64 l.length)] ?_
     refine OD.idxSV (i:=l.length) rfl rfl (by kernel_rfl) (by omega) (by omega) ?_
     refine OD.rE 0 [(7,.row 1 0 (l.length+1) (l.length+1)),(54,.row 1 0 (l.length+1) (l.length+1)),(56,.i64 l.length),(60,.ep 1 (l.length+1) (b.map D.bool) l.length)] ?_
     refine OD.ldSV false (f:=D.bool) (xs:=b) rfl (by kernel_rfl) (by first | omega | (simp<;>omega)) ?_
     refine OD.rE 0 [(7,.row 1 0 (l.length+1) (l.length+1)),(54,.row 1 0 (l.length+1) (l.length+1)),(56,.i64 l.length),(61,.bool (b.getD l.length false))] ?_
     refine OD.idxV (i:=l.length) rfl rfl (by kernel_rfl) (by omega) (by omega) ?_
     refine OD.rE 0 [(7,.row 1 0 (l.length+1) (l.length+1)),(61,.bool (b.getD l.length false)),(62,.loc 1 l.length)] ?_
     refine OD.stV D.bool (b.getD l.length false) (xs:=(List.replicate (l.length+1) false)) rfl rfl rfl rfl rfl (by kernel_rfl) (by first | omega | (simp<;>omega)) ?_
     refine OD.rE 0 [(7,.row 1 0 (l.length+1) (l.length+1))] ?_
     refine OD.nil (CD.seq (CD.region ?_))
     refine OD.rE 2 [(6,.row 1 0 (l.length+1) (l.length+1))] ?_
     refine OD.nil ?_
     refine CD.freeze 6 rfl rfl (Nat.le_refl _) ?_
     refine CD.ret ?_
     exact rP (.sl 1 (l.length+1) (((List.replicate (l.length+1) false).set l.length (b.getD l.length false)).map D.bool)) (by rw [X1Z];simp only [h1,h4,h5,reduceIte,Int.reduceEq]<;>rfl)
    ·
     refine CD.seq (CD.region ?_)
     refine OD.rE 2 [(1,.vI l),(2,.sl 1 (l.length+1) (b.map D.bool)),(3,.loc 0 0),(7,.row 1 0 (l.length+1) (l.length+1)),(20,.i64 k),(63,.bool (decide ((k:Int)=3)))] ?_
     refine OD.nil ?_
     refine CD.condP rfl (fun h6=>?_) (fun h6=>?_)
     ·
      refine CD.seq (CD.region ?_)
      refine OD.rE 2 [(1,.vI l),(3,.loc 0 0),(7,.sl 1 (l.length+1) (b.map D.bool))] ?_
      refine OD.nil (CD.seq (CD.region ?_))
      refine OD.rE 1 [(1,.vI l),(3,.loc 0 0),(7,.sl 1 (l.length+1) (b.map D.bool)),(9,.i64 0)] ?_
      refine OD.nil (CD.block ?_)
      refine CD.weak [1,3,7,9] 2 (E':=[(1,.vI l),(3,.loc 0 0),(7,.sl 1 (l.length+1) (b.map D.bool)),(9,.i64 0)]) (by kernel_rfl) (by simp [hg0]) (by kernel_rfl) ?_
      refine CD.loop (fun m σ=>∃ (i:Nat) (cur:List Bool),σ=⟨[(1,.vI l),(3,.loc 0 0),(7,.sl 1 (l.length+1) (cur.map D.bool)),(9,.i64 i)],[.box (cN k set no kids mn mx),.row 1 (l.length+1) ((List.replicate (l.length+1) false).map D.bool)]⟩∧(i≤kids.length)∧(cur.length=l.length+1)∧(X2M K14 l kids b=X2M K14 l (kids.drop i) cur)∧m=kids.length - i) (fun m σ hI=>?_) _ ⟨0,b,(by kernel_rfl),Nat.zero_le _,hb,rfl,rfl⟩
      obtain⟨i,cur,e,hi,hc,hr,hm⟩:=hI
      subst e hm
      refine CD.seq (CD.seq (CD.region ?_))
      refine OD.rE 5 [(1,.vI l),(3,.loc 0 0),(7,.sl 1 (l.length+1) (cur.map D.bool)),(9,.i64 i),(70,.bool (decide ((((i:Nat):Int):Int)<((kids.length:Nat):Int))))] ?_
      refine OD.nil ?_
      refine CD.condP rfl (fun h7=>?_) (fun h7=>?_)
      ·
       obtain⟨⟨k1,set1,no1,kids1,mn1,mx1⟩,hx,hd⟩:=nth (l:=kids) (i:=i) (by omega)
       refine CD.skip (CD.seq (CD.block (CD.region ?_)))
       refine OD.rE 3 [(1,.vI l),(3,.loc 0 0),(7,.sl 1 (l.length+1) (cur.map D.bool)),(9,.i64 i),(74,.sl 6 kids.length (X0G kids)),(75,.i64 i)] ?_
       refine OD.idx rfl rfl (by kernel_rfl) (by omega) (by omega) ?_
       refine OD.rE 0 [(1,.vI l),(3,.loc 0 0),(7,.sl 1 (l.length+1) (cur.map D.bool)),(9,.i64 i),(76,.ep 6 kids.length (X0G kids) ((((i:Nat):Int):Int).toNat*6))] ?_
       refine OD.ldA rfl (by kernel_rfl) (by kernel_rfl) (X4z hx) rfl (by decide) ?_
       refine OD.rE 2 [(1,.vI l),(3,.loc 0 0),(9,.i64 i),(77,.agg (cN k1 set1 no1 kids1 mn1 mx1)),(78,.vI l),(79,.sl 1 (l.length+1) (cur.map D.bool))] ?_
       refine OD.cE (ih k1 set1 no1 kids1 mn1 mx1 cur (X1T hs hx) (X20 hf hx) (X0D hl hx) hc) ?_
       refine OD.rE 1 [(1,.vI l),(3,.loc 0 0),(7,.sl 1 (l.length+1) ((X0B K14 l (.mk k1 set1 no1 kids1 mn1 mx1) cur).map D.bool)),(9,.i64 i)] ?_
       refine OD.nil (CD.region ?_)
       refine OD.rE 2 [(1,.vI l),(3,.loc 0 0),(7,.sl 1 (l.length+1) ((X0B K14 l (.mk k1 set1 no1 kids1 mn1 mx1) cur).map D.bool)),(72,.i64 (X08 .i64 (((i:Nat):Int)+1)))] ?_
       refine OD.is 72 rfl (wrn (m:=i+1) (by omega) (by omega)) ?_
       refine OD.rE 1 [(1,.vI l),(3,.loc 0 0),(7,.sl 1 (l.length+1) ((X0B K14 l (.mk k1 set1 no1 kids1 mn1 mx1) cur).map D.bool)),(9,.i64 ((i+1:Nat):Int))] ?_
       refine OD.nil ?_
       exact⟨_,by omega,i+1,(X0B K14 l (.mk k1 set1 no1 kids1 mn1 mx1) cur),(by kernel_rfl),by omega,X0l (X0D hl hx) hc,by rw [hr,hd,X2M],rfl⟩
      ·
       refine CD.exit ?_
       refine CD.seq (CD.region ?_)
       refine OD.rE 2 [(6,.sl 1 (l.length+1) (cur.map D.bool))] ?_
       refine OD.nil (CD.ret ?_)
       exact rP (.sl 1 (l.length+1) (cur.map D.bool)) (by rw [X1Z];simp only [h1,h4,h5,h6,reduceIte,Int.reduceEq];rw [hr,List.drop_eq_nil_of_le (by omega),X2M])
     ·
      refine CD.seq (CD.region ?_)
      refine OD.rE 2 [(1,.vI l),(2,.sl 1 (l.length+1) (b.map D.bool)),(3,.loc 0 0),(7,.row 1 0 (l.length+1) (l.length+1)),(20,.i64 k),(81,.bool (decide ((k:Int)=4)))] ?_
      refine OD.nil ?_
      refine CD.condP rfl (fun h8=>?_) (fun h8=>?_)
      ·
       refine CD.seq (CD.region ?_)
       refine OD.freeze 7 rfl rfl (Nat.le_refl _) ?_
       refine OD.rE 1 [(1,.vI l),(2,.sl 1 (l.length+1) (b.map D.bool)),(3,.loc 0 0),(7,.sl 1 (l.length+1) ((List.replicate (l.length+1) false).map D.bool)),(10,.i64 0)] ?_
       refine OD.nil (CD.block ?_)
       refine CD.weak [1,2,3,7,10] 2 (E':=[(1,.vI l),(2,.sl 1 (l.length+1) (b.map D.bool)),(3,.loc 0 0),(7,.sl 1 (l.length+1) ((List.replicate (l.length+1) false).map D.bool)),(10,.i64 0)]) (by kernel_rfl) (by simp [hg0]) (by kernel_rfl) ?_
       refine CD.loop (fun m σ=>∃ (i:Nat) (out:List Bool),σ=⟨[(1,.vI l),(2,.sl 1 (l.length+1) (b.map D.bool)),(3,.loc 0 0),(7,.sl 1 (l.length+1) (out.map D.bool)),(10,.i64 i)],[.box (cN k set no kids mn mx),.dead]⟩∧(i≤kids.length)∧(out.length=l.length+1)∧(X21 K14 l kids b (X1D l)=X21 K14 l (kids.drop i) b out)∧m=kids.length - i) (fun m σ hI=>?_) _ ⟨0,X1D l,(by kernel_rfl),Nat.zero_le _,by simp [X1D],rfl,rfl⟩
       obtain⟨i,out,e,hi,ho,hr,hm⟩:=hI
       subst e hm
       refine CD.seq (CD.seq (CD.region ?_))
       refine OD.rE 5 [(1,.vI l),(2,.sl 1 (l.length+1) (b.map D.bool)),(3,.loc 0 0),(7,.sl 1 (l.length+1) (out.map D.bool)),(10,.i64 i),(87,.bool (decide ((((i:Nat):Int):Int)<((kids.length:Nat):Int))))] ?_
       refine OD.nil ?_
       refine CD.condP rfl (fun h9=>?_) (fun h9=>?_)
       ·
        obtain⟨⟨k1,set1,no1,kids1,mn1,mx1⟩,hx,hd⟩:=nth (l:=kids) (i:=i) (by omega)
        refine CD.skip (CD.seq (CD.block (CD.region ?_)))
        refine OD.rE 4 [(1,.vI l),(2,.sl 1 (l.length+1) (b.map D.bool)),(3,.loc 0 0),(10,.i64 i),(90,.sl 1 (l.length+1) (out.map D.bool)),(92,.sl 6 kids.length (X0G kids)),(93,.i64 i)] ?_
        refine OD.idx rfl rfl (by kernel_rfl) (by omega) (by omega) ?_
        refine OD.rE 0 [(1,.vI l),(2,.sl 1 (l.length+1) (b.map D.bool)),(3,.loc 0 0),(10,.i64 i),(90,.sl 1 (l.length+1) (out.map D.bool)),(94,.ep 6 kids.length (X0G kids) ((((i:Nat):Int):Int).toNat*6))] ?_
        refine OD.ldA rfl (by kernel_rfl) (by kernel_rfl) (X4z hx) rfl (by decide) ?_
        refine OD.rE 2 [(1,.vI l),(2,.sl 1 (l.length+1) (b.map D.bool)),(3,.loc 0 0),(10,.i64 i),(90,.sl 1 (l.length+1) (out.map D.bool)),(95,.agg (cN k1 set1 no1 kids1 mn1 mx1)),(96,.vI l),(97,.sl 1 (l.length+1) (b.map D.bool))] ?_
        refine OD.cE (ih k1 set1 no1 kids1 mn1 mx1 b (X1T hs hx) (X20 hf hx) (X0D hl hx) hb) ?_
        refine OD.rE 0 [(1,.vI l),(2,.sl 1 (l.length+1) (b.map D.bool)),(3,.loc 0 0),(10,.i64 i),(90,.sl 1 (l.length+1) (out.map D.bool)),(98,.sl 1 (l.length+1) ((X0B K14 l (.mk k1 set1 no1 kids1 mn1 mx1) b).map D.bool))] ?_
        refine OD.cE (X8B out (X0B K14 l (.mk k1 set1 no1 kids1 mn1 mx1) b) (l.length+1) (by first | assumption | simp) (by first | assumption | exact X0l (X0D hl hx) (by assumption)) (by omega)) ?_
        refine OD.rE 1 [(1,.vI l),(2,.sl 1 (l.length+1) (b.map D.bool)),(3,.loc 0 0),(7,.sl 1 (l.length+1) ((Nfa.X2K out (X0B K14 l (.mk k1 set1 no1 kids1 mn1 mx1) b)).map D.bool)),(10,.i64 i)] ?_
        refine OD.nil (CD.region ?_)
        refine OD.rE 2 [(1,.vI l),(2,.sl 1 (l.length+1) (b.map D.bool)),(3,.loc 0 0),(7,.sl 1 (l.length+1) ((Nfa.X2K out (X0B K14 l (.mk k1 set1 no1 kids1 mn1 mx1) b)).map D.bool)),(89,.i64 (X08 .i64 (((i:Nat):Int)+1)))] ?_
        refine OD.is 89 rfl (wrn (m:=i+1) (by omega) (by omega)) ?_
        refine OD.rE 1 [(1,.vI l),(2,.sl 1 (l.length+1) (b.map D.bool)),(3,.loc 0 0),(7,.sl 1 (l.length+1) ((Nfa.X2K out (X0B K14 l (.mk k1 set1 no1 kids1 mn1 mx1) b)).map D.bool)),(10,.i64 ((i+1:Nat):Int))] ?_
        refine OD.nil ?_
        exact⟨_,by omega,i+1,Nfa.X2K out (X0B K14 l (.mk k1 set1 no1 kids1 mn1 mx1) b),(by kernel_rfl),by omega,by rw [Nfa.X2D (by rw [ho,X0l (X0D hl hx) hb])];exact ho,by rw [hr,hd,X21],rfl⟩
       ·
        refine CD.exit ?_
        refine CD.seq (CD.region ?_)
        refine OD.rE 2 [(6,.sl 1 (l.length+1) (out.map D.bool))] ?_
        refine OD.nil (CD.ret ?_)
        exact rP (.sl 1 (l.length+1) (out.map D.bool)) (by rw [X1Z];simp only [h1,h4,h5,h6,h8,reduceIte,Int.reduceEq];rw [hr,List.drop_eq_nil_of_le (by omega),X21])
      ·
       refine CD.seq (CD.region ?_)
       refine OD.rE 2 [(1,.vI l),(2,.sl 1 (l.length+1) (b.map D.bool)),(3,.loc 0 0),(7,.row 1 0 (l.length+1) (l.length+1)),(100,.bool (decide ((k:Int)=5)))] ?_
       refine OD.nil ?_
       refine CD.condP rfl (fun h10=>?_) (fun h10=>?_)
       ·
        have hk:0≤mn∧mn≤9∧mx≤9∧(mx = -1∨mn≤mx):=by subst h10;exact X51 hl
        obtain⟨⟨k1,set1,no1,kids1,mn1,mx1⟩,hx⟩:∃ x,kids[0]?=some x:=by subst h10;exact X89 hl
        have hk1:=(List.getElem?_eq_some_iff.1 hx).1
        refine CD.seq (CD.region ?_)
        refine OD.rE 2 [(1,.vI l),(3,.loc 0 0),(7,.row 1 0 (l.length+1) (l.length+1)),(11,.sl 1 (l.length+1) (b.map D.bool))] ?_
        refine OD.nil (CD.seq (CD.seq (CD.region ?_)))
        refine OD.rE 1 [(1,.vI l),(3,.loc 0 0),(7,.row 1 0 (l.length+1) (l.length+1)),(11,.sl 1 (l.length+1) (b.map D.bool)),(12,.i64 0)] ?_
        refine OD.nil (CD.block ?_)
        refine CD.weak [1,3,7,11,12] 2 (E':=[(1,.vI l),(3,.loc 0 0),(7,.row 1 0 (l.length+1) (l.length+1)),(11,.sl 1 (l.length+1) (b.map D.bool)),(12,.i64 0)]) (by kernel_rfl) (by simp [hg0]) (by kernel_rfl) ?_
        refine CD.loop (fun m σ=>∃ (i:Nat) (cur:List Bool),σ=⟨[(1,.vI l),(3,.loc 0 0),(7,.row 1 0 (l.length+1) (l.length+1)),(11,.sl 1 (l.length+1) (cur.map D.bool)),(12,.i64 i)],[.box (cN k set no kids mn mx),.row 1 (l.length+1) ((List.replicate (l.length+1) false).map D.bool)]⟩∧(i≤mn.toNat)∧(cur.length=l.length+1)∧(rep (X0B K14 l (.mk k1 set1 no1 kids1 mn1 mx1)) mn.toNat b=rep (X0B K14 l (.mk k1 set1 no1 kids1 mn1 mx1)) (mn.toNat - i) cur)∧m=mn.toNat - i) (fun m σ hI=>?_) _ ⟨0,b,(by kernel_rfl),Nat.zero_le _,hb,rfl,rfl⟩
        obtain⟨i,cur,e,hi,hc,hr,hm⟩:=hI
        subst e hm
        refine CD.seq (CD.seq (CD.region ?_))
        refine OD.rE 4 [(1,.vI l),(3,.loc 0 0),(7,.row 1 0 (l.length+1) (l.length+1)),(11,.sl 1 (l.length+1) (cur.map D.bool)),(12,.i64 i),(106,.bool (decide ((((i:Nat):Int):Int)<mn)))] ?_
        refine OD.nil ?_
        refine CD.condP rfl (fun h11=>?_) (fun h11=>?_)
        ·
         refine CD.skip (CD.seq (CD.block (CD.region ?_)))
         refine OD.rE 2 [(1,.vI l),(3,.loc 0 0),(7,.row 1 0 (l.length+1) (l.length+1)),(11,.sl 1 (l.length+1) (cur.map D.bool)),(12,.i64 i),(110,.sl 6 kids.length (X0G kids))] ?_
         refine OD.idx rfl rfl (by kernel_rfl) (by omega) (by omega) ?_
         refine OD.rE 0 [(1,.vI l),(3,.loc 0 0),(7,.row 1 0 (l.length+1) (l.length+1)),(11,.sl 1 (l.length+1) (cur.map D.bool)),(12,.i64 i),(111,.ep 6 kids.length (X0G kids) ((0:Int).toNat*6))] ?_
         refine OD.ldA rfl (by kernel_rfl) (by kernel_rfl) (X4z hx) rfl (by decide) ?_
         refine OD.rE 2 [(1,.vI l),(3,.loc 0 0),(7,.row 1 0 (l.length+1) (l.length+1)),(12,.i64 i),(112,.agg (cN k1 set1 no1 kids1 mn1 mx1)),(113,.vI l),(114,.sl 1 (l.length+1) (cur.map D.bool))] ?_
         refine OD.cE (ih k1 set1 no1 kids1 mn1 mx1 cur (X1T hs hx) (X20 hf hx) (X0D hl hx) hc) ?_
         refine OD.rE 1 [(1,.vI l),(3,.loc 0 0),(7,.row 1 0 (l.length+1) (l.length+1)),(11,.sl 1 (l.length+1) ((X0B K14 l (.mk k1 set1 no1 kids1 mn1 mx1) cur).map D.bool)),(12,.i64 i)] ?_
         refine OD.nil (CD.region ?_)
         refine OD.rE 2 [(1,.vI l),(3,.loc 0 0),(7,.row 1 0 (l.length+1) (l.length+1)),(11,.sl 1 (l.length+1) ((X0B K14 l (.mk k1 set1 no1 kids1 mn1 mx1) cur).map D.bool)),(108,.i64 (X08 .i64 (((i:Nat):Int)+1)))] ?_
         refine OD.is 108 rfl (wrn (m:=i+1) (by omega) (by omega)) ?_
         refine OD.rE 1 [(1,.vI l),(3,.loc 0 0),(7,.row 1 0 (l.length+1) (l.length+1)),(11,.sl 1 (l.length+1) ((X0B K14 l (.mk k1 set1 no1 kids1 mn1 mx1) cur).map D.bool)),(12,.i64 ((i+1:Nat):Int))] ?_
         refine OD.nil ?_
         exact⟨_,by omega,i+1,(X0B K14 l (.mk k1 set1 no1 kids1 mn1 mx1) cur),(by kernel_rfl),by omega,X0l (X0D hl hx) hc,by rw [hr,show mn.toNat - i=(mn.toNat - (i+1))+1 by omega,rep],rfl⟩
        ·
         refine CD.exit ?_
         refine CD.seq (CD.region ?_)
         refine OD.freeze 7 rfl rfl (Nat.le_refl _) ?_
         refine OD.rE 2 [(1,.vI l),(3,.loc 0 0),(11,.sl 1 (l.length+1) (cur.map D.bool)),(116,.sl 1 (l.length+1) ((List.replicate (l.length+1) false).map D.bool)),(117,.sl 1 (l.length+1) (cur.map D.bool))] ?_
         refine OD.cE (X8B (List.replicate (l.length+1) false) cur (l.length+1) (by first | assumption | simp) (by first | assumption | exact X0l (X0D hl hx) (by assumption)) (by omega)) ?_
         refine OD.rE 1 [(1,.vI l),(3,.loc 0 0),(7,.sl 1 (l.length+1) ((Nfa.X2K (List.replicate (l.length+1) false) cur).map D.bool)),(11,.sl 1 (l.length+1) (cur.map D.bool))] ?_
         refine OD.nil (CD.seq (CD.region ?_))
         refine OD.rE 3 [(1,.vI l),(3,.loc 0 0),(7,.sl 1 (l.length+1) ((Nfa.X2K (List.replicate (l.length+1) false) cur).map D.bool)),(11,.sl 1 (l.length+1) (cur.map D.bool)),(13,.i64 mn)] ?_
         refine OD.nil (CD.block ?_)
         refine CD.weak [1,3,7,11,13] 2 (E':=[(1,.vI l),(3,.loc 0 0),(7,.sl 1 (l.length+1) ((Nfa.X2K (List.replicate (l.length+1) false) cur).map D.bool)),(11,.sl 1 (l.length+1) (cur.map D.bool)),(13,.i64 mn)]) (by kernel_rfl) (by simp [hg0]) (by kernel_rfl) ?_
         refine CD.loop (fun m σ=>∃ (p:Int) (fu:Nat) (x:List Bool) (out:List Bool),σ=⟨[(1,.vI l),(3,.loc 0 0),(7,.sl 1 (l.length+1) (out.map D.bool)),(11,.sl 1 (l.length+1) (x.map D.bool)),(13,.i64 p)],[.box (cN k set no kids mn mx),.dead]⟩∧(p=mn+(l.length+2) - fu)∧(fu≤l.length+2)∧(x.length=l.length+1)∧(out.length=l.length+1)∧(l.length+2≤fu+XKw out)∧(grow (X0B K14 l (.mk k1 set1 no1 kids1 mn1 mx1)) mx (l.length+2) mn cur (Nfa.X2K (X1D l) cur)=grow (X0B K14 l (.mk k1 set1 no1 kids1 mn1 mx1)) mx fu p x out)∧m=fu+l.length) (fun m σ hI=>?_) _ ⟨mn,l.length+2,cur,Nfa.X2K (X1D l) cur,(by kernel_rfl),by omega,by omega,hc,by rw [Nfa.X2D (by rw [hc];simp [X1D])];simp [X1D],by omega,rfl,rfl⟩
         obtain⟨p,fu,x,out,e,hp,hfu,hxl,ho,hcnt,hr2,hm⟩:=hI
         subst e hm
         have hcl:=XEJ out
         refine CD.seq (CD.seq (CD.region ?_))
         refine OD.rE 4 [(1,.vI l),(3,.loc 0 0),(7,.sl 1 (l.length+1) (out.map D.bool)),(11,.sl 1 (l.length+1) (x.map D.bool)),(13,.i64 p),(124,.bool (decide ((mx:Int)<0)))] ?_
         refine OD.ifP 124 rfl (fun h12=>?_) (fun h12=>?_)
         ·
          refine OD.rE 5 [(1,.vI l),(3,.loc 0 0),(7,.sl 1 (l.length+1) (out.map D.bool)),(11,.sl 1 (l.length+1) (x.map D.bool)),(13,.i64 p),(129,.bool true)] ?_
          refine OD.nil ?_
          refine CD.condT rfl ?_
          refine CD.skip (CD.seq (CD.block (CD.seq (CD.region ?_))))
          refine OD.rE 2 [(1,.vI l),(3,.loc 0 0),(7,.sl 1 (l.length+1) (out.map D.bool)),(11,.sl 1 (l.length+1) (x.map D.bool)),(13,.i64 p),(133,.sl 6 kids.length (X0G kids))] ?_
          refine OD.idx rfl rfl (by kernel_rfl) (by omega) (by omega) ?_
          refine OD.rE 0 [(1,.vI l),(3,.loc 0 0),(7,.sl 1 (l.length+1) (out.map D.bool)),(11,.sl 1 (l.length+1) (x.map D.bool)),(13,.i64 p),(134,.ep 6 kids.length (X0G kids) ((0:Int).toNat*6))] ?_
          refine OD.ldA rfl (by kernel_rfl) (by kernel_rfl) (X4z hx) rfl (by decide) ?_
          refine OD.rE 2 [(1,.vI l),(3,.loc 0 0),(7,.sl 1 (l.length+1) (out.map D.bool)),(13,.i64 p),(135,.agg (cN k1 set1 no1 kids1 mn1 mx1)),(136,.vI l),(137,.sl 1 (l.length+1) (x.map D.bool))] ?_
          refine OD.cE (ih k1 set1 no1 kids1 mn1 mx1 x (X1T hs hx) (X20 hf hx) (X0D hl hx) (by assumption)) ?_
          refine OD.rE 1 [(1,.vI l),(3,.loc 0 0),(7,.sl 1 (l.length+1) (out.map D.bool)),(11,.sl 1 (l.length+1) ((X0B K14 l (.mk k1 set1 no1 kids1 mn1 mx1) x).map D.bool)),(13,.i64 p)] ?_
          refine OD.nil (CD.seq (CD.region ?_))
          refine OD.rE 2 [(1,.vI l),(3,.loc 0 0),(7,.sl 1 (l.length+1) (out.map D.bool)),(11,.sl 1 (l.length+1) ((X0B K14 l (.mk k1 set1 no1 kids1 mn1 mx1) x).map D.bool)),(13,.i64 p),(139,.sl 1 (l.length+1) (out.map D.bool)),(140,.sl 1 (l.length+1) ((X0B K14 l (.mk k1 set1 no1 kids1 mn1 mx1) x).map D.bool))] ?_
          refine OD.cE (X8B out (X0B K14 l (.mk k1 set1 no1 kids1 mn1 mx1) x) (l.length+1) (by first | assumption | simp) (by first | assumption | exact X0l (X0D hl hx) (by assumption)) (by omega)) ?_
          refine OD.rE 1 [(1,.vI l),(3,.loc 0 0),(7,.sl 1 (l.length+1) (out.map D.bool)),(11,.sl 1 (l.length+1) ((X0B K14 l (.mk k1 set1 no1 kids1 mn1 mx1) x).map D.bool)),(13,.i64 p),(14,.sl 1 (l.length+1) ((Nfa.X2K out (X0B K14 l (.mk k1 set1 no1 kids1 mn1 mx1) x)).map D.bool))] ?_
          refine OD.nil (CD.seq (CD.seq (CD.region ?_)))
          refine OD.rE 2 [(1,.vI l),(3,.loc 0 0),(7,.sl 1 (l.length+1) (out.map D.bool)),(11,.sl 1 (l.length+1) ((X0B K14 l (.mk k1 set1 no1 kids1 mn1 mx1) x).map D.bool)),(13,.i64 p),(14,.sl 1 (l.length+1) ((Nfa.X2K out (X0B K14 l (.mk k1 set1 no1 kids1 mn1 mx1) x)).map D.bool)),(142,.sl 1 (l.length+1) ((Nfa.X2K out (X0B K14 l (.mk k1 set1 no1 kids1 mn1 mx1) x)).map D.bool)),(143,.sl 1 (l.length+1) (out.map D.bool))] ?_
          refine OD.cE (XDk (Nfa.X2K out (X0B K14 l (.mk k1 set1 no1 kids1 mn1 mx1) x)) out (l.length+1) (by first | assumption | (rw [Nfa.X2D (by rw [ho,X0l (X0D hl hx) (by assumption)])];exact ho)) (by assumption) (by omega)) ?_
          refine OD.rE 0 [(1,.vI l),(3,.loc 0 0),(7,.sl 1 (l.length+1) (out.map D.bool)),(11,.sl 1 (l.length+1) ((X0B K14 l (.mk k1 set1 no1 kids1 mn1 mx1) x).map D.bool)),(13,.i64 p),(14,.sl 1 (l.length+1) ((Nfa.X2K out (X0B K14 l (.mk k1 set1 no1 kids1 mn1 mx1) x)).map D.bool)),(144,.bool (decide (Nfa.X2K out (X0B K14 l (.mk k1 set1 no1 kids1 mn1 mx1) x)=out)))] ?_
          refine OD.nil ?_
          refine CD.condP rfl (fun h13=>?_) (fun h13=>?_)
          ·
           refine CD.exit ?_
           refine CD.seq (CD.region ?_)
           refine OD.rE 2 [(6,.sl 1 (l.length+1) (out.map D.bool))] ?_
           refine OD.nil (CD.ret ?_)
           exact rP (.sl 1 (l.length+1) (out.map D.bool)) (by rw [X1Z];simp only [h1,h4,h5,h6,h8,h10,reduceIte,Int.reduceEq];rw [X52 hx,hr,show mn.toNat - i=0 by omega,rep,hr2,X97 (by omega) (by omega) h13])
          ·
           refine CD.skip (CD.region ?_)
           refine OD.rE 2 [(1,.vI l),(3,.loc 0 0),(7,.sl 1 (l.length+1) ((Nfa.X2K out (X0B K14 l (.mk k1 set1 no1 kids1 mn1 mx1) x)).map D.bool)),(11,.sl 1 (l.length+1) ((X0B K14 l (.mk k1 set1 no1 kids1 mn1 mx1) x).map D.bool)),(13,.i64 p)] ?_
           refine OD.nil (CD.region ?_)
           refine OD.rE 2 [(1,.vI l),(3,.loc 0 0),(7,.sl 1 (l.length+1) ((Nfa.X2K out (X0B K14 l (.mk k1 set1 no1 kids1 mn1 mx1) x)).map D.bool)),(11,.sl 1 (l.length+1) ((X0B K14 l (.mk k1 set1 no1 kids1 mn1 mx1) x).map D.bool)),(131,.i64 (X08 .i64 (p+1)))] ?_
           refine OD.is 131 rfl (X3z (by omega) (by omega)) ?_
           refine OD.rE 1 [(1,.vI l),(3,.loc 0 0),(7,.sl 1 (l.length+1) ((Nfa.X2K out (X0B K14 l (.mk k1 set1 no1 kids1 mn1 mx1) x)).map D.bool)),(11,.sl 1 (l.length+1) ((X0B K14 l (.mk k1 set1 no1 kids1 mn1 mx1) x).map D.bool)),(13,.i64 (p+1))] ?_
           refine OD.nil ?_
           exact⟨_,by omega,p+1,fu - 1,(X0B K14 l (.mk k1 set1 no1 kids1 mn1 mx1) x),Nfa.X2K out (X0B K14 l (.mk k1 set1 no1 kids1 mn1 mx1) x),(by kernel_rfl),by omega,by omega,X0l (X0D hl hx) hxl,by rw [Nfa.X2D (by rw [ho,X0l (X0D hl hx) hxl])];exact ho,by have:=X59 (a:=out) (b:=X0B K14 l (.mk k1 set1 no1 kids1 mn1 mx1) x) (by rw [ho,X0l (X0D hl hx) hxl]) h13;omega,by rw [hr2];exact XDf (by omega) (by omega) h13,rfl⟩
         ·
          refine OD.rE 5 [(1,.vI l),(3,.loc 0 0),(7,.sl 1 (l.length+1) (out.map D.bool)),(11,.sl 1 (l.length+1) (x.map D.bool)),(13,.i64 p),(129,.bool (decide ((p:Int)<mx)))] ?_
          refine OD.nil ?_
          refine CD.condP rfl (fun h14=>?_) (fun h14=>?_)
          ·
           refine CD.skip (CD.seq (CD.block (CD.seq (CD.region ?_))))
           refine OD.rE 2 [(1,.vI l),(3,.loc 0 0),(7,.sl 1 (l.length+1) (out.map D.bool)),(11,.sl 1 (l.length+1) (x.map D.bool)),(13,.i64 p),(133,.sl 6 kids.length (X0G kids))] ?_
           refine OD.idx rfl rfl (by kernel_rfl) (by omega) (by omega) ?_
           refine OD.rE 0 [(1,.vI l),(3,.loc 0 0),(7,.sl 1 (l.length+1) (out.map D.bool)),(11,.sl 1 (l.length+1) (x.map D.bool)),(13,.i64 p),(134,.ep 6 kids.length (X0G kids) ((0:Int).toNat*6))] ?_
           refine OD.ldA rfl (by kernel_rfl) (by kernel_rfl) (X4z hx) rfl (by decide) ?_
           refine OD.rE 2 [(1,.vI l),(3,.loc 0 0),(7,.sl 1 (l.length+1) (out.map D.bool)),(13,.i64 p),(135,.agg (cN k1 set1 no1 kids1 mn1 mx1)),(136,.vI l),(137,.sl 1 (l.length+1) (x.map D.bool))] ?_
           refine OD.cE (ih k1 set1 no1 kids1 mn1 mx1 x (X1T hs hx) (X20 hf hx) (X0D hl hx) (by assumption)) ?_
           refine OD.rE 1 [(1,.vI l),(3,.loc 0 0),(7,.sl 1 (l.length+1) (out.map D.bool)),(11,.sl 1 (l.length+1) ((X0B K14 l (.mk k1 set1 no1 kids1 mn1 mx1) x).map D.bool)),(13,.i64 p)] ?_
           refine OD.nil (CD.seq (CD.region ?_))
           refine OD.rE 2 [(1,.vI l),(3,.loc 0 0),(7,.sl 1 (l.length+1) (out.map D.bool)),(11,.sl 1 (l.length+1) ((X0B K14 l (.mk k1 set1 no1 kids1 mn1 mx1) x).map D.bool)),(13,.i64 p),(139,.sl 1 (l.length+1) (out.map D.bool)),(140,.sl 1 (l.length+1) ((X0B K14 l (.mk k1 set1 no1 kids1 mn1 mx1) x).map D.bool))] ?_
           refine OD.cE (X8B out (X0B K14 l (.mk k1 set1 no1 kids1 mn1 mx1) x) (l.length+1) (by first | assumption | simp) (by first | assumption | exact X0l (X0D hl hx) (by assumption)) (by omega)) ?_
           refine OD.rE 1 [(1,.vI l),(3,.loc 0 0),(7,.sl 1 (l.length+1) (out.map D.bool)),(11,.sl 1 (l.length+1) ((X0B K14 l (.mk k1 set1 no1 kids1 mn1 mx1) x).map D.bool)),(13,.i64 p),(14,.sl 1 (l.length+1) ((Nfa.X2K out (X0B K14 l (.mk k1 set1 no1 kids1 mn1 mx1) x)).map D.bool))] ?_
           refine OD.nil (CD.seq (CD.seq (CD.region ?_)))
           refine OD.rE 2 [(1,.vI l),(3,.loc 0 0),(7,.sl 1 (l.length+1) (out.map D.bool)),(11,.sl 1 (l.length+1) ((X0B K14 l (.mk k1 set1 no1 kids1 mn1 mx1) x).map D.bool)),(13,.i64 p),(14,.sl 1 (l.length+1) ((Nfa.X2K out (X0B K14 l (.mk k1 set1 no1 kids1 mn1 mx1) x)).map D.bool)),(142,.sl 1 (l.length+1) ((Nfa.X2K out (X0B K14 l (.mk k1 set1 no1 kids1 mn1 mx1) x)).map D.bool)),(143,.sl 1 (l.length+1) (out.map D.bool))] ?_
           refine OD.cE (XDk (Nfa.X2K out (X0B K14 l (.mk k1 set1 no1 kids1 mn1 mx1) x)) out (l.length+1) (by first | assumption | (rw [Nfa.X2D (by rw [ho,X0l (X0D hl hx) (by assumption)])];exact ho)) (by assumption) (by omega)) ?_
           refine OD.rE 0 [(1,.vI l),(3,.loc 0 0),(7,.sl 1 (l.length+1) (out.map D.bool)),(11,.sl 1 (l.length+1) ((X0B K14 l (.mk k1 set1 no1 kids1 mn1 mx1) x).map D.bool)),(13,.i64 p),(14,.sl 1 (l.length+1) ((Nfa.X2K out (X0B K14 l (.mk k1 set1 no1 kids1 mn1 mx1) x)).map D.bool)),(144,.bool (decide (Nfa.X2K out (X0B K14 l (.mk k1 set1 no1 kids1 mn1 mx1) x)=out)))] ?_
           refine OD.nil ?_
           refine CD.condP rfl (fun h15=>?_) (fun h15=>?_)
           ·
            refine CD.exit ?_
            refine CD.seq (CD.region ?_)
            refine OD.rE 2 [(6,.sl 1 (l.length+1) (out.map D.bool))] ?_
            refine OD.nil (CD.ret ?_)
            exact rP (.sl 1 (l.length+1) (out.map D.bool)) (by rw [X1Z];simp only [h1,h4,h5,h6,h8,h10,reduceIte,Int.reduceEq];rw [X52 hx,hr,show mn.toNat - i=0 by omega,rep,hr2,X97 (by omega) (by omega) h15])
           ·
            refine CD.skip (CD.region ?_)
            refine OD.rE 2 [(1,.vI l),(3,.loc 0 0),(7,.sl 1 (l.length+1) ((Nfa.X2K out (X0B K14 l (.mk k1 set1 no1 kids1 mn1 mx1) x)).map D.bool)),(11,.sl 1 (l.length+1) ((X0B K14 l (.mk k1 set1 no1 kids1 mn1 mx1) x).map D.bool)),(13,.i64 p)] ?_
            refine OD.nil (CD.region ?_)
            refine OD.rE 2 [(1,.vI l),(3,.loc 0 0),(7,.sl 1 (l.length+1) ((Nfa.X2K out (X0B K14 l (.mk k1 set1 no1 kids1 mn1 mx1) x)).map D.bool)),(11,.sl 1 (l.length+1) ((X0B K14 l (.mk k1 set1 no1 kids1 mn1 mx1) x).map D.bool)),(131,.i64 (X08 .i64 (p+1)))] ?_
            refine OD.is 131 rfl (X3z (by omega) (by omega)) ?_
            refine OD.rE 1 [(1,.vI l),(3,.loc 0 0),(7,.sl 1 (l.length+1) ((Nfa.X2K out (X0B K14 l (.mk k1 set1 no1 kids1 mn1 mx1) x)).map D.bool)),(11,.sl 1 (l.length+1) ((X0B K14 l (.mk k1 set1 no1 kids1 mn1 mx1) x).map D.bool)),(13,.i64 (p+1))] ?_
            refine OD.nil ?_
            exact⟨_,by omega,p+1,fu - 1,(X0B K14 l (.mk k1 set1 no1 kids1 mn1 mx1) x),Nfa.X2K out (X0B K14 l (.mk k1 set1 no1 kids1 mn1 mx1) x),(by kernel_rfl),by omega,by omega,X0l (X0D hl hx) hxl,by rw [Nfa.X2D (by rw [ho,X0l (X0D hl hx) hxl])];exact ho,by have:=X59 (a:=out) (b:=X0B K14 l (.mk k1 set1 no1 kids1 mn1 mx1) x) (by rw [ho,X0l (X0D hl hx) hxl]) h15;omega,by rw [hr2];exact XDf (by omega) (by omega) h15,rfl⟩
          ·
           refine CD.exit ?_
           refine CD.seq (CD.region ?_)
           refine OD.rE 2 [(6,.sl 1 (l.length+1) (out.map D.bool))] ?_
           refine OD.nil (CD.ret ?_)
           exact rP (.sl 1 (l.length+1) (out.map D.bool)) (by rw [X1Z];simp only [h1,h4,h5,h6,h8,h10,reduceIte,Int.reduceEq];rw [X52 hx,hr,show mn.toNat - i=0 by omega,rep,hr2,XDe (by omega)])
       ·
        refine CD.skip (CD.seq (CD.region ?_))
        refine OD.rE 2 [(6,.row 1 0 (l.length+1) (l.length+1))] ?_
        refine OD.nil ?_
        refine CD.freeze 6 rfl rfl (Nat.le_refl _) ?_
        refine CD.ret ?_
        exact rP (.sl 1 (l.length+1) ((List.replicate (l.length+1) false).map D.bool)) (by rw [X1Z];simp only [h1,h4,h5,h6,h8,h10,reduceIte,Int.reduceEq]<;>rfl)
end
end Go.Proofs.YtfcadnhoejlgoaaGreatDoor
set_option maxRecDepth 100000
set_option maxHeartbeats 4000000
namespace Go.Proofs.YtfcadnhoejlgoaaGreatDoor
open Go.Vai Go.Nfa
noncomputable section
theorem XGX (k:Int) (set:List (Int×Int)) (no:Bool) (kids:List Nd) (mn mx:Int) (l:List Int) (at_:Int) (hf:fit (.mk k set no kids mn mx)) (hl:X0H X18 (.mk k set no kids mn mx)) (hl0:l.length<10000000):X1G P ov 38 [.agg [.i64 k,.sl 2 set.length (set.flatMap X0I),.bool no,.sl 6 kids.length (X0G kids),.i64 mn,.i64 mx],.sl 1 l.length (l.map (D.int .i32)),.i64 at_] (.sl 1 ((X0T l (.mk k set no kids mn mx) at_).length) ((X0T l (.mk k set no kids mn mx) at_).map X0i)):=by
 refine FnD.intro (by kernel_rfl) (fn:=Tryz.f38) (by kernel_rfl) rfl (by kernel_rfl) fun M a0 g0 hg0=>?_
 refine CD.seq (CD.region ?_)
 refine OD.rL 2 [(1,.vI l),(2,.i64 at_),(3,.loc 0 0)] [.box (cN k set no kids mn mx)] ?_
 refine OD.nil (CD.seq (CD.seq (CD.region ?_)))
 refine OD.rE 3 [(1,.vI l),(2,.i64 at_),(3,.loc 0 0),(12,.bool (decide ((at_:Int)<0)))] ?_
 refine OD.ifP 12 rfl (fun h1=>?_) (fun h1=>?_)
 ·
  refine OD.rE 5 [(1,.vI l),(2,.i64 at_),(3,.loc 0 0),(17,.bool true)] ?_
  refine OD.nil ?_
  refine CD.condT rfl ?_
  refine CD.seq (CD.region ?_)
  refine OD.rE 1 [(6,.lit (.slice none 0 0))] ?_
  refine OD.nil ?_
  refine CD.nilSl 6 1 rfl ?_
  refine CD.ret ?_
  exact rP (.sl 1 0 (([]:List Nat).map X0i)) (by rw [X3W (by omega)];rfl)
 ·
  refine OD.rE 5 [(1,.vI l),(2,.i64 at_),(3,.loc 0 0),(17,.bool (decide ((((l.length:Nat):Int):Int)<at_)))] ?_
  refine OD.nil ?_
  refine CD.condP rfl (fun h2=>?_) (fun h2=>?_)
  ·
   refine CD.seq (CD.region ?_)
   refine OD.rE 1 [(6,.lit (.slice none 0 0))] ?_
   refine OD.nil ?_
   refine CD.nilSl 6 1 rfl ?_
   refine CD.ret ?_
   exact rP (.sl 1 0 (([]:List Nat).map X0i)) (by rw [X3W (by omega)];rfl)
  ·
   refine CD.skip (CD.seq (CD.region ?_))
   refine OD.rE 3 [(1,.vI l),(2,.i64 at_),(3,.loc 0 0),(20,.i64 (X08 .i64 (((l.length:Nat):Int)+1)))] ?_
   refine OD.is 20 rfl (wrn (m:=l.length+1) (by omega) (by omega)) ?_
   refine OD.rE 0 [(1,.vI l),(2,.i64 at_),(3,.loc 0 0),(20,.i64 ((l.length+1:Nat):Int))] ?_
   refine OD.mkV D.bool false (n:=(l.length+1)) (by_:=1) (by kernel_rfl) rfl rfl (by omega) (by omega) ?_
   refine OD.rE 1 [(1,.vI l),(2,.i64 at_),(3,.loc 0 0),(7,.row 1 0 (l.length+1) (l.length+1))] ?_
   refine OD.nil (CD.seq (CD.region ?_))
   refine OD.rE 2 [(1,.vI l),(3,.loc 0 0),(7,.row 1 0 (l.length+1) (l.length+1)),(22,.row 1 0 (l.length+1) (l.length+1)),(23,.i64 at_)] ?_
   refine OD.idxV (i:=at_.toNat) rfl rfl (by kernel_rfl) (by omega) (by omega) ?_
   refine OD.rE 0 [(1,.vI l),(3,.loc 0 0),(7,.row 1 0 (l.length+1) (l.length+1)),(24,.loc 1 at_.toNat)] ?_
   refine OD.stV D.bool true (xs:=(List.replicate (l.length+1) false)) rfl rfl rfl rfl rfl (by kernel_rfl) (by first | omega | (simp<;>omega)) ?_
   refine OD.rE 0 [(1,.vI l),(3,.loc 0 0),(7,.row 1 0 (l.length+1) (l.length+1))] ?_
   refine OD.nil (CD.seq (CD.region ?_))
   refine OD.freeze 7 rfl rfl (Nat.le_refl _) ?_
   refine OD.rE 3 [(25,.agg (cN k set no kids mn mx)),(26,.vI l),(27,.sl 1 (l.length+1) (((List.replicate (l.length+1) false).set at_.toNat true).map D.bool))] ?_
   refine OD.cE (X4L l hl0 _ k set no kids mn mx (only l at_.toNat) (Nat.le_refl _) hf hl X5r) ?_
   refine OD.rE 1 [(7,.sl 1 (l.length+1) ((X0B K14 l (.mk k set no kids mn mx) (only l at_.toNat)).map D.bool))] ?_
   refine OD.nil (CD.seq (CD.region ?_))
   refine OD.rE 1 [(7,.sl 1 (l.length+1) ((X0B K14 l (.mk k set no kids mn mx) (only l at_.toNat)).map D.bool)),(8,.lit (.slice none 0 0))] ?_
   refine OD.nilRow 8 1 rfl ?_
   refine OD.rE 0 [(7,.sl 1 (l.length+1) ((X0B K14 l (.mk k set no kids mn mx) (only l at_.toNat)).map D.bool)),(8,.row 2 0 0 0)] ?_
   refine OD.nil (CD.seq (CD.seq (CD.region ?_)))
   refine OD.rE 1 [(7,.sl 1 (l.length+1) ((X0B K14 l (.mk k set no kids mn mx) (only l at_.toNat)).map D.bool)),(8,.row 2 0 0 0),(9,.i64 0)] ?_
   refine OD.nil (CD.block ?_)
   refine CD.weak [7,8,9] 3 (E':=[(7,.sl 1 (l.length+1) ((X0B K14 l (.mk k set no kids mn mx) (only l at_.toNat)).map D.bool)),(8,.row 2 0 0 0),(9,.i64 0)]) (by kernel_rfl) (by simp [hg0]) (by kernel_rfl) ?_
   refine CD.loop (fun m σ=>∃ (i:Nat) (n:Nat) (out:List Nat),σ=⟨[(7,.sl 1 (l.length+1) ((X0B K14 l (.mk k set no kids mn mx) (only l at_.toNat)).map D.bool)),(8,.row 2 0 n n),(9,.i64 i)],[.box (cN k set no kids mn mx),.dead,.row 1 n (out.map X0i)]⟩∧(i≤l.length+1)∧(out.length=n)∧(n≤i)∧(out=(List.range i).filter fun j=>(X0B K14 l (.mk k set no kids mn mx) (only l at_.toNat)).getD j false)∧m=l.length+1 - i) (fun m σ hI=>?_) _ ⟨0,0,([]:List Nat),(by kernel_rfl),by omega,rfl,by omega,rfl,rfl⟩
   obtain⟨i,n,out,e,hi,hn,hni,hr,hm⟩:=hI
   subst e hm
   have hlf:=X0l (n:=(.mk k set no kids mn mx)) hl (X5r (l:=l) (i:=at_.toNat))
   refine CD.seq (CD.seq (CD.region ?_))
   refine OD.rE 4 [(7,.sl 1 (l.length+1) ((X0B K14 l (.mk k set no kids mn mx) (only l at_.toNat)).map D.bool)),(8,.row 2 0 n n),(9,.i64 i),(32,.bool (decide ((((i:Nat):Int):Int)<(((l.length+1):Nat):Int))))] ?_
   refine OD.nil ?_
   refine CD.condP rfl (fun h3=>?_) (fun h3=>?_)
   ·
    refine CD.skip (CD.seq (CD.block (CD.seq (CD.region ?_))))
    refine OD.rE 2 [(7,.sl 1 (l.length+1) ((X0B K14 l (.mk k set no kids mn mx) (only l at_.toNat)).map D.bool)),(8,.row 2 0 n n),(9,.i64 i),(35,.sl 1 (l.length+1) ((X0B K14 l (.mk k set no kids mn mx) (only l at_.toNat)).map D.bool)),(36,.i64 i)] ?_
    refine OD.idxSV (i:=i) rfl rfl (by kernel_rfl) (by omega) (by omega) ?_
    refine OD.rE 0 [(7,.sl 1 (l.length+1) ((X0B K14 l (.mk k set no kids mn mx) (only l at_.toNat)).map D.bool)),(8,.row 2 0 n n),(9,.i64 i),(37,.ep 1 (l.length+1) ((X0B K14 l (.mk k set no kids mn mx) (only l at_.toNat)).map D.bool) i)] ?_
    refine OD.ldSV false (f:=D.bool) (xs:=(X0B K14 l (.mk k set no kids mn mx) (only l at_.toNat))) rfl (by kernel_rfl) (by first | omega | (simp<;>omega)) ?_
    refine OD.rE 0 [(7,.sl 1 (l.length+1) ((X0B K14 l (.mk k set no kids mn mx) (only l at_.toNat)).map D.bool)),(8,.row 2 0 n n),(9,.i64 i),(38,.bool ((X0B K14 l (.mk k set no kids mn mx) (only l at_.toNat)).getD i false))] ?_
    refine OD.nil ?_
    refine CD.condB rfl (fun h4=>?_) (fun h4=>?_)
    ·
     refine CD.region ?_
     refine OD.rE 2 [(7,.sl 1 (l.length+1) ((X0B K14 l (.mk k set no kids mn mx) (only l at_.toNat)).map D.bool)),(9,.i64 i),(39,.row 2 0 n n),(40,.i64 i)] ?_
     refine OD.bsl (e:=1) (cs:=[.i64 i]) rfl (by kernel_rfl) ?_
     refine OD.rE 0 [(7,.sl 1 (l.length+1) ((X0B K14 l (.mk k set no kids mn mx) (only l at_.toNat)).map D.bool)),(9,.i64 i),(39,.row 2 0 n n),(41,.sl 1 1 [.i64 i])] ?_
     refine OD.appV (f:=X0i) (xs:=out) (vs:=[i]) rfl (by kernel_rfl) rfl rfl rfl rfl (by first | omega | (simp<;>omega)) (by decide) (by omega) ?_
     refine OD.rE 1 [(7,.sl 1 (l.length+1) ((X0B K14 l (.mk k set no kids mn mx) (only l at_.toNat)).map D.bool)),(8,.row 2 0 (n+1) (n+1)),(9,.i64 i)] ?_
     refine OD.nil (CD.region ?_)
     refine OD.rE 2 [(7,.sl 1 (l.length+1) ((X0B K14 l (.mk k set no kids mn mx) (only l at_.toNat)).map D.bool)),(8,.row 2 0 (n+1) (n+1)),(34,.i64 (X08 .i64 (((i:Nat):Int)+1)))] ?_
     refine OD.is 34 rfl (wrn (m:=i+1) (by omega) (by omega)) ?_
     refine OD.rE 1 [(7,.sl 1 (l.length+1) ((X0B K14 l (.mk k set no kids mn mx) (only l at_.toNat)).map D.bool)),(8,.row 2 0 (n+1) (n+1)),(9,.i64 ((i+1:Nat):Int))] ?_
     refine OD.nil ?_
     exact⟨_,by omega,i+1,n+1,(out++[i]),(by kernel_rfl),by omega,by first | exact hn | (rw [List.length_append,hn];rfl),by omega,by rw [X98,h4,hr];simp,rfl⟩
    ·
     refine CD.skip (CD.region ?_)
     refine OD.rE 2 [(7,.sl 1 (l.length+1) ((X0B K14 l (.mk k set no kids mn mx) (only l at_.toNat)).map D.bool)),(8,.row 2 0 n n),(34,.i64 (X08 .i64 (((i:Nat):Int)+1)))] ?_
     refine OD.is 34 rfl (wrn (m:=i+1) (by omega) (by omega)) ?_
     refine OD.rE 1 [(7,.sl 1 (l.length+1) ((X0B K14 l (.mk k set no kids mn mx) (only l at_.toNat)).map D.bool)),(8,.row 2 0 n n),(9,.i64 ((i+1:Nat):Int))] ?_
     refine OD.nil ?_
     exact⟨_,by omega,i+1,n,out,(by kernel_rfl),by omega,by first | exact hn | (rw [List.length_append,hn];rfl),by omega,by rw [X98,h4,hr];simp,rfl⟩
   ·
    refine CD.exit ?_
    refine CD.seq (CD.region ?_)
    refine OD.rE 2 [(6,.row 2 0 n n)] ?_
    refine OD.nil ?_
    refine CD.freeze 6 rfl rfl (Nat.le_refl _) ?_
    refine CD.ret ?_
    exact rP (.sl 1 n (out.map X0i)) (by have e:i=l.length+1:=(by omega);subst e;rw [← hn,hr,X8A (by omega),XJ3,X0l hl X5r])
end
end Go.Proofs.YtfcadnhoejlgoaaGreatDoor
