/-
  What is proved here: what functions of the pattern's package come to (walks that a program of mine has printed). No conditions.
-/
import Derived.Test.YtiebldaihnbkmaaGreatDoorPGa
import Derived.Test.YtiebldaihnbkmaaGreatDoorRI
set_option linter.unusedVariables false
set_option linter.unusedSimpArgs false
set_option maxRecDepth 100000
set_option maxHeartbeats 4000000
namespace Go.Proofs.YtiebldaihnbkmaaGreatDoor
open Go.Vai Go.Nfa Go.Utf
noncomputable section
theorem XDQ (l:List Int) (v:Int) (hl:l.length<4611686018427387904):X1Q P ov 74 [.sl 1 l.length (l.map (D.int .i32)),.int .i32 v] (.i64 (ixF l v 0)):=by
 refine FnD.intro (by kernel_rfl) (fn:=Tryz.f74) (by kernel_rfl) rfl (by kernel_rfl) fun M a0 g0 hg0=>?_
 refine CD.seq (CD.region ?_)
 refine OD.rE 1 [(0,.vI l),(1,.int .i32 v)] ?_
 refine OD.nil (CD.seq (CD.seq (CD.region ?_)))
 refine OD.rE 3 [(0,.vI l),(1,.int .i32 v),(7,.i64 l.length),(8,.i64 0)] ?_
 refine OD.nil (CD.block ?_)
 refine CD.weak [0,1,7,8] 0 (E':=[(0,.vI l),(1,.int .i32 v),(7,.i64 l.length),(8,.i64 0)]) (by kernel_rfl) (by simp [hg0]) (by kernel_rfl) ?_
 refine CD.loop (fun m σ=>∃ (i:Nat),σ=⟨[(0,.vI l),(1,.int .i32 v),(7,.i64 l.length),(8,.i64 i)],[]⟩∧(i≤l.length)∧(ixF l v 0=ixF (l.drop i) v i)∧m=l.length - i) (fun m σ hI=>?_) _ ⟨0,(by kernel_rfl),Nat.zero_le _,rfl,rfl⟩
 obtain⟨i,e,hi,hr,hm⟩:=hI
 subst e hm
 refine CD.seq (CD.region ?_)
 refine OD.rE 1 [(0,.vI l),(1,.int .i32 v),(7,.i64 l.length),(8,.i64 i),(9,.bool (decide ((((i:Nat):Int):Int)<((l.length:Nat):Int))))] ?_
 refine OD.nil (CD.seq ?_)
 refine CD.condP rfl (fun h1=>?_) (fun h1=>?_)
 ·
  obtain⟨x,hx,hd⟩:=nth (l:=l) (i:=i) (by omega)
  refine CD.skip (CD.seq (CD.block (CD.seq (CD.region ?_))))
  refine OD.rE 2 [(0,.vI l),(1,.int .i32 v),(5,.i64 i),(7,.i64 l.length),(8,.i64 i)] ?_
  refine OD.nil (CD.seq (CD.region ?_))
  refine OD.rE 3 [(0,.vI l),(1,.int .i32 v),(5,.i64 i),(7,.i64 l.length),(8,.i64 i),(11,.int .i32 v),(12,.vI l),(13,.i64 i)] ?_
  refine OD.idxSV (i:=i) rfl rfl (by kernel_rfl) (by omega) (by omega) ?_
  refine OD.rE 0 [(0,.vI l),(1,.int .i32 v),(5,.i64 i),(7,.i64 l.length),(8,.i64 i),(11,.int .i32 v),(14,.ep 1 l.length (l.map (D.int .i32)) i)] ?_
  refine OD.ldSV 0 (f:=(D.int .i32)) (xs:=l) rfl (by kernel_rfl) (by first | omega | (simp<;>omega)) ?_
  refine OD.rE 1 [(0,.vI l),(1,.int .i32 v),(5,.i64 i),(7,.i64 l.length),(8,.i64 i),(16,.bool (decide ((v:Int)=(l.getD i 0))))] ?_
  refine OD.nil ?_
  refine CD.condP rfl (fun h2=>?_) (fun h2=>?_)
  ·
   refine CD.seq (CD.region ?_)
   refine OD.rE 2 [(4,.i64 i)] ?_
   refine OD.nil (CD.ret ?_)
   exact rP (.i64 i) (congrArg (D.int .i64) (by rw [hr,hd,ixF,if_pos (by rw [← X5j (d:=0) hx];exact h2)]))
  ·
   refine CD.skip (CD.region ?_)
   refine OD.rE 1 [(0,.vI l),(1,.int .i32 v),(7,.i64 l.length),(18,.i64 (X05 .i64 (((i:Nat):Int)+1)))] ?_
   refine OD.is 18 rfl (wrn (m:=i+1) (by omega) (by omega)) ?_
   refine OD.rE 1 [(0,.vI l),(1,.int .i32 v),(7,.i64 l.length),(8,.i64 ((i+1:Nat):Int))] ?_
   refine OD.nil ?_
   exact⟨_,by omega,i+1,(by kernel_rfl),by omega,by rw [hr,hd,ixF,if_neg (by rw [← X5j (d:=0) hx];exact h2)],rfl⟩
 ·
  refine CD.exit ?_
  refine CD.seq (CD.region ?_)
  refine OD.rE 1 [(4,.i64 (-1))] ?_
  refine OD.nil (CD.ret ?_)
  exact rP (.i64 (-1)) (congrArg (D.int .i64) (by rw [hr,List.drop_eq_nil_of_le (by omega)];rfl))
theorem X8O (l:List Int) (v:Int) (hl:l.length<4611686018427387904):X1Q P ov 55 [.sl 1 l.length (l.map (D.int .i32)),.int .i32 v] (.bool (decide (v∈l))):=by
 refine FnD.intro (by kernel_rfl) (fn:=Tryz.f55) (by kernel_rfl) rfl (by kernel_rfl) fun M a0 g0 hg0=>?_
 refine CD.seq (CD.region ?_)
 refine OD.rE 1 [(0,.vI l),(1,.int .i32 v)] ?_
 refine OD.nil (CD.seq (CD.region ?_))
 refine OD.rE 2 [(5,.vI l),(6,.int .i32 v)] ?_
 refine OD.cE (XDQ l v hl) ?_
 refine OD.rE 2 [(4,.bool (decide ((0:Int)≤(ixF l v 0))))] ?_
 refine OD.nil (CD.ret ?_)
 exact rP (.bool (decide ((0:Int)≤(ixF l v 0)))) (congrArg D.bool (XGb l v 0))
theorem XFF (s:ByteArray) (hsz:s.size≤1000000):FnD P ov 32 [.str s] [] (fun r L1=>(XFf s) r∧L1=[]):=by
 refine FnD.intro (by kernel_rfl) (fn:=Tryz.f32) (by kernel_rfl) rfl (by kernel_rfl) fun M a0 g0 hg0=>?_
 refine CD.seq (CD.region ?_)
 refine OD.rL 2 [(0,.str s),(2,.loc 0 0)] [.box [.i64 0,.lit (.slice none 0 0),.bool false,.lit (.slice none 0 0),.i64 0,.i64 0]] ?_
 refine OD.nil (CD.seq (CD.region ?_))
 refine OD.rE 1 [(0,.str s),(2,.loc 0 0),(7,.str s)] ?_
 refine OD.cP (fun r=>∃ l,l=X3e (X0D s)∧r=.vI l) (XCE s hsz) (fun r hr=>?_)
 obtain⟨l,hl,rfl⟩:=hr
 have hll:=XCC s
 rw [← hl]at hll
 refine OD.rE 1 [(0,.str s),(2,.loc 0 0),(4,.vI l)] ?_
 refine OD.nil (CD.seq (CD.seq (CD.region ?_)))
 refine OD.rE 4 [(0,.str s),(2,.loc 0 0),(4,.vI l),(12,.bool (decide ((60:Int)<((s.size:Nat):Int))))] ?_
 refine OD.ifP 12 rfl (fun h1=>?_) (fun h1=>?_)
 ·
  refine OD.rE 8 [(2,.loc 0 0),(4,.vI l),(20,.bool true)] ?_
  refine OD.nil ?_
  refine CD.condT rfl ?_
  refine CD.seq (CD.region ?_)
  refine OD.rE 1 [(2,.loc 0 0),(21,.agg [.i64 0,.lit (.slice none 0 0),.bool false,.lit (.slice none 0 0),.i64 0,.i64 0])] ?_
  refine OD.reNil 21 [0,2,0,6,0,0] (ds':=[.i64 0,.sl 2 0 ([]),.bool false,.sl 6 0 ([]),.i64 0,.i64 0]) rfl (by kernel_rfl) ?_
  refine OD.rL 2 [(2,.loc 0 0),(3,.i64 5)] [.box [.i64 0,.sl 2 0 ([]),.bool false,.sl 6 0 ([]),.i64 0,.i64 0]] ?_
  refine OD.nil (CD.ret ?_)
  (try dsimp only);first | refine X01 ?_ | refine X02 ?_
  exact rO 0 (.tup [.agg [.i64 0,.sl 2 0 ([]),.bool false,.sl 6 0 ([]),.i64 0,.i64 0],.i64 5]) [] (⟨.inl ⟨X9B (.inl (by omega)),rfl⟩,rfl⟩)
 ·
  refine OD.rE 1 [(2,.loc 0 0),(4,.vI l),(12,.bool false),(13,.str s)] ?_
  refine OD.guard rfl rfl ?_
  refine OD.cE (XEP s hsz) ?_
  refine OD.rE 3 [(2,.loc 0 0),(4,.vI l),(17,.bool (!(Lib.validD s.data.toList)))] ?_
  refine OD.ifB 17 rfl (fun h2=>?_) (fun h2=>?_)
  ·
   have h2:=XD2 h2
   refine OD.rE 3 [(2,.loc 0 0),(4,.vI l),(20,.bool true)] ?_
   refine OD.nil ?_
   refine CD.condT rfl ?_
   refine CD.seq (CD.region ?_)
   refine OD.rE 1 [(2,.loc 0 0),(21,.agg [.i64 0,.lit (.slice none 0 0),.bool false,.lit (.slice none 0 0),.i64 0,.i64 0])] ?_
   refine OD.reNil 21 [0,2,0,6,0,0] (ds':=[.i64 0,.sl 2 0 ([]),.bool false,.sl 6 0 ([]),.i64 0,.i64 0]) rfl (by kernel_rfl) ?_
   refine OD.rL 2 [(2,.loc 0 0),(3,.i64 5)] [.box [.i64 0,.sl 2 0 ([]),.bool false,.sl 6 0 ([]),.i64 0,.i64 0]] ?_
   refine OD.nil (CD.ret ?_)
   (try dsimp only);first | refine X01 ?_ | refine X02 ?_
   exact rO 0 (.tup [.agg [.i64 0,.sl 2 0 ([]),.bool false,.sl 6 0 ([]),.i64 0,.i64 0],.i64 5]) [] (⟨.inl ⟨X9B (.inr (.inl h2)),rfl⟩,rfl⟩)
  ·
   have h2:=XD3 h2
   refine OD.rE 1 [(2,.loc 0 0),(4,.vI l),(17,.bool false),(18,.vI l)] ?_
   refine OD.guard rfl rfl ?_
   refine OD.cE (X8O l 65533 (by omega)) ?_
   refine OD.rE 1 [(2,.loc 0 0),(4,.vI l),(20,.bool (decide ((65533:Int)∈l)))] ?_
   refine OD.nil ?_
   refine CD.condP rfl (fun h3=>?_) (fun h3=>?_)
   ·
    refine CD.seq (CD.region ?_)
    refine OD.rE 1 [(2,.loc 0 0),(21,.agg [.i64 0,.lit (.slice none 0 0),.bool false,.lit (.slice none 0 0),.i64 0,.i64 0])] ?_
    refine OD.reNil 21 [0,2,0,6,0,0] (ds':=[.i64 0,.sl 2 0 ([]),.bool false,.sl 6 0 ([]),.i64 0,.i64 0]) rfl (by kernel_rfl) ?_
    refine OD.rL 2 [(2,.loc 0 0),(3,.i64 5)] [.box [.i64 0,.sl 2 0 ([]),.bool false,.sl 6 0 ([]),.i64 0,.i64 0]] ?_
    refine OD.nil (CD.ret ?_)
    (try dsimp only);first | refine X01 ?_ | refine X02 ?_
    exact rO 0 (.tup [.agg [.i64 0,.sl 2 0 ([]),.bool false,.sl 6 0 ([]),.i64 0,.i64 0],.i64 5]) [] (⟨.inl ⟨X9B (.inr (.inr (hl ▸ h3))),rfl⟩,rfl⟩)
   ·
    refine CD.skip (CD.seq (CD.region ?_))
    have hs:okS l:=by rw [hl];exact XCB (by rw [← hl];exact h3)
    refine OD.rL 4 [(2,.loc 0 0),(5,.loc 1 0)] [.box [.i64 0,.lit (.slice none 0 0),.bool false,.lit (.slice none 0 0),.i64 0,.i64 0],X0I l false] ?_
    refine OD.nil (CD.seq (CD.region ?_))
    refine OD.rE 1 [(2,.loc 0 0),(5,.loc 1 0),(25,.loc 1 0)] ?_
    refine OD.cO [1] [.loc 1 0] (XGW (l.length+1) (by omega) l false hs (Nat.le_refl _)) (fun r L1 hr=>?_)
    obtain⟨rfl,rfl⟩:=hr
    refine OD.rL 2 [(2,.loc 0 0),(5,.loc 1 0),(6,.loc 2 0)] [.box [.i64 0,.lit (.slice none 0 0),.bool false,.lit (.slice none 0 0),.i64 0,.i64 0],X0I ((X2l (l.length+1) l false).2.1) (X2l (l.length+1) l false).2.2,.box (X11 ((X2l (l.length+1) l false).1))] ?_
    refine OD.nil (CD.seq (CD.seq (CD.region ?_)))
    refine OD.rE 5 [(2,.loc 0 0),(5,.loc 1 0),(6,.loc 2 0),(31,.bool (X2l (l.length+1) l false).2.2)] ?_
    refine OD.ifB 31 rfl (fun h4=>?_) (fun h4=>?_)
    ·
     refine OD.rE 7 [(2,.loc 0 0),(6,.loc 2 0),(38,.bool true)] ?_
     refine OD.nil ?_
     refine CD.condT rfl ?_
     refine CD.seq (CD.region ?_)
     refine OD.rE 1 [(2,.loc 0 0),(39,.agg [.i64 0,.lit (.slice none 0 0),.bool false,.lit (.slice none 0 0),.i64 0,.i64 0])] ?_
     refine OD.reNil 39 [0,2,0,6,0,0] (ds':=[.i64 0,.sl 2 0 ([]),.bool false,.sl 6 0 ([]),.i64 0,.i64 0]) rfl (by kernel_rfl) ?_
     refine OD.rL 2 [(2,.loc 0 0),(3,.i64 5)] [.box [.i64 0,.sl 2 0 ([]),.bool false,.sl 6 0 ([]),.i64 0,.i64 0],X0I ((X2l (l.length+1) l false).2.1) (X2l (l.length+1) l false).2.2,.box (X11 ((X2l (l.length+1) l false).1))] ?_
     refine OD.nil (CD.ret ?_)
     (try dsimp only);first | refine X01 ?_ | refine X02 ?_
     exact rO 0 (.tup [.agg [.i64 0,.sl 2 0 ([]),.bool false,.sl 6 0 ([]),.i64 0,.i64 0],.i64 5]) [] (⟨.inl ⟨XCD hl (.inl h4),rfl⟩,rfl⟩)
    ·
     refine OD.rE 7 [(2,.loc 0 0),(6,.loc 2 0),(38,.bool (decide ((0:Int)<((((X2l (l.length+1) l false).2.1).length:Nat):Int))))] ?_
     refine OD.nil ?_
     refine CD.condP rfl (fun h5=>?_) (fun h5=>?_)
     ·
      refine CD.seq (CD.region ?_)
      refine OD.rE 1 [(2,.loc 0 0),(39,.agg [.i64 0,.lit (.slice none 0 0),.bool false,.lit (.slice none 0 0),.i64 0,.i64 0])] ?_
      refine OD.reNil 39 [0,2,0,6,0,0] (ds':=[.i64 0,.sl 2 0 ([]),.bool false,.sl 6 0 ([]),.i64 0,.i64 0]) rfl (by kernel_rfl) ?_
      refine OD.rL 2 [(2,.loc 0 0),(3,.i64 5)] [.box [.i64 0,.sl 2 0 ([]),.bool false,.sl 6 0 ([]),.i64 0,.i64 0],X0I ((X2l (l.length+1) l false).2.1) (X2l (l.length+1) l false).2.2,.box (X11 ((X2l (l.length+1) l false).1))] ?_
      refine OD.nil (CD.ret ?_)
      (try dsimp only);first | refine X01 ?_ | refine X02 ?_
      exact rO 0 (.tup [.agg [.i64 0,.sl 2 0 ([]),.bool false,.sl 6 0 ([]),.i64 0,.i64 0],.i64 5]) [] (⟨.inl ⟨XCD hl (.inr (by omega)),rfl⟩,rfl⟩)
     ·
      refine CD.skip (CD.seq (CD.region ?_))
      refine OD.rL 3 [(2,.loc 0 0),(3,.i64 0)] [.box (X11 ((X2l (l.length+1) l false).1)),X0I ((X2l (l.length+1) l false).2.1) (X2l (l.length+1) l false).2.2,.box (X11 ((X2l (l.length+1) l false).1))] ?_
      refine OD.nil (CD.ret ?_)
      (try dsimp only);first | refine X01 ?_ | refine X02 ?_
      exact rO 0 (.tup [.agg (X11 ((X2l (l.length+1) l false).1)),.i64 0]) [] (⟨.inr ⟨_,XGd hl (XGc hl h1 h2 h3) h4 (by omega),rfl⟩,rfl⟩)
end
end Go.Proofs.YtiebldaihnbkmaaGreatDoor
