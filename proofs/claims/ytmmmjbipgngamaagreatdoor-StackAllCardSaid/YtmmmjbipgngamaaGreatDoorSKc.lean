/-
  What is proved here: what functions of the stack come to (walks that a program of mine has printed). what goes to the outside, as plain data. what functions of the stack come to (walks that a program of mine has printed). No conditions but those that the theorems state.
-/
import Derived.Test.YtmmmjbipgngamaaGreatDoorSKb
set_option linter.unusedVariables false
set_option linter.unusedSimpArgs false
set_option maxRecDepth 100000
set_option maxHeartbeats 4000000
namespace Go.Proofs.YtmmmjbipgngamaaGreatDoor
open Go.Vai Go.RowKit
noncomputable section
theorem XDh (n t name:ByteArray) (b:Bool):FnD P ov 57 [.agg [.str n,.str t,.bool b],.loc 0 0] [.box [.str name]] (fun r L1=>r=.bool (decide (n=name))∧L1=[.box [.str name]]):=by
 refine FnD.intro (by kernel_rfl) (fn:=Tryz.f57) (by kernel_rfl) rfl (by kernel_rfl) fun M a0 g0 hg0=>?_
 refine CD.seq ?_
 refine CD.region ?_
 refine OD.run 2 [1,2] (E':=[(1,.loc 0 0),(2,.loc 1 0)]) (L':=[.box [.str name],.box [.str n,.str t,.bool b]]) (by kernel_rfl) ?_
 refine OD.nil ?_
 refine CD.seq ?_
 refine CD.region ?_
 refine OD.runE 3 [5,6] (E':=[(5,.str n),(6,.str name)]) (by kernel_rfl) ?_
 refine OD.eqS rfl rfl ?_
 refine OD.runE 1 [3] (E':=[(3,.bool (decide (n=name)))]) (by kernel_rfl) ?_
 refine OD.nil ?_
 refine CD.ret ?_
 first | refine X06 ?_ | refine X07 ?_ | (dsimp only;first | refine X06 ?_ | refine X07 ?_)
 refine X26 1 (r:=.bool (decide (n=name))) (L':=[.box [.str name]]) (by kernel_rfl) ?_ ?_ (by kernel_rfl) (by kernel_rfl) ?_
 · exact Nat.le_of_ble_eq_true (by kernel_rfl)
 · exact Nat.le_of_ble_eq_true (by kernel_rfl)
 · exact⟨rfl,rfl⟩
theorem XDi (l:List X0A) (name:ByteArray) (hl:l.length≤1000000):FnD P ov 56 [.sl 3 l.length (l.flatMap X04),.clo 57 [.loc 0 0]] [.box [.str name]] (fun r L1=>r=.int .i64 (X0I l name)∧L1=[.box [.str name]]):=by
 refine FnD.intro (by kernel_rfl) (fn:=Tryz.f56) (by kernel_rfl) rfl (by kernel_rfl) fun M a0 g0 hg0=>?_
 refine CD.seq ?_
 refine CD.region ?_
 refine OD.runE 1 [0,1] (E':=[(0,.sl 3 l.length (l.flatMap X04)),(1,.clo 57 [.loc 0 0])]) (by kernel_rfl) ?_
 refine OD.nil ?_
 refine CD.seq ?_
 refine CD.seq ?_
 refine CD.region ?_
 refine OD.runE 3 [0,1,7,8] (E':=[(0,.sl 3 l.length (l.flatMap X04)),(1,.clo 57 [.loc 0 0]),(7,.int .i64 ((l.length:Nat):Int)),(8,.int .i64 0)]) (by kernel_rfl) ?_
 refine OD.nil ?_
 refine CD.block ?_
 refine CD.weak [0,1,7,8] 1 (E':=[(0,.sl 3 l.length (l.flatMap X04)),(1,.clo 57 [.loc 0 0]),(7,.int .i64 ((l.length:Nat):Int)),(8,.int .i64 0)]) (by kernel_rfl) (by simp [hg0]) (by kernel_rfl) ?_
 refine CD.loop (fun m σ=>∃ (i:Nat),σ=⟨[(0,.sl 3 l.length (l.flatMap X04)),(1,.clo 57 [.loc 0 0]),(7,.int .i64 ((l.length:Nat):Int)),(8,.int .i64 ((i:Nat):Int))],[.box [.str name]]⟩∧(i≤l.length)∧(∀ j,j<i→¬ (l.getD j e0).1=name)∧m=l.length - i) (fun m σ hI=>?_) _ ⟨0,(by kernel_rfl),Nat.zero_le _,(fun j hj=>absurd hj (Nat.not_lt_zero j)),rfl⟩
 obtain⟨i,e,hi,hn,hm⟩:=hI
 subst e hm
 refine CD.seq ?_
 refine CD.region ?_
 refine OD.runE 1 [0,1,7,8,9] (E':=[(0,.sl 3 l.length (l.flatMap X04)),(1,.clo 57 [.loc 0 0]),(7,.int .i64 ((l.length:Nat):Int)),(8,.int .i64 ((i:Nat):Int)),(9,.bool (decide ((((i:Nat):Int):Int)<((l.length:Nat):Int))))]) (by kernel_rfl) ?_
 refine OD.nil ?_
 refine CD.seq ?_
 refine CD.condP rfl (fun h1=>?_) (fun h1=>?_)
 ·
  refine CD.skip ?_
  refine CD.seq ?_
  refine CD.block ?_
  refine CD.seq ?_
  refine CD.region ?_
  refine OD.runE 2 [0,1,5,7,8] (E':=[(0,.sl 3 l.length (l.flatMap X04)),(1,.clo 57 [.loc 0 0]),(5,.int .i64 ((i:Nat):Int)),(7,.int .i64 ((l.length:Nat):Int)),(8,.int .i64 ((i:Nat):Int))]) (by kernel_rfl) ?_
  refine OD.nil ?_
  refine CD.seq ?_
  refine CD.region ?_
  refine OD.runE 3 [0,1,5,7,8,11,12,13] (E':=[(0,.sl 3 l.length (l.flatMap X04)),(1,.clo 57 [.loc 0 0]),(5,.int .i64 ((i:Nat):Int)),(7,.int .i64 ((l.length:Nat):Int)),(8,.int .i64 ((i:Nat):Int)),(11,.clo 57 [.loc 0 0]),(12,.sl 3 l.length (l.flatMap X04)),(13,.int .i64 ((i:Nat):Int))]) (by kernel_rfl) ?_
  refine OD.idxSE (i:=i) (e:=3) rfl rfl (by kernel_rfl) (by omega) (by omega) ?_
  refine OD.runE 0 [0,1,5,7,8,11,14] (E':=[(0,.sl 3 l.length (l.flatMap X04)),(1,.clo 57 [.loc 0 0]),(5,.int .i64 ((i:Nat):Int)),(7,.int .i64 ((l.length:Nat):Int)),(8,.int .i64 ((i:Nat):Int)),(11,.clo 57 [.loc 0 0]),(14,.ep 3 l.length (l.flatMap X04) (i*3))]) (by kernel_rfl) ?_
  refine OD.ldA (ds:=[.str ((l.getD i e0).1),.str ((l.getD i e0).2.1),.bool (l.getD i e0).2.2]) rfl (by kernel_rfl) (by kernel_rfl) (X3R (by omega)) rfl (by decide) ?_
  refine OD.runE 0 [0,1,5,7,8,11,15] (E':=[(0,.sl 3 l.length (l.flatMap X04)),(1,.clo 57 [.loc 0 0]),(5,.int .i64 ((i:Nat):Int)),(7,.int .i64 ((l.length:Nat):Int)),(8,.int .i64 ((i:Nat):Int)),(11,.clo 57 [.loc 0 0]),(15,.agg [.str ((l.getD i e0).1),.str ((l.getD i e0).2.1),.bool (l.getD i e0).2.2])]) (by kernel_rfl) ?_
  refine OD.callC [0] (ds:=[.agg [.str ((l.getD i e0).1),.str ((l.getD i e0).2.1),.bool (l.getD i e0).2.2]]) (cs:=[.loc 0 0]) (XDh ((l.getD i e0).1) ((l.getD i e0).2.1) name ((l.getD i e0).2.2)) rfl (by kernel_rfl) (by kernel_rfl) (by kernel_rfl) (by kernel_rfl) (by kernel_rfl) (fun r L1 hr=>?_)
  obtain⟨rfl,rfl⟩:=hr
  refine OD.runE 0 [0,1,5,7,8,16] (E':=[(0,.sl 3 l.length (l.flatMap X04)),(1,.clo 57 [.loc 0 0]),(5,.int .i64 ((i:Nat):Int)),(7,.int .i64 ((l.length:Nat):Int)),(8,.int .i64 ((i:Nat):Int)),(16,.bool (decide ((l.getD i e0).1=name)))]) (by kernel_rfl) ?_
  refine OD.nil ?_
  refine CD.condP rfl (fun h2=>?_) (fun h2=>?_)
  ·
   refine CD.seq ?_
   refine CD.region ?_
   refine OD.runE 2 [4] (E':=[(4,.int .i64 ((i:Nat):Int))]) (by kernel_rfl) ?_
   refine OD.nil ?_
   refine CD.ret ?_
   first | refine X06 ?_ | refine X07 ?_ | (dsimp only;first | refine X06 ?_ | refine X07 ?_)
   refine X26 1 (r:=.int .i64 ((i:Nat):Int)) (L':=[.box [.str name]]) (by kernel_rfl) ?_ ?_ (by kernel_rfl) (by kernel_rfl) ?_
   · exact Nat.le_of_ble_eq_true (by kernel_rfl)
   · exact Nat.le_of_ble_eq_true (by kernel_rfl)
   · exact⟨congrArg (D.int .i64) (X7g (by omega) hn (by assumption)).symm,rfl⟩
  ·
   refine CD.skip ?_
   refine CD.region ?_
   refine OD.runE 1 [0,1,7,18] (E':=[(0,.sl 3 l.length (l.flatMap X04)),(1,.clo 57 [.loc 0 0]),(7,.int .i64 ((l.length:Nat):Int)),(18,.int .i64 (X0X .i64 (((i:Nat):Int)+1)))]) (by kernel_rfl) ?_
   refine OD.is 18 rfl (wrn (m:=i+1) (by omega) (by omega)) ?_
   refine OD.runE 1 [0,1,7,8] (E':=[(0,.sl 3 l.length (l.flatMap X04)),(1,.clo 57 [.loc 0 0]),(7,.int .i64 ((l.length:Nat):Int)),(8,.int .i64 ((i+1:Nat):Int))]) (by kernel_rfl) ?_
   refine OD.nil ?_
   exact⟨_,by omega,i+1,(by kernel_rfl),by omega,X6K hn (by assumption),rfl⟩
 ·
  refine CD.exit ?_
  refine CD.seq ?_
  refine CD.region ?_
  refine OD.runE 1 [4] (E':=[(4,.int .i64 (-1))]) (by kernel_rfl) ?_
  refine OD.nil ?_
  refine CD.ret ?_
  first | refine X06 ?_ | refine X07 ?_ | (dsimp only;first | refine X06 ?_ | refine X07 ?_)
  refine X26 1 (r:=.int .i64 (-1)) (L':=[.box [.str name]]) (by kernel_rfl) ?_ ?_ (by kernel_rfl) (by kernel_rfl) ?_
  · exact Nat.le_of_ble_eq_true (by kernel_rfl)
  · exact Nat.le_of_ble_eq_true (by kernel_rfl)
  · exact⟨congrArg (D.int .i64) (X6J (by assumption) hn).symm,rfl⟩
theorem X72 (room next:Int) (l:List X0A) (name:ByteArray) (hl:l.length≤1000000):X2G P ov 32 [.bx [.int .i64 room,.int .i64 next,.sl 3 l.length (l.flatMap X04)] 0,.str name] (.int .i64 (X0I l name)):=by
 refine FnD.intro (by kernel_rfl) (fn:=Tryz.f32) (by kernel_rfl) rfl (by kernel_rfl) fun M a0 g0 hg0=>?_
 refine CD.seq ?_
 refine CD.region ?_
 refine OD.run 2 [0,3] (E':=[(0,.bx [.int .i64 room,.int .i64 next,.sl 3 l.length (l.flatMap X04)] 0),(3,.loc 0 0)]) (L':=[.box [.str name]]) (by kernel_rfl) ?_
 refine OD.nil ?_
 refine CD.seq ?_
 refine CD.seq ?_
 refine CD.region ?_
 refine OD.runE 2 [0,3,6] (E':=[(0,.bx [.int .i64 room,.int .i64 next,.sl 3 l.length (l.flatMap X04)] 0),(3,.loc 0 0),(6,.bool false)]) (by kernel_rfl) ?_
 refine OD.nil ?_
 refine CD.condF rfl ?_
 refine CD.skip ?_
 refine CD.seq ?_
 refine CD.region ?_
 refine OD.runE 4 [3,10] (E':=[(3,.loc 0 0),(10,.sl 3 l.length (l.flatMap X04))]) (by kernel_rfl) ?_
 refine OD.mkC (cs:=[.loc 0 0]) rfl (by kernel_rfl) ?_
 refine OD.runE 0 [10,11] (E':=[(10,.sl 3 l.length (l.flatMap X04)),(11,.clo 57 [.loc 0 0])]) (by kernel_rfl) ?_
 refine OD.callO [0] (ds:=[.sl 3 l.length (l.flatMap X04),.clo 57 [.loc 0 0]]) (XDi l name hl) rfl (by kernel_rfl) (by kernel_rfl) (by kernel_rfl) (by kernel_rfl) (by kernel_rfl) (fun r L1 hr=>?_)
 obtain⟨rfl,rfl⟩:=hr
 refine OD.runE 1 [4] (E':=[(4,.int .i64 (X0I l name))]) (by kernel_rfl) ?_
 refine OD.nil ?_
 refine CD.ret ?_
 exact X36 (by kernel_rfl) (by kernel_rfl) (r:=.int .i64 (X0I l name)) (rfl)
theorem X73 (room next:Int) (l:List X0A) (b:Bool) (hl:l.length≤1000000):X2G P ov 34 [.bx [.int .i64 room,.int .i64 next,.sl 3 l.length (l.flatMap X04)] 0,.bool b] (.int .i64 ((X0G l b:Nat):Int)):=by
 refine FnD.intro (by kernel_rfl) (fn:=Tryz.f34) (by kernel_rfl) rfl (by kernel_rfl) fun M a0 g0 hg0=>?_
 refine CD.seq ?_
 refine CD.region ?_
 refine OD.runE 1 [0,1] (E':=[(0,.bx [.int .i64 room,.int .i64 next,.sl 3 l.length (l.flatMap X04)] 0),(1,.bool b)]) (by kernel_rfl) ?_
 refine OD.nil ?_
 refine CD.seq ?_
 refine CD.region ?_
 refine OD.runE 1 [0,1,5] (E':=[(0,.bx [.int .i64 room,.int .i64 next,.sl 3 l.length (l.flatMap X04)] 0),(1,.bool b),(5,.int .i64 0)]) (by kernel_rfl) ?_
 refine OD.nil ?_
 refine CD.seq ?_
 refine CD.seq ?_
 refine CD.region ?_
 refine OD.runE 6 [1,5,11,12,13] (E':=[(1,.bool b),(5,.int .i64 0),(11,.sl 3 l.length (l.flatMap X04)),(12,.int .i64 ((l.length:Nat):Int)),(13,.int .i64 0)]) (by kernel_rfl) ?_
 refine OD.nil ?_
 refine CD.block ?_
 refine CD.weak [1,5,11,12,13] 0 (E':=[(1,.bool b),(5,.int .i64 0),(11,.sl 3 l.length (l.flatMap X04)),(12,.int .i64 ((l.length:Nat):Int)),(13,.int .i64 0)]) (by kernel_rfl) (by simp [hg0]) (by kernel_rfl) ?_
 refine CD.loop (fun m σ=>∃ (i:Nat) (c:Nat),σ=⟨[(1,.bool b),(5,.int .i64 ((c:Nat):Int)),(11,.sl 3 l.length (l.flatMap X04)),(12,.int .i64 ((l.length:Nat):Int)),(13,.int .i64 ((i:Nat):Int))],[]⟩∧(i≤l.length)∧(c=X0G (l.take i) b∧c≤i)∧m=l.length - i) (fun m σ hI=>?_) _ ⟨0,0,(by kernel_rfl),Nat.zero_le _,⟨rfl,Nat.le_refl _⟩,rfl⟩
 obtain⟨i,c,e,hi,hc,hm⟩:=hI
 subst e hm
 refine CD.seq ?_
 refine CD.region ?_
 refine OD.runE 1 [1,5,11,12,13,14] (E':=[(1,.bool b),(5,.int .i64 ((c:Nat):Int)),(11,.sl 3 l.length (l.flatMap X04)),(12,.int .i64 ((l.length:Nat):Int)),(13,.int .i64 ((i:Nat):Int)),(14,.bool (decide ((((i:Nat):Int):Int)<((l.length:Nat):Int))))]) (by kernel_rfl) ?_
 refine OD.nil ?_
 refine CD.seq ?_
 refine CD.condP rfl (fun h1=>?_) (fun h1=>?_)
 ·
  refine CD.skip ?_
  refine CD.seq ?_
  refine CD.block ?_
  refine CD.seq ?_
  refine CD.region ?_
  refine OD.idxSE (i:=i) (e:=3) rfl rfl (by kernel_rfl) (by omega) (by omega) ?_
  refine OD.runE 0 [1,5,11,12,13,15] (E':=[(1,.bool b),(5,.int .i64 ((c:Nat):Int)),(11,.sl 3 l.length (l.flatMap X04)),(12,.int .i64 ((l.length:Nat):Int)),(13,.int .i64 ((i:Nat):Int)),(15,.ep 3 l.length (l.flatMap X04) (i*3))]) (by kernel_rfl) ?_
  refine OD.ldA (ds:=[.str ((l.getD i e0).1),.str ((l.getD i e0).2.1),.bool (l.getD i e0).2.2]) rfl (by kernel_rfl) (by kernel_rfl) (X3R (by omega)) rfl (by decide) ?_
  refine OD.run 2 [1,5,7,11,12,13] (E':=[(1,.bool b),(5,.int .i64 ((c:Nat):Int)),(7,.loc 0 0),(11,.sl 3 l.length (l.flatMap X04)),(12,.int .i64 ((l.length:Nat):Int)),(13,.int .i64 ((i:Nat):Int))]) (L':=[.box [.str ((l.getD i e0).1),.str ((l.getD i e0).2.1),.bool (l.getD i e0).2.2]]) (by kernel_rfl) ?_
  refine OD.nil ?_
  refine CD.seq ?_
  refine CD.region ?_
  refine OD.runE 4 [1,5,11,12,13,20] (E':=[(1,.bool b),(5,.int .i64 ((c:Nat):Int)),(11,.sl 3 l.length (l.flatMap X04)),(12,.int .i64 ((l.length:Nat):Int)),(13,.int .i64 ((i:Nat):Int)),(20,.bool (bif (l.getD i e0).2.2 then(bif b then true else false)else(bif b then false else true)))]) (by kernel_rfl) ?_
  refine OD.is 20 rfl (congrArg D.bool X8s) ?_
  refine OD.runE 0 [1,5,11,12,13,20] (E':=[(1,.bool b),(5,.int .i64 ((c:Nat):Int)),(11,.sl 3 l.length (l.flatMap X04)),(12,.int .i64 ((l.length:Nat):Int)),(13,.int .i64 ((i:Nat):Int)),(20,.bool (decide ((l.getD i e0).2.2=b)))]) (by kernel_rfl) ?_
  refine OD.nil ?_
  refine CD.condP rfl (fun h2=>?_) (fun h2=>?_)
  ·
   refine CD.region ?_
   refine OD.runE 2 [1,11,12,13,22] (E':=[(1,.bool b),(11,.sl 3 l.length (l.flatMap X04)),(12,.int .i64 ((l.length:Nat):Int)),(13,.int .i64 ((i:Nat):Int)),(22,.int .i64 (X0X .i64 (((c:Nat):Int)+1)))]) (by kernel_rfl) ?_
   refine OD.is 22 rfl (wrn (m:=c+1) (by omega) (by omega)) ?_
   refine OD.runE 1 [1,5,11,12,13] (E':=[(1,.bool b),(5,.int .i64 ((c+1:Nat):Int)),(11,.sl 3 l.length (l.flatMap X04)),(12,.int .i64 ((l.length:Nat):Int)),(13,.int .i64 ((i:Nat):Int))]) (by kernel_rfl) ?_
   refine OD.nil ?_
   refine CD.region ?_
   refine OD.runE 1 [1,5,11,12,23] (E':=[(1,.bool b),(5,.int .i64 ((c+1:Nat):Int)),(11,.sl 3 l.length (l.flatMap X04)),(12,.int .i64 ((l.length:Nat):Int)),(23,.int .i64 (X0X .i64 (((i:Nat):Int)+1)))]) (by kernel_rfl) ?_
   refine OD.is 23 rfl (wrn (m:=i+1) (by omega) (by omega)) ?_
   refine OD.runE 1 [1,5,11,12,13] (E':=[(1,.bool b),(5,.int .i64 ((c+1:Nat):Int)),(11,.sl 3 l.length (l.flatMap X04)),(12,.int .i64 ((l.length:Nat):Int)),(13,.int .i64 ((i+1:Nat):Int))]) (by kernel_rfl) ?_
   refine OD.nilW [1,5,11,12,13] 0 (E':=[(1,.bool b),(5,.int .i64 ((c+1:Nat):Int)),(11,.sl 3 l.length (l.flatMap X04)),(12,.int .i64 ((l.length:Nat):Int)),(13,.int .i64 ((i+1:Nat):Int))]) (by kernel_rfl) (by simp [hg0]) (by kernel_rfl) ?_
   exact⟨_,by omega,i+1,(c+1),(by kernel_rfl),by omega,⟨by rw [X1R (by omega),← hc.1,if_pos (by assumption)],by omega⟩,rfl⟩
  ·
   refine CD.skip ?_
   refine CD.region ?_
   refine OD.runE 1 [1,5,11,12,23] (E':=[(1,.bool b),(5,.int .i64 ((c:Nat):Int)),(11,.sl 3 l.length (l.flatMap X04)),(12,.int .i64 ((l.length:Nat):Int)),(23,.int .i64 (X0X .i64 (((i:Nat):Int)+1)))]) (by kernel_rfl) ?_
   refine OD.is 23 rfl (wrn (m:=i+1) (by omega) (by omega)) ?_
   refine OD.runE 1 [1,5,11,12,13] (E':=[(1,.bool b),(5,.int .i64 ((c:Nat):Int)),(11,.sl 3 l.length (l.flatMap X04)),(12,.int .i64 ((l.length:Nat):Int)),(13,.int .i64 ((i+1:Nat):Int))]) (by kernel_rfl) ?_
   refine OD.nilW [1,5,11,12,13] 0 (E':=[(1,.bool b),(5,.int .i64 ((c:Nat):Int)),(11,.sl 3 l.length (l.flatMap X04)),(12,.int .i64 ((l.length:Nat):Int)),(13,.int .i64 ((i+1:Nat):Int))]) (by kernel_rfl) (by simp [hg0]) (by kernel_rfl) ?_
   exact⟨_,by omega,i+1,c,(by kernel_rfl),by omega,⟨by rw [X1R (by omega),← hc.1,if_neg (by assumption),Nat.add_zero],by omega⟩,rfl⟩
 ·
  refine CD.exit ?_
  refine CD.seq ?_
  refine CD.region ?_
  refine OD.runE 2 [4] (E':=[(4,.int .i64 ((c:Nat):Int))]) (by kernel_rfl) ?_
  refine OD.nil ?_
  refine CD.ret ?_
  exact X36 (by kernel_rfl) (by kernel_rfl) (r:=.int .i64 ((c:Nat):Int)) (by rw [hc.1,List.take_of_length_le (by omega)])
end
end Go.Proofs.YtmmmjbipgngamaaGreatDoor
namespace Go.Proofs.YtmmmjbipgngamaaGreatDoor
open Go.Vai Go.RowKit
noncomputable section
def oscT (x:ByteArray):ByteArray:=((⟨#[27,93,53,50,59,99,59]⟩:ByteArray)++b64 x)++(⟨#[7]⟩:ByteArray)
def X0k (l:List X0A) (name:ByteArray):ByteArray×Bool :=
 bif (if name=ByteArray.empty then(X0z l).2.2 else(X1j l name).2)then(oscT (if name=ByteArray.empty then(X0z l).2.1 else(X1j l name).1),true)else(ByteArray.empty,false)
theorem XBw {x:ByteArray} (h:x.size≤1000):(⟨#[27,93,53,50,59,99,59]⟩:ByteArray).size+(b64 x).size≤1000000000:=by
 rw [X9r]
 have:(⟨#[27,93,53,50,59,99,59]⟩:ByteArray).size=7:=rfl
 omega
theorem X90 {x:ByteArray} (h:x.size≤1000):((⟨#[27,93,53,50,59,99,59]⟩:ByteArray)++b64 x).size+(⟨#[7]⟩:ByteArray).size≤1000000000:=by
 have h7:(⟨#[27,93,53,50,59,99,59]⟩:ByteArray).size=7:=rfl
 have h1:(⟨#[7]⟩:ByteArray).size=1:=rfl
 have h2:=X9r x
 rw [ByteArray.size_append,h7,h1,h2]
 omega
end
end Go.Proofs.YtmmmjbipgngamaaGreatDoor
set_option maxRecDepth 100000
set_option maxHeartbeats 4000000
namespace Go.Proofs.YtmmmjbipgngamaaGreatDoor
open Go.Vai Go.RowKit
noncomputable section
theorem XEa (room next:Int) (l:List X0A) (name:ByteArray) (hl:l.length≤1000000):X2G P ov 23 [.bx [.int .i64 room,.int .i64 next,.sl 3 l.length (l.flatMap X04)] 0,.str name] (.tup [.str (X1j l name).1,.bool (X1j l name).2]):=by
 have hfl:=X9p l name
 refine FnD.intro (by kernel_rfl) (fn:=Tryz.f23) (by kernel_rfl) rfl (by kernel_rfl) fun M a0 g0 hg0=>?_
 refine CD.seq ?_
 refine CD.region ?_
 refine OD.runE 2 [0,1] (E':=[(0,.bx [.int .i64 room,.int .i64 next,.sl 3 l.length (l.flatMap X04)] 0),(1,.str name)]) (by kernel_rfl) ?_
 refine OD.nil ?_
 refine CD.seq ?_
 refine CD.region ?_
 refine OD.runE 2 [0,7,8] (E':=[(0,.bx [.int .i64 room,.int .i64 next,.sl 3 l.length (l.flatMap X04)] 0),(7,.bx [.int .i64 room,.int .i64 next,.sl 3 l.length (l.flatMap X04)] 0),(8,.str name)]) (by kernel_rfl) ?_
 refine OD.callE (X72 room next l name hl) rfl (by kernel_rfl) (by kernel_rfl) (by kernel_rfl) ?_
 refine OD.runE 1 [0,6] (E':=[(0,.bx [.int .i64 room,.int .i64 next,.sl 3 l.length (l.flatMap X04)] 0),(6,.int .i64 (X0I l name))]) (by kernel_rfl) ?_
 refine OD.nil ?_
 refine CD.seq ?_
 refine CD.seq ?_
 refine CD.region ?_
 refine OD.runE 2 [0,6,11] (E':=[(0,.bx [.int .i64 room,.int .i64 next,.sl 3 l.length (l.flatMap X04)] 0),(6,.int .i64 (X0I l name)),(11,.bool (decide (((X0I l name):Int)<0)))]) (by kernel_rfl) ?_
 refine OD.nil ?_
 refine CD.condP rfl (fun h1=>?_) (fun h1=>?_)
 ·
  refine CD.seq ?_
  refine CD.region ?_
  refine OD.runE 2 [4,5] (E':=[(4,.str ByteArray.empty),(5,.bool false)]) (by kernel_rfl) ?_
  refine OD.nil ?_
  refine CD.ret ?_
  exact X36 (by kernel_rfl) (by kernel_rfl) (r:=.tup [.str ByteArray.empty,.bool false]) (by unfold X1j;first | rw [if_pos (by assumption)] | rw [if_neg (by assumption)])
 ·
  refine CD.skip ?_
  refine CD.seq ?_
  refine CD.region ?_
  refine OD.runE 5 [15,16] (E':=[(15,.sl 3 l.length (l.flatMap X04)),(16,.int .i64 (X0I l name))]) (by kernel_rfl) ?_
  refine OD.idxSE (i:=(X0I l name).toNat) (e:=3) rfl rfl (by kernel_rfl) (by omega) (by omega) ?_
  refine OD.runE 1 [18] (E':=[(18,.ep 3 l.length (l.flatMap X04) (((X0I l name).toNat)*3+1))]) (by kernel_rfl) ?_
  refine OD.ldL (d:=.str ((l.getD ((X0I l name).toNat) e0).2.1)) rfl (by kernel_rfl) (X23 (k:=1) (by omega) (by decide) rfl) ?_
  refine OD.runE 2 [4,5] (E':=[(4,.str ((l.getD ((X0I l name).toNat) e0).2.1)),(5,.bool true)]) (by kernel_rfl) ?_
  refine OD.nil ?_
  refine CD.ret ?_
  exact X36 (by kernel_rfl) (by kernel_rfl) (r:=.tup [.str ((l.getD ((X0I l name).toNat) e0).2.1),.bool true]) (by unfold X1j;first | rw [if_pos (by assumption)] | rw [if_neg (by assumption)])
theorem XEb (room next:Int) (l:List X0A) (hl:l.length≤1000000):X2G P ov 25 [.bx [.int .i64 room,.int .i64 next,.sl 3 l.length (l.flatMap X04)] 0] (.tup [.str (X0z l).1,.str (X0z l).2.1,.bool (X0z l).2.2]):=by
 refine FnD.intro (by kernel_rfl) (fn:=Tryz.f25) (by kernel_rfl) rfl (by kernel_rfl) fun M a0 g0 hg0=>?_
 refine CD.seq ?_
 refine CD.region ?_
 refine OD.runE 3 [0] (E':=[(0,.bx [.int .i64 room,.int .i64 next,.sl 3 l.length (l.flatMap X04)] 0)]) (by kernel_rfl) ?_
 refine OD.nil ?_
 refine CD.seq ?_
 refine CD.seq ?_
 refine CD.region ?_
 refine OD.runE 10 [0,14] (E':=[(0,.bx [.int .i64 room,.int .i64 next,.sl 3 l.length (l.flatMap X04)] 0),(14,.bool (decide ((((l.length:Nat):Int):Int)=0)))]) (by kernel_rfl) ?_
 refine OD.nil ?_
 refine CD.condP rfl (fun h1=>?_) (fun h1=>?_)
 ·
  refine CD.seq ?_
  refine CD.region ?_
  refine OD.runE 3 [2,3,4] (E':=[(2,.str ByteArray.empty),(3,.str ByteArray.empty),(4,.bool false)]) (by kernel_rfl) ?_
  refine OD.nil ?_
  refine CD.ret ?_
  exact X36 (by kernel_rfl) (by kernel_rfl) (r:=.tup [.str ByteArray.empty,.str ByteArray.empty,.bool false]) (by unfold X0z;first | rw [if_pos (by assumption)] | rw [if_neg (by assumption)])
 ·
  refine CD.skip ?_
  refine CD.seq ?_
  refine CD.drawn (by kernel_rfl) ?_
  refine OD.runE 4 [0,18] (E':=[(0,.bx [.int .i64 room,.int .i64 next,.sl 3 l.length (l.flatMap X04)] 0),(18,.sl 3 l.length (l.flatMap X04))]) (by kernel_rfl) ?_
  refine OD.idxSE (i:=0) (e:=3) rfl rfl (by kernel_rfl) (by omega) (by omega) ?_
  refine OD.runE 1 [0,20] (E':=[(0,.bx [.int .i64 room,.int .i64 next,.sl 3 l.length (l.flatMap X04)] 0),(20,.ep 3 l.length (l.flatMap X04) (0*3+0))]) (by kernel_rfl) ?_
  refine OD.ldL (d:=.str ((l.getD 0 e0).1)) rfl (by kernel_rfl) (X23 (k:=0) (by omega) (by decide) rfl) ?_
  refine OD.runE 4 [21,25] (E':=[(21,.str ((l.getD 0 e0).1)),(25,.sl 3 l.length (l.flatMap X04))]) (by kernel_rfl) ?_
  refine OD.idxSE (i:=0) (e:=3) rfl rfl (by kernel_rfl) (by omega) (by omega) ?_
  refine OD.runE 1 [21,27] (E':=[(21,.str ((l.getD 0 e0).1)),(27,.ep 3 l.length (l.flatMap X04) (0*3+1))]) (by kernel_rfl) ?_
  refine OD.ldL (d:=.str ((l.getD 0 e0).2.1)) rfl (by kernel_rfl) (X23 (k:=1) (by omega) (by decide) rfl) ?_
  refine OD.runE 3 [2,3,4] (E':=[(2,.str ((l.getD 0 e0).1)),(3,.str ((l.getD 0 e0).2.1)),(4,.bool true)]) (by kernel_rfl) ?_
  refine OD.nil ⟨by kernel_rfl,?_⟩
  refine CD.ret ?_
  exact X36 (by kernel_rfl) (by kernel_rfl) (r:=.tup [.str ((l.getD 0 e0).1),.str ((l.getD 0 e0).2.1),.bool true]) (by unfold X0z;first | rw [if_pos (by assumption)] | rw [if_neg (by assumption)])
theorem XEc (room next:Int) (l:List X0A) (name:ByteArray) (hl:l.length≤1000000) (hs:szE 1000 l):X2G P ov 21 [.bx [.int .i64 room,.int .i64 next,.sl 3 l.length (l.flatMap X04)] 0,.str name] (.tup [.str (X0k l name).1,.bool (X0k l name).2]):=by
 refine FnD.intro (by kernel_rfl) (fn:=Tryz.f21) (by kernel_rfl) rfl (by kernel_rfl) fun M a0 g0 hg0=>?_
 refine CD.seq ?_
 refine CD.region ?_
 refine OD.runE 2 [0,1] (E':=[(0,.bx [.int .i64 room,.int .i64 next,.sl 3 l.length (l.flatMap X04)] 0),(1,.str name)]) (by kernel_rfl) ?_
 refine OD.nil ?_
 refine CD.seq ?_
 refine CD.region ?_
 refine OD.runE 2 [0,1,9,10] (E':=[(0,.bx [.int .i64 room,.int .i64 next,.sl 3 l.length (l.flatMap X04)] 0),(1,.str name),(9,.bx [.int .i64 room,.int .i64 next,.sl 3 l.length (l.flatMap X04)] 0),(10,.str name)]) (by kernel_rfl) ?_
 refine OD.callE (XEa room next l name hl) rfl (by kernel_rfl) (by kernel_rfl) (by kernel_rfl) ?_
 refine OD.runE 5 [0,1,6,7] (E':=[(0,.bx [.int .i64 room,.int .i64 next,.sl 3 l.length (l.flatMap X04)] 0),(1,.str name),(6,.str ((X1j l name).1)),(7,.bool (X1j l name).2)]) (by kernel_rfl) ?_
 refine OD.nil ?_
 refine CD.seq ?_
 refine CD.seq ?_
 refine CD.region ?_
 refine OD.runE 1 [0,6,7,14] (E':=[(0,.bx [.int .i64 room,.int .i64 next,.sl 3 l.length (l.flatMap X04)] 0),(6,.str ((X1j l name).1)),(7,.bool (X1j l name).2),(14,.str name)]) (by kernel_rfl) ?_
 refine OD.eqS rfl rfl ?_
 refine OD.runE 0 [0,6,7,15] (E':=[(0,.bx [.int .i64 room,.int .i64 next,.sl 3 l.length (l.flatMap X04)] 0),(6,.str ((X1j l name).1)),(7,.bool (X1j l name).2),(15,.bool (decide (name=ByteArray.empty)))]) (by kernel_rfl) ?_
 refine OD.nil ?_
 refine CD.condP rfl (fun h1=>?_) (fun h1=>?_)
 ·
  refine CD.region ?_
  refine OD.runE 1 [17] (E':=[(17,.bx [.int .i64 room,.int .i64 next,.sl 3 l.length (l.flatMap X04)] 0)]) (by kernel_rfl) ?_
  refine OD.callE (XEb room next l hl) rfl (by kernel_rfl) (by kernel_rfl) (by kernel_rfl) ?_
  refine OD.runE 6 [6,7] (E':=[(6,.str ((X0z l).2.1)),(7,.bool (X0z l).2.2)]) (by kernel_rfl) ?_
  refine OD.nil ?_
  refine CD.seq ?_
  refine CD.seq ?_
  refine CD.region ?_
  refine OD.runE 2 [6,23] (E':=[(6,.str ((X0z l).2.1)),(23,.bool (!(X0z l).2.2))]) (by kernel_rfl) ?_
  refine OD.nil ?_
  refine CD.condB rfl (fun h2=>?_) (fun h2=>?_)
  ·
   have h2:=XES h2
   refine CD.seq ?_
   refine CD.region ?_
   refine OD.runE 2 [4,5] (E':=[(4,.str ByteArray.empty),(5,.bool false)]) (by kernel_rfl) ?_
   refine OD.nil ?_
   refine CD.ret ?_
   exact X36 (by kernel_rfl) (by kernel_rfl) (r:=.tup [.str ByteArray.empty,.bool false]) (by unfold X0k;simp only [h1,h2,if_true,if_false,cond_true,cond_false]<;>rfl)
  ·
   have h2:=XDL h2
   refine CD.skip ?_
   refine CD.seq ?_
   refine CD.region ?_
   refine OD.runE 1 [24] (E':=[(24,.str ((X0z l).2.1))]) (by kernel_rfl) ?_
   refine OD.callE (XEZ ((X0z l).2.1) (X8v hs)) rfl (by kernel_rfl) (by kernel_rfl) (by kernel_rfl) ?_
   refine OD.runE 0 [25] (E':=[(25,.str (b64 ((X0z l).2.1)))]) (by kernel_rfl) ?_
   refine OD.catS rfl rfl (XBw (X8v hs)) ?_
   refine OD.runE 0 [26] (E':=[(26,.str ((⟨#[27,93,53,50,59,99,59]⟩:ByteArray)++(b64 ((X0z l).2.1))))]) (by kernel_rfl) ?_
   refine OD.catS rfl rfl (X90 (X8v hs)) ?_
   refine OD.runE 2 [4,5] (E':=[(4,.str (((⟨#[27,93,53,50,59,99,59]⟩:ByteArray)++(b64 ((X0z l).2.1)))++(⟨#[7]⟩:ByteArray))),(5,.bool true)]) (by kernel_rfl) ?_
   refine OD.nil ?_
   refine CD.ret ?_
   exact X36 (by kernel_rfl) (by kernel_rfl) (r:=.tup [.str (((⟨#[27,93,53,50,59,99,59]⟩:ByteArray)++(b64 ((X0z l).2.1)))++(⟨#[7]⟩:ByteArray)),.bool true]) (by unfold X0k;simp only [h1,h2,if_true,if_false,cond_true,cond_false]<;>rfl)
 ·
  refine CD.skip ?_
  refine CD.seq ?_
  refine CD.seq ?_
  refine CD.region ?_
  refine OD.runE 2 [6,23] (E':=[(6,.str ((X1j l name).1)),(23,.bool (!(X1j l name).2))]) (by kernel_rfl) ?_
  refine OD.nil ?_
  refine CD.condB rfl (fun h3=>?_) (fun h3=>?_)
  ·
   have h3:=XES h3
   refine CD.seq ?_
   refine CD.region ?_
   refine OD.runE 2 [4,5] (E':=[(4,.str ByteArray.empty),(5,.bool false)]) (by kernel_rfl) ?_
   refine OD.nil ?_
   refine CD.ret ?_
   exact X36 (by kernel_rfl) (by kernel_rfl) (r:=.tup [.str ByteArray.empty,.bool false]) (by unfold X0k;simp only [h1,h3,if_true,if_false,cond_true,cond_false]<;>rfl)
  ·
   have h3:=XDL h3
   refine CD.skip ?_
   refine CD.seq ?_
   refine CD.region ?_
   refine OD.runE 1 [24] (E':=[(24,.str ((X1j l name).1))]) (by kernel_rfl) ?_
   refine OD.callE (XEZ ((X1j l name).1) (X8u hs name)) rfl (by kernel_rfl) (by kernel_rfl) (by kernel_rfl) ?_
   refine OD.runE 0 [25] (E':=[(25,.str (b64 ((X1j l name).1)))]) (by kernel_rfl) ?_
   refine OD.catS rfl rfl (XBw (X8u hs name)) ?_
   refine OD.runE 0 [26] (E':=[(26,.str ((⟨#[27,93,53,50,59,99,59]⟩:ByteArray)++(b64 ((X1j l name).1))))]) (by kernel_rfl) ?_
   refine OD.catS rfl rfl (X90 (X8u hs name)) ?_
   refine OD.runE 2 [4,5] (E':=[(4,.str (((⟨#[27,93,53,50,59,99,59]⟩:ByteArray)++(b64 ((X1j l name).1)))++(⟨#[7]⟩:ByteArray))),(5,.bool true)]) (by kernel_rfl) ?_
   refine OD.nil ?_
   refine CD.ret ?_
   exact X36 (by kernel_rfl) (by kernel_rfl) (r:=.tup [.str (((⟨#[27,93,53,50,59,99,59]⟩:ByteArray)++(b64 ((X1j l name).1)))++(⟨#[7]⟩:ByteArray)),.bool true]) (by unfold X0k;simp only [h1,h3,if_true,if_false,cond_true,cond_false]<;>rfl)
end
end Go.Proofs.YtmmmjbipgngamaaGreatDoor
