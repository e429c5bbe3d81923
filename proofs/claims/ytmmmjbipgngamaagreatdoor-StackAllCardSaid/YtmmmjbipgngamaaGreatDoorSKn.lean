/-
  What is proved here: which names are there after some pushes, where one was set before. what functions of the stack come to (walks that a program of mine has printed). No conditions but those that the theorems state.
-/
import Derived.Test.YtmmmjbipgngamaaGreatDoorSKk
set_option linter.unusedVariables false
set_option linter.unusedSimpArgs false
namespace Go.Vai
open Go.RowKit
noncomputable section
def stX (tx:ByteArray) (room n:Nat):List X0A:=(List.range (min room n)).map fun j=>(bn (n - 1 - j),tx,true)
theorem XBx {tx:ByteArray} (room n:Nat):(stX tx room n).length=min room n:=by simp [stX]
theorem XBy {tx:ByteArray} (room n:Nat):X0G (stX tx room n) true=min room n:=by
 unfold X0G
 rw [List.filter_eq_self.2,XBx]
 intro e he
 obtain⟨j,_,rfl⟩:=List.mem_map.1 he
 rfl
theorem X4H.bound {l:List X0A} {n k:Nat} (h:X4H l n k):k≤n+l.length:=by
 obtain⟨h1,_,h3⟩:=h
 have:∀ d,n+d≤k→XBq l (n+d)+d≤XBq l n:=by
  intro d
  induction d with
  | zero=>intro _;simp
  | succ d ih =>
   intro hd
   have:=ih (by omega)
   have:=X71 (h3 (n+d) (by omega) (by omega))
   rw [show n+(d+1)=n+d+1 by omega]
   omega
 have:=this (k - n) (by omega)
 have:=X8x l n
 omega
def InvA (x y:ByteArray) (l:List X0A):Prop:=∃ A:List X0A,l=A++[(x,y,false)]∧(∀ e∈A,e.2.2=true∧¬ e.1=x)∧A.length≤2
theorem XAZ (A B:List X0A) (b:Bool):X0G (A++B) b=X0G A b+X0G B b:=by
 unfold X0G;rw [List.filter_append,List.length_append]
theorem XAa {A:List X0A} (h:∀ e∈A,e.2.2=true):X0G A true=A.length:=by
 unfold X0G
 rw [List.filter_eq_self.2]
 intro e he;exact decide_eq_true (h e he)
theorem XAb {x y:ByteArray} {A:List X0A} (h:∀ e∈A,e.2.2=true∧¬ e.1=x):X0G (A++[(x,y,false)]) true=A.length:=by
 rw [XAZ,XAa fun e he=>(h e he).1];rfl
def StN (x y tx:ByteArray) (ok:Bool) (i:Nat) (l:List X0A) (nx:Nat):Prop:=(ok=true∧InvA x y l∧nx≤4*i)∨(ok=false∧l=stX tx 2 i∧nx=i)
theorem StN.len {x y tx:ByteArray} {ok:Bool} {i nx:Nat} {l:List X0A} (h:StN x y tx ok i l nx):l.length≤3∧nx≤4*i∧X0G l true≤2:=by
 rcases h with⟨_,⟨A,rfl,h1,h2⟩,h3⟩ | ⟨_,rfl,rfl⟩
 · rw [XAb h1,List.length_append];simp only [List.length_cons,List.length_nil];omega
 · rw [XBy,XBx];omega
end
end Go.Vai
set_option maxRecDepth 100000
set_option maxHeartbeats 4000000
namespace Go.Proofs.YtmmmjbipgngamaaGreatDoor
open Go.Vai Go.RowKit
noncomputable section
theorem XH2 (s:ByteArray):X2G P ov 38 [.str s] (.bool (X1J s)):=by
 refine FnD.intro (by kernel_rfl) (fn:=Tryz.f38) (by kernel_rfl) rfl (by kernel_rfl) fun M a0 g0 hg0=>?_
 refine CD.seq ?_
 refine CD.region ?_
 refine OD.runE 1 [0] (E':=[(0,.str s)]) (by kernel_rfl) ?_
 refine OD.nil ?_
 refine CD.seq ?_
 refine CD.region ?_
 refine OD.runE 1 [0,3] (E':=[(0,.str s),(3,.fn 59)]) (by kernel_rfl) ?_
 refine OD.nil ?_
 refine CD.seq ?_
 refine CD.region ?_
 refine OD.runE 1 [0,3,4] (E':=[(0,.str s),(3,.fn 59),(4,.str s)]) (by kernel_rfl) ?_
 refine OD.neS rfl rfl ?_
 refine OD.runE 1 [0,3,6] (E':=[(0,.str s),(3,.fn 59),(6,.bool (decide (¬ s=ByteArray.empty)))]) (by kernel_rfl) ?_
 refine OD.ifP 6 rfl (fun h1=>?_) (fun h1=>?_)
 ·
  refine OD.runE 5 [0,3,11] (E':=[(0,.str s),(3,.fn 59),(11,.bool (decide ((((s.size:Nat):Int):Int)≤20)))]) (by kernel_rfl) ?_
  refine OD.ifP 11 rfl (fun h2=>?_) (fun h2=>?_)
  ·
   refine OD.runE 2 [11,12,13] (E':=[(11,.bool true),(12,.str s),(13,.fn 59)]) (by kernel_rfl) ?_
   refine OD.guard rfl rfl ?_
   refine OD.callE (XFn s) rfl (by kernel_rfl) (by kernel_rfl) (by kernel_rfl) ?_
   refine OD.runE 3 [2] (E':=[(2,.bool (!(decide (0≤Lib.idxFunc X7M true s))))]) (by kernel_rfl) ?_
   refine OD.nil ?_
   refine CD.ret ?_
   exact X36 (by kernel_rfl) (by kernel_rfl) (r:=.bool (!(decide (0≤Lib.idxFunc X7M true s)))) ((congrArg D.bool (show _=X7R s by unfold X7R;simp only [h1,h2,decide_true,decide_false,Bool.true_and,Bool.false_and,Bool.and_true,Bool.and_false,Bool.true_or,Bool.false_or,Bool.or_true,Bool.or_false,Bool.not_true,Bool.not_false,if_true,if_false,not_true,not_false_eq_true,and_true,true_and,or_true,true_or,or_false,false_or,and_false,false_and,ite_true,ite_false,reduceIte,Bool.false_eq_true])).trans (congrArg D.bool (X6h s)))
  ·
   refine OD.runE 6 [2] (E':=[(2,.bool false)]) (by kernel_rfl) ?_
   refine OD.nil ?_
   refine CD.ret ?_
   exact X36 (by kernel_rfl) (by kernel_rfl) (r:=.bool false) ((congrArg D.bool (show _=X7R s by unfold X7R;simp only [h1,h2,decide_true,decide_false,Bool.true_and,Bool.false_and,Bool.and_true,Bool.and_false,Bool.true_or,Bool.false_or,Bool.or_true,Bool.or_false,Bool.not_true,Bool.not_false,if_true,if_false,not_true,not_false_eq_true,and_true,true_and,or_true,true_or,or_false,false_or,and_false,false_and,ite_true,ite_false,reduceIte,Bool.false_eq_true])).trans (congrArg D.bool (X6h s)))
 ·
  refine OD.runE 11 [2] (E':=[(2,.bool false)]) (by kernel_rfl) ?_
  refine OD.nil ?_
  refine CD.ret ?_
  exact X36 (by kernel_rfl) (by kernel_rfl) (r:=.bool false) ((congrArg D.bool (show _=X7R s by unfold X7R;simp only [h1,decide_true,decide_false,Bool.true_and,Bool.false_and,Bool.and_true,Bool.and_false,Bool.true_or,Bool.false_or,Bool.or_true,Bool.or_false,Bool.not_true,Bool.not_false,if_true,if_false,not_true,not_false_eq_true,and_true,true_and,or_true,true_or,or_false,false_or,and_false,false_and,ite_true,ite_false,reduceIte,Bool.false_eq_true])).trans (congrArg D.bool (X6h s)))
theorem XBz (s:ByteArray) (hs:s.size≤1000000):X2G P ov 24 [.str s] (.bool (X1J s)):=by
 refine FnD.intro (by kernel_rfl) (fn:=Tryz.f24) (by kernel_rfl) rfl (by kernel_rfl) fun M a0 g0 hg0=>?_
 refine CD.seq ?_
 refine CD.region ?_
 refine OD.runE 1 [0] (E':=[(0,.str s)]) (by kernel_rfl) ?_
 refine OD.nil ?_
 refine CD.seq ?_
 refine CD.seq ?_
 refine CD.region ?_
 refine OD.runE 1 [0,3] (E':=[(0,.str s),(3,.int .i64 0)]) (by kernel_rfl) ?_
 refine OD.nil ?_
 refine CD.block ?_
 refine CD.weak [0,3] 0 (E':=[(0,.str s),(3,.int .i64 0)]) (by kernel_rfl) (by simp [hg0]) (by kernel_rfl) ?_
 refine CD.loop (fun m σ=>∃ (i:Nat),σ=⟨[(0,.str s),(3,.int .i64 ((i:Nat):Int))],[]⟩∧(i≤s.size)∧(∀ j,j<i→X2x (sB s j))∧m=s.size - i) (fun m σ hI=>?_) _ ⟨0,(by kernel_rfl),Nat.zero_le _,(fun j hj=>absurd hj (Nat.not_lt_zero j)),rfl⟩
 obtain⟨i,e,hi,hg,hm⟩:=hI
 subst e hm
 refine CD.seq ?_
 refine CD.seq ?_
 refine CD.region ?_
 refine OD.runE 4 [0,3,7] (E':=[(0,.str s),(3,.int .i64 ((i:Nat):Int)),(7,.bool (decide ((((i:Nat):Int):Int)<((s.size:Nat):Int))))]) (by kernel_rfl) ?_
 refine OD.nil ?_
 refine CD.condP rfl (fun h1=>?_) (fun h1=>?_)
 ·
  refine CD.skip ?_
  refine CD.seq ?_
  refine CD.block ?_
  refine CD.seq ?_
  refine CD.region ?_
  refine OD.runE 2 [0,3,10,11] (E':=[(0,.str s),(3,.int .i64 ((i:Nat):Int)),(10,.str s),(11,.int .i64 ((i:Nat):Int))]) (by kernel_rfl) ?_
  refine OD.ixS (i:=i) rfl rfl (by kernel_rfl) (by omega) (by omega) (fun hb1=>?_)
  refine OD.runE 2 [0,3,14] (E':=[(0,.str s),(3,.int .i64 ((i:Nat):Int)),(14,.bool (decide ((97:Int)≤((sB s i:Nat):Int))))]) (by kernel_rfl) ?_
  refine OD.ifP 14 rfl (fun h2=>?_) (fun h2=>?_)
  ·
   refine OD.runE 2 [0,3,14,15,16] (E':=[(0,.str s),(3,.int .i64 ((i:Nat):Int)),(14,.bool true),(15,.str s),(16,.int .i64 ((i:Nat):Int))]) (by kernel_rfl) ?_
   refine OD.guard rfl rfl ?_
   refine OD.ixS (i:=i) rfl rfl (by kernel_rfl) (by omega) (by omega) (fun hb2=>?_)
   refine OD.runE 3 [0,3,20] (E':=[(0,.str s),(3,.int .i64 ((i:Nat):Int)),(20,.bool (decide ((((sB s i:Nat):Int):Int)≤122)))]) (by kernel_rfl) ?_
   refine OD.ifP 20 rfl (fun h3=>?_) (fun h3=>?_)
   ·
    refine OD.runE 12 [0,3,32] (E':=[(0,.str s),(3,.int .i64 ((i:Nat):Int)),(32,.bool false)]) (by kernel_rfl) ?_
    refine OD.nil ?_
    refine CD.condF rfl ?_
    refine CD.skip ?_
    refine CD.region ?_
    refine OD.runE 2 [0,9] (E':=[(0,.str s),(9,.int .i64 (X0X .i64 (((i:Nat):Int)+1)))]) (by kernel_rfl) ?_
    refine OD.is 9 rfl (wrn (m:=i+1) (by omega) (by omega)) ?_
    refine OD.runE 1 [0,3] (E':=[(0,.str s),(3,.int .i64 ((i+1:Nat):Int))]) (by kernel_rfl) ?_
    refine OD.nil ?_
    exact⟨_,by omega,i+1,(by kernel_rfl),by omega,(fun j hj=>by by_cases e:j=i;(subst e;unfold X2x;omega);exact hg j (by omega)),rfl⟩
   ·
    refine OD.runE 2 [0,3,20,21,22] (E':=[(0,.str s),(3,.int .i64 ((i:Nat):Int)),(20,.bool false),(21,.str s),(22,.int .i64 ((i:Nat):Int))]) (by kernel_rfl) ?_
    refine OD.guard rfl rfl ?_
    refine OD.ixS (i:=i) rfl rfl (by kernel_rfl) (by omega) (by omega) (fun hb3=>?_)
    refine OD.runE 2 [0,3,20,25] (E':=[(0,.str s),(3,.int .i64 ((i:Nat):Int)),(20,.bool false),(25,.bool (decide ((48:Int)≤((sB s i:Nat):Int))))]) (by kernel_rfl) ?_
    refine OD.ifP 25 rfl (fun h4=>?_) (fun h4=>?_)
    ·
     refine OD.runE 2 [0,3,20,25,26,27] (E':=[(0,.str s),(3,.int .i64 ((i:Nat):Int)),(20,.bool false),(25,.bool true),(26,.str s),(27,.int .i64 ((i:Nat):Int))]) (by kernel_rfl) ?_
     refine OD.guard rfl rfl ?_
     refine OD.ixS (i:=i) rfl rfl (by kernel_rfl) (by omega) (by omega) (fun hb4=>?_)
     refine OD.runE 4 [0,3,32] (E':=[(0,.str s),(3,.int .i64 ((i:Nat):Int)),(32,.bool (!(decide ((((sB s i:Nat):Int):Int)≤57))))]) (by kernel_rfl) ?_
     refine OD.nil ?_
     refine CD.condB rfl (fun h5=>?_) (fun h5=>?_)
     ·
      have h5:=ndt h5
      refine CD.seq ?_
      refine CD.region ?_
      refine OD.runE 1 [2] (E':=[(2,.bool false)]) (by kernel_rfl) ?_
      refine OD.nil ?_
      refine CD.ret ?_
      exact X36 (by kernel_rfl) (by kernel_rfl) (r:=.bool false) (by first | exact congrArg D.bool (X2S (i:=i) (by omega) (by unfold X2x;omega)) | exact congrArg D.bool (X1e (by assumption)) | exact congrArg D.bool (X2T (fun j hj=>hg j (by omega)) (by assumption)))
     ·
      have h5:=ndf h5
      refine CD.skip ?_
      refine CD.region ?_
      refine OD.runE 2 [0,9] (E':=[(0,.str s),(9,.int .i64 (X0X .i64 (((i:Nat):Int)+1)))]) (by kernel_rfl) ?_
      refine OD.is 9 rfl (wrn (m:=i+1) (by omega) (by omega)) ?_
      refine OD.runE 1 [0,3] (E':=[(0,.str s),(3,.int .i64 ((i+1:Nat):Int))]) (by kernel_rfl) ?_
      refine OD.nil ?_
      exact⟨_,by omega,i+1,(by kernel_rfl),by omega,(fun j hj=>by by_cases e:j=i;(subst e;unfold X2x;omega);exact hg j (by omega)),rfl⟩
    ·
     refine OD.runE 7 [0,3,32] (E':=[(0,.str s),(3,.int .i64 ((i:Nat):Int)),(32,.bool true)]) (by kernel_rfl) ?_
     refine OD.nil ?_
     refine CD.condT rfl ?_
     refine CD.seq ?_
     refine CD.region ?_
     refine OD.runE 1 [2] (E':=[(2,.bool false)]) (by kernel_rfl) ?_
     refine OD.nil ?_
     refine CD.ret ?_
     exact X36 (by kernel_rfl) (by kernel_rfl) (r:=.bool false) (by first | exact congrArg D.bool (X2S (i:=i) (by omega) (by unfold X2x;omega)) | exact congrArg D.bool (X1e (by assumption)) | exact congrArg D.bool (X2T (fun j hj=>hg j (by omega)) (by assumption)))
  ·
   refine OD.runE 8 [0,3,20,21,22] (E':=[(0,.str s),(3,.int .i64 ((i:Nat):Int)),(20,.bool false),(21,.str s),(22,.int .i64 ((i:Nat):Int))]) (by kernel_rfl) ?_
   refine OD.guard rfl rfl ?_
   refine OD.ixS (i:=i) rfl rfl (by kernel_rfl) (by omega) (by omega) (fun hb5=>?_)
   refine OD.runE 2 [0,3,20,25] (E':=[(0,.str s),(3,.int .i64 ((i:Nat):Int)),(20,.bool false),(25,.bool (decide ((48:Int)≤((sB s i:Nat):Int))))]) (by kernel_rfl) ?_
   refine OD.ifP 25 rfl (fun h6=>?_) (fun h6=>?_)
   ·
    refine OD.runE 2 [0,3,20,25,26,27] (E':=[(0,.str s),(3,.int .i64 ((i:Nat):Int)),(20,.bool false),(25,.bool true),(26,.str s),(27,.int .i64 ((i:Nat):Int))]) (by kernel_rfl) ?_
    refine OD.guard rfl rfl ?_
    refine OD.ixS (i:=i) rfl rfl (by kernel_rfl) (by omega) (by omega) (fun hb6=>?_)
    refine OD.runE 4 [0,3,32] (E':=[(0,.str s),(3,.int .i64 ((i:Nat):Int)),(32,.bool (!(decide ((((sB s i:Nat):Int):Int)≤57))))]) (by kernel_rfl) ?_
    refine OD.nil ?_
    refine CD.condB rfl (fun h7=>?_) (fun h7=>?_)
    ·
     have h7:=ndt h7
     refine CD.seq ?_
     refine CD.region ?_
     refine OD.runE 1 [2] (E':=[(2,.bool false)]) (by kernel_rfl) ?_
     refine OD.nil ?_
     refine CD.ret ?_
     exact X36 (by kernel_rfl) (by kernel_rfl) (r:=.bool false) (by first | exact congrArg D.bool (X2S (i:=i) (by omega) (by unfold X2x;omega)) | exact congrArg D.bool (X1e (by assumption)) | exact congrArg D.bool (X2T (fun j hj=>hg j (by omega)) (by assumption)))
    ·
     have h7:=ndf h7
     refine CD.skip ?_
     refine CD.region ?_
     refine OD.runE 2 [0,9] (E':=[(0,.str s),(9,.int .i64 (X0X .i64 (((i:Nat):Int)+1)))]) (by kernel_rfl) ?_
     refine OD.is 9 rfl (wrn (m:=i+1) (by omega) (by omega)) ?_
     refine OD.runE 1 [0,3] (E':=[(0,.str s),(3,.int .i64 ((i+1:Nat):Int))]) (by kernel_rfl) ?_
     refine OD.nil ?_
     exact⟨_,by omega,i+1,(by kernel_rfl),by omega,(fun j hj=>by by_cases e:j=i;(subst e;unfold X2x;omega);exact hg j (by omega)),rfl⟩
   ·
    refine OD.runE 7 [0,3,32] (E':=[(0,.str s),(3,.int .i64 ((i:Nat):Int)),(32,.bool true)]) (by kernel_rfl) ?_
    refine OD.nil ?_
    refine CD.condT rfl ?_
    refine CD.seq ?_
    refine CD.region ?_
    refine OD.runE 1 [2] (E':=[(2,.bool false)]) (by kernel_rfl) ?_
    refine OD.nil ?_
    refine CD.ret ?_
    exact X36 (by kernel_rfl) (by kernel_rfl) (r:=.bool false) (by first | exact congrArg D.bool (X2S (i:=i) (by omega) (by unfold X2x;omega)) | exact congrArg D.bool (X1e (by assumption)) | exact congrArg D.bool (X2T (fun j hj=>hg j (by omega)) (by assumption)))
 ·
  refine CD.exit ?_
  refine CD.seq ?_
  refine CD.region ?_
  refine OD.runE 4 [0,36] (E':=[(0,.str s),(36,.bool (decide ((1:Int)≤((s.size:Nat):Int))))]) (by kernel_rfl) ?_
  refine OD.ifP 36 rfl (fun h8=>?_) (fun h8=>?_)
  ·
   refine OD.runE 5 [2] (E':=[(2,.bool (decide ((((s.size:Nat):Int):Int)≤20)))]) (by kernel_rfl) ?_
   refine OD.nil ?_
   refine CD.ret ?_
   exact X36 (by kernel_rfl) (by kernel_rfl) (r:=.bool (decide ((((s.size:Nat):Int):Int)≤20))) (by first | exact congrArg D.bool (X2S (i:=i) (by omega) (by unfold X2x;omega)) | exact congrArg D.bool (X1e (by assumption)) | exact congrArg D.bool (X2T (fun j hj=>hg j (by omega)) (by assumption)))
  ·
   refine OD.runE 5 [2] (E':=[(2,.bool false)]) (by kernel_rfl) ?_
   refine OD.nil ?_
   refine CD.ret ?_
   exact X36 (by kernel_rfl) (by kernel_rfl) (r:=.bool false) (by first | exact congrArg D.bool (X2S (i:=i) (by omega) (by unfold X2x;omega)) | exact congrArg D.bool (X1e (by assumption)) | exact congrArg D.bool (X2T (fun j hj=>hg j (by omega)) (by assumption)))
end
end Go.Proofs.YtmmmjbipgngamaaGreatDoor
