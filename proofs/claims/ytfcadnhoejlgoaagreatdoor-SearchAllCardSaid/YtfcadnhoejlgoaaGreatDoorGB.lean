/-
  What is proved here: what functions of the pattern's package come to (walks that a program of mine has printed). No conditions.
-/
import Derived.Test.YtfcadnhoejlgoaaGreatDoorGA
import Derived.Test.YtfcadnhoejlgoaaGreatDoorFC
import Derived.Test.YtfcadnhoejlgoaaGreatDoorRI
set_option linter.unusedVariables false
set_option linter.unusedSimpArgs false
set_option maxRecDepth 100000
set_option maxHeartbeats 4000000
namespace Go.Proofs.YtfcadnhoejlgoaaGreatDoor
open Go.Vai Go.Nfa
noncomputable section
theorem XI3  : X1G P ov 64 [] (.agg [.int .i32 0,.i64 1,.i64 0]):=by
 refine FnD.intro (by kernel_rfl) (fn:=Tryz.f64) (by kernel_rfl) rfl (by kernel_rfl) fun M a0 g0 hg0=>?_
 refine CD.seq (CD.region ?_)
 refine OD.rL 1 [(0,.loc 0 0)] [.box [.int .i32 0,.i64 0,.i64 0]] ?_
 refine OD.nil (CD.seq (CD.region ?_))
 refine OD.rL 2 [(0,.loc 0 0)] [.box [.int .i32 0,.i64 1,.i64 0]] ?_
 refine OD.nil (CD.ret ?_)
 exact rP (.agg [.int .i32 0,.i64 1,.i64 0]) (rfl)
theorem XBJ (r:Int):FnD P ov 44 [.int .i32 r] [] (fun r L1=>(fun r0=>∃ w:Int,r0=.i64 w) r∧L1=[]):=by
 refine FnD.intro (by kernel_rfl) (fn:=Tryz.f44) (by kernel_rfl) rfl (by kernel_rfl) fun M a0 g0 hg0=>?_
 refine CD.seq (CD.region ?_)
 refine OD.rE 1 [(0,.int .i32 r)] ?_
 refine OD.nil (CD.seq (CD.region ?_))
 refine OD.rE 7 [(0,.int .i32 r),(7,.agg [.int .i32 (-2147483648),.int .i32 31]),(8,.agg [.int .i32 127,.int .i32 159]),(9,.agg [.int .i32 768,.int .i32 879]),(10,.agg [.int .i32 8203,.int .i32 8207]),(11,.agg [.int .i32 65024,.int .i32 65039]),(12,.agg [.int .i32 1114112,.int .i32 2147483647]),(13,.agg [.int .i32 55296,.int .i32 57343])] ?_
 refine OD.bsl (e:=2) (cs:=[.int .i32 (-2147483648),.int .i32 31,.int .i32 127,.int .i32 159,.int .i32 768,.int .i32 879,.int .i32 8203,.int .i32 8207,.int .i32 65024,.int .i32 65039,.int .i32 1114112,.int .i32 2147483647,.int .i32 55296,.int .i32 57343]) rfl (by kernel_rfl) ?_
 refine OD.is 14 rfl (show _=D.sl 2 X0h.length (X0h.flatMap X0I)from rfl) ?_
 refine OD.rE 1 [(0,.int .i32 r),(3,.sl 2 X0h.length (X0h.flatMap X0I))] ?_
 refine OD.nil (CD.seq (CD.region ?_))
 refine OD.rE 14 [(0,.int .i32 r),(3,.sl 2 X0h.length (X0h.flatMap X0I)),(15,.agg [.int .i32 4352,.int .i32 4447]),(16,.agg [.int .i32 11904,.int .i32 12350]),(17,.agg [.int .i32 12353,.int .i32 13311]),(18,.agg [.int .i32 13312,.int .i32 19903]),(19,.agg [.int .i32 19968,.int .i32 40959]),(20,.agg [.int .i32 40960,.int .i32 42191]),(21,.agg [.int .i32 44032,.int .i32 55203]),(22,.agg [.int .i32 63744,.int .i32 64255]),(23,.agg [.int .i32 65072,.int .i32 65135]),(24,.agg [.int .i32 65280,.int .i32 65376]),(25,.agg [.int .i32 65504,.int .i32 65510]),(26,.agg [.int .i32 127744,.int .i32 128591]),(27,.agg [.int .i32 129280,.int .i32 129535]),(28,.agg [.int .i32 131072,.int .i32 262141])] ?_
 refine OD.bsl (e:=2) (cs:=[.int .i32 4352,.int .i32 4447,.int .i32 11904,.int .i32 12350,.int .i32 12353,.int .i32 13311,.int .i32 13312,.int .i32 19903,.int .i32 19968,.int .i32 40959,.int .i32 40960,.int .i32 42191,.int .i32 44032,.int .i32 55203,.int .i32 63744,.int .i32 64255,.int .i32 65072,.int .i32 65135,.int .i32 65280,.int .i32 65376,.int .i32 65504,.int .i32 65510,.int .i32 127744,.int .i32 128591,.int .i32 129280,.int .i32 129535,.int .i32 131072,.int .i32 262141]) rfl (by kernel_rfl) ?_
 refine OD.is 29 rfl (show _=D.sl 2 X0J.length (X0J.flatMap X0I)from rfl) ?_
 refine OD.rE 1 [(0,.int .i32 r),(3,.sl 2 X0h.length (X0h.flatMap X0I)),(4,.sl 2 X0J.length (X0J.flatMap X0I))] ?_
 refine OD.nil (CD.seq (CD.seq (CD.region ?_)))
 refine OD.rE 1 [(0,.int .i32 r),(3,.sl 2 X0h.length (X0h.flatMap X0I)),(4,.sl 2 X0J.length (X0J.flatMap X0I)),(5,.i64 0)] ?_
 refine OD.nil (CD.block ?_)
 refine CD.weak [0,3,4,5] 0 (E':=[(0,.int .i32 r),(3,.sl 2 X0h.length (X0h.flatMap X0I)),(4,.sl 2 X0J.length (X0J.flatMap X0I)),(5,.i64 0)]) (by kernel_rfl) (by simp [hg0]) (by kernel_rfl) ?_
 refine CD.loop (fun m σ=>∃ (i:Nat),σ=⟨[(0,.int .i32 r),(3,.sl 2 X0h.length (X0h.flatMap X0I)),(4,.sl 2 X0J.length (X0J.flatMap X0I)),(5,.i64 i)],[]⟩∧(i≤X0h.length)∧m=X0h.length - i) (fun m σ hI=>?_) _ ⟨0,(by kernel_rfl),Nat.zero_le _,rfl⟩
 obtain⟨i,e,hi,hm⟩:=hI
 subst e hm
 have hz7:X0h.length=7:=rfl
 have hw14:X0J.length=14:=rfl
 refine CD.seq (CD.seq (CD.region ?_))
 refine OD.rE 4 [(0,.int .i32 r),(3,.sl 2 X0h.length (X0h.flatMap X0I)),(4,.sl 2 X0J.length (X0J.flatMap X0I)),(5,.i64 i),(33,.bool (decide ((((i:Nat):Int):Int)<((X0h.length:Nat):Int))))] ?_
 refine OD.nil ?_
 refine CD.condP rfl (fun h1=>?_) (fun h1=>?_)
 ·
  obtain⟨x,hx,hd⟩:=nth (l:=X0h) (i:=i) (by omega)
  refine CD.skip (CD.seq (CD.block (CD.seq (CD.region ?_))))
  refine OD.rE 3 [(0,.int .i32 r),(3,.sl 2 X0h.length (X0h.flatMap X0I)),(4,.sl 2 X0J.length (X0J.flatMap X0I)),(5,.i64 i),(36,.int .i32 r),(37,.sl 2 X0h.length (X0h.flatMap X0I)),(38,.i64 i)] ?_
  refine OD.idx rfl rfl (by kernel_rfl) (by omega) (by omega) ?_
  refine OD.rE 0 [(0,.int .i32 r),(3,.sl 2 X0h.length (X0h.flatMap X0I)),(4,.sl 2 X0J.length (X0J.flatMap X0I)),(5,.i64 i),(36,.int .i32 r),(39,.ep 2 X0h.length (X0h.flatMap X0I) ((((i:Nat):Int):Int).toNat*2))] ?_
  refine OD.idxEA (o1:=0) (b':=0) (x':=none) rfl rfl (by kernel_rfl) ?_
  refine OD.rE 0 [(0,.int .i32 r),(3,.sl 2 X0h.length (X0h.flatMap X0I)),(4,.sl 2 X0J.length (X0J.flatMap X0I)),(5,.i64 i),(36,.int .i32 r),(40,.ep 2 X0h.length (X0h.flatMap X0I) ((((i:Nat):Int):Int).toNat*2+0))] ?_
  refine OD.ldL rfl (by kernel_rfl) (XDa hx) ?_
  refine OD.rE 2 [(0,.int .i32 r),(3,.sl 2 X0h.length (X0h.flatMap X0I)),(4,.sl 2 X0J.length (X0J.flatMap X0I)),(5,.i64 i),(43,.bool (decide ((x.1:Int)≤r)))] ?_
  refine OD.ifP 43 rfl (fun h2=>?_) (fun h2=>?_)
  ·
   refine OD.rE 3 [(0,.int .i32 r),(3,.sl 2 X0h.length (X0h.flatMap X0I)),(4,.sl 2 X0J.length (X0J.flatMap X0I)),(5,.i64 i),(43,.bool true),(44,.int .i32 r),(45,.sl 2 X0h.length (X0h.flatMap X0I)),(46,.i64 i)] ?_
   refine OD.guard rfl rfl ?_
   refine OD.idx rfl rfl (by kernel_rfl) (by omega) (by omega) ?_
   refine OD.rE 0 [(0,.int .i32 r),(3,.sl 2 X0h.length (X0h.flatMap X0I)),(4,.sl 2 X0J.length (X0J.flatMap X0I)),(5,.i64 i),(43,.bool true),(44,.int .i32 r),(47,.ep 2 X0h.length (X0h.flatMap X0I) ((((i:Nat):Int):Int).toNat*2))] ?_
   refine OD.guard rfl rfl ?_
   refine OD.idxEA (o1:=1) (b':=0) (x':=none) rfl rfl (by kernel_rfl) ?_
   refine OD.rE 0 [(0,.int .i32 r),(3,.sl 2 X0h.length (X0h.flatMap X0I)),(4,.sl 2 X0J.length (X0J.flatMap X0I)),(5,.i64 i),(43,.bool true),(44,.int .i32 r),(48,.ep 2 X0h.length (X0h.flatMap X0I) ((((i:Nat):Int):Int).toNat*2+1))] ?_
   refine OD.guard rfl rfl ?_
   refine OD.ldL rfl (by kernel_rfl) (XDb hx) ?_
   refine OD.rE 2 [(0,.int .i32 r),(3,.sl 2 X0h.length (X0h.flatMap X0I)),(4,.sl 2 X0J.length (X0J.flatMap X0I)),(5,.i64 i),(51,.bool (decide ((r:Int)≤x.2)))] ?_
   refine OD.nil ?_
   refine CD.condP rfl (fun h3=>?_) (fun h3=>?_)
   ·
    refine CD.seq (CD.region ?_)
    refine OD.rE 1 [(2,.i64 0)] ?_
    refine OD.nil (CD.ret ?_)
    (try dsimp only);first | refine X01 ?_ | refine X02 ?_
    exact rO 0 (.i64 0) [] (⟨⟨_,rfl⟩,rfl⟩)
   ·
    refine CD.skip (CD.region ?_)
    refine OD.rE 2 [(0,.int .i32 r),(3,.sl 2 X0h.length (X0h.flatMap X0I)),(4,.sl 2 X0J.length (X0J.flatMap X0I)),(35,.i64 (X08 .i64 (((i:Nat):Int)+1)))] ?_
    refine OD.is 35 rfl (wrn (m:=i+1) (by omega) (by omega)) ?_
    refine OD.rE 1 [(0,.int .i32 r),(3,.sl 2 X0h.length (X0h.flatMap X0I)),(4,.sl 2 X0J.length (X0J.flatMap X0I)),(5,.i64 ((i+1:Nat):Int))] ?_
    refine OD.nil ?_
    exact⟨_,by omega,i+1,(by kernel_rfl),by omega,rfl⟩
  ·
   refine OD.rE 8 [(0,.int .i32 r),(3,.sl 2 X0h.length (X0h.flatMap X0I)),(4,.sl 2 X0J.length (X0J.flatMap X0I)),(5,.i64 i),(51,.bool false)] ?_
   refine OD.nil ?_
   refine CD.condF rfl ?_
   refine CD.skip (CD.region ?_)
   refine OD.rE 2 [(0,.int .i32 r),(3,.sl 2 X0h.length (X0h.flatMap X0I)),(4,.sl 2 X0J.length (X0J.flatMap X0I)),(35,.i64 (X08 .i64 (((i:Nat):Int)+1)))] ?_
   refine OD.is 35 rfl (wrn (m:=i+1) (by omega) (by omega)) ?_
   refine OD.rE 1 [(0,.int .i32 r),(3,.sl 2 X0h.length (X0h.flatMap X0I)),(4,.sl 2 X0J.length (X0J.flatMap X0I)),(5,.i64 ((i+1:Nat):Int))] ?_
   refine OD.nil ?_
   exact⟨_,by omega,i+1,(by kernel_rfl),by omega,rfl⟩
 ·
  refine CD.exit ?_
  refine CD.seq (CD.seq (CD.region ?_))
  refine OD.rE 1 [(0,.int .i32 r),(4,.sl 2 X0J.length (X0J.flatMap X0I)),(6,.i64 0)] ?_
  refine OD.nil (CD.block ?_)
  refine CD.weak [0,4,6] 0 (E':=[(0,.int .i32 r),(4,.sl 2 X0J.length (X0J.flatMap X0I)),(6,.i64 0)]) (by kernel_rfl) (by simp [hg0]) (by kernel_rfl) ?_
  refine CD.loop (fun m σ=>∃ (i:Nat),σ=⟨[(0,.int .i32 r),(4,.sl 2 X0J.length (X0J.flatMap X0I)),(6,.i64 i)],[]⟩∧(i≤X0J.length)∧m=X0J.length - i) (fun m σ hI=>?_) _ ⟨0,(by kernel_rfl),Nat.zero_le _,rfl⟩
  obtain⟨i,e,hi,hm⟩:=hI
  subst e hm
  have hz7:X0h.length=7:=rfl
  have hw14:X0J.length=14:=rfl
  refine CD.seq (CD.seq (CD.region ?_))
  refine OD.rE 4 [(0,.int .i32 r),(4,.sl 2 X0J.length (X0J.flatMap X0I)),(6,.i64 i),(55,.bool (decide ((((i:Nat):Int):Int)<((X0J.length:Nat):Int))))] ?_
  refine OD.nil ?_
  refine CD.condP rfl (fun h4=>?_) (fun h4=>?_)
  ·
   obtain⟨x,hx,hd⟩:=nth (l:=X0J) (i:=i) (by omega)
   refine CD.skip (CD.seq (CD.block (CD.seq (CD.region ?_))))
   refine OD.rE 3 [(0,.int .i32 r),(4,.sl 2 X0J.length (X0J.flatMap X0I)),(6,.i64 i),(58,.int .i32 r),(59,.sl 2 X0J.length (X0J.flatMap X0I)),(60,.i64 i)] ?_
   refine OD.idx rfl rfl (by kernel_rfl) (by omega) (by omega) ?_
   refine OD.rE 0 [(0,.int .i32 r),(4,.sl 2 X0J.length (X0J.flatMap X0I)),(6,.i64 i),(58,.int .i32 r),(61,.ep 2 X0J.length (X0J.flatMap X0I) ((((i:Nat):Int):Int).toNat*2))] ?_
   refine OD.idxEA (o1:=0) (b':=0) (x':=none) rfl rfl (by kernel_rfl) ?_
   refine OD.rE 0 [(0,.int .i32 r),(4,.sl 2 X0J.length (X0J.flatMap X0I)),(6,.i64 i),(58,.int .i32 r),(62,.ep 2 X0J.length (X0J.flatMap X0I) ((((i:Nat):Int):Int).toNat*2+0))] ?_
   refine OD.ldL rfl (by kernel_rfl) (XDa hx) ?_
   refine OD.rE 2 [(0,.int .i32 r),(4,.sl 2 X0J.length (X0J.flatMap X0I)),(6,.i64 i),(65,.bool (decide ((x.1:Int)≤r)))] ?_
   refine OD.ifP 65 rfl (fun h5=>?_) (fun h5=>?_)
   ·
    refine OD.rE 3 [(0,.int .i32 r),(4,.sl 2 X0J.length (X0J.flatMap X0I)),(6,.i64 i),(65,.bool true),(66,.int .i32 r),(67,.sl 2 X0J.length (X0J.flatMap X0I)),(68,.i64 i)] ?_
    refine OD.guard rfl rfl ?_
    refine OD.idx rfl rfl (by kernel_rfl) (by omega) (by omega) ?_
    refine OD.rE 0 [(0,.int .i32 r),(4,.sl 2 X0J.length (X0J.flatMap X0I)),(6,.i64 i),(65,.bool true),(66,.int .i32 r),(69,.ep 2 X0J.length (X0J.flatMap X0I) ((((i:Nat):Int):Int).toNat*2))] ?_
    refine OD.guard rfl rfl ?_
    refine OD.idxEA (o1:=1) (b':=0) (x':=none) rfl rfl (by kernel_rfl) ?_
    refine OD.rE 0 [(0,.int .i32 r),(4,.sl 2 X0J.length (X0J.flatMap X0I)),(6,.i64 i),(65,.bool true),(66,.int .i32 r),(70,.ep 2 X0J.length (X0J.flatMap X0I) ((((i:Nat):Int):Int).toNat*2+1))] ?_
    refine OD.guard rfl rfl ?_
    refine OD.ldL rfl (by kernel_rfl) (XDb hx) ?_
    refine OD.rE 2 [(0,.int .i32 r),(4,.sl 2 X0J.length (X0J.flatMap X0I)),(6,.i64 i),(73,.bool (decide ((r:Int)≤x.2)))] ?_
    refine OD.nil ?_
    refine CD.condP rfl (fun h6=>?_) (fun h6=>?_)
    ·
     refine CD.seq (CD.region ?_)
     refine OD.rE 1 [(2,.i64 2)] ?_
     refine OD.nil (CD.ret ?_)
     (try dsimp only);first | refine X01 ?_ | refine X02 ?_
     exact rO 0 (.i64 2) [] (⟨⟨_,rfl⟩,rfl⟩)
    ·
     refine CD.skip (CD.region ?_)
     refine OD.rE 2 [(0,.int .i32 r),(4,.sl 2 X0J.length (X0J.flatMap X0I)),(57,.i64 (X08 .i64 (((i:Nat):Int)+1)))] ?_
     refine OD.is 57 rfl (wrn (m:=i+1) (by omega) (by omega)) ?_
     refine OD.rE 1 [(0,.int .i32 r),(4,.sl 2 X0J.length (X0J.flatMap X0I)),(6,.i64 ((i+1:Nat):Int))] ?_
     refine OD.nil ?_
     exact⟨_,by omega,i+1,(by kernel_rfl),by omega,rfl⟩
   ·
    refine OD.rE 8 [(0,.int .i32 r),(4,.sl 2 X0J.length (X0J.flatMap X0I)),(6,.i64 i),(73,.bool false)] ?_
    refine OD.nil ?_
    refine CD.condF rfl ?_
    refine CD.skip (CD.region ?_)
    refine OD.rE 2 [(0,.int .i32 r),(4,.sl 2 X0J.length (X0J.flatMap X0I)),(57,.i64 (X08 .i64 (((i:Nat):Int)+1)))] ?_
    refine OD.is 57 rfl (wrn (m:=i+1) (by omega) (by omega)) ?_
    refine OD.rE 1 [(0,.int .i32 r),(4,.sl 2 X0J.length (X0J.flatMap X0I)),(6,.i64 ((i+1:Nat):Int))] ?_
    refine OD.nil ?_
    exact⟨_,by omega,i+1,(by kernel_rfl),by omega,rfl⟩
  ·
   refine CD.exit ?_
   refine CD.seq (CD.region ?_)
   refine OD.rE 1 [(2,.i64 1)] ?_
   refine OD.nil (CD.ret ?_)
   (try dsimp only);first | refine X01 ?_ | refine X02 ?_
   exact rO 0 (.i64 1) [] (⟨⟨_,rfl⟩,rfl⟩)
theorem XIw (c:Cel):FnD P ov 63 [.agg [.int .i32 c.1,.i64 c.2.1,.i64 c.2.2]] [] (fun r L1=>(fun r=>∃ b:Bool,r=.bool b) r∧L1=[]):=by
 refine FnD.intro (by kernel_rfl) (fn:=Tryz.f63) (by kernel_rfl) rfl (by kernel_rfl) fun M a0 g0 hg0=>?_
 refine CD.seq (CD.region ?_)
 refine OD.rL 2 [(1,.loc 0 0)] [.box [.int .i32 c.1,.i64 c.2.1,.i64 c.2.2]] ?_
 refine OD.nil (CD.seq (CD.seq (CD.region ?_)))
 refine OD.rE 4 [(1,.loc 0 0),(6,.bool (decide ((c.2.2:Int)<0)))] ?_
 refine OD.ifP 6 rfl (fun h1=>?_) (fun h1=>?_)
 ·
  refine OD.rE 4 [(1,.loc 0 0),(10,.bool true)] ?_
  refine OD.nil ?_
  refine CD.condT rfl ?_
  refine CD.seq (CD.region ?_)
  refine OD.rE 1 [(2,.bool false)] ?_
  refine OD.nil (CD.ret ?_)
  (try dsimp only);first | refine X01 ?_ | refine X02 ?_
  exact rO 0 (.bool false) [] (⟨⟨_,rfl⟩,rfl⟩)
 ·
  refine OD.rE 4 [(1,.loc 0 0),(10,.bool (decide ((255:Int)<c.2.2)))] ?_
  refine OD.nil ?_
  refine CD.condP rfl (fun h2=>?_) (fun h2=>?_)
  ·
   refine CD.seq (CD.region ?_)
   refine OD.rE 1 [(2,.bool false)] ?_
   refine OD.nil (CD.ret ?_)
   (try dsimp only);first | refine X01 ?_ | refine X02 ?_
   exact rO 0 (.bool false) [] (⟨⟨_,rfl⟩,rfl⟩)
  ·
   refine CD.skip (CD.seq ?_)
   refine CD.drawnF [0,19] 0 [] rfl (by kernel_rfl) (by kernel_rfl) (fun M1 a1 g1 bx1 bq hg1 hlk=>?_)
   refine OD.rE 0 [(1,X1W bq 0)] ?_
   refine OD.ldF (d:=.agg [.int .i32 c.1,.i64 c.2.1,.i64 c.2.2]) hlk rfl (by kernel_rfl) ?_
   refine OD.rE 0 [(1,X1W bq 0),(11,.agg [.int .i32 c.1,.i64 c.2.1,.i64 c.2.2])] ?_
   refine OD.cE (XI3) ?_
   refine OD.rE 0 [(1,X1W bq 0),(11,.agg [.int .i32 c.1,.i64 c.2.1,.i64 c.2.2]),(12,.agg [.int .i32 0,.i64 1,.i64 0])] ?_
   refine OD.eq3 rfl rfl (by kernel_rfl) ?_
   refine OD.rE 1 [(1,X1W bq 0),(11,.agg [.int .i32 c.1,.i64 c.2.1,.i64 c.2.2]),(14,.bool (decide (((c.1:Int)=0∧(c.2.1:Int)=1∧(c.2.2:Int)=0))))] ?_
   refine OD.ifP 14 rfl (fun h3=>?_) (fun h3=>?_)
   ·
    refine OD.rE 23 [(1,X1W bq 0),(2,.bool true),(11,.agg [.int .i32 c.1,.i64 c.2.1,.i64 c.2.2]),(29,.tup []),(30,.tup [])] ?_
    refine OD.nil ⟨by kernel_rfl,⟨⟨62,1,by kernel_rfl,.inr ⟨0,.agg [.int .i32 c.1,.i64 c.2.1,.i64 c.2.2],rfl,by kernel_rfl⟩⟩,⟨⟨3,29,by kernel_rfl,.inl rfl⟩,trivial⟩⟩,trivial,rfl,?_⟩
    refine CD.ret ?_
    (try dsimp only);first | refine X01 ?_ | refine X02 ?_
    exact rO 0 (.bool true) [] (⟨⟨_,rfl⟩,rfl⟩)
   ·
    refine OD.rE 0 [(1,X1W bq 0),(11,.agg [.int .i32 c.1,.i64 c.2.1,.i64 c.2.2]),(14,.bool false)] ?_
    refine OD.guard rfl rfl ?_
    refine OD.fadL (i:=0) (o:=0) (o1:=1) (b':=0) (x':=none) rfl (by kernel_rfl) ?_
    refine OD.rE 0 [(1,X1W bq 0),(11,.agg [.int .i32 c.1,.i64 c.2.1,.i64 c.2.2]),(14,.bool false),(15,X1W bq 1)] ?_
    refine OD.guard rfl rfl ?_
    refine OD.ldF (d:=.i64 c.2.1) hlk rfl (by kernel_rfl) ?_
    refine OD.rE 2 [(1,X1W bq 0),(11,.agg [.int .i32 c.1,.i64 c.2.1,.i64 c.2.2]),(14,.bool false),(18,.bool (decide ((c.2.1:Int)=0)))] ?_
    refine OD.ifP 18 rfl (fun h4=>?_) (fun h4=>?_)
    ·
     refine OD.rE 0 [(1,X1W bq 0),(11,.agg [.int .i32 c.1,.i64 c.2.1,.i64 c.2.2]),(14,.bool false),(18,.bool true)] ?_
     refine OD.guard rfl rfl ?_
     refine OD.fadL (i:=0) (o:=0) (o1:=0) (b':=0) (x':=none) rfl (by kernel_rfl) ?_
     refine OD.rE 0 [(1,X1W bq 0),(11,.agg [.int .i32 c.1,.i64 c.2.1,.i64 c.2.2]),(14,.bool false),(18,.bool true),(19,X1W bq 0)] ?_
     refine OD.guard rfl rfl ?_
     refine OD.ldF (d:=.int .i32 c.1) hlk rfl (by kernel_rfl) ?_
     refine OD.rE 4 [(1,X1W bq 0),(11,.agg [.int .i32 c.1,.i64 c.2.1,.i64 c.2.2]),(24,.bool (decide ((c.1:Int)=0)))] ?_
     refine OD.ifP 24 rfl (fun h5=>?_) (fun h5=>?_)
     ·
      refine OD.rE 13 [(1,X1W bq 0),(2,.bool true),(11,.agg [.int .i32 c.1,.i64 c.2.1,.i64 c.2.2]),(29,.tup []),(30,.tup [])] ?_
      refine OD.nil ⟨by kernel_rfl,⟨⟨62,1,by kernel_rfl,.inr ⟨0,.agg [.int .i32 c.1,.i64 c.2.1,.i64 c.2.2],rfl,by kernel_rfl⟩⟩,⟨⟨3,29,by kernel_rfl,.inl rfl⟩,trivial⟩⟩,trivial,rfl,?_⟩
      refine CD.ret ?_
      (try dsimp only);first | refine X01 ?_ | refine X02 ?_
      exact rO 0 (.bool true) [] (⟨⟨_,rfl⟩,rfl⟩)
     ·
      refine OD.rE 0 [(1,X1W bq 0),(11,.agg [.int .i32 c.1,.i64 c.2.1,.i64 c.2.2]),(24,.bool false)] ?_
      refine OD.guard rfl rfl ?_
      refine OD.fadL (i:=0) (o:=0) (o1:=1) (b':=0) (x':=none) rfl (by kernel_rfl) ?_
      refine OD.rE 0 [(1,X1W bq 0),(11,.agg [.int .i32 c.1,.i64 c.2.1,.i64 c.2.2]),(24,.bool false),(25,X1W bq 1)] ?_
      refine OD.guard rfl rfl ?_
      refine OD.ldF (d:=.i64 c.2.1) hlk rfl (by kernel_rfl) ?_
      refine OD.rE 2 [(1,X1W bq 0),(11,.agg [.int .i32 c.1,.i64 c.2.1,.i64 c.2.2]),(24,.bool false),(28,.bool (decide ((0:Int)<c.2.1)))] ?_
      refine OD.ifP 28 rfl (fun h6=>?_) (fun h6=>?_)
      ·
       refine OD.rE 0 [(1,X1W bq 0),(11,.agg [.int .i32 c.1,.i64 c.2.1,.i64 c.2.2]),(24,.bool false),(28,.bool true)] ?_
       refine OD.guard rfl rfl ?_
       refine OD.fadL (i:=0) (o:=0) (o1:=1) (b':=0) (x':=none) rfl (by kernel_rfl) ?_
       refine OD.rE 0 [(1,X1W bq 0),(11,.agg [.int .i32 c.1,.i64 c.2.1,.i64 c.2.2]),(24,.bool false),(28,.bool true),(29,X1W bq 1)] ?_
       refine OD.guard rfl rfl ?_
       refine OD.ldF (d:=.i64 c.2.1) hlk rfl (by kernel_rfl) ?_
       refine OD.rE 0 [(1,X1W bq 0),(11,.agg [.int .i32 c.1,.i64 c.2.1,.i64 c.2.2]),(24,.bool false),(28,.bool true),(29,X1W bq 1),(30,.i64 c.2.1)] ?_
       refine OD.guard rfl rfl ?_
       refine OD.fadL (i:=0) (o:=0) (o1:=0) (b':=0) (x':=none) rfl (by kernel_rfl) ?_
       refine OD.rE 0 [(1,X1W bq 0),(11,.agg [.int .i32 c.1,.i64 c.2.1,.i64 c.2.2]),(24,.bool false),(28,.bool true),(29,X1W bq 1),(30,.i64 c.2.1),(31,X1W bq 0)] ?_
       refine OD.guard rfl rfl ?_
       refine OD.ldF (d:=.int .i32 c.1) hlk rfl (by kernel_rfl) ?_
       refine OD.rE 0 [(1,X1W bq 0),(11,.agg [.int .i32 c.1,.i64 c.2.1,.i64 c.2.2]),(24,.bool false),(28,.bool true),(29,X1W bq 1),(30,.i64 c.2.1),(32,.int .i32 c.1)] ?_
       refine OD.guard rfl rfl ?_
       refine OD.cP (fun r0=>∃ w:Int,r0=.i64 w) (XBJ c.1) (fun r hr=>?_)
       obtain⟨w1,rfl⟩:=hr
       refine OD.rE 4 [(1,X1W bq 0),(2,.bool (decide ((c.2.1:Int)=w1))),(11,.agg [.int .i32 c.1,.i64 c.2.1,.i64 c.2.2]),(29,X1W bq 1),(30,.i64 c.2.1)] ?_
       refine OD.nil ⟨by kernel_rfl,⟨⟨62,1,by kernel_rfl,.inr ⟨0,.agg [.int .i32 c.1,.i64 c.2.1,.i64 c.2.2],rfl,by kernel_rfl⟩⟩,⟨⟨3,29,by kernel_rfl,.inr ⟨1,.i64 c.2.1,rfl,by kernel_rfl⟩⟩,trivial⟩⟩,trivial,rfl,?_⟩
       refine CD.ret ?_
       (try dsimp only);first | refine X01 ?_ | refine X02 ?_
       exact rO 0 (.bool (decide ((c.2.1:Int)=w1))) [] (⟨⟨_,rfl⟩,rfl⟩)
      ·
       refine OD.rE 9 [(1,X1W bq 0),(2,.bool false),(11,.agg [.int .i32 c.1,.i64 c.2.1,.i64 c.2.2]),(29,.tup []),(30,.tup [])] ?_
       refine OD.nil ⟨by kernel_rfl,⟨⟨62,1,by kernel_rfl,.inr ⟨0,.agg [.int .i32 c.1,.i64 c.2.1,.i64 c.2.2],rfl,by kernel_rfl⟩⟩,⟨⟨3,29,by kernel_rfl,.inl rfl⟩,trivial⟩⟩,trivial,rfl,?_⟩
       refine CD.ret ?_
       (try dsimp only);first | refine X01 ?_ | refine X02 ?_
       exact rO 0 (.bool false) [] (⟨⟨_,rfl⟩,rfl⟩)
    ·
     refine OD.rE 6 [(1,X1W bq 0),(11,.agg [.int .i32 c.1,.i64 c.2.1,.i64 c.2.2]),(24,.bool false)] ?_
     refine OD.guard rfl rfl ?_
     refine OD.fadL (i:=0) (o:=0) (o1:=1) (b':=0) (x':=none) rfl (by kernel_rfl) ?_
     refine OD.rE 0 [(1,X1W bq 0),(11,.agg [.int .i32 c.1,.i64 c.2.1,.i64 c.2.2]),(24,.bool false),(25,X1W bq 1)] ?_
     refine OD.guard rfl rfl ?_
     refine OD.ldF (d:=.i64 c.2.1) hlk rfl (by kernel_rfl) ?_
     refine OD.rE 2 [(1,X1W bq 0),(11,.agg [.int .i32 c.1,.i64 c.2.1,.i64 c.2.2]),(24,.bool false),(28,.bool (decide ((0:Int)<c.2.1)))] ?_
     refine OD.ifP 28 rfl (fun h7=>?_) (fun h7=>?_)
     ·
      refine OD.rE 0 [(1,X1W bq 0),(11,.agg [.int .i32 c.1,.i64 c.2.1,.i64 c.2.2]),(24,.bool false),(28,.bool true)] ?_
      refine OD.guard rfl rfl ?_
      refine OD.fadL (i:=0) (o:=0) (o1:=1) (b':=0) (x':=none) rfl (by kernel_rfl) ?_
      refine OD.rE 0 [(1,X1W bq 0),(11,.agg [.int .i32 c.1,.i64 c.2.1,.i64 c.2.2]),(24,.bool false),(28,.bool true),(29,X1W bq 1)] ?_
      refine OD.guard rfl rfl ?_
      refine OD.ldF (d:=.i64 c.2.1) hlk rfl (by kernel_rfl) ?_
      refine OD.rE 0 [(1,X1W bq 0),(11,.agg [.int .i32 c.1,.i64 c.2.1,.i64 c.2.2]),(24,.bool false),(28,.bool true),(29,X1W bq 1),(30,.i64 c.2.1)] ?_
      refine OD.guard rfl rfl ?_
      refine OD.fadL (i:=0) (o:=0) (o1:=0) (b':=0) (x':=none) rfl (by kernel_rfl) ?_
      refine OD.rE 0 [(1,X1W bq 0),(11,.agg [.int .i32 c.1,.i64 c.2.1,.i64 c.2.2]),(24,.bool false),(28,.bool true),(29,X1W bq 1),(30,.i64 c.2.1),(31,X1W bq 0)] ?_
      refine OD.guard rfl rfl ?_
      refine OD.ldF (d:=.int .i32 c.1) hlk rfl (by kernel_rfl) ?_
      refine OD.rE 0 [(1,X1W bq 0),(11,.agg [.int .i32 c.1,.i64 c.2.1,.i64 c.2.2]),(24,.bool false),(28,.bool true),(29,X1W bq 1),(30,.i64 c.2.1),(32,.int .i32 c.1)] ?_
      refine OD.guard rfl rfl ?_
      refine OD.cP (fun r0=>∃ w:Int,r0=.i64 w) (XBJ c.1) (fun r hr=>?_)
      obtain⟨w1,rfl⟩:=hr
      refine OD.rE 4 [(1,X1W bq 0),(2,.bool (decide ((c.2.1:Int)=w1))),(11,.agg [.int .i32 c.1,.i64 c.2.1,.i64 c.2.2]),(29,X1W bq 1),(30,.i64 c.2.1)] ?_
      refine OD.nil ⟨by kernel_rfl,⟨⟨62,1,by kernel_rfl,.inr ⟨0,.agg [.int .i32 c.1,.i64 c.2.1,.i64 c.2.2],rfl,by kernel_rfl⟩⟩,⟨⟨3,29,by kernel_rfl,.inr ⟨1,.i64 c.2.1,rfl,by kernel_rfl⟩⟩,trivial⟩⟩,trivial,rfl,?_⟩
      refine CD.ret ?_
      (try dsimp only);first | refine X01 ?_ | refine X02 ?_
      exact rO 0 (.bool (decide ((c.2.1:Int)=w1))) [] (⟨⟨_,rfl⟩,rfl⟩)
     ·
      refine OD.rE 9 [(1,X1W bq 0),(2,.bool false),(11,.agg [.int .i32 c.1,.i64 c.2.1,.i64 c.2.2]),(29,.tup []),(30,.tup [])] ?_
      refine OD.nil ⟨by kernel_rfl,⟨⟨62,1,by kernel_rfl,.inr ⟨0,.agg [.int .i32 c.1,.i64 c.2.1,.i64 c.2.2],rfl,by kernel_rfl⟩⟩,⟨⟨3,29,by kernel_rfl,.inl rfl⟩,trivial⟩⟩,trivial,rfl,?_⟩
      refine CD.ret ?_
      (try dsimp only);first | refine X01 ?_ | refine X02 ?_
      exact rO 0 (.bool false) [] (⟨⟨_,rfl⟩,rfl⟩)
theorem XGG (l:List Cel) (hl0:0<l.length) (hlb:l.length≤1000000):FnD P ov 39 [X38 l] [] (fun r L1=>(∃ b:Bool,r=.bool b)∧L1=[]):=by
 refine FnD.introL (by kernel_rfl) (fn:=Tryz.f39) (by kernel_rfl) rfl (by kernel_rfl) hl0 fun M a0 g0 b0 i0 c0 hg0 hsl hc0=>?_
 refine CD.seq (CD.region ?_)
 refine OD.rE 1 [(0,X41 b0 i0 l.length c0)] ?_
 refine OD.nil (CD.seq (CD.seq (CD.region ?_)))
 refine OD.rE 1 [(0,X41 b0 i0 l.length c0),(3,.i64 0)] ?_
 refine OD.nil (CD.block ?_)
 refine CD.weak [0,3] 0 (E':=[(0,X41 b0 i0 l.length c0),(3,.i64 0)]) (by kernel_rfl) (by simp [hg0]) (by kernel_rfl) ?_
 refine CD.loop (fun m σ=>∃ (i:Nat),σ=⟨[(0,X41 b0 i0 l.length c0),(3,.i64 i)],[]⟩∧(i≤l.length)∧m=l.length - i) (fun m σ hI=>?_) _ ⟨0,(by kernel_rfl),Nat.zero_le _,rfl⟩
 obtain⟨i,e,hi,hm⟩:=hI
 subst e hm
 refine CD.seq (CD.seq (CD.region ?_))
 refine OD.rE 4 [(0,X41 b0 i0 l.length c0),(3,.i64 i),(7,.bool (decide ((((i:Nat):Int):Int)<((l.length:Nat):Int))))] ?_
 refine OD.nil ?_
 refine CD.condP rfl (fun h1=>?_) (fun h1=>?_)
 ·
  obtain⟨x,hx,hd⟩:=nth (l:=l) (i:=i) (by omega)
  refine CD.skip (CD.seq (CD.block (CD.seq ?_)))
  refine CD.drawnS [18] hsl (by kernel_rfl) ?_
  refine OD.rE 2 [(0,X41 b0 i0 l.length c0),(3,.i64 i),(10,X41 b0 i0 l.length c0),(11,.i64 i)] ?_
  refine OD.idxL (e:=3) rfl rfl (by kernel_rfl) (by omega) (by omega) ?_
  refine OD.rE 0 [(0,X41 b0 i0 l.length c0),(3,.i64 i),(12,X1W b0 (i0+(i*3)))] ?_
  refine OD.ldSA hsl rfl (by kernel_rfl) (by kernel_rfl) (X4b hx) rfl (by decide) ?_
  refine OD.rE 0 [(0,X41 b0 i0 l.length c0),(3,.i64 i),(13,.agg [.int .i32 x.1,.i64 x.2.1,.i64 x.2.2])] ?_
  refine OD.cP (fun r=>∃ b:Bool,r=.bool b) (XIw x) (fun r hr=>?_)
  obtain⟨b1,rfl⟩:=hr
  refine OD.rE 2 [(0,X41 b0 i0 l.length c0),(3,.i64 i),(16,.bool (!b1))] ?_
  refine OD.ifB 16 rfl (fun h2=>?_) (fun h2=>?_)
  ·
   have h2:=XBy h2
   refine OD.rE 15 [(0,X41 b0 i0 l.length c0),(3,.i64 i),(25,.tup []),(26,.tup []),(27,.tup []),(28,.tup []),(31,.bool true)] ?_
   refine OD.nil ⟨by kernel_rfl,⟨⟨62,27,by kernel_rfl,.inl rfl⟩,trivial⟩,?_⟩
   refine CD.condT rfl ?_
   refine CD.seq (CD.region ?_)
   refine OD.rE 1 [(2,.bool false)] ?_
   refine OD.nil (CD.ret ?_)
   (try dsimp only);first | refine X01 ?_ | refine X02 ?_
   exact rO 0 (.bool false) [] (⟨⟨_,rfl⟩,rfl⟩)
  ·
   have h2:=XBz h2
   refine OD.rE 2 [(0,X41 b0 i0 l.length c0),(3,.i64 i),(16,.bool false),(17,X41 b0 i0 l.length c0),(18,.i64 i)] ?_
   refine OD.guard rfl rfl ?_
   refine OD.idxL (e:=3) rfl rfl (by kernel_rfl) (by omega) (by omega) ?_
   refine OD.rE 0 [(0,X41 b0 i0 l.length c0),(3,.i64 i),(16,.bool false),(19,X1W b0 (i0+(i*3)))] ?_
   refine OD.guard rfl rfl ?_
   refine OD.fadL (o:=i*3) (o1:=1) (b':=0) (x':=none) rfl (by kernel_rfl) ?_
   refine OD.rE 0 [(0,X41 b0 i0 l.length c0),(3,.i64 i),(16,.bool false),(20,X1W b0 (i0+(i*3+1)))] ?_
   refine OD.guard rfl rfl ?_
   refine OD.ldSL hsl rfl (by kernel_rfl) (cel_1 hx) ?_
   refine OD.rE 3 [(0,X41 b0 i0 l.length c0),(3,.i64 i),(24,.bool (decide ((x.2.1:Int)=0)))] ?_
   refine OD.ifP 24 rfl (fun h3=>?_) (fun h3=>?_)
   ·
    refine OD.rE 7 [(0,X41 b0 i0 l.length c0),(3,.i64 i),(25,.tup []),(26,.tup []),(27,.tup []),(28,.tup []),(31,.bool true)] ?_
    refine OD.nil ⟨by kernel_rfl,⟨⟨62,27,by kernel_rfl,.inl rfl⟩,trivial⟩,?_⟩
    refine CD.condT rfl ?_
    refine CD.seq (CD.region ?_)
    refine OD.rE 1 [(2,.bool false)] ?_
    refine OD.nil (CD.ret ?_)
    (try dsimp only);first | refine X01 ?_ | refine X02 ?_
    exact rO 0 (.bool false) [] (⟨⟨_,rfl⟩,rfl⟩)
   ·
    refine OD.rE 2 [(0,X41 b0 i0 l.length c0),(3,.i64 i),(24,.bool false),(25,X41 b0 i0 l.length c0),(26,.i64 i)] ?_
    refine OD.guard rfl rfl ?_
    refine OD.idxL (e:=3) rfl rfl (by kernel_rfl) (by omega) (by omega) ?_
    refine OD.rE 0 [(0,X41 b0 i0 l.length c0),(3,.i64 i),(24,.bool false),(25,X41 b0 i0 l.length c0),(26,.i64 i),(27,X1W b0 (i0+(i*3)))] ?_
    refine OD.guard rfl rfl ?_
    refine OD.ldSA hsl rfl (by kernel_rfl) (by kernel_rfl) (X4b hx) rfl (by decide) ?_
    refine OD.rE 0 [(0,X41 b0 i0 l.length c0),(3,.i64 i),(24,.bool false),(25,X41 b0 i0 l.length c0),(26,.i64 i),(27,X1W b0 (i0+(i*3))),(28,.agg [.int .i32 x.1,.i64 x.2.1,.i64 x.2.2])] ?_
    refine OD.guard rfl rfl ?_
    refine OD.cE (XI3) ?_
    refine OD.rE 0 [(0,X41 b0 i0 l.length c0),(3,.i64 i),(24,.bool false),(25,X41 b0 i0 l.length c0),(26,.i64 i),(27,X1W b0 (i0+(i*3))),(28,.agg [.int .i32 x.1,.i64 x.2.1,.i64 x.2.2]),(29,.agg [.int .i32 0,.i64 1,.i64 0])] ?_
    refine OD.guard rfl rfl ?_
    refine OD.eq3 rfl rfl (by kernel_rfl) ?_
    refine OD.rE 1 [(0,X41 b0 i0 l.length c0),(3,.i64 i),(25,X41 b0 i0 l.length c0),(26,.i64 i),(27,X1W b0 (i0+(i*3))),(28,.agg [.int .i32 x.1,.i64 x.2.1,.i64 x.2.2]),(31,.bool (decide (((x.1:Int)=0∧(x.2.1:Int)=1∧(x.2.2:Int)=0))))] ?_
    refine OD.nil ⟨by kernel_rfl,⟨⟨62,27,by kernel_rfl,.inr ⟨i*3,rfl,.inl ⟨by kernel_rfl,3,by kernel_rfl,by omega⟩⟩⟩,trivial⟩,?_⟩
    refine CD.condP rfl (fun h4=>?_) (fun h4=>?_)
    ·
     refine CD.seq (CD.region ?_)
     refine OD.rE 1 [(2,.bool false)] ?_
     refine OD.nil (CD.ret ?_)
     (try dsimp only);first | refine X01 ?_ | refine X02 ?_
     exact rO 0 (.bool false) [] (⟨⟨_,rfl⟩,rfl⟩)
    ·
     refine CD.skip (CD.region ?_)
     refine OD.rE 2 [(0,X41 b0 i0 l.length c0),(9,.i64 (X08 .i64 (((i:Nat):Int)+1)))] ?_
     refine OD.is 9 rfl (wrn (m:=i+1) (by omega) (by omega)) ?_
     refine OD.rE 1 [(0,X41 b0 i0 l.length c0),(3,.i64 ((i+1:Nat):Int))] ?_
     refine OD.nil ?_
     exact⟨_,by omega,i+1,(by kernel_rfl),by omega,rfl⟩
 ·
  refine CD.exit ?_
  refine CD.seq (CD.region ?_)
  refine OD.rE 1 [(2,.bool true)] ?_
  refine OD.nil (CD.ret ?_)
  (try dsimp only);first | refine X01 ?_ | refine X02 ?_
  exact rO 0 (.bool true) [] (⟨⟨_,rfl⟩,rfl⟩)
theorem XGH:FnD P ov 39 [.sl 3 0 []] [] (fun r L1=>(∃ b:Bool,r=.bool b)∧L1=[]):=by
 refine FnD.intro (by kernel_rfl) (fn:=Tryz.f39) (by kernel_rfl) rfl (by kernel_rfl) fun M a0 g0 hg0=>?_
 refine CD.seq (CD.region ?_)
 refine OD.rE 1 [(0,.sl 3 0 ([]))] ?_
 refine OD.nil (CD.seq (CD.seq (CD.region ?_)))
 refine OD.rE 1 [(0,.sl 3 0 ([])),(3,.i64 0)] ?_
 refine OD.nil (CD.block ?_)
 refine CD.weak [0,3] 0 (E':=[(0,.sl 3 0 ([])),(3,.i64 0)]) (by kernel_rfl) (by simp [hg0]) (by kernel_rfl) ?_
 refine CD.loop (fun m σ=>∃ (i:Nat),σ=⟨[(0,.sl 3 0 ([])),(3,.i64 i)],[]⟩∧(i≤0)∧m=0 - i) (fun m σ hI=>?_) _ ⟨0,(by kernel_rfl),Nat.zero_le _,rfl⟩
 obtain⟨i,e,hi,hm⟩:=hI
 subst e hm
 refine CD.seq (CD.seq (CD.region ?_))
 refine OD.rE 4 [(0,.sl 3 0 ([])),(3,.i64 i),(7,.bool (decide ((((i:Nat):Int):Int)<((0:Nat):Int))))] ?_
 refine OD.nil ?_
 refine CD.condP rfl (fun h1=>?_) (fun h1=>?_)
 ·
  refine CD.skip (CD.seq (CD.block (CD.seq ?_)))
  exfalso;omega
 ·
  refine CD.exit ?_
  refine CD.seq (CD.region ?_)
  refine OD.rE 1 [(2,.bool true)] ?_
  refine OD.nil (CD.ret ?_)
  (try dsimp only);first | refine X01 ?_ | refine X02 ?_
  exact rO 0 (.bool true) [] (⟨⟨_,rfl⟩,rfl⟩)
theorem XIx (l:List Cel) (hlb:l.length≤1000000):FnD P ov 39 [.sl 3 l.length (l.flatMap X1o)] [] (fun r L1=>(fun r=>∃ b:Bool,r=.bool b) r∧L1=[]):=by
 rcases Nat.eq_zero_or_pos l.length with h | h
 ·
  have:=List.length_eq_zero_iff.1 h
  subst this
  exact XGH
 ·
  exact XGG l h hlb
theorem XGI (ls:List (List Cel)):FnD P ov 19 [.sl 1 ls.length (ls.map X38)] [] (fun r L1=>(fun r=>∃ out:List (List Cel),r=.sl 1 out.length (out.map X38)∧out.length≤10∧∀ x∈out,x.length≤40) r∧L1=[]):=by
 refine FnD.intro (by kernel_rfl) (fn:=Tryz.f19) (by kernel_rfl) rfl (by kernel_rfl) fun M a0 g0 hg0=>?_
 refine CD.seq (CD.region ?_)
 refine OD.rE 1 [(0,.vR ls)] ?_
 refine OD.nil (CD.seq (CD.region ?_))
 refine OD.rE 1 [(0,.vR ls),(3,.lit (.slice none 0 0))] ?_
 refine OD.nilRow 3 1 rfl ?_
 refine OD.rE 0 [(0,.vR ls),(3,.row 0 0 0 0)] ?_
 refine OD.nil (CD.seq (CD.seq (CD.region ?_)))
 refine OD.rE 1 [(0,.vR ls),(3,.row 0 0 0 0),(4,.i64 0)] ?_
 refine OD.nil (CD.block ?_)
 refine CD.weak [0,3,4] 1 (E':=[(0,.vR ls),(3,.row 0 0 0 0),(4,.i64 0)]) (by kernel_rfl) (by simp [hg0]) (by kernel_rfl) ?_
 refine CD.loop (fun m σ=>∃ (i:Nat) (out:List (List Cel)) (n:Nat),σ=⟨[(0,.vR ls),(3,.row 0 0 n n),(4,.i64 i)],[.row 1 n (out.map X38)]⟩∧(i≤ls.length)∧(out.length=n)∧(n≤i)∧(i≤10)∧(∀ x∈out,x.length≤40)∧m=ls.length - i) (fun m σ hI=>?_) _ ⟨0,([]:List (List Cel)),0,(by kernel_rfl),Nat.zero_le _,rfl,Nat.le_refl _,Nat.zero_le _,(fun x hx=>(by cases hx)),rfl⟩
 obtain⟨i,out,n,e,hi,hn,hni,hi10,hall,hm⟩:=hI
 subst e hm
 refine CD.seq (CD.seq (CD.region ?_))
 refine OD.rE 5 [(0,.vR ls),(3,.row 0 0 n n),(4,.i64 i),(10,.bool (decide ((((i:Nat):Int):Int)<((ls.length:Nat):Int))))] ?_
 refine OD.ifP 10 rfl (fun h1=>?_) (fun h1=>?_)
 ·
  refine OD.rE 3 [(0,.vR ls),(3,.row 0 0 n n),(4,.i64 i),(13,.bool (decide ((((i:Nat):Int):Int)<10)))] ?_
  refine OD.nil ?_
  refine CD.condP rfl (fun h2=>?_) (fun h2=>?_)
  ·
   refine CD.skip (CD.seq (CD.block (CD.seq ?_)))
   refine CD.drawn (by kernel_rfl) ?_
   refine OD.rE 2 [(0,.vR ls),(3,.row 0 0 n n),(4,.i64 i),(16,.vR ls),(17,.i64 i)] ?_
   refine OD.idxSV (i:=i) rfl rfl (by kernel_rfl) (by omega) (by omega) ?_
   refine OD.rE 0 [(0,.vR ls),(3,.row 0 0 n n),(4,.i64 i),(18,.ep 1 ls.length (ls.map X38) i)] ?_
   refine OD.ldSV [] (f:=X38) (xs:=ls) rfl (by kernel_rfl) (by first | omega | (simp<;>omega)) ?_
   refine OD.rE 2 [(0,.vR ls),(3,.row 0 0 n n),(4,.i64 i),(19,.sl 3 ((ls.getD i []).length) ((ls.getD i []).flatMap X1o)),(20,.vR ls),(21,.i64 i)] ?_
   refine OD.idxSV (i:=i) rfl rfl (by kernel_rfl) (by omega) (by omega) ?_
   refine OD.rE 0 [(0,.vR ls),(3,.row 0 0 n n),(4,.i64 i),(19,.sl 3 ((ls.getD i []).length) ((ls.getD i []).flatMap X1o)),(22,.ep 1 ls.length (ls.map X38) i)] ?_
   refine OD.ldSV [] (f:=X38) (xs:=ls) rfl (by kernel_rfl) (by first | omega | (simp<;>omega)) ?_
   refine OD.rE 2 [(0,.vR ls),(3,.row 0 0 n n),(4,.i64 i),(19,.sl 3 ((ls.getD i []).length) ((ls.getD i []).flatMap X1o)),(25,.i64 (min ((((ls.getD i []).length:Nat):Int):Int) 40))] ?_
   refine OD.is 25 rfl X6b ?_
   refine OD.rE 0 [(0,.vR ls),(3,.row 0 0 n n),(4,.i64 i),(19,.sl 3 ((ls.getD i []).length) ((ls.getD i []).flatMap X1o)),(25,.i64 ((min ((ls.getD i []).length) 40:Nat):Int))] ?_
   refine OD.slSl (lw:=0) (u:=(min ((ls.getD i []).length) 40)) rfl (by kernel_rfl) (.inl ⟨rfl,rfl⟩) (.inr ⟨_,_,rfl,rfl⟩) (by omega) (by omega) ?_
   obtain⟨c,hc,hcl⟩:=XG0 (r:=(ls.getD i [])) (u:=(min ((ls.getD i []).length) 40)) (by omega)
   refine OD.is 26 rfl hc ?_
   refine OD.rE 1 [(0,.vR ls),(3,.row 0 0 n n),(4,.i64 i),(5,.sl 3 c.length (c.flatMap X1o))] ?_
   refine OD.nil ⟨by kernel_rfl,?_⟩
   refine CD.seq (CD.region ?_)
   refine OD.rE 1 [(0,.vR ls),(3,.row 0 0 n n),(4,.i64 i),(5,.sl 3 c.length (c.flatMap X1o)),(27,.sl 3 c.length (c.flatMap X1o))] ?_
   refine OD.cP (fun r=>∃ b:Bool,r=.bool b) (XIx c (by omega)) (fun r hr=>?_)
   obtain⟨b1,rfl⟩:=hr
   refine OD.rE 0 [(0,.vR ls),(3,.row 0 0 n n),(4,.i64 i),(5,.sl 3 c.length (c.flatMap X1o)),(28,.bool b1)] ?_
   refine OD.nil ?_
   refine CD.condB rfl (fun h3=>?_) (fun h3=>?_)
   ·
    refine CD.region ?_
    refine OD.rE 2 [(0,.vR ls),(4,.i64 i),(29,.row 0 0 n n),(30,.sl 3 c.length (c.flatMap X1o))] ?_
    refine OD.appC rfl (by kernel_rfl) rfl (by omega) (by omega) ?_
    refine OD.rE 0 [(0,.vR ls),(4,.i64 i),(29,.row 0 0 n n),(31,.row 1 0 c.length c.length)] ?_
    refine OD.freeze 31 rfl rfl (Nat.le_refl _) ?_
    refine OD.bsl (e:=1) (cs:=[.sl 3 c.length (c.flatMap X1o)]) rfl (by kernel_rfl) ?_
    refine OD.rE 0 [(0,.vR ls),(4,.i64 i),(29,.row 0 0 n n),(32,.sl 1 1 [.sl 3 c.length (c.flatMap X1o)])] ?_
    refine OD.appV (f:=X38) (xs:=out) (vs:=[c]) rfl (by kernel_rfl) rfl rfl rfl rfl (by first | omega | (simp<;>omega)) (by decide) (by omega) ?_
    refine OD.rE 1 [(0,.vR ls),(3,.row 0 0 (n+1) (n+1)),(4,.i64 i)] ?_
    refine OD.nil (CD.region ?_)
    refine OD.rE 2 [(0,.vR ls),(3,.row 0 0 (n+1) (n+1)),(15,.i64 (X08 .i64 (((i:Nat):Int)+1)))] ?_
    refine OD.is 15 rfl (wrn (m:=i+1) (by omega) (by omega)) ?_
    refine OD.rE 1 [(0,.vR ls),(3,.row 0 0 (n+1) (n+1)),(4,.i64 ((i+1:Nat):Int))] ?_
    refine OD.nilW [0,3,4] 1 (E':=[(0,.vR ls),(3,.row 0 0 (n+1) (n+1)),(4,.i64 ((i+1:Nat):Int))]) (by kernel_rfl) (by simp [hg0]) (by kernel_rfl) ?_
    exact⟨_,by omega,i+1,(out++[c]),n+1,(by kernel_rfl),by omega,by rw [List.length_append,hn];rfl,by omega,by omega,XG1 hall (by omega),rfl⟩
   ·
    refine CD.skip (CD.region ?_)
    refine OD.rE 2 [(0,.vR ls),(3,.row 0 0 n n),(15,.i64 (X08 .i64 (((i:Nat):Int)+1)))] ?_
    refine OD.is 15 rfl (wrn (m:=i+1) (by omega) (by omega)) ?_
    refine OD.rE 1 [(0,.vR ls),(3,.row 0 0 n n),(4,.i64 ((i+1:Nat):Int))] ?_
    refine OD.nil ?_
    exact⟨_,by omega,i+1,out,n,(by kernel_rfl),by omega,hn,by omega,by omega,hall,rfl⟩
  ·
   refine CD.exit ?_
   refine CD.seq (CD.region ?_)
   refine OD.rE 2 [(2,.row 0 0 n n)] ?_
   refine OD.nil ?_
   refine CD.freeze 2 rfl rfl (Nat.le_refl _) ?_
   refine CD.ret ?_
   (try dsimp only);first | refine X01 ?_ | refine X02 ?_
   exact rO 0 (.sl 1 n (out.map X38)) [] (⟨⟨out,by rw [hn],by omega,hall⟩,rfl⟩)
 ·
  refine OD.rE 3 [(0,.vR ls),(3,.row 0 0 n n),(4,.i64 i),(13,.bool false)] ?_
  refine OD.nil ?_
  refine CD.condF rfl ?_
  refine CD.exit ?_
  refine CD.seq (CD.region ?_)
  refine OD.rE 2 [(2,.row 0 0 n n)] ?_
  refine OD.nil ?_
  refine CD.freeze 2 rfl rfl (Nat.le_refl _) ?_
  refine CD.ret ?_
  (try dsimp only);first | refine X01 ?_ | refine X02 ?_
  exact rO 0 (.sl 1 n (out.map X38)) [] (⟨⟨out,by rw [hn],by omega,hall⟩,rfl⟩)
end
end Go.Proofs.YtfcadnhoejlgoaaGreatDoor
