/-
  What is proved here: what functions of the pattern's package come to (walks that a program of mine has printed). what functions of the pattern's package come to (walks that a program of mine has printed). what functions of the pattern's package come to (walks that a program of mine has printed). No conditions but those that the theorems state.
-/
import Derived.Test.YtfcadnhoejlgoaaGreatDoorNA
import Derived.Test.YtfcadnhoejlgoaaGreatDoorProg
import Derived.KernelRfl
import Derived.Lib.ValidU
import Derived.Test.YtfcadnhoejlgoaaGreatDoorRI
set_option linter.unusedVariables false
set_option linter.unusedSimpArgs false
set_option maxRecDepth 100000
set_option maxHeartbeats 4000000
namespace Go.Proofs.YtfcadnhoejlgoaaGreatDoor
open Go.Vai Go.Nfa
noncomputable section
noncomputable abbrev P:=Tryz.prog
def XLM:List Value→X0A→Option (Value×X0A):=fun args h=>match args with
 | [.string s]=>match decide (s.size≤9223372036854775807)with
  | true=>some (.bool (Lib.validD s.data.toList),h)
  | false=>none
 | _=>none
def ov:Ov:=fun f=>match Nat.beq f 52 with
 | true=>some XLM
 | false=>ovs [9] f
theorem X5U (r:Int):X1K P ov 221 [.int .i32 r] (.bool (X2X r)):=by
 refine FnD.intro (by kernel_rfl) (fn:=Tryz.f221) (by kernel_rfl) rfl (by kernel_rfl) fun M a0 g0 hg0=>?_
 refine CD.seq (CD.region ?_)
 refine OD.rE 1 [(0,.int .i32 r)] ?_
 refine OD.nil (CD.seq (CD.block (CD.seq (CD.region ?_))))
 refine OD.rE 3 [(0,.int .i32 r),(6,.bool (decide ((0:Int)≤r)))] ?_
 refine OD.ifP 6 rfl (fun h1=>?_) (fun h1=>?_)
 ·
  refine OD.rE 4 [(0,.int .i32 r),(3,.bool (decide ((r:Int)<55296)))] ?_
  refine OD.nil ?_
  refine CD.condP rfl (fun h2=>?_) (fun h2=>?_)
  ·
   refine CD.seq (CD.region ?_)
   refine OD.rE 1 [(2,.bool true)] ?_
   refine OD.nil (CD.ret ?_)
   exact rP (.bool true) (by first | (exfalso;omega) | (simp only [h1,h2,X2X,bs,decide_true,decide_false,if_true,if_false,reduceIte]<;>rfl))
  ·
   refine CD.seq (CD.region ?_)
   refine OD.rE 3 [(0,.int .i32 r),(13,.bool (decide ((57343:Int)<r)))] ?_
   refine OD.ifP 13 rfl (fun h3=>?_) (fun h3=>?_)
   ·
    refine OD.rE 4 [(10,.bool (decide ((r:Int)≤1114111)))] ?_
    refine OD.nil ?_
    refine CD.condP rfl (fun h4=>?_) (fun h4=>?_)
    ·
     refine CD.seq (CD.region ?_)
     refine OD.rE 1 [(2,.bool true)] ?_
     refine OD.nil (CD.ret ?_)
     exact rP (.bool true) (by first | (exfalso;omega) | (simp only [h1,h2,h3,h4,X2X,bs,decide_true,decide_false,if_true,if_false,reduceIte]<;>rfl))
    ·
     refine CD.skip (CD.seq (CD.region ?_))
     refine OD.rE 1 [(2,.bool false)] ?_
     refine OD.nil (CD.ret ?_)
     exact rP (.bool false) (by first | (exfalso;omega) | (simp only [h1,h2,h3,h4,X2X,bs,decide_true,decide_false,if_true,if_false,reduceIte]<;>rfl))
   ·
    refine OD.rE 4 [(10,.bool false)] ?_
    refine OD.nil ?_
    refine CD.condF rfl ?_
    refine CD.skip (CD.seq (CD.region ?_))
    refine OD.rE 1 [(2,.bool false)] ?_
    refine OD.nil (CD.ret ?_)
    exact rP (.bool false) (by first | (exfalso;omega) | (simp only [h1,h2,h3,X2X,bs,decide_true,decide_false,if_true,if_false,reduceIte]<;>rfl))
 ·
  refine OD.rE 4 [(0,.int .i32 r),(3,.bool false)] ?_
  refine OD.nil ?_
  refine CD.condF rfl ?_
  refine CD.seq (CD.region ?_)
  refine OD.rE 3 [(0,.int .i32 r),(13,.bool (decide ((57343:Int)<r)))] ?_
  refine OD.ifP 13 rfl (fun h5=>?_) (fun h5=>?_)
  ·
   refine OD.rE 4 [(10,.bool (decide ((r:Int)≤1114111)))] ?_
   refine OD.nil ?_
   refine CD.condP rfl (fun h6=>?_) (fun h6=>?_)
   ·
    refine CD.seq (CD.region ?_)
    refine OD.rE 1 [(2,.bool true)] ?_
    refine OD.nil (CD.ret ?_)
    exact rP (.bool true) (by first | (exfalso;omega) | (simp only [h1,h5,h6,X2X,bs,decide_true,decide_false,if_true,if_false,reduceIte]<;>rfl))
   ·
    refine CD.skip (CD.seq (CD.region ?_))
    refine OD.rE 1 [(2,.bool false)] ?_
    refine OD.nil (CD.ret ?_)
    exact rP (.bool false) (by first | (exfalso;omega) | (simp only [h1,h5,h6,X2X,bs,decide_true,decide_false,if_true,if_false,reduceIte]<;>rfl))
  ·
   refine OD.rE 4 [(10,.bool false)] ?_
   refine OD.nil ?_
   refine CD.condF rfl ?_
   refine CD.skip (CD.seq (CD.region ?_))
   refine OD.rE 1 [(2,.bool false)] ?_
   refine OD.nil (CD.ret ?_)
   exact rP (.bool false) (by first | (exfalso;omega) | (simp only [h1,h5,X2X,bs,decide_true,decide_false,if_true,if_false,reduceIte]<;>rfl))
theorem XDV (r:Int):X1K P ov 207 [.int .i32 r] (.bool (X1w r)):=by
 refine FnD.intro (by kernel_rfl) (fn:=Tryz.f207) (by kernel_rfl) rfl (by kernel_rfl) fun M a0 g0 hg0=>?_
 refine CD.seq (CD.region ?_)
 refine OD.rE 1 [(0,.int .i32 r)] ?_
 refine OD.nil (CD.seq (CD.region ?_))
 refine OD.rE 1 [(0,.int .i32 r),(3,.int .i32 r)] ?_
 refine OD.cE (X5U r) ?_
 refine OD.rE 1 [(0,.int .i32 r),(5,.bool (X2X r))] ?_
 refine OD.ifB 5 rfl (fun h1=>?_) (fun h1=>?_)
 ·
  refine OD.rE 4 [(2,.bool (decide (¬ (r:Int)=65533)))] ?_
  refine OD.nil (CD.ret ?_)
  exact rP (.bool (decide (¬ (r:Int)=65533))) (by first | (exfalso;omega) | (simp only [h1,X1w,bs,decide_true,decide_false,if_true,if_false,reduceIte]<;>rfl))
 ·
  refine OD.rE 4 [(2,.bool false)] ?_
  refine OD.nil (CD.ret ?_)
  exact rP (.bool false) (by first | (exfalso;omega) | (simp only [h1,X1w,bs,decide_true,decide_false,if_true,if_false,reduceIte]<;>rfl))
theorem XDW (r:Int×Int):X1K P ov 182 [.agg [.int .i32 r.1,.int .i32 r.2]] (.bool (X0y r)):=by
 refine FnD.intro (by kernel_rfl) (fn:=Tryz.f182) (by kernel_rfl) rfl (by kernel_rfl) fun M a0 g0 hg0=>?_
 refine CD.seq (CD.region ?_)
 refine OD.rL 2 [(1,.loc 0 0)] [.box [.int .i32 r.1,.int .i32 r.2]] ?_
 refine OD.nil (CD.seq (CD.region ?_))
 refine OD.rE 2 [(1,.loc 0 0),(4,.int .i32 r.1)] ?_
 refine OD.cE (XDV r.1) ?_
 refine OD.rE 1 [(1,.loc 0 0),(6,.bool (X1w r.1))] ?_
 refine OD.ifB 6 rfl (fun h1=>?_) (fun h1=>?_)
 ·
  refine OD.rE 2 [(1,.loc 0 0),(6,.bool true),(8,.int .i32 r.2)] ?_
  refine OD.guard rfl rfl ?_
  refine OD.cE (XDV r.2) ?_
  refine OD.rE 2 [(1,.loc 0 0),(11,.bool (X1w r.2))] ?_
  refine OD.ifB 11 rfl (fun h2=>?_) (fun h2=>?_)
  ·
   refine OD.rE 7 [(2,.bool (decide ((r.1:Int)≤r.2)))] ?_
   refine OD.nil (CD.ret ?_)
   exact rP (.bool (decide ((r.1:Int)≤r.2))) (by first | (exfalso;omega) | (simp only [h1,h2,X0y,bs,decide_true,decide_false,if_true,if_false,reduceIte]<;>rfl))
  ·
   refine OD.rE 7 [(2,.bool false)] ?_
   refine OD.nil (CD.ret ?_)
   exact rP (.bool false) (by first | (exfalso;omega) | (simp only [h1,h2,X0y,bs,decide_true,decide_false,if_true,if_false,reduceIte]<;>rfl))
 ·
  refine OD.rE 12 [(2,.bool false)] ?_
  refine OD.nil (CD.ret ?_)
  exact rP (.bool false) (by first | (exfalso;omega) | (simp only [h1,X0y,bs,decide_true,decide_false,if_true,if_false,reduceIte]<;>rfl))
theorem XJ3 (r:Int×Int):X1K P ov 181 [.agg [.int .i32 r.1,.int .i32 r.2]] (.bool (!X0y r)):=by
 refine FnD.intro (by kernel_rfl) (fn:=Tryz.f181) (by kernel_rfl) rfl (by kernel_rfl) fun M a0 g0 hg0=>?_
 refine CD.seq (CD.region ?_)
 refine OD.rL 2 [(1,.loc 0 0)] [.box [.int .i32 r.1,.int .i32 r.2]] ?_
 refine OD.nil (CD.seq (CD.region ?_))
 refine OD.rE 1 [(3,.agg [.int .i32 r.1,.int .i32 r.2])] ?_
 refine OD.cE (XDW (r.1,r.2)) ?_
 refine OD.rE 2 [(2,.bool (!(X0y (r.1,r.2))))] ?_
 refine OD.nil (CD.ret ?_)
 exact rP (.bool (!(X0y (r.1,r.2)))) (by first | (exfalso;omega) | (simp only [bs,decide_true,decide_false,if_true,if_false,reduceIte]<;>rfl))
theorem XJ4 (k:Int) (set:List (Int×Int)) (no:Bool) (kids:List Nd) (mn mx:Int):X1K P ov 140 [.agg [.i64 k,.sl 2 set.length (set.flatMap X0K),.bool no,.sl 6 kids.length (X0G kids),.i64 mn,.i64 mx]] (.bool (X2r (.mk k set no kids mn mx))):=by
 refine FnD.intro (by kernel_rfl) (fn:=Tryz.f140) (by kernel_rfl) rfl (by kernel_rfl) fun M a0 g0 hg0=>?_
 refine CD.seq (CD.region ?_)
 refine OD.rL 2 [(1,.loc 0 0)] [.box (cN k set no kids mn mx)] ?_
 refine OD.nil (CD.seq (CD.region ?_))
 refine OD.rE 4 [(1,.loc 0 0),(8,.bool (decide ((k:Int)=2)))] ?_
 refine OD.ifP 8 rfl (fun h1=>?_) (fun h1=>?_)
 ·
  refine OD.rE 11 [(1,.loc 0 0),(3,.bool true)] ?_
  refine OD.nil (CD.seq (CD.region ?_))
  refine OD.rE 4 [(1,.loc 0 0),(3,.bool true),(22,.bool (decide ((k:Int)=5)))] ?_
  refine OD.ifP 22 rfl (fun h2=>?_) (fun h2=>?_)
  ·
   refine OD.rE 10 [(3,.bool true),(4,.bool true)] ?_
   refine OD.nil (CD.seq (CD.region ?_))
   refine OD.rE 5 [(2,.bool true)] ?_
   refine OD.nil (CD.ret ?_)
   exact rP (.bool true) (by first | (exfalso;omega) | (simp only [h1,h2,X2r,bs,decide_true,decide_false,if_true,if_false,reduceIte]<;>rfl))
  ·
   refine OD.rE 4 [(1,.loc 0 0),(3,.bool true),(22,.bool false),(26,.bool (decide ((mn:Int)=0)))] ?_
   refine OD.ifP 26 rfl (fun h3=>?_) (fun h3=>?_)
   ·
    refine OD.rE 6 [(3,.bool true),(4,.bool (decide ((mx:Int)=0)))] ?_
    refine OD.nil (CD.seq (CD.region ?_))
    refine OD.rE 5 [(2,.bool (decide ((mx:Int)=0)))] ?_
    refine OD.nil (CD.ret ?_)
    exact rP (.bool (decide ((mx:Int)=0))) (by first | (exfalso;omega) | (simp only [h1,h2,h3,X2r,bs,decide_true,decide_false,if_true,if_false,reduceIte]<;>rfl))
   ·
    refine OD.rE 6 [(3,.bool true),(4,.bool false)] ?_
    refine OD.nil (CD.seq (CD.region ?_))
    refine OD.rE 5 [(2,.bool false)] ?_
    refine OD.nil (CD.ret ?_)
    exact rP (.bool false) (by first | (exfalso;omega) | (simp only [h1,h2,h3,X2r,bs,decide_true,decide_false,if_true,if_false,reduceIte]<;>rfl))
 ·
  refine OD.rE 5 [(1,.loc 0 0),(8,.bool false),(13,.bool (decide ((((set.length:Nat):Int):Int)=0)))] ?_
  refine OD.ifP 13 rfl (fun h4=>?_) (fun h4=>?_)
  ·
   refine OD.rE 6 [(1,.loc 0 0),(3,.bool (!no))] ?_
   refine OD.nil (CD.seq (CD.region ?_))
   refine OD.rE 4 [(1,.loc 0 0),(3,.bool (!no)),(22,.bool (decide ((k:Int)=5)))] ?_
   refine OD.ifP 22 rfl (fun h5=>?_) (fun h5=>?_)
   ·
    refine OD.rE 10 [(3,.bool (!no)),(4,.bool true)] ?_
    refine OD.nil (CD.seq (CD.region ?_))
    refine OD.rE 2 [(4,.bool true),(33,.bool (!no))] ?_
    refine OD.ifB 33 rfl (fun h6=>?_) (fun h6=>?_)
    ·
     have h6:=XBt h6
     refine OD.rE 3 [(2,.bool true)] ?_
     refine OD.nil (CD.ret ?_)
     exact rP (.bool true) (by first | (exfalso;omega) | (simp only [h1,h4,h5,h6,X2r,bs,decide_true,decide_false,if_true,if_false,reduceIte]<;>rfl))
    ·
     have h6:=XBu h6
     refine OD.rE 3 [(2,.bool false)] ?_
     refine OD.nil (CD.ret ?_)
     exact rP (.bool false) (by first | (exfalso;omega) | (simp only [h1,h4,h5,h6,X2r,bs,decide_true,decide_false,if_true,if_false,reduceIte]<;>rfl))
   ·
    refine OD.rE 4 [(1,.loc 0 0),(3,.bool (!no)),(22,.bool false),(26,.bool (decide ((mn:Int)=0)))] ?_
    refine OD.ifP 26 rfl (fun h7=>?_) (fun h7=>?_)
    ·
     refine OD.rE 6 [(3,.bool (!no)),(4,.bool (decide ((mx:Int)=0)))] ?_
     refine OD.nil (CD.seq (CD.region ?_))
     refine OD.rE 2 [(4,.bool (decide ((mx:Int)=0))),(33,.bool (!no))] ?_
     refine OD.ifB 33 rfl (fun h8=>?_) (fun h8=>?_)
     ·
      have h8:=XBt h8
      refine OD.rE 3 [(2,.bool (decide ((mx:Int)=0)))] ?_
      refine OD.nil (CD.ret ?_)
      exact rP (.bool (decide ((mx:Int)=0))) (by first | (exfalso;omega) | (simp only [h1,h4,h5,h7,h8,X2r,bs,decide_true,decide_false,if_true,if_false,reduceIte]<;>rfl))
     ·
      have h8:=XBu h8
      refine OD.rE 3 [(2,.bool false)] ?_
      refine OD.nil (CD.ret ?_)
      exact rP (.bool false) (by first | (exfalso;omega) | (simp only [h1,h4,h5,h7,h8,X2r,bs,decide_true,decide_false,if_true,if_false,reduceIte]<;>rfl))
    ·
     refine OD.rE 6 [(3,.bool (!no)),(4,.bool false)] ?_
     refine OD.nil (CD.seq (CD.region ?_))
     refine OD.rE 2 [(4,.bool false),(33,.bool (!no))] ?_
     refine OD.ifB 33 rfl (fun h9=>?_) (fun h9=>?_)
     ·
      have h9:=XBt h9
      refine OD.rE 3 [(2,.bool false)] ?_
      refine OD.nil (CD.ret ?_)
      exact rP (.bool false) (by first | (exfalso;omega) | (simp only [h1,h4,h5,h7,h9,X2r,bs,decide_true,decide_false,if_true,if_false,reduceIte]<;>rfl))
     ·
      have h9:=XBu h9
      refine OD.rE 3 [(2,.bool false)] ?_
      refine OD.nil (CD.ret ?_)
      exact rP (.bool false) (by first | (exfalso;omega) | (simp only [h1,h4,h5,h7,h9,X2r,bs,decide_true,decide_false,if_true,if_false,reduceIte]<;>rfl))
  ·
   refine OD.rE 6 [(1,.loc 0 0),(3,.bool false)] ?_
   refine OD.nil (CD.seq (CD.region ?_))
   refine OD.rE 4 [(1,.loc 0 0),(3,.bool false),(22,.bool (decide ((k:Int)=5)))] ?_
   refine OD.ifP 22 rfl (fun h10=>?_) (fun h10=>?_)
   ·
    refine OD.rE 10 [(3,.bool false),(4,.bool true)] ?_
    refine OD.nil (CD.seq (CD.region ?_))
    refine OD.rE 5 [(2,.bool false)] ?_
    refine OD.nil (CD.ret ?_)
    exact rP (.bool false) (by first | (exfalso;omega) | (simp only [h1,h4,h10,X2r,bs,decide_true,decide_false,if_true,if_false,reduceIte]<;>rfl))
   ·
    refine OD.rE 4 [(1,.loc 0 0),(3,.bool false),(22,.bool false),(26,.bool (decide ((mn:Int)=0)))] ?_
    refine OD.ifP 26 rfl (fun h11=>?_) (fun h11=>?_)
    ·
     refine OD.rE 6 [(3,.bool false),(4,.bool (decide ((mx:Int)=0)))] ?_
     refine OD.nil (CD.seq (CD.region ?_))
     refine OD.rE 5 [(2,.bool false)] ?_
     refine OD.nil (CD.ret ?_)
     exact rP (.bool false) (by first | (exfalso;omega) | (simp only [h1,h4,h10,h11,X2r,bs,decide_true,decide_false,if_true,if_false,reduceIte]<;>rfl))
    ·
     refine OD.rE 6 [(3,.bool false),(4,.bool false)] ?_
     refine OD.nil (CD.seq (CD.region ?_))
     refine OD.rE 5 [(2,.bool false)] ?_
     refine OD.nil (CD.ret ?_)
     exact rP (.bool false) (by first | (exfalso;omega) | (simp only [h1,h4,h10,h11,X2r,bs,decide_true,decide_false,if_true,if_false,reduceIte]<;>rfl))
theorem XJ5 (set:List (Int×Int)) (hsz:set.length<4611686018427387904):X1K P ov 206 [.sl 2 set.length (set.flatMap X0K),.fn 181] (.i64 (XD4 set 0)):=by
 refine FnD.intro (by kernel_rfl) (fn:=Tryz.f206) (by kernel_rfl) rfl (by kernel_rfl) fun M a0 g0 hg0=>?_
 refine CD.seq (CD.region ?_)
 refine OD.rE 1 [(0,.sl 2 set.length (set.flatMap X0K)),(1,.fn 181)] ?_
 refine OD.nil (CD.seq (CD.seq (CD.region ?_)))
 refine OD.rE 3 [(0,.sl 2 set.length (set.flatMap X0K)),(1,.fn 181),(7,.i64 set.length),(8,.i64 0)] ?_
 refine OD.nil (CD.block ?_)
 refine CD.weak [0,1,7,8] 0 (E':=[(0,.sl 2 set.length (set.flatMap X0K)),(1,.fn 181),(7,.i64 set.length),(8,.i64 0)]) (by kernel_rfl) (by simp [hg0]) (by kernel_rfl) ?_
 refine CD.loop (fun m σ=>∃ (i:Nat),σ=⟨[(0,.sl 2 set.length (set.flatMap X0K)),(1,.fn 181),(7,.i64 set.length),(8,.i64 i)],[]⟩∧(i≤set.length)∧(XD4 set 0=XD4 (set.drop i) i)∧m=set.length - i) (fun m σ hI=>?_) _ ⟨0,(by kernel_rfl),Nat.zero_le _,rfl,rfl⟩
 obtain⟨i,e,hi,hr,hm⟩:=hI
 subst e hm
 refine CD.seq (CD.region ?_)
 refine OD.rE 1 [(0,.sl 2 set.length (set.flatMap X0K)),(1,.fn 181),(7,.i64 set.length),(8,.i64 i),(9,.bool (decide ((((i:Nat):Int):Int)<((set.length:Nat):Int))))] ?_
 refine OD.nil (CD.seq ?_)
 refine CD.condP rfl (fun h1=>?_) (fun h1=>?_)
 ·
  obtain⟨x,hx,hd⟩:=nth (l:=set) (i:=i) (by omega)
  refine CD.skip (CD.seq (CD.block (CD.seq (CD.region ?_))))
  refine OD.rE 2 [(0,.sl 2 set.length (set.flatMap X0K)),(1,.fn 181),(5,.i64 i),(7,.i64 set.length),(8,.i64 i)] ?_
  refine OD.nil (CD.seq (CD.region ?_))
  refine OD.rE 3 [(0,.sl 2 set.length (set.flatMap X0K)),(1,.fn 181),(5,.i64 i),(7,.i64 set.length),(8,.i64 i),(11,.fn 181),(12,.sl 2 set.length (set.flatMap X0K)),(13,.i64 i)] ?_
  refine OD.idx rfl rfl (by kernel_rfl) (by omega) (by omega) ?_
  refine OD.rE 0 [(0,.sl 2 set.length (set.flatMap X0K)),(1,.fn 181),(5,.i64 i),(7,.i64 set.length),(8,.i64 i),(11,.fn 181),(14,.ep 2 set.length (set.flatMap X0K) ((((i:Nat):Int):Int).toNat*2))] ?_
  refine OD.ldA rfl (by kernel_rfl) (by kernel_rfl) (XGG hx) rfl (by decide) ?_
  refine OD.rE 0 [(0,.sl 2 set.length (set.flatMap X0K)),(1,.fn 181),(5,.i64 i),(7,.i64 set.length),(8,.i64 i),(11,.fn 181),(15,.agg [.int .i32 x.1,.int .i32 x.2])] ?_
  refine OD.cE (XJ3 x) ?_
  refine OD.rE 0 [(0,.sl 2 set.length (set.flatMap X0K)),(1,.fn 181),(5,.i64 i),(7,.i64 set.length),(8,.i64 i),(16,.bool (!(X0y x)))] ?_
  refine OD.nil ?_
  refine CD.condB rfl (fun h2=>?_) (fun h2=>?_)
  ·
   have h2:=XBt h2
   refine CD.seq (CD.region ?_)
   refine OD.rE 2 [(4,.i64 i)] ?_
   refine OD.nil (CD.ret ?_)
   exact rP (.i64 i) (by rw [hr,hd,XD4,if_neg (by simpa using h2)])
  ·
   have h2:=XBu h2
   refine CD.skip (CD.region ?_)
   refine OD.rE 1 [(0,.sl 2 set.length (set.flatMap X0K)),(1,.fn 181),(7,.i64 set.length),(18,.i64 (X09 .i64 (((i:Nat):Int)+1)))] ?_
   refine OD.is 18 rfl (wrn (m:=i+1) (by omega) (by omega)) ?_
   refine OD.rE 1 [(0,.sl 2 set.length (set.flatMap X0K)),(1,.fn 181),(7,.i64 set.length),(8,.i64 ((i+1:Nat):Int))] ?_
   refine OD.nil ?_
   exact⟨_,by omega,i+1,(by kernel_rfl),by omega,by rw [hr,hd,XD4,if_pos (by simpa using h2)],rfl⟩
 ·
  refine CD.exit ?_
  refine CD.seq (CD.region ?_)
  refine OD.rE 1 [(4,.i64 (-1))] ?_
  refine OD.nil (CD.ret ?_)
  exact rP (.i64 (-1)) (by rw [hr,List.drop_eq_nil_of_le (by omega)];rfl)
theorem XBQ (set:List (Int×Int)) (hsz:set.length<4611686018427387904):X1K P ov 180 [.sl 2 set.length (set.flatMap X0K),.fn 181] (.bool (!set.all X0y)):=by
 refine FnD.intro (by kernel_rfl) (fn:=Tryz.f180) (by kernel_rfl) rfl (by kernel_rfl) fun M a0 g0 hg0=>?_
 refine CD.seq (CD.region ?_)
 refine OD.rE 1 [(0,.sl 2 set.length (set.flatMap X0K)),(1,.fn 181)] ?_
 refine OD.nil (CD.seq (CD.region ?_))
 refine OD.rE 2 [(5,.sl 2 set.length (set.flatMap X0K)),(6,.fn 181)] ?_
 refine OD.cE (XJ5 set hsz) ?_
 refine OD.rE 2 [(4,.bool (decide ((0:Int)≤(XD4 set 0))))] ?_
 refine OD.nil (CD.ret ?_)
 exact rP (.bool (decide ((0:Int)≤(XD4 set 0)))) (by rw [XGH])
theorem XLN (k:Int) (set:List (Int×Int)) (no:Bool) (kids:List Nd) (mn mx:Int) (hsz:set.length<4611686018427387904):X1K P ov 141 [.agg [.i64 k,.sl 2 set.length (set.flatMap X0K),.bool no,.sl 6 kids.length (X0G kids),.i64 mn,.i64 mx]] (.bool (X4X (.mk k set no kids mn mx))):=by
 refine FnD.intro (by kernel_rfl) (fn:=Tryz.f141) (by kernel_rfl) rfl (by kernel_rfl) fun M a0 g0 hg0=>?_
 refine CD.seq (CD.region ?_)
 refine OD.rL 2 [(1,.loc 0 0)] [.box (cN k set no kids mn mx)] ?_
 refine OD.nil (CD.seq (CD.region ?_))
 refine OD.rE 4 [(1,.loc 0 0),(3,.i64 kids.length)] ?_
 refine OD.nil (CD.seq (CD.seq (CD.region ?_)))
 refine OD.rE 2 [(1,.loc 0 0),(3,.i64 kids.length),(8,.i64 k)] ?_
 refine OD.nil (CD.block (CD.seq (CD.region ?_)))
 refine OD.rE 2 [(1,.loc 0 0),(3,.i64 kids.length),(8,.i64 k),(9,.bool (decide ((k:Int)=2)))] ?_
 refine OD.nil ?_
 refine CD.condP rfl (fun h1=>?_) (fun h1=>?_)
 ·
  refine CD.seq (CD.region ?_)
  refine OD.rE 3 [(1,.loc 0 0),(13,.bool (decide ((((kids.length:Nat):Int):Int)=0)))] ?_
  refine OD.ifP 13 rfl (fun h2=>?_) (fun h2=>?_)
  ·
   refine OD.rE 5 [(1,.loc 0 0),(13,.bool true),(18,.bool (decide ((0:Int)<((set.length:Nat):Int))))] ?_
   refine OD.ifP 18 rfl (fun h3=>?_) (fun h3=>?_)
   ·
    refine OD.rE 7 [(23,.bool true),(25,.sl 2 set.length (set.flatMap X0K))] ?_
    refine OD.guard rfl rfl ?_
    refine OD.cE (XBQ set hsz) ?_
    refine OD.rE 3 [(2,.bool (!(!set.all X0y)))] ?_
    refine OD.nil (CD.ret ?_)
    exact rP (.bool (!(!set.all X0y))) (by first | (exfalso;omega) | (simp only [h1,h2,h3,X4X,Bool.not_not,bs,decide_true,decide_false,if_true,if_false,reduceIte]<;>rfl))
   ·
    refine OD.rE 5 [(1,.loc 0 0),(23,.bool no)] ?_
    refine OD.ifB 23 rfl (fun h4=>?_) (fun h4=>?_)
    ·
     refine OD.rE 2 [(23,.bool true),(25,.sl 2 set.length (set.flatMap X0K))] ?_
     refine OD.guard rfl rfl ?_
     refine OD.cE (XBQ set hsz) ?_
     refine OD.rE 3 [(2,.bool (!(!set.all X0y)))] ?_
     refine OD.nil (CD.ret ?_)
     exact rP (.bool (!(!set.all X0y))) (by first | (exfalso;omega) | (simp only [h1,h2,h3,h4,X4X,Bool.not_not,bs,decide_true,decide_false,if_true,if_false,reduceIte]<;>rfl))
    ·
     refine OD.rE 6 [(2,.bool false)] ?_
     refine OD.nil (CD.ret ?_)
     exact rP (.bool false) (by first | (exfalso;omega) | (simp only [h1,h2,h3,h4,X4X,Bool.not_not,bs,decide_true,decide_false,if_true,if_false,reduceIte]<;>rfl))
  ·
   refine OD.rE 16 [(2,.bool false)] ?_
   refine OD.nil (CD.ret ?_)
   exact rP (.bool false) (by first | (exfalso;omega) | (simp only [h1,h2,X4X,Bool.not_not,bs,decide_true,decide_false,if_true,if_false,reduceIte]<;>rfl))
 ·
  refine CD.seq (CD.seq (CD.region ?_))
  refine OD.rE 2 [(1,.loc 0 0),(3,.i64 kids.length),(8,.i64 k),(29,.bool (decide ((k:Int)=3)))] ?_
  refine OD.nil ?_
  refine CD.condS rfl (fun h5=>?_) (fun h5=>?_)
  ·
   refine CD.skip ?_
   refine CD.condT rfl ?_
   refine CD.seq (CD.region ?_)
   refine OD.rE 3 [(2,.bool (decide ((2:Int)≤((kids.length:Nat):Int))))] ?_
   refine OD.nil (CD.ret ?_)
   exact rP (.bool (decide ((2:Int)≤((kids.length:Nat):Int)))) (by first | (exfalso;omega) | (simp only [h1,h5,X4X,Bool.not_not,bs,decide_true,decide_false,if_true,if_false,reduceIte]<;>rfl))
  ·
   refine CD.region ?_
   refine OD.rE 2 [(1,.loc 0 0),(3,.i64 kids.length),(8,.i64 k),(29,.bool (decide ((k:Int)=4)))] ?_
   refine OD.nil ?_
   refine CD.condP rfl (fun h6=>?_) (fun h6=>?_)
   ·
    refine CD.seq (CD.region ?_)
    refine OD.rE 3 [(2,.bool (decide ((2:Int)≤((kids.length:Nat):Int))))] ?_
    refine OD.nil (CD.ret ?_)
    exact rP (.bool (decide ((2:Int)≤((kids.length:Nat):Int)))) (by first | (exfalso;omega) | (simp only [h1,h5,h6,X4X,Bool.not_not,bs,decide_true,decide_false,if_true,if_false,reduceIte]<;>rfl))
   ·
    refine CD.seq (CD.region ?_)
    refine OD.rE 2 [(1,.loc 0 0),(3,.i64 kids.length),(8,.i64 k),(34,.bool (decide ((k:Int)=5)))] ?_
    refine OD.nil ?_
    refine CD.condP rfl (fun h7=>?_) (fun h7=>?_)
    ·
     refine CD.seq (CD.region ?_)
     refine OD.rE 3 [(1,.loc 0 0),(38,.bool (decide ((((kids.length:Nat):Int):Int)=1)))] ?_
     refine OD.ifP 38 rfl (fun h8=>?_) (fun h8=>?_)
     ·
      refine OD.rE 5 [(1,.loc 0 0),(43,.bool (decide ((0:Int)≤mn)))] ?_
      refine OD.ifP 43 rfl (fun h9=>?_) (fun h9=>?_)
      ·
       refine OD.rE 5 [(1,.loc 0 0),(48,.bool (decide ((mn:Int)≤9)))] ?_
       refine OD.ifP 48 rfl (fun h10=>?_) (fun h10=>?_)
       ·
        refine OD.rE 5 [(1,.loc 0 0),(53,.bool (decide ((mx:Int)≤9)))] ?_
        refine OD.ifP 53 rfl (fun h11=>?_) (fun h11=>?_)
        ·
         refine OD.rE 4 [(1,.loc 0 0),(53,.bool true),(57,.bool (decide ((mx:Int)=(-1))))] ?_
         refine OD.ifP 57 rfl (fun h12=>?_) (fun h12=>?_)
         ·
          refine OD.rE 8 [(2,.bool true)] ?_
          refine OD.nil (CD.ret ?_)
          exact rP (.bool true) (by first | (exfalso;omega) | (simp only [h1,h5,h6,h7,h8,h9,h10,h11,h12,X4X,Bool.not_not,bs,decide_true,decide_false,if_true,if_false,reduceIte]<;>rfl))
         ·
          refine OD.rE 8 [(2,.bool (decide ((mn:Int)≤mx)))] ?_
          refine OD.nil (CD.ret ?_)
          exact rP (.bool (decide ((mn:Int)≤mx))) (by first | (exfalso;omega) | (simp only [h1,h5,h6,h7,h8,h9,h10,h11,h12,X4X,Bool.not_not,bs,decide_true,decide_false,if_true,if_false,reduceIte]<;>rfl))
        ·
         refine OD.rE 12 [(2,.bool false)] ?_
         refine OD.nil (CD.ret ?_)
         exact rP (.bool false) (by first | (exfalso;omega) | (simp only [h1,h5,h6,h7,h8,h9,h10,h11,X4X,Bool.not_not,bs,decide_true,decide_false,if_true,if_false,reduceIte]<;>rfl))
       ·
        refine OD.rE 17 [(2,.bool false)] ?_
        refine OD.nil (CD.ret ?_)
        exact rP (.bool false) (by first | (exfalso;omega) | (simp only [h1,h5,h6,h7,h8,h9,h10,X4X,Bool.not_not,bs,decide_true,decide_false,if_true,if_false,reduceIte]<;>rfl))
      ·
       refine OD.rE 22 [(2,.bool false)] ?_
       refine OD.nil (CD.ret ?_)
       exact rP (.bool false) (by first | (exfalso;omega) | (simp only [h1,h5,h6,h7,h8,h9,X4X,Bool.not_not,bs,decide_true,decide_false,if_true,if_false,reduceIte]<;>rfl))
     ·
      refine OD.rE 27 [(2,.bool false)] ?_
      refine OD.nil (CD.ret ?_)
      exact rP (.bool false) (by first | (exfalso;omega) | (simp only [h1,h5,h6,h7,h8,X4X,Bool.not_not,bs,decide_true,decide_false,if_true,if_false,reduceIte]<;>rfl))
    ·
     refine CD.seq (CD.seq (CD.region ?_))
     refine OD.rE 2 [(3,.i64 kids.length),(8,.i64 k),(65,.bool (decide ((k:Int)=6)))] ?_
     refine OD.nil ?_
     refine CD.condS rfl (fun h13=>?_) (fun h13=>?_)
     ·
      refine CD.skip ?_
      refine CD.condT rfl ?_
      refine CD.seq (CD.region ?_)
      refine OD.rE 3 [(2,.bool (decide ((((kids.length:Nat):Int):Int)=0)))] ?_
      refine OD.nil (CD.ret ?_)
      exact rP (.bool (decide ((((kids.length:Nat):Int):Int)=0))) (by first | (exfalso;omega) | (simp only [h1,h5,h6,h7,h13,X4X,Bool.not_not,bs,decide_true,decide_false,if_true,if_false,reduceIte]<;>rfl))
     ·
      refine CD.region ?_
      refine OD.rE 2 [(3,.i64 kids.length),(65,.bool (decide ((k:Int)=7)))] ?_
      refine OD.nil ?_
      refine CD.condP rfl (fun h14=>?_) (fun h14=>?_)
      ·
       refine CD.seq (CD.region ?_)
       refine OD.rE 3 [(2,.bool (decide ((((kids.length:Nat):Int):Int)=0)))] ?_
       refine OD.nil (CD.ret ?_)
       exact rP (.bool (decide ((((kids.length:Nat):Int):Int)=0))) (by first | (exfalso;omega) | (simp only [h1,h5,h6,h7,h13,h14,X4X,Bool.not_not,bs,decide_true,decide_false,if_true,if_false,reduceIte]<;>rfl))
      ·
       refine CD.skip (CD.seq (CD.region ?_))
       refine OD.rE 1 [(2,.bool false)] ?_
       refine OD.nil (CD.ret ?_)
       exact rP (.bool false) (by first | (exfalso;omega) | (simp only [h1,h5,h6,h7,h13,h14,X4X,Bool.not_not,bs,decide_true,decide_false,if_true,if_false,reduceIte]<;>rfl))
theorem XGL:∀ (m:Nat) (k:Int) (set:List (Int×Int)) (no:Bool) (kids:List Nd) (mn mx:Int) (d:Nat),size (.mk k set no kids mn mx)≤m→fit (.mk k set no kids mn mx)→(d≤41)→X1K P ov 98 [.agg [.i64 k,.sl 2 set.length (set.flatMap X0K),.bool no,.sl 6 kids.length (X0G kids),.i64 mn,.i64 mx],.i64 d] (.i64 ((Nfa.cnt X16 (.mk k set no kids mn mx) d:Nat):Int)):=by
 intro m
 induction m with
 | zero=>intro k set no kids mn mx d hs;exact absurd hs (by have:=X3D (.mk k set no kids mn mx);omega)
 | succ m ih =>
  intro k set no kids mn mx d hs hf hh
  have hf1:=hf.1
  have hf2:=hf.2.1
  have hf3:=hf.2.2.1
  have hf4:=hf.2.2.2.1
  refine FnD.intro (by kernel_rfl) (fn:=Tryz.f98) (by kernel_rfl) rfl (by kernel_rfl) fun M a0 g0 hg0=>?_
  refine CD.seq (CD.region ?_)
  refine OD.rL 2 [(1,.i64 d),(2,.loc 0 0)] [.box (cN k set no kids mn mx)] ?_
  refine OD.nil (CD.seq (CD.seq (CD.region ?_)))
  refine OD.rE 3 [(1,.i64 d),(2,.loc 0 0),(10,.bool (decide ((40:Int)<((d:Nat):Int))))] ?_
  refine OD.ifP 10 rfl (fun h1=>?_) (fun h1=>?_)
  ·
   refine OD.rE 9 [(1,.i64 d),(2,.loc 0 0),(19,.bool true)] ?_
   refine OD.nil ?_
   refine CD.condT rfl ?_
   refine CD.seq (CD.region ?_)
   refine OD.rE 1 [(4,.i64 2001)] ?_
   refine OD.nil (CD.ret ?_)
   exact rP (.i64 2001) (by rw [XBM,if_pos (.inl (by omega))];rfl)
  ·
   refine OD.rE 1 [(1,.i64 d),(2,.loc 0 0),(10,.bool false),(11,.agg (cN k set no kids mn mx))] ?_
   refine OD.guard rfl rfl ?_
   refine OD.cE (XJ4 k set no kids mn mx) ?_
   refine OD.rE 3 [(1,.i64 d),(2,.loc 0 0),(15,.bool (!(X2r (.mk k set no kids mn mx))))] ?_
   refine OD.ifB 15 rfl (fun h2=>?_) (fun h2=>?_)
   ·
    have h2:=XBt h2
    refine OD.rE 4 [(1,.i64 d),(2,.loc 0 0),(19,.bool true)] ?_
    refine OD.nil ?_
    refine CD.condT rfl ?_
    refine CD.seq (CD.region ?_)
    refine OD.rE 1 [(4,.i64 2001)] ?_
    refine OD.nil (CD.ret ?_)
    exact rP (.i64 2001) (by rw [XBM,if_pos (.inr (by simp [X16, *]))];rfl)
   ·
    have h2:=XBu h2
    refine OD.rE 1 [(1,.i64 d),(2,.loc 0 0),(15,.bool false),(16,.agg (cN k set no kids mn mx))] ?_
    refine OD.guard rfl rfl ?_
    refine OD.cE (XLN k set no kids mn mx hf.1) ?_
    refine OD.rE 2 [(1,.i64 d),(2,.loc 0 0),(19,.bool (!(X4X (.mk k set no kids mn mx))))] ?_
    refine OD.nil ?_
    refine CD.condB rfl (fun h3=>?_) (fun h3=>?_)
    ·
     have h3:=XBt h3
     refine CD.seq (CD.region ?_)
     refine OD.rE 1 [(4,.i64 2001)] ?_
     refine OD.nil (CD.ret ?_)
     exact rP (.i64 2001) (by rw [XBM,if_pos (.inr (by simp [X16, *]))];rfl)
    ·
     have h3:=XBu h3
     refine CD.skip (CD.seq (CD.region ?_))
     refine OD.rE 1 [(1,.i64 d),(2,.loc 0 0),(5,.i64 1)] ?_
     refine OD.nil (CD.seq (CD.seq (CD.region ?_)))
     refine OD.rE 4 [(1,.i64 d),(5,.i64 1),(21,.sl 6 kids.length (X0G kids)),(22,.i64 kids.length),(23,.i64 0)] ?_
     refine OD.nil (CD.block ?_)
     refine CD.weak [1,5,21,22,23] 1 (E':=[(1,.i64 d),(5,.i64 1),(21,.sl 6 kids.length (X0G kids)),(22,.i64 kids.length),(23,.i64 0)]) (by kernel_rfl) (by simp [hg0]) (by kernel_rfl) ?_
     refine CD.loop (fun m σ=>∃ (i:Nat) (all:Nat),σ=⟨[(1,.i64 d),(5,.i64 all),(21,.sl 6 kids.length (X0G kids)),(22,.i64 kids.length),(23,.i64 i)],[.box (cN k set no kids mn mx)]⟩∧(i≤kids.length)∧(all≤2000)∧(Nfa.cnt X16 (.mk k set no kids mn mx) d=XCa X16 (kids.drop i) d all)∧m=kids.length - i) (fun m σ hI=>?_) _ ⟨0,1,(by kernel_rfl),Nat.zero_le _,by omega,by rw [XBM,if_neg (by simp [X16, *];omega)];rfl,rfl⟩
     obtain⟨i,all,e,hi,ha,hr,hm⟩:=hI
     subst e hm
     refine CD.seq (CD.region ?_)
     refine OD.rE 1 [(1,.i64 d),(5,.i64 all),(21,.sl 6 kids.length (X0G kids)),(22,.i64 kids.length),(23,.i64 i),(24,.bool (decide ((((i:Nat):Int):Int)<((kids.length:Nat):Int))))] ?_
     refine OD.nil (CD.seq ?_)
     refine CD.condP rfl (fun h4=>?_) (fun h4=>?_)
     ·
      obtain⟨⟨k1,set1,no1,kids1,mn1,mx1⟩,hx,hd⟩:=nth (l:=kids) (i:=i) (by omega)
      have hc:=XLG X16 (.mk k1 set1 no1 kids1 mn1 mx1) (d+1)
      refine CD.skip (CD.seq (CD.block (CD.seq (CD.region ?_))))
      refine OD.idx rfl rfl (by kernel_rfl) (by omega) (by omega) ?_
      refine OD.rE 0 [(1,.i64 d),(5,.i64 all),(21,.sl 6 kids.length (X0G kids)),(22,.i64 kids.length),(23,.i64 i),(25,.ep 6 kids.length (X0G kids) ((((i:Nat):Int):Int).toNat*6))] ?_
      refine OD.ldA rfl (by kernel_rfl) (by kernel_rfl) (X4w hx) rfl (by decide) ?_
      refine OD.rL 2 [(1,.i64 d),(5,.i64 all),(7,.loc 1 0),(21,.sl 6 kids.length (X0G kids)),(22,.i64 kids.length),(23,.i64 i)] [.box (cN k set no kids mn mx),.box (cN k1 set1 no1 kids1 mn1 mx1)] ?_
      refine OD.nil (CD.seq (CD.region ?_))
      refine OD.rE 4 [(1,.i64 d),(21,.sl 6 kids.length (X0G kids)),(22,.i64 kids.length),(23,.i64 i),(27,.i64 all),(28,.agg (cN k1 set1 no1 kids1 mn1 mx1)),(30,.i64 (X09 .i64 (((d:Nat):Int)+1)))] ?_
      refine OD.is 30 rfl (wrn (m:=d+1) (by omega) (by omega)) ?_
      refine OD.rE 0 [(1,.i64 d),(21,.sl 6 kids.length (X0G kids)),(22,.i64 kids.length),(23,.i64 i),(27,.i64 all),(28,.agg (cN k1 set1 no1 kids1 mn1 mx1)),(30,.i64 ((d+1:Nat):Int))] ?_
      refine OD.cE (ih k1 set1 no1 kids1 mn1 mx1 (d+1) (X1Q hs hx) (X1x hf hx) (by omega)) ?_
      refine OD.rE 1 [(1,.i64 d),(21,.sl 6 kids.length (X0G kids)),(22,.i64 kids.length),(23,.i64 i),(32,.i64 (X09 .i64 (((all:Nat):Int)+((Nfa.cnt X16 (.mk k1 set1 no1 kids1 mn1 mx1) (d+1):Nat):Int))))] ?_
      refine OD.is 32 rfl (wrn (m:=all+(Nfa.cnt X16 (.mk k1 set1 no1 kids1 mn1 mx1) (d+1))) (by omega) (by omega)) ?_
      refine OD.rE 1 [(1,.i64 d),(5,.i64 ((all+(Nfa.cnt X16 (.mk k1 set1 no1 kids1 mn1 mx1) (d+1)):Nat):Int)),(21,.sl 6 kids.length (X0G kids)),(22,.i64 kids.length),(23,.i64 i)] ?_
      refine OD.nil (CD.seq (CD.region ?_))
      refine OD.rE 2 [(1,.i64 d),(5,.i64 ((all+(Nfa.cnt X16 (.mk k1 set1 no1 kids1 mn1 mx1) (d+1)):Nat):Int)),(21,.sl 6 kids.length (X0G kids)),(22,.i64 kids.length),(23,.i64 i),(34,.bool (decide ((2000:Int)<((all+(Nfa.cnt X16 (.mk k1 set1 no1 kids1 mn1 mx1) (d+1)):Nat):Int))))] ?_
      refine OD.nil ?_
      refine CD.condP rfl (fun h5=>?_) (fun h5=>?_)
      ·
       refine CD.seq (CD.region ?_)
       refine OD.rE 1 [(4,.i64 2001)] ?_
       refine OD.nil (CD.ret ?_)
       exact rP (.i64 2001) (by rw [hr,hd,XCa,if_pos (by omega)];rfl)
      ·
       refine CD.skip (CD.region ?_)
       refine OD.rE 1 [(1,.i64 d),(5,.i64 ((all+(Nfa.cnt X16 (.mk k1 set1 no1 kids1 mn1 mx1) (d+1)):Nat):Int)),(21,.sl 6 kids.length (X0G kids)),(22,.i64 kids.length),(35,.i64 (X09 .i64 (((i:Nat):Int)+1)))] ?_
       refine OD.is 35 rfl (wrn (m:=i+1) (by omega) (by omega)) ?_
       refine OD.rE 1 [(1,.i64 d),(5,.i64 ((all+(Nfa.cnt X16 (.mk k1 set1 no1 kids1 mn1 mx1) (d+1)):Nat):Int)),(21,.sl 6 kids.length (X0G kids)),(22,.i64 kids.length),(23,.i64 ((i+1:Nat):Int))] ?_
       refine OD.nilW [1,5,21,22,23] 1 (E':=[(1,.i64 d),(5,.i64 ((all+(Nfa.cnt X16 (.mk k1 set1 no1 kids1 mn1 mx1) (d+1)):Nat):Int)),(21,.sl 6 kids.length (X0G kids)),(22,.i64 kids.length),(23,.i64 ((i+1:Nat):Int))]) (by kernel_rfl) (by simp [hg0]) (by kernel_rfl) ?_
       exact⟨_,by omega,i+1,all+Nfa.cnt X16 (.mk k1 set1 no1 kids1 mn1 mx1) (d+1),(by kernel_rfl),by omega,by omega,by rw [hr,hd,XCa,if_neg (by omega)],rfl⟩
     ·
      refine CD.exit ?_
      refine CD.seq (CD.region ?_)
      refine OD.rE 2 [(4,.i64 all)] ?_
      refine OD.nil (CD.ret ?_)
      exact rP (.i64 all) (by rw [hr,List.drop_eq_nil_of_le (by omega)];rfl)
theorem XLO (k:Int) (set:List (Int×Int)) (no:Bool) (kids:List Nd) (mn mx:Int) (hf:fit (.mk k set no kids mn mx)):X1K P ov 55 [.agg [.i64 k,.sl 2 set.length (set.flatMap X0K),.bool no,.sl 6 kids.length (X0G kids),.i64 mn,.i64 mx]] (.bool (decide (Nfa.cnt X16 (.mk k set no kids mn mx) 1≤2000))):=by
 refine FnD.intro (by kernel_rfl) (fn:=Tryz.f55) (by kernel_rfl) rfl (by kernel_rfl) fun M a0 g0 hg0=>?_
 refine CD.seq (CD.region ?_)
 refine OD.rL 2 [(1,.loc 0 0)] [.box (cN k set no kids mn mx)] ?_
 refine OD.nil (CD.seq (CD.region ?_))
 refine OD.rE 1 [(3,.agg (cN k set no kids mn mx))] ?_
 refine OD.cE (XGL _ k set no kids mn mx 1 (Nat.le_refl _) hf (by omega)) ?_
 refine OD.rE 2 [(2,.bool (decide ((((Nfa.cnt X16 (.mk k set no kids mn mx) 1:Nat):Int):Int)≤2000)))] ?_
 refine OD.nil (CD.ret ?_)
 exact rP (.bool (decide ((((Nfa.cnt X16 (.mk k set no kids mn mx) 1:Nat):Int):Int)≤2000))) (congrArg D.bool (decide_eq_decide.2 (by omega)))
theorem XDX:∀ (m:Nat) (k:Int) (set:List (Int×Int)) (no:Bool) (kids:List Nd) (mn mx:Int),size (.mk k set no kids mn mx)≤m→fit (.mk k set no kids mn mx)→(size (.mk k set no kids mn mx)≤2000)→(X0H X16 (.mk k set no kids mn mx))→X1K P ov 56 [.agg [.i64 k,.sl 2 set.length (set.flatMap X0K),.bool no,.sl 6 kids.length (X0G kids),.i64 mn,.i64 mx]] (.i64 ((wp K14 20001 (.mk k set no kids mn mx):Nat):Int)):=by
 intro m
 induction m with
 | zero=>intro k set no kids mn mx hs;exact absurd hs (by have:=X3D (.mk k set no kids mn mx);omega)
 | succ m ih =>
  intro k set no kids mn mx hs hf hz hl
  have hf1:=hf.1
  have hf2:=hf.2.1
  have hf3:=hf.2.2.1
  have hf4:=hf.2.2.2.1
  have hlen:=X4G (k:=k) (set:=set) (no:=no) (kids:=kids) (mn:=mn) (mx:=mx)
  refine FnD.intro (by kernel_rfl) (fn:=Tryz.f56) (by kernel_rfl) rfl (by kernel_rfl) fun M a0 g0 hg0=>?_
  refine CD.seq (CD.region ?_)
  refine OD.rL 2 [(1,.loc 0 0)] [.box (cN k set no kids mn mx)] ?_
  refine OD.nil (CD.seq (CD.region ?_))
  refine OD.rE 1 [(1,.loc 0 0),(3,.i64 0)] ?_
  refine OD.nil (CD.seq (CD.seq (CD.region ?_)))
  refine OD.rE 4 [(1,.loc 0 0),(3,.i64 0),(8,.sl 6 kids.length (X0G kids)),(9,.i64 kids.length),(10,.i64 0)] ?_
  refine OD.nil (CD.block ?_)
  refine CD.weak [1,3,8,9,10] 1 (E':=[(1,.loc 0 0),(3,.i64 0),(8,.sl 6 kids.length (X0G kids)),(9,.i64 kids.length),(10,.i64 0)]) (by kernel_rfl) (by simp [hg0]) (by kernel_rfl) ?_
  refine CD.loop (fun m σ=>∃ (i:Nat) (w:Nat),σ=⟨[(1,.loc 0 0),(3,.i64 w),(8,.sl 6 kids.length (X0G kids)),(9,.i64 kids.length),(10,.i64 i)],[.box (cN k set no kids mn mx)]⟩∧(i≤kids.length)∧(w≤i*20001)∧(wpL K14 20001 kids 0=wpL K14 20001 (kids.drop i) w)∧m=kids.length - i) (fun m σ hI=>?_) _ ⟨0,0,(by kernel_rfl),Nat.zero_le _,by omega,rfl,rfl⟩
  obtain⟨i,w,e,hi,hw,hr,hm⟩:=hI
  subst e hm
  refine CD.seq (CD.region ?_)
  refine OD.rE 1 [(1,.loc 0 0),(3,.i64 w),(8,.sl 6 kids.length (X0G kids)),(9,.i64 kids.length),(10,.i64 i),(11,.bool (decide ((((i:Nat):Int):Int)<((kids.length:Nat):Int))))] ?_
  refine OD.nil (CD.seq ?_)
  refine CD.condP rfl (fun h1=>?_) (fun h1=>?_)
  ·
   obtain⟨⟨k1,set1,no1,kids1,mn1,mx1⟩,hx,hd⟩:=nth (l:=kids) (i:=i) (by omega)
   have hc:=XLH K14 20001 (.mk k1 set1 no1 kids1 mn1 mx1)
   refine CD.skip (CD.seq (CD.block (CD.seq (CD.region ?_))))
   refine OD.idx rfl rfl (by kernel_rfl) (by omega) (by omega) ?_
   refine OD.rE 0 [(1,.loc 0 0),(3,.i64 w),(8,.sl 6 kids.length (X0G kids)),(9,.i64 kids.length),(10,.i64 i),(12,.ep 6 kids.length (X0G kids) ((((i:Nat):Int):Int).toNat*6))] ?_
   refine OD.ldA rfl (by kernel_rfl) (by kernel_rfl) (X4w hx) rfl (by decide) ?_
   refine OD.rL 2 [(1,.loc 0 0),(3,.i64 w),(5,.loc 1 0),(8,.sl 6 kids.length (X0G kids)),(9,.i64 kids.length),(10,.i64 i)] [.box (cN k set no kids mn mx),.box (cN k1 set1 no1 kids1 mn1 mx1)] ?_
   refine OD.nil (CD.region ?_)
   refine OD.rE 2 [(1,.loc 0 0),(8,.sl 6 kids.length (X0G kids)),(9,.i64 kids.length),(10,.i64 i),(14,.i64 w),(15,.agg (cN k1 set1 no1 kids1 mn1 mx1))] ?_
   refine OD.cE (ih k1 set1 no1 kids1 mn1 mx1 (X1Q hs hx) (X1x hf hx) (Nat.le_trans (X1Q (Nat.le_trans (Nat.le_refl _) (Nat.le_succ_of_le (Nat.le_refl _))) hx) (by omega)) (X0D hl hx)) ?_
   refine OD.rE 1 [(1,.loc 0 0),(8,.sl 6 kids.length (X0G kids)),(9,.i64 kids.length),(10,.i64 i),(17,.i64 (X09 .i64 (((w:Nat):Int)+((wp K14 20001 (.mk k1 set1 no1 kids1 mn1 mx1):Nat):Int))))] ?_
   refine OD.is 17 rfl (wrn (m:=w+(wp K14 20001 (.mk k1 set1 no1 kids1 mn1 mx1))) (by omega) (by omega)) ?_
   refine OD.rE 1 [(1,.loc 0 0),(3,.i64 ((w+(wp K14 20001 (.mk k1 set1 no1 kids1 mn1 mx1)):Nat):Int)),(8,.sl 6 kids.length (X0G kids)),(9,.i64 kids.length),(10,.i64 i)] ?_
   refine OD.nil (CD.region ?_)
   refine OD.rE 1 [(1,.loc 0 0),(3,.i64 ((w+(wp K14 20001 (.mk k1 set1 no1 kids1 mn1 mx1)):Nat):Int)),(8,.sl 6 kids.length (X0G kids)),(9,.i64 kids.length),(18,.i64 (X09 .i64 (((i:Nat):Int)+1)))] ?_
   refine OD.is 18 rfl (wrn (m:=i+1) (by omega) (by omega)) ?_
   refine OD.rE 1 [(1,.loc 0 0),(3,.i64 ((w+(wp K14 20001 (.mk k1 set1 no1 kids1 mn1 mx1)):Nat):Int)),(8,.sl 6 kids.length (X0G kids)),(9,.i64 kids.length),(10,.i64 ((i+1:Nat):Int))] ?_
   refine OD.nilW [1,3,8,9,10] 1 (E':=[(1,.loc 0 0),(3,.i64 ((w+(wp K14 20001 (.mk k1 set1 no1 kids1 mn1 mx1)):Nat):Int)),(8,.sl 6 kids.length (X0G kids)),(9,.i64 kids.length),(10,.i64 ((i+1:Nat):Int))]) (by kernel_rfl) (by simp [hg0]) (by kernel_rfl) ?_
   exact⟨_,by omega,i+1,w+wp K14 20001 (.mk k1 set1 no1 kids1 mn1 mx1),(by kernel_rfl),by omega,by have:=XLH K14 20001 (.mk k1 set1 no1 kids1 mn1 mx1);omega,by rw [hr,hd,wpL],rfl⟩
  ·
   refine CD.exit ?_
   refine CD.seq (CD.seq (CD.region ?_))
   refine OD.rE 2 [(1,.loc 0 0),(3,.i64 w),(20,.i64 k)] ?_
   refine OD.nil (CD.block (CD.seq (CD.seq (CD.region ?_))))
   refine OD.rE 2 [(1,.loc 0 0),(3,.i64 w),(20,.i64 k),(21,.bool (decide ((k:Int)=2)))] ?_
   refine OD.nil ?_
   refine CD.condS rfl (fun h2=>?_) (fun h2=>?_)
   ·
    refine CD.skip ?_
    refine CD.condT rfl ?_
    refine CD.region ?_
    refine OD.rE 1 [(3,.i64 1)] ?_
    refine OD.nil (CD.seq (CD.region ?_))
    refine OD.rE 3 [(2,.i64 1)] ?_
    refine OD.nil (CD.ret ?_)
    rw [List.drop_eq_nil_of_le (by omega),X4H]at hr
    exact rP (.i64 1) (congrArg (D.int .i64) (by have hkk:=X29 hl;rw [XAP,hr];simp only [K14,h1,h2,reduceIte,Int.reduceEq]<;>omega))
   ·
    refine CD.seq (CD.region ?_)
    refine OD.rE 2 [(1,.loc 0 0),(3,.i64 w),(20,.i64 k),(21,.bool (decide ((k:Int)=6)))] ?_
    refine OD.nil ?_
    refine CD.condS rfl (fun h3=>?_) (fun h3=>?_)
    ·
     refine CD.skip ?_
     refine CD.condT rfl ?_
     refine CD.region ?_
     refine OD.rE 1 [(3,.i64 1)] ?_
     refine OD.nil (CD.seq (CD.region ?_))
     refine OD.rE 3 [(2,.i64 1)] ?_
     refine OD.nil (CD.ret ?_)
     rw [List.drop_eq_nil_of_le (by omega),X4H]at hr
     exact rP (.i64 1) (congrArg (D.int .i64) (by have hkk:=X29 hl;rw [XAP,hr];simp only [K14,h1,h2,h3,reduceIte,Int.reduceEq]<;>omega))
    ·
     refine CD.region ?_
     refine OD.rE 2 [(1,.loc 0 0),(3,.i64 w),(20,.i64 k),(21,.bool (decide ((k:Int)=7)))] ?_
     refine OD.nil ?_
     refine CD.condP rfl (fun h4=>?_) (fun h4=>?_)
     ·
      refine CD.region ?_
      refine OD.rE 1 [(3,.i64 1)] ?_
      refine OD.nil (CD.seq (CD.region ?_))
      refine OD.rE 3 [(2,.i64 1)] ?_
      refine OD.nil (CD.ret ?_)
      rw [List.drop_eq_nil_of_le (by omega),X4H]at hr
      exact rP (.i64 1) (congrArg (D.int .i64) (by have hkk:=X29 hl;rw [XAP,hr];simp only [K14,h1,h2,h3,h4,reduceIte,Int.reduceEq]<;>omega))
     ·
      refine CD.seq (CD.region ?_)
      refine OD.rE 2 [(1,.loc 0 0),(3,.i64 w),(20,.i64 k),(25,.bool (decide ((k:Int)=4)))] ?_
      refine OD.nil ?_
      refine CD.condP rfl (fun h5=>?_) (fun h5=>?_)
      ·
       refine CD.region ?_
       refine OD.rE 2 [(28,.i64 (X09 .i64 (((w:Nat):Int)+1)))] ?_
       refine OD.is 28 rfl (wrn (m:=w+1) (by omega) (by omega)) ?_
       refine OD.rE 1 [(3,.i64 ((w+1:Nat):Int))] ?_
       refine OD.nil (CD.seq (CD.region ?_))
       refine OD.rE 2 [(43,.i64 (min (((w+1:Nat):Int):Int) 20001))] ?_
       refine OD.is 43 rfl X6Z ?_
       refine OD.rE 1 [(2,.i64 ((min (w+1) 20001:Nat):Int))] ?_
       refine OD.nil (CD.ret ?_)
       rw [List.drop_eq_nil_of_le (by omega),X4H]at hr
       exact rP (.i64 ((min (w+1) 20001:Nat):Int)) (congrArg (D.int .i64) (by have hkk:=X29 hl;rw [XAP,hr];simp only [K14,h1,h2,h3,h4,h5,reduceIte,Int.reduceEq]<;>omega))
      ·
       refine CD.seq (CD.region ?_)
       refine OD.rE 2 [(1,.loc 0 0),(3,.i64 w),(29,.bool (decide ((k:Int)=5)))] ?_
       refine OD.nil ?_
       refine CD.condP rfl (fun h6=>?_) (fun h6=>?_)
       ·
        have hk:0≤mn∧mn≤9∧mx≤9∧(mx = -1∨mn≤mx):=by subst h6;exact X4y hl
        refine CD.seq (CD.region ?_)
        refine OD.rE 3 [(1,.loc 0 0),(3,.i64 w),(6,.i64 mx)] ?_
        refine OD.nil (CD.seq (CD.seq (CD.region ?_)))
        refine OD.rE 2 [(1,.loc 0 0),(3,.i64 w),(6,.i64 mx),(34,.bool (decide ((mx:Int)<0)))] ?_
        refine OD.nil ?_
        refine CD.condP rfl (fun h7=>?_) (fun h7=>?_)
        ·
         refine CD.region ?_
         refine OD.rE 3 [(3,.i64 w),(37,.i64 (X09 .i64 (mn+1)))] ?_
         refine OD.is 37 rfl (X5e (by omega) (by omega)) ?_
         refine OD.rE 1 [(3,.i64 w),(6,.i64 (mn+1))] ?_
         refine OD.nil (CD.region ?_)
         refine OD.rE 3 [(40,.i64 (X09 .i64 (((w:Nat):Int)*(mn+1))))] ?_
         have hmul:=XBO (a:=(w:Int)) (b:=((mn+1))) (A:=40002000) (B:=10) (by omega) (by omega) (by omega) (by omega)
         refine OD.is 40 rfl (X5e (by omega) (by omega)) ?_
         refine OD.rE 1 [(41,.i64 (X09 .i64 ((((w:Nat):Int)*(mn+1))+1)))] ?_
         refine OD.is 41 rfl (X5e (by omega) (by omega)) ?_
         refine OD.rE 1 [(3,.i64 ((((w:Nat):Int)*(mn+1))+1))] ?_
         refine OD.nil (CD.seq (CD.region ?_))
         refine OD.rE 3 [(2,.i64 (min ((((w:Nat):Int)*(mn+1))+1:Int) 20001))] ?_
         refine OD.nil (CD.ret ?_)
         rw [List.drop_eq_nil_of_le (by omega),X4H]at hr
         exact rP (.i64 (min ((((w:Nat):Int)*(mn+1))+1:Int) 20001)) (congrArg (D.int .i64) (by have hkk:=X29 hl;rw [XAP,hr];simp only [K14,h1,h2,h3,h4,h5,h6,h7,reduceIte,Int.reduceEq];have:=X6D (w:=w) (t:=(mn+1)) (by omega);omega))
        ·
         refine CD.skip (CD.region ?_)
         refine OD.rE 3 [(40,.i64 (X09 .i64 (((w:Nat):Int)*mx)))] ?_
         have hmul:=XBO (a:=(w:Int)) (b:=(mx)) (A:=40002000) (B:=10) (by omega) (by omega) (by omega) (by omega)
         refine OD.is 40 rfl (X5e (by omega) (by omega)) ?_
         refine OD.rE 1 [(41,.i64 (X09 .i64 ((((w:Nat):Int)*mx)+1)))] ?_
         refine OD.is 41 rfl (X5e (by omega) (by omega)) ?_
         refine OD.rE 1 [(3,.i64 ((((w:Nat):Int)*mx)+1))] ?_
         refine OD.nil (CD.seq (CD.region ?_))
         refine OD.rE 3 [(2,.i64 (min ((((w:Nat):Int)*mx)+1:Int) 20001))] ?_
         refine OD.nil (CD.ret ?_)
         rw [List.drop_eq_nil_of_le (by omega),X4H]at hr
         exact rP (.i64 (min ((((w:Nat):Int)*mx)+1:Int) 20001)) (congrArg (D.int .i64) (by have hkk:=X29 hl;rw [XAP,hr];simp only [K14,h1,h2,h3,h4,h5,h6,h7,reduceIte,Int.reduceEq];have:=X6D (w:=w) (t:=mx) (by omega);omega))
       ·
        refine CD.skip (CD.seq (CD.region ?_))
        refine OD.rE 2 [(43,.i64 (min (((w:Nat):Int):Int) 20001))] ?_
        refine OD.is 43 rfl X6Z ?_
        refine OD.rE 1 [(2,.i64 ((min w 20001:Nat):Int))] ?_
        refine OD.nil (CD.ret ?_)
        rw [List.drop_eq_nil_of_le (by omega),X4H]at hr
        exact rP (.i64 ((min w 20001:Nat):Int)) (congrArg (D.int .i64) (by have hkk:=X29 hl;rw [XAP,hr];have hq:k=3:=(by omega);subst hq;simp only [K14,reduceIte]<;>omega))
end
end Go.Proofs.YtfcadnhoejlgoaaGreatDoor
set_option maxRecDepth 100000
set_option maxHeartbeats 4000000
namespace Go.Proofs.YtfcadnhoejlgoaaGreatDoor
open Go.Vai Go.Nfa
noncomputable section
theorem XJ6:∀ (m:Nat) (k:Int) (set:List (Int×Int)) (no:Bool) (kids:List Nd) (mn mx:Int),size (.mk k set no kids mn mx)≤m→fit (.mk k set no kids mn mx)→(size (.mk k set no kids mn mx)<4611686018427387904)→X1K P ov 35 [.agg [.i64 k,.sl 2 set.length (set.flatMap X0K),.bool no,.sl 6 kids.length (X0G kids),.i64 mn,.i64 mx]] (.i64 ((X77 (.mk k set no kids mn mx):Nat):Int)):=by
 intro m
 induction m with
 | zero=>intro k set no kids mn mx hs;exact absurd hs (by have:=X3D (.mk k set no kids mn mx);omega)
 | succ m ih =>
  intro k set no kids mn mx hs hf hz
  have hf1:=hf.1
  have hf2:=hf.2.1
  have hf3:=hf.2.2.1
  have hf4:=hf.2.2.2.1
  have hlen:=X4G (k:=k) (set:=set) (no:=no) (kids:=kids) (mn:=mn) (mx:=mx)
  have hsz:=XIz k set no kids mn mx
  have hds:=X4x kids
  have hdm:=XJ0 k set no kids mn mx
  refine FnD.intro (by kernel_rfl) (fn:=Tryz.f35) (by kernel_rfl) rfl (by kernel_rfl) fun M a0 g0 hg0=>?_
  refine CD.seq (CD.region ?_)
  refine OD.rL 2 [(1,.loc 0 0)] [.box (cN k set no kids mn mx)] ?_
  refine OD.nil (CD.seq (CD.region ?_))
  refine OD.rE 1 [(1,.loc 0 0),(3,.i64 0)] ?_
  refine OD.nil (CD.seq (CD.seq (CD.region ?_)))
  refine OD.rE 1 [(1,.loc 0 0),(3,.i64 0),(4,.i64 0)] ?_
  refine OD.nil (CD.block ?_)
  refine CD.weak [1,3,4] 1 (E':=[(1,.loc 0 0),(3,.i64 0),(4,.i64 0)]) (by kernel_rfl) (by simp [hg0]) (by kernel_rfl) ?_
  refine CD.loop (fun m σ=>∃ (i:Nat) (c:Nat),σ=⟨[(1,.loc 0 0),(3,.i64 c),(4,.i64 i)],[.box (cN k set no kids mn mx)]⟩∧(i≤kids.length)∧(X45 kids=max c (X45 (kids.drop i)))∧m=kids.length - i) (fun m σ hI=>?_) _ ⟨0,0,(by kernel_rfl),Nat.zero_le _,by rw [List.drop_zero];omega,rfl⟩
  obtain⟨i,c,e,hi,hr,hm⟩:=hI
  subst e hm
  refine CD.seq (CD.seq (CD.region ?_))
  refine OD.rE 5 [(1,.loc 0 0),(3,.i64 c),(4,.i64 i),(9,.bool (decide ((((i:Nat):Int):Int)<((kids.length:Nat):Int))))] ?_
  refine OD.nil ?_
  refine CD.condP rfl (fun h1=>?_) (fun h1=>?_)
  ·
   obtain⟨⟨k1,set1,no1,kids1,mn1,mx1⟩,hx,hd⟩:=nth (l:=kids) (i:=i) (by omega)
   refine CD.skip (CD.seq (CD.block (CD.region ?_)))
   refine OD.rE 4 [(1,.loc 0 0),(4,.i64 i),(12,.i64 c),(14,.sl 6 kids.length (X0G kids)),(15,.i64 i)] ?_
   refine OD.idx rfl rfl (by kernel_rfl) (by omega) (by omega) ?_
   refine OD.rE 0 [(1,.loc 0 0),(4,.i64 i),(12,.i64 c),(16,.ep 6 kids.length (X0G kids) ((((i:Nat):Int):Int).toNat*6))] ?_
   refine OD.ldA rfl (by kernel_rfl) (by kernel_rfl) (X4w hx) rfl (by decide) ?_
   refine OD.rE 0 [(1,.loc 0 0),(4,.i64 i),(12,.i64 c),(17,.agg (cN k1 set1 no1 kids1 mn1 mx1))] ?_
   refine OD.cE (ih k1 set1 no1 kids1 mn1 mx1 (X1Q hs hx) (X1x hf hx) (by have:=X92 hx;omega)) ?_
   refine OD.rE 1 [(1,.loc 0 0),(4,.i64 i),(19,.i64 (max (((c:Nat):Int):Int) ((X77 (.mk k1 set1 no1 kids1 mn1 mx1):Nat):Int)))] ?_
   refine OD.is 19 rfl XKO ?_
   refine OD.rE 1 [(1,.loc 0 0),(3,.i64 ((max c (X77 (.mk k1 set1 no1 kids1 mn1 mx1)):Nat):Int)),(4,.i64 i)] ?_
   refine OD.nil (CD.region ?_)
   refine OD.rE 2 [(1,.loc 0 0),(3,.i64 ((max c (X77 (.mk k1 set1 no1 kids1 mn1 mx1)):Nat):Int)),(11,.i64 (X09 .i64 (((i:Nat):Int)+1)))] ?_
   refine OD.is 11 rfl (wrn (m:=i+1) (by omega) (by omega)) ?_
   refine OD.rE 1 [(1,.loc 0 0),(3,.i64 ((max c (X77 (.mk k1 set1 no1 kids1 mn1 mx1)):Nat):Int)),(4,.i64 ((i+1:Nat):Int))] ?_
   refine OD.nil ?_
   exact⟨_,by omega,i+1,max c (X77 (.mk k1 set1 no1 kids1 mn1 mx1)),(by kernel_rfl),by omega,by rw [hr,hd,X45];omega,rfl⟩
  ·
   refine CD.exit ?_
   refine CD.seq (CD.region ?_)
   refine OD.rE 2 [(21,.i64 (X09 .i64 (((c:Nat):Int)+1)))] ?_
   refine OD.is 21 rfl (wrn (m:=c+1) (by omega) (by omega)) ?_
   refine OD.rE 1 [(2,.i64 ((c+1:Nat):Int))] ?_
   refine OD.nil (CD.ret ?_)
   exact rP (.i64 ((c+1:Nat):Int)) (congrArg (D.int .i64) (by rw [List.drop_eq_nil_of_le (by omega),X45]at hr;omega))
theorem in_ok (set:List (Int×Int)) (no:Bool) (ks:List D) (n:Nat) (k mn mx r:Int) (hsz:set.length<4611686018427387904):X1K P ov 100 [.agg [.i64 k,.sl 2 set.length (set.flatMap X0K),.bool no,.sl 6 n ks,.i64 mn,.i64 mx],.int .i32 r] (.bool (X2J set no r)):=by
 refine FnD.intro (by kernel_rfl) (fn:=Tryz.f100) (by kernel_rfl) rfl (by kernel_rfl) fun M a0 g0 hg0=>?_
 refine CD.seq (CD.region ?_)
 refine OD.rL 2 [(1,.int .i32 r),(2,.loc 0 0)] [.box [.i64 k,.sl 2 set.length (set.flatMap X0K),.bool no,.sl 6 n ks,.i64 mn,.i64 mx]] ?_
 refine OD.nil (CD.seq (CD.seq (CD.region ?_)))
 refine OD.rE 4 [(1,.int .i32 r),(2,.loc 0 0),(8,.sl 2 set.length (set.flatMap X0K)),(9,.i64 set.length),(10,.i64 0)] ?_
 refine OD.nil (CD.block ?_)
 refine CD.weak [1,2,8,9,10] 1 (E':=[(1,.int .i32 r),(2,.loc 0 0),(8,.sl 2 set.length (set.flatMap X0K)),(9,.i64 set.length),(10,.i64 0)]) (by kernel_rfl) (by simp [hg0]) (by kernel_rfl) ?_
 refine CD.loop (fun m σ=>∃ (i:Nat),σ=⟨[(1,.int .i32 r),(2,.loc 0 0),(8,.sl 2 set.length (set.flatMap X0K)),(9,.i64 set.length),(10,.i64 i)],[.box [.i64 k,.sl 2 set.length (set.flatMap X0K),.bool no,.sl 6 n ks,.i64 mn,.i64 mx]]⟩∧(i≤set.length)∧(X2J set no r=X2J (set.drop i) no r)∧m=set.length - i) (fun m σ hI=>?_) _ ⟨0,(by kernel_rfl),Nat.zero_le _,rfl,rfl⟩
 obtain⟨i,e,hi,hr,hm⟩:=hI
 subst e hm
 refine CD.seq (CD.region ?_)
 refine OD.rE 1 [(1,.int .i32 r),(2,.loc 0 0),(8,.sl 2 set.length (set.flatMap X0K)),(9,.i64 set.length),(10,.i64 i),(11,.bool (decide ((((i:Nat):Int):Int)<((set.length:Nat):Int))))] ?_
 refine OD.nil (CD.seq ?_)
 refine CD.condP rfl (fun h1=>?_) (fun h1=>?_)
 ·
  obtain⟨x,hx,hd⟩:=nth (l:=set) (i:=i) (by omega)
  refine CD.skip (CD.seq (CD.block (CD.seq (CD.region ?_))))
  refine OD.idx rfl rfl (by kernel_rfl) (by omega) (by omega) ?_
  refine OD.rE 0 [(1,.int .i32 r),(2,.loc 0 0),(8,.sl 2 set.length (set.flatMap X0K)),(9,.i64 set.length),(10,.i64 i),(12,.ep 2 set.length (set.flatMap X0K) ((((i:Nat):Int):Int).toNat*2))] ?_
  refine OD.ldA rfl (by kernel_rfl) (by kernel_rfl) (XGG hx) rfl (by decide) ?_
  refine OD.rL 2 [(1,.int .i32 r),(2,.loc 0 0),(6,.loc 1 0),(8,.sl 2 set.length (set.flatMap X0K)),(9,.i64 set.length),(10,.i64 i)] [.box [.i64 k,.sl 2 set.length (set.flatMap X0K),.bool no,.sl 6 n ks,.i64 mn,.i64 mx],.box [.int .i32 x.1,.int .i32 x.2]] ?_
  refine OD.nil (CD.seq (CD.region ?_))
  refine OD.rE 5 [(1,.int .i32 r),(2,.loc 0 0),(6,.loc 1 0),(8,.sl 2 set.length (set.flatMap X0K)),(9,.i64 set.length),(10,.i64 i),(18,.bool (decide ((x.1:Int)≤r)))] ?_
  refine OD.ifP 18 rfl (fun h2=>?_) (fun h2=>?_)
  ·
   refine OD.rE 5 [(1,.int .i32 r),(2,.loc 0 0),(8,.sl 2 set.length (set.flatMap X0K)),(9,.i64 set.length),(10,.i64 i),(23,.bool (decide ((r:Int)≤x.2)))] ?_
   refine OD.nil ?_
   refine CD.condP rfl (fun h3=>?_) (fun h3=>?_)
   ·
    refine CD.seq (CD.region ?_)
    refine OD.rE 4 [(4,.bool (!no))] ?_
    refine OD.nil (CD.ret ?_)
    exact rP (.bool (!no)) (by rw [hr,hd,X2U];simp only [h1,h2,h3,bs,decide_true,decide_false,if_true,if_false,reduceIte])
   ·
    refine CD.skip (CD.region ?_)
    refine OD.rE 1 [(1,.int .i32 r),(2,.loc 0 0),(8,.sl 2 set.length (set.flatMap X0K)),(9,.i64 set.length),(27,.i64 (X09 .i64 (((i:Nat):Int)+1)))] ?_
    refine OD.is 27 rfl (wrn (m:=i+1) (by omega) (by omega)) ?_
    refine OD.rE 1 [(1,.int .i32 r),(2,.loc 0 0),(8,.sl 2 set.length (set.flatMap X0K)),(9,.i64 set.length),(10,.i64 ((i+1:Nat):Int))] ?_
    refine OD.nilW [1,2,8,9,10] 1 (E':=[(1,.int .i32 r),(2,.loc 0 0),(8,.sl 2 set.length (set.flatMap X0K)),(9,.i64 set.length),(10,.i64 ((i+1:Nat):Int))]) (by kernel_rfl) (by simp [hg0]) (by kernel_rfl) ?_
    exact⟨_,by omega,i+1,(by kernel_rfl),by omega,by rw [hr,hd,X2U];simp only [h1,h2,h3,bs,decide_true,decide_false,if_true,if_false,reduceIte],rfl⟩
  ·
   refine OD.rE 5 [(1,.int .i32 r),(2,.loc 0 0),(8,.sl 2 set.length (set.flatMap X0K)),(9,.i64 set.length),(10,.i64 i),(23,.bool false)] ?_
   refine OD.nil ?_
   refine CD.condF rfl ?_
   refine CD.skip (CD.region ?_)
   refine OD.rE 1 [(1,.int .i32 r),(2,.loc 0 0),(8,.sl 2 set.length (set.flatMap X0K)),(9,.i64 set.length),(27,.i64 (X09 .i64 (((i:Nat):Int)+1)))] ?_
   refine OD.is 27 rfl (wrn (m:=i+1) (by omega) (by omega)) ?_
   refine OD.rE 1 [(1,.int .i32 r),(2,.loc 0 0),(8,.sl 2 set.length (set.flatMap X0K)),(9,.i64 set.length),(10,.i64 ((i+1:Nat):Int))] ?_
   refine OD.nilW [1,2,8,9,10] 1 (E':=[(1,.int .i32 r),(2,.loc 0 0),(8,.sl 2 set.length (set.flatMap X0K)),(9,.i64 set.length),(10,.i64 ((i+1:Nat):Int))]) (by kernel_rfl) (by simp [hg0]) (by kernel_rfl) ?_
   exact⟨_,by omega,i+1,(by kernel_rfl),by omega,by rw [hr,hd,X2U];simp only [h1,h2,bs,decide_true,decide_false,if_true,if_false,reduceIte],rfl⟩
 ·
  refine CD.exit ?_
  refine CD.seq (CD.region ?_)
  refine OD.rE 3 [(4,.bool no)] ?_
  refine OD.nil (CD.ret ?_)
  exact rP (.bool no) (by rw [hr,List.drop_eq_nil_of_le (by omega)];rfl)
theorem XLP (set:List (Int×Int)) (no:Bool) (ks:List D) (n:Nat) (k mn mx r:Int) (hsz:set.length<4611686018427387904):X1K P ov 101 [.agg [.i64 k,.sl 2 set.length (set.flatMap X0K),.bool no,.sl 6 n ks,.i64 mn,.i64 mx],.int .i32 r] (.bool (X2J set no r)):=by
 refine FnD.intro (by kernel_rfl) (fn:=Tryz.f101) (by kernel_rfl) rfl (by kernel_rfl) fun M a0 g0 hg0=>?_
 refine CD.seq (CD.region ?_)
 refine OD.rL 2 [(1,.int .i32 r),(2,.loc 0 0)] [.box [.i64 k,.sl 2 set.length (set.flatMap X0K),.bool no,.sl 6 n ks,.i64 mn,.i64 mx]] ?_
 refine OD.nil (CD.seq (CD.seq (CD.region ?_)))
 refine OD.rE 1 [(1,.int .i32 r),(2,.loc 0 0),(5,.i64 0)] ?_
 refine OD.nil (CD.block ?_)
 refine CD.weak [1,2,5] 1 (E':=[(1,.int .i32 r),(2,.loc 0 0),(5,.i64 0)]) (by kernel_rfl) (by simp [hg0]) (by kernel_rfl) ?_
 refine CD.loop (fun m σ=>∃ (i:Nat),σ=⟨[(1,.int .i32 r),(2,.loc 0 0),(5,.i64 i)],[.box [.i64 k,.sl 2 set.length (set.flatMap X0K),.bool no,.sl 6 n ks,.i64 mn,.i64 mx]]⟩∧(i≤set.length)∧(X2J set no r=X2J (set.drop i) no r)∧m=set.length - i) (fun m σ hI=>?_) _ ⟨0,(by kernel_rfl),Nat.zero_le _,rfl,rfl⟩
 obtain⟨i,e,hi,hr,hm⟩:=hI
 subst e hm
 refine CD.seq (CD.seq (CD.region ?_))
 refine OD.rE 5 [(1,.int .i32 r),(2,.loc 0 0),(5,.i64 i),(10,.bool (decide ((((i:Nat):Int):Int)<((set.length:Nat):Int))))] ?_
 refine OD.nil ?_
 refine CD.condP rfl (fun h1=>?_) (fun h1=>?_)
 ·
  obtain⟨x,hx,hd⟩:=nth (l:=set) (i:=i) (by omega)
  refine CD.skip (CD.seq (CD.block (CD.seq (CD.region ?_))))
  refine OD.rE 4 [(1,.int .i32 r),(2,.loc 0 0),(5,.i64 i),(13,.int .i32 r),(15,.sl 2 set.length (set.flatMap X0K)),(16,.i64 i)] ?_
  refine OD.idx rfl rfl (by kernel_rfl) (by omega) (by omega) ?_
  refine OD.rE 1 [(1,.int .i32 r),(2,.loc 0 0),(5,.i64 i),(13,.int .i32 r),(18,.ep 2 set.length (set.flatMap X0K) ((((i:Nat):Int):Int).toNat*2+0))] ?_
  refine OD.ldL rfl (by kernel_rfl) (XDP hx) ?_
  refine OD.rE 2 [(1,.int .i32 r),(2,.loc 0 0),(5,.i64 i),(21,.bool (decide ((x.1:Int)≤r)))] ?_
  refine OD.ifP 21 rfl (fun h2=>?_) (fun h2=>?_)
  ·
   refine OD.rE 4 [(1,.int .i32 r),(2,.loc 0 0),(5,.i64 i),(21,.bool true),(22,.int .i32 r),(24,.sl 2 set.length (set.flatMap X0K)),(25,.i64 i)] ?_
   refine OD.guard rfl rfl ?_
   refine OD.idx rfl rfl (by kernel_rfl) (by omega) (by omega) ?_
   refine OD.rE 1 [(1,.int .i32 r),(2,.loc 0 0),(5,.i64 i),(21,.bool true),(22,.int .i32 r),(27,.ep 2 set.length (set.flatMap X0K) ((((i:Nat):Int):Int).toNat*2+1))] ?_
   refine OD.guard rfl rfl ?_
   refine OD.ldL rfl (by kernel_rfl) (XDQ hx) ?_
   refine OD.rE 2 [(1,.int .i32 r),(2,.loc 0 0),(5,.i64 i),(30,.bool (decide ((r:Int)≤x.2)))] ?_
   refine OD.nil ?_
   refine CD.condP rfl (fun h3=>?_) (fun h3=>?_)
   ·
    refine CD.seq (CD.region ?_)
    refine OD.rE 4 [(4,.bool (!no))] ?_
    refine OD.nil (CD.ret ?_)
    exact rP (.bool (!no)) (by rw [hr,hd,X2U];simp only [h1,h2,h3,bs,decide_true,decide_false,if_true,if_false,reduceIte])
   ·
    refine CD.skip (CD.region ?_)
    refine OD.rE 2 [(1,.int .i32 r),(2,.loc 0 0),(12,.i64 (X09 .i64 (((i:Nat):Int)+1)))] ?_
    refine OD.is 12 rfl (wrn (m:=i+1) (by omega) (by omega)) ?_
    refine OD.rE 1 [(1,.int .i32 r),(2,.loc 0 0),(5,.i64 ((i+1:Nat):Int))] ?_
    refine OD.nil ?_
    exact⟨_,by omega,i+1,(by kernel_rfl),by omega,by rw [hr,hd,X2U];simp only [h1,h2,h3,bs,decide_true,decide_false,if_true,if_false,reduceIte],rfl⟩
  ·
   refine OD.rE 9 [(1,.int .i32 r),(2,.loc 0 0),(5,.i64 i),(30,.bool false)] ?_
   refine OD.nil ?_
   refine CD.condF rfl ?_
   refine CD.skip (CD.region ?_)
   refine OD.rE 2 [(1,.int .i32 r),(2,.loc 0 0),(12,.i64 (X09 .i64 (((i:Nat):Int)+1)))] ?_
   refine OD.is 12 rfl (wrn (m:=i+1) (by omega) (by omega)) ?_
   refine OD.rE 1 [(1,.int .i32 r),(2,.loc 0 0),(5,.i64 ((i+1:Nat):Int))] ?_
   refine OD.nil ?_
   exact⟨_,by omega,i+1,(by kernel_rfl),by omega,by rw [hr,hd,X2U];simp only [h1,h2,bs,decide_true,decide_false,if_true,if_false,reduceIte],rfl⟩
 ·
  refine CD.exit ?_
  refine CD.seq (CD.region ?_)
  refine OD.rE 3 [(4,.bool no)] ?_
  refine OD.nil (CD.ret ?_)
  exact rP (.bool no) (by rw [hr,List.drop_eq_nil_of_le (by omega)];rfl)
end
end Go.Proofs.YtfcadnhoejlgoaaGreatDoor
set_option maxRecDepth 100000
set_option maxHeartbeats 4000000
namespace Go.Proofs.YtfcadnhoejlgoaaGreatDoor
open Go.Vai Go.Nfa
noncomputable section
theorem XDY:∀ (m:Nat) (k:Int) (set:List (Int×Int)) (no:Bool) (kids:List Nd) (mn mx:Int),size (.mk k set no kids mn mx)≤m→fit (.mk k set no kids mn mx)→(X0H X16 (.mk k set no kids mn mx))→X1K P ov 34 [.agg [.i64 k,.sl 2 set.length (set.flatMap X0K),.bool no,.sl 6 kids.length (X0G kids),.i64 mn,.i64 mx]] (.i64 ((wr K14 1000000 (.mk k set no kids mn mx):Nat):Int)):=by
 intro m
 induction m with
 | zero=>intro k set no kids mn mx hs;exact absurd hs (by have:=X3D (.mk k set no kids mn mx);omega)
 | succ m ih =>
  intro k set no kids mn mx hs hf hl
  have hf1:=hf.1
  have hf2:=hf.2.1
  have hf3:=hf.2.2.1
  have hf4:=hf.2.2.2.1
  refine FnD.intro (by kernel_rfl) (fn:=Tryz.f34) (by kernel_rfl) rfl (by kernel_rfl) fun M a0 g0 hg0=>?_
  refine CD.seq (CD.region ?_)
  refine OD.rL 2 [(1,.loc 0 0)] [.box (cN k set no kids mn mx)] ?_
  refine OD.nil (CD.seq (CD.region ?_))
  refine OD.rE 1 [(1,.loc 0 0),(3,.i64 0)] ?_
  refine OD.nil (CD.seq (CD.seq (CD.region ?_)))
  refine OD.rE 1 [(1,.loc 0 0),(3,.i64 0),(4,.i64 0)] ?_
  refine OD.nil (CD.block ?_)
  refine CD.weak [1,3,4] 1 (E':=[(1,.loc 0 0),(3,.i64 0),(4,.i64 0)]) (by kernel_rfl) (by simp [hg0]) (by kernel_rfl) ?_
  refine CD.loop (fun m σ=>∃ (i:Nat) (w:Nat),σ=⟨[(1,.loc 0 0),(3,.i64 w),(4,.i64 i)],[.box (cN k set no kids mn mx)]⟩∧(i≤kids.length)∧(w≤1000000)∧(wrL K14 1000000 kids 0=wrL K14 1000000 (kids.drop i) w)∧m=kids.length - i) (fun m σ hI=>?_) _ ⟨0,0,(by kernel_rfl),Nat.zero_le _,by omega,rfl,rfl⟩
  obtain⟨i,w,e,hi,hw,hr,hm⟩:=hI
  subst e hm
  refine CD.seq (CD.seq (CD.region ?_))
  refine OD.rE 5 [(1,.loc 0 0),(3,.i64 w),(4,.i64 i),(9,.bool (decide ((((i:Nat):Int):Int)<((kids.length:Nat):Int))))] ?_
  refine OD.nil ?_
  refine CD.condP rfl (fun h1=>?_) (fun h1=>?_)
  ·
   obtain⟨⟨k1,set1,no1,kids1,mn1,mx1⟩,hx,hd⟩:=nth (l:=kids) (i:=i) (by omega)
   have hc:=wr_le K14 1000000 (.mk k1 set1 no1 kids1 mn1 mx1) (by omega)
   refine CD.skip (CD.seq (CD.block (CD.region ?_)))
   refine OD.rE 4 [(1,.loc 0 0),(4,.i64 i),(12,.i64 w),(14,.sl 6 kids.length (X0G kids)),(15,.i64 i)] ?_
   refine OD.idx rfl rfl (by kernel_rfl) (by omega) (by omega) ?_
   refine OD.rE 0 [(1,.loc 0 0),(4,.i64 i),(12,.i64 w),(16,.ep 6 kids.length (X0G kids) ((((i:Nat):Int):Int).toNat*6))] ?_
   refine OD.ldA rfl (by kernel_rfl) (by kernel_rfl) (X4w hx) rfl (by decide) ?_
   refine OD.rE 0 [(1,.loc 0 0),(4,.i64 i),(12,.i64 w),(17,.agg (cN k1 set1 no1 kids1 mn1 mx1))] ?_
   refine OD.cE (ih k1 set1 no1 kids1 mn1 mx1 (X1Q hs hx) (X1x hf hx) (X0D hl hx)) ?_
   refine OD.rE 1 [(1,.loc 0 0),(4,.i64 i),(19,.i64 (X09 .i64 (((w:Nat):Int)+((wr K14 1000000 (.mk k1 set1 no1 kids1 mn1 mx1):Nat):Int))))] ?_
   refine OD.is 19 rfl (wrn (m:=w+(wr K14 1000000 (.mk k1 set1 no1 kids1 mn1 mx1))) (by omega) (by omega)) ?_
   refine OD.rE 1 [(1,.loc 0 0),(4,.i64 i),(20,.i64 (min (((w+(wr K14 1000000 (.mk k1 set1 no1 kids1 mn1 mx1)):Nat):Int):Int) 1000000))] ?_
   refine OD.is 20 rfl X6Z ?_
   refine OD.rE 1 [(1,.loc 0 0),(3,.i64 ((min (w+(wr K14 1000000 (.mk k1 set1 no1 kids1 mn1 mx1))) 1000000:Nat):Int)),(4,.i64 i)] ?_
   refine OD.nil (CD.region ?_)
   refine OD.rE 2 [(1,.loc 0 0),(3,.i64 ((min (w+(wr K14 1000000 (.mk k1 set1 no1 kids1 mn1 mx1))) 1000000:Nat):Int)),(11,.i64 (X09 .i64 (((i:Nat):Int)+1)))] ?_
   refine OD.is 11 rfl (wrn (m:=i+1) (by omega) (by omega)) ?_
   refine OD.rE 1 [(1,.loc 0 0),(3,.i64 ((min (w+(wr K14 1000000 (.mk k1 set1 no1 kids1 mn1 mx1))) 1000000:Nat):Int)),(4,.i64 ((i+1:Nat):Int))] ?_
   refine OD.nil ?_
   exact⟨_,by omega,i+1,min (w+wr K14 1000000 (.mk k1 set1 no1 kids1 mn1 mx1)) 1000000,(by kernel_rfl),by omega,by omega,by rw [hr,hd,wrL],rfl⟩
  ·
   refine CD.exit ?_
   refine CD.seq (CD.seq (CD.region ?_))
   refine OD.rE 2 [(1,.loc 0 0),(3,.i64 w),(22,.i64 k)] ?_
   refine OD.nil (CD.block (CD.seq (CD.region ?_)))
   refine OD.rE 2 [(1,.loc 0 0),(3,.i64 w),(22,.i64 k),(23,.bool (decide ((k:Int)=3)))] ?_
   refine OD.nil ?_
   refine CD.condP rfl (fun h2=>?_) (fun h2=>?_)
   ·
    refine CD.seq (CD.region ?_)
    refine OD.rE 2 [(2,.i64 w)] ?_
    refine OD.nil (CD.ret ?_)
    rw [List.drop_eq_nil_of_le (by omega),X6C]at hr
    exact rP (.i64 w) (XLJ h2 hr)
   ·
    refine CD.seq (CD.region ?_)
    refine OD.rE 2 [(1,.loc 0 0),(3,.i64 w),(22,.i64 k),(26,.bool (decide ((k:Int)=4)))] ?_
    refine OD.nil ?_
    refine CD.condP rfl (fun h3=>?_) (fun h3=>?_)
    ·
     refine CD.seq (CD.region ?_)
     refine OD.rE 2 [(29,.i64 (X09 .i64 (((w:Nat):Int)+1)))] ?_
     refine OD.is 29 rfl (wrn (m:=w+1) (by omega) (by omega)) ?_
     refine OD.rE 1 [(2,.i64 ((w+1:Nat):Int))] ?_
     refine OD.nil (CD.ret ?_)
     rw [List.drop_eq_nil_of_le (by omega),X6C]at hr
     exact rP (.i64 ((w+1:Nat):Int)) (XLK h3 hr)
    ·
     refine CD.seq (CD.region ?_)
     refine OD.rE 2 [(1,.loc 0 0),(3,.i64 w),(30,.bool (decide ((k:Int)=5)))] ?_
     refine OD.nil ?_
     refine CD.condP rfl (fun h4=>?_) (fun h4=>?_)
     ·
      have hk:0≤mn∧mn≤9∧mx≤9∧(mx = -1∨mn≤mx):=by subst h4;exact X4y hl
      refine CD.seq (CD.seq (CD.region ?_))
      refine OD.rE 3 [(1,.loc 0 0),(3,.i64 w),(34,.bool (decide ((mx:Int)<0)))] ?_
      refine OD.nil ?_
      refine CD.condP rfl (fun h5=>?_) (fun h5=>?_)
      ·
       refine CD.seq (CD.region ?_)
       refine OD.rE 4 [(35,.i64 w),(38,.i64 (X09 .i64 (mn+1)))] ?_
       refine OD.is 38 rfl (X5e (by omega) (by omega)) ?_
       refine OD.rE 1 [(39,.i64 (X09 .i64 (((w:Nat):Int)*(mn+1))))] ?_
       have hmul:=XBO (a:=(w:Int)) (b:=((mn+1))) (A:=1000000) (B:=10) (by omega) (by omega) (by omega) (by omega)
       refine OD.is 39 rfl (X5e (by omega) (by omega)) ?_
       refine OD.rE 1 [(40,.i64 (X09 .i64 ((((w:Nat):Int)*(mn+1))+1)))] ?_
       refine OD.is 40 rfl (X5e (by omega) (by omega)) ?_
       refine OD.rE 2 [(2,.i64 (min ((((w:Nat):Int)*(mn+1))+1:Int) 1000000))] ?_
       refine OD.nil (CD.ret ?_)
       rw [List.drop_eq_nil_of_le (by omega),X6C]at hr
       exact rP (.i64 (min ((((w:Nat):Int)*(mn+1))+1:Int) 1000000)) (XHw h4 hr (by rw [if_pos h5]) (by omega) rfl)
      ·
       refine CD.skip (CD.seq (CD.region ?_))
       refine OD.rE 4 [(45,.i64 (X09 .i64 (((w:Nat):Int)*mx)))] ?_
       have hmul:=XBO (a:=(w:Int)) (b:=(mx)) (A:=1000000) (B:=10) (by omega) (by omega) (by omega) (by omega)
       refine OD.is 45 rfl (X5e (by omega) (by omega)) ?_
       refine OD.rE 1 [(46,.i64 (X09 .i64 ((((w:Nat):Int)*mx)+1)))] ?_
       refine OD.is 46 rfl (X5e (by omega) (by omega)) ?_
       refine OD.rE 2 [(2,.i64 (min ((((w:Nat):Int)*mx)+1:Int) 1000000))] ?_
       refine OD.nil (CD.ret ?_)
       rw [List.drop_eq_nil_of_le (by omega),X6C]at hr
       exact rP (.i64 (min ((((w:Nat):Int)*mx)+1:Int) 1000000)) (XHw h4 hr (by rw [if_neg h5]) (by omega) rfl)
     ·
      refine CD.skip (CD.seq (CD.region ?_))
      refine OD.rE 1 [(2,.i64 1)] ?_
      refine OD.nil (CD.ret ?_)
      rw [List.drop_eq_nil_of_le (by omega),X6C]at hr
      exact rP (.i64 1) (XLL h2 h3 h4)
end
end Go.Proofs.YtfcadnhoejlgoaaGreatDoor
