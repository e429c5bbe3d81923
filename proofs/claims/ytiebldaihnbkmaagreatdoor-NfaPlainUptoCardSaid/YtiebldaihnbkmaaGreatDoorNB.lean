/-
  What is proved here: what functions of the pattern's package come to (walks that a program of mine has printed). what functions of the pattern's package come to (walks that a program of mine has printed). what functions of the pattern's package come to (walks that a program of mine has printed). No conditions but those that the theorems state.
-/
import Derived.Test.YtiebldaihnbkmaaGreatDoorNA
import Derived.Test.YtiebldaihnbkmaaGreatDoorProg
import Derived.KernelRfl
import Derived.Lib.ValidU
import Derived.Test.YtiebldaihnbkmaaGreatDoorRI
set_option linter.unusedVariables false
set_option linter.unusedSimpArgs false
set_option maxRecDepth 100000
set_option maxHeartbeats 4000000
namespace Go.Proofs.YtiebldaihnbkmaaGreatDoor
open Go.Vai Go.Nfa
noncomputable section
noncomputable abbrev P:=Tryz.prog
def XIF:List Value→X0A→Option (Value×X0A):=fun args h=>match args with
 | [.string s]=>match decide (s.size≤9223372036854775807)with
  | true=>some (.bool (Lib.validD s.data.toList),h)
  | false=>none
 | _=>none
def ov:Ov:=fun f=>match Nat.beq f 54 with
 | true=>some XIF
 | false=>ovs [16] f
theorem X4r (r:Int):X1Q P ov 125 [.int .i32 r] (.bool (X25 r)):=by
 refine FnD.intro (by kernel_rfl) (fn:=Tryz.f125) (by kernel_rfl) rfl (by kernel_rfl) fun M a0 g0 hg0=>?_
 refine CD.seq (CD.region ?_)
 refine OD.rE 1 [(0,.int .i32 r)] ?_
 refine OD.nil (CD.seq (CD.block (CD.seq (CD.region ?_))))
 refine OD.rE 3 [(0,.int .i32 r),(6,.bool (decide ((0:Int)≤r)))] ?_
 refine OD.ifP 6 rfl (fun h1=>?_) (fun h1=>?_)
 ·
  refine OD.rE 4 [(0,.int .i32 r),(3,.bool (decide ((r:Int)<55296)))] ?_
  refine OD.nil ?_
  refine CD.condP rfl (fun h2=>?_) (fun h2=>?_)
  ·
   refine CD.seq (CD.region ?_)
   refine OD.rE 1 [(2,.bool true)] ?_
   refine OD.nil (CD.ret ?_)
   exact rP (.bool true) (by first | (exfalso;omega) | (simp only [h1,h2,X25,bs,decide_true,decide_false,if_true,if_false,reduceIte]<;>rfl))
  ·
   refine CD.seq (CD.region ?_)
   refine OD.rE 3 [(0,.int .i32 r),(13,.bool (decide ((57343:Int)<r)))] ?_
   refine OD.ifP 13 rfl (fun h3=>?_) (fun h3=>?_)
   ·
    refine OD.rE 4 [(10,.bool (decide ((r:Int)≤1114111)))] ?_
    refine OD.nil ?_
    refine CD.condP rfl (fun h4=>?_) (fun h4=>?_)
    ·
     refine CD.seq (CD.region ?_)
     refine OD.rE 1 [(2,.bool true)] ?_
     refine OD.nil (CD.ret ?_)
     exact rP (.bool true) (by first | (exfalso;omega) | (simp only [h1,h2,h3,h4,X25,bs,decide_true,decide_false,if_true,if_false,reduceIte]<;>rfl))
    ·
     refine CD.skip (CD.seq (CD.region ?_))
     refine OD.rE 1 [(2,.bool false)] ?_
     refine OD.nil (CD.ret ?_)
     exact rP (.bool false) (by first | (exfalso;omega) | (simp only [h1,h2,h3,h4,X25,bs,decide_true,decide_false,if_true,if_false,reduceIte]<;>rfl))
   ·
    refine OD.rE 4 [(10,.bool false)] ?_
    refine OD.nil ?_
    refine CD.condF rfl ?_
    refine CD.skip (CD.seq (CD.region ?_))
    refine OD.rE 1 [(2,.bool false)] ?_
    refine OD.nil (CD.ret ?_)
    exact rP (.bool false) (by first | (exfalso;omega) | (simp only [h1,h2,h3,X25,bs,decide_true,decide_false,if_true,if_false,reduceIte]<;>rfl))
 ·
  refine OD.rE 4 [(0,.int .i32 r),(3,.bool false)] ?_
  refine OD.nil ?_
  refine CD.condF rfl ?_
  refine CD.seq (CD.region ?_)
  refine OD.rE 3 [(0,.int .i32 r),(13,.bool (decide ((57343:Int)<r)))] ?_
  refine OD.ifP 13 rfl (fun h5=>?_) (fun h5=>?_)
  ·
   refine OD.rE 4 [(10,.bool (decide ((r:Int)≤1114111)))] ?_
   refine OD.nil ?_
   refine CD.condP rfl (fun h6=>?_) (fun h6=>?_)
   ·
    refine CD.seq (CD.region ?_)
    refine OD.rE 1 [(2,.bool true)] ?_
    refine OD.nil (CD.ret ?_)
    exact rP (.bool true) (by first | (exfalso;omega) | (simp only [h1,h5,h6,X25,bs,decide_true,decide_false,if_true,if_false,reduceIte]<;>rfl))
   ·
    refine CD.skip (CD.seq (CD.region ?_))
    refine OD.rE 1 [(2,.bool false)] ?_
    refine OD.nil (CD.ret ?_)
    exact rP (.bool false) (by first | (exfalso;omega) | (simp only [h1,h5,h6,X25,bs,decide_true,decide_false,if_true,if_false,reduceIte]<;>rfl))
  ·
   refine OD.rE 4 [(10,.bool false)] ?_
   refine OD.nil ?_
   refine CD.condF rfl ?_
   refine CD.skip (CD.seq (CD.region ?_))
   refine OD.rE 1 [(2,.bool false)] ?_
   refine OD.nil (CD.ret ?_)
   exact rP (.bool false) (by first | (exfalso;omega) | (simp only [h1,h5,X25,bs,decide_true,decide_false,if_true,if_false,reduceIte]<;>rfl))
theorem XBq (r:Int):X1Q P ov 118 [.int .i32 r] (.bool (X1l r)):=by
 refine FnD.intro (by kernel_rfl) (fn:=Tryz.f118) (by kernel_rfl) rfl (by kernel_rfl) fun M a0 g0 hg0=>?_
 refine CD.seq (CD.region ?_)
 refine OD.rE 1 [(0,.int .i32 r)] ?_
 refine OD.nil (CD.seq (CD.region ?_))
 refine OD.rE 1 [(0,.int .i32 r),(3,.int .i32 r)] ?_
 refine OD.cE (X4r r) ?_
 refine OD.rE 1 [(0,.int .i32 r),(5,.bool (X25 r))] ?_
 refine OD.ifB 5 rfl (fun h1=>?_) (fun h1=>?_)
 ·
  refine OD.rE 4 [(2,.bool (decide (¬ (r:Int)=65533)))] ?_
  refine OD.nil (CD.ret ?_)
  exact rP (.bool (decide (¬ (r:Int)=65533))) (by first | (exfalso;omega) | (simp only [h1,X1l,bs,decide_true,decide_false,if_true,if_false,reduceIte]<;>rfl))
 ·
  refine OD.rE 4 [(2,.bool false)] ?_
  refine OD.nil (CD.ret ?_)
  exact rP (.bool false) (by first | (exfalso;omega) | (simp only [h1,X1l,bs,decide_true,decide_false,if_true,if_false,reduceIte]<;>rfl))
theorem XBr (r:Int×Int):X1Q P ov 110 [.agg [.int .i32 r.1,.int .i32 r.2]] (.bool (X0o r)):=by
 refine FnD.intro (by kernel_rfl) (fn:=Tryz.f110) (by kernel_rfl) rfl (by kernel_rfl) fun M a0 g0 hg0=>?_
 refine CD.seq (CD.region ?_)
 refine OD.rL 2 [(1,.loc 0 0)] [.box [.int .i32 r.1,.int .i32 r.2]] ?_
 refine OD.nil (CD.seq (CD.region ?_))
 refine OD.rE 2 [(1,.loc 0 0),(4,.int .i32 r.1)] ?_
 refine OD.cE (XBq r.1) ?_
 refine OD.rE 1 [(1,.loc 0 0),(6,.bool (X1l r.1))] ?_
 refine OD.ifB 6 rfl (fun h1=>?_) (fun h1=>?_)
 ·
  refine OD.rE 2 [(1,.loc 0 0),(6,.bool true),(8,.int .i32 r.2)] ?_
  refine OD.guard rfl rfl ?_
  refine OD.cE (XBq r.2) ?_
  refine OD.rE 2 [(1,.loc 0 0),(11,.bool (X1l r.2))] ?_
  refine OD.ifB 11 rfl (fun h2=>?_) (fun h2=>?_)
  ·
   refine OD.rE 7 [(2,.bool (decide ((r.1:Int)≤r.2)))] ?_
   refine OD.nil (CD.ret ?_)
   exact rP (.bool (decide ((r.1:Int)≤r.2))) (by first | (exfalso;omega) | (simp only [h1,h2,X0o,bs,decide_true,decide_false,if_true,if_false,reduceIte]<;>rfl))
  ·
   refine OD.rE 7 [(2,.bool false)] ?_
   refine OD.nil (CD.ret ?_)
   exact rP (.bool false) (by first | (exfalso;omega) | (simp only [h1,h2,X0o,bs,decide_true,decide_false,if_true,if_false,reduceIte]<;>rfl))
 ·
  refine OD.rE 12 [(2,.bool false)] ?_
  refine OD.nil (CD.ret ?_)
  exact rP (.bool false) (by first | (exfalso;omega) | (simp only [h1,X0o,bs,decide_true,decide_false,if_true,if_false,reduceIte]<;>rfl))
theorem XG7 (r:Int×Int):X1Q P ov 109 [.agg [.int .i32 r.1,.int .i32 r.2]] (.bool (!X0o r)):=by
 refine FnD.intro (by kernel_rfl) (fn:=Tryz.f109) (by kernel_rfl) rfl (by kernel_rfl) fun M a0 g0 hg0=>?_
 refine CD.seq (CD.region ?_)
 refine OD.rL 2 [(1,.loc 0 0)] [.box [.int .i32 r.1,.int .i32 r.2]] ?_
 refine OD.nil (CD.seq (CD.region ?_))
 refine OD.rE 1 [(3,.agg [.int .i32 r.1,.int .i32 r.2])] ?_
 refine OD.cE (XBr (r.1,r.2)) ?_
 refine OD.rE 2 [(2,.bool (!(X0o (r.1,r.2))))] ?_
 refine OD.nil (CD.ret ?_)
 exact rP (.bool (!(X0o (r.1,r.2)))) (by first | (exfalso;omega) | (simp only [bs,decide_true,decide_false,if_true,if_false,reduceIte]<;>rfl))
theorem XG8 (k:Int) (set:List (Int×Int)) (no:Bool) (kids:List Nd) (mn mx:Int):X1Q P ov 93 [.agg [.i64 k,.sl 2 set.length (set.flatMap X0s),.bool no,.sl 6 kids.length (X0R kids),.i64 mn,.i64 mx]] (.bool (X2Q (.mk k set no kids mn mx))):=by
 refine FnD.intro (by kernel_rfl) (fn:=Tryz.f93) (by kernel_rfl) rfl (by kernel_rfl) fun M a0 g0 hg0=>?_
 refine CD.seq (CD.region ?_)
 refine OD.rL 2 [(1,.loc 0 0)] [.box (cN k set no kids mn mx)] ?_
 refine OD.nil (CD.seq (CD.region ?_))
 refine OD.rE 4 [(1,.loc 0 0),(8,.bool (decide ((k:Int)=2)))] ?_
 refine OD.ifP 8 rfl (fun h1=>?_) (fun h1=>?_)
 ·
  refine OD.rE 11 [(1,.loc 0 0),(3,.bool true)] ?_
  refine OD.nil (CD.seq (CD.region ?_))
  refine OD.rE 4 [(1,.loc 0 0),(3,.bool true),(22,.bool (decide ((k:Int)=5)))] ?_
  refine OD.ifP 22 rfl (fun h2=>?_) (fun h2=>?_)
  ·
   refine OD.rE 10 [(3,.bool true),(4,.bool true)] ?_
   refine OD.nil (CD.seq (CD.region ?_))
   refine OD.rE 5 [(2,.bool true)] ?_
   refine OD.nil (CD.ret ?_)
   exact rP (.bool true) (by first | (exfalso;omega) | (simp only [h1,h2,X2Q,bs,decide_true,decide_false,if_true,if_false,reduceIte]<;>rfl))
  ·
   refine OD.rE 4 [(1,.loc 0 0),(3,.bool true),(22,.bool false),(26,.bool (decide ((mn:Int)=0)))] ?_
   refine OD.ifP 26 rfl (fun h3=>?_) (fun h3=>?_)
   ·
    refine OD.rE 6 [(3,.bool true),(4,.bool (decide ((mx:Int)=0)))] ?_
    refine OD.nil (CD.seq (CD.region ?_))
    refine OD.rE 5 [(2,.bool (decide ((mx:Int)=0)))] ?_
    refine OD.nil (CD.ret ?_)
    exact rP (.bool (decide ((mx:Int)=0))) (by first | (exfalso;omega) | (simp only [h1,h2,h3,X2Q,bs,decide_true,decide_false,if_true,if_false,reduceIte]<;>rfl))
   ·
    refine OD.rE 6 [(3,.bool true),(4,.bool false)] ?_
    refine OD.nil (CD.seq (CD.region ?_))
    refine OD.rE 5 [(2,.bool false)] ?_
    refine OD.nil (CD.ret ?_)
    exact rP (.bool false) (by first | (exfalso;omega) | (simp only [h1,h2,h3,X2Q,bs,decide_true,decide_false,if_true,if_false,reduceIte]<;>rfl))
 ·
  refine OD.rE 5 [(1,.loc 0 0),(8,.bool false),(13,.bool (decide ((((set.length:Nat):Int):Int)=0)))] ?_
  refine OD.ifP 13 rfl (fun h4=>?_) (fun h4=>?_)
  ·
   refine OD.rE 6 [(1,.loc 0 0),(3,.bool (!no))] ?_
   refine OD.nil (CD.seq (CD.region ?_))
   refine OD.rE 4 [(1,.loc 0 0),(3,.bool (!no)),(22,.bool (decide ((k:Int)=5)))] ?_
   refine OD.ifP 22 rfl (fun h5=>?_) (fun h5=>?_)
   ·
    refine OD.rE 10 [(3,.bool (!no)),(4,.bool true)] ?_
    refine OD.nil (CD.seq (CD.region ?_))
    refine OD.rE 2 [(4,.bool true),(33,.bool (!no))] ?_
    refine OD.ifB 33 rfl (fun h6=>?_) (fun h6=>?_)
    ·
     have h6:=XD2 h6
     refine OD.rE 3 [(2,.bool true)] ?_
     refine OD.nil (CD.ret ?_)
     exact rP (.bool true) (by first | (exfalso;omega) | (simp only [h1,h4,h5,h6,X2Q,bs,decide_true,decide_false,if_true,if_false,reduceIte]<;>rfl))
    ·
     have h6:=XD3 h6
     refine OD.rE 3 [(2,.bool false)] ?_
     refine OD.nil (CD.ret ?_)
     exact rP (.bool false) (by first | (exfalso;omega) | (simp only [h1,h4,h5,h6,X2Q,bs,decide_true,decide_false,if_true,if_false,reduceIte]<;>rfl))
   ·
    refine OD.rE 4 [(1,.loc 0 0),(3,.bool (!no)),(22,.bool false),(26,.bool (decide ((mn:Int)=0)))] ?_
    refine OD.ifP 26 rfl (fun h7=>?_) (fun h7=>?_)
    ·
     refine OD.rE 6 [(3,.bool (!no)),(4,.bool (decide ((mx:Int)=0)))] ?_
     refine OD.nil (CD.seq (CD.region ?_))
     refine OD.rE 2 [(4,.bool (decide ((mx:Int)=0))),(33,.bool (!no))] ?_
     refine OD.ifB 33 rfl (fun h8=>?_) (fun h8=>?_)
     ·
      have h8:=XD2 h8
      refine OD.rE 3 [(2,.bool (decide ((mx:Int)=0)))] ?_
      refine OD.nil (CD.ret ?_)
      exact rP (.bool (decide ((mx:Int)=0))) (by first | (exfalso;omega) | (simp only [h1,h4,h5,h7,h8,X2Q,bs,decide_true,decide_false,if_true,if_false,reduceIte]<;>rfl))
     ·
      have h8:=XD3 h8
      refine OD.rE 3 [(2,.bool false)] ?_
      refine OD.nil (CD.ret ?_)
      exact rP (.bool false) (by first | (exfalso;omega) | (simp only [h1,h4,h5,h7,h8,X2Q,bs,decide_true,decide_false,if_true,if_false,reduceIte]<;>rfl))
    ·
     refine OD.rE 6 [(3,.bool (!no)),(4,.bool false)] ?_
     refine OD.nil (CD.seq (CD.region ?_))
     refine OD.rE 2 [(4,.bool false),(33,.bool (!no))] ?_
     refine OD.ifB 33 rfl (fun h9=>?_) (fun h9=>?_)
     ·
      have h9:=XD2 h9
      refine OD.rE 3 [(2,.bool false)] ?_
      refine OD.nil (CD.ret ?_)
      exact rP (.bool false) (by first | (exfalso;omega) | (simp only [h1,h4,h5,h7,h9,X2Q,bs,decide_true,decide_false,if_true,if_false,reduceIte]<;>rfl))
     ·
      have h9:=XD3 h9
      refine OD.rE 3 [(2,.bool false)] ?_
      refine OD.nil (CD.ret ?_)
      exact rP (.bool false) (by first | (exfalso;omega) | (simp only [h1,h4,h5,h7,h9,X2Q,bs,decide_true,decide_false,if_true,if_false,reduceIte]<;>rfl))
  ·
   refine OD.rE 6 [(1,.loc 0 0),(3,.bool false)] ?_
   refine OD.nil (CD.seq (CD.region ?_))
   refine OD.rE 4 [(1,.loc 0 0),(3,.bool false),(22,.bool (decide ((k:Int)=5)))] ?_
   refine OD.ifP 22 rfl (fun h10=>?_) (fun h10=>?_)
   ·
    refine OD.rE 10 [(3,.bool false),(4,.bool true)] ?_
    refine OD.nil (CD.seq (CD.region ?_))
    refine OD.rE 5 [(2,.bool false)] ?_
    refine OD.nil (CD.ret ?_)
    exact rP (.bool false) (by first | (exfalso;omega) | (simp only [h1,h4,h10,X2Q,bs,decide_true,decide_false,if_true,if_false,reduceIte]<;>rfl))
   ·
    refine OD.rE 4 [(1,.loc 0 0),(3,.bool false),(22,.bool false),(26,.bool (decide ((mn:Int)=0)))] ?_
    refine OD.ifP 26 rfl (fun h11=>?_) (fun h11=>?_)
    ·
     refine OD.rE 6 [(3,.bool false),(4,.bool (decide ((mx:Int)=0)))] ?_
     refine OD.nil (CD.seq (CD.region ?_))
     refine OD.rE 5 [(2,.bool false)] ?_
     refine OD.nil (CD.ret ?_)
     exact rP (.bool false) (by first | (exfalso;omega) | (simp only [h1,h4,h10,h11,X2Q,bs,decide_true,decide_false,if_true,if_false,reduceIte]<;>rfl))
    ·
     refine OD.rE 6 [(3,.bool false),(4,.bool false)] ?_
     refine OD.nil (CD.seq (CD.region ?_))
     refine OD.rE 5 [(2,.bool false)] ?_
     refine OD.nil (CD.ret ?_)
     exact rP (.bool false) (by first | (exfalso;omega) | (simp only [h1,h4,h10,h11,X2Q,bs,decide_true,decide_false,if_true,if_false,reduceIte]<;>rfl))
theorem XG9 (set:List (Int×Int)) (hsz:set.length<4611686018427387904):X1Q P ov 117 [.sl 2 set.length (set.flatMap X0s),.fn 109] (.i64 (XBg set 0)):=by
 refine FnD.intro (by kernel_rfl) (fn:=Tryz.f117) (by kernel_rfl) rfl (by kernel_rfl) fun M a0 g0 hg0=>?_
 refine CD.seq (CD.region ?_)
 refine OD.rE 1 [(0,.sl 2 set.length (set.flatMap X0s)),(1,.fn 109)] ?_
 refine OD.nil (CD.seq (CD.seq (CD.region ?_)))
 refine OD.rE 3 [(0,.sl 2 set.length (set.flatMap X0s)),(1,.fn 109),(7,.i64 set.length),(8,.i64 0)] ?_
 refine OD.nil (CD.block ?_)
 refine CD.weak [0,1,7,8] 0 (E':=[(0,.sl 2 set.length (set.flatMap X0s)),(1,.fn 109),(7,.i64 set.length),(8,.i64 0)]) (by kernel_rfl) (by simp [hg0]) (by kernel_rfl) ?_
 refine CD.loop (fun m σ=>∃ (i:Nat),σ=⟨[(0,.sl 2 set.length (set.flatMap X0s)),(1,.fn 109),(7,.i64 set.length),(8,.i64 i)],[]⟩∧(i≤set.length)∧(XBg set 0=XBg (set.drop i) i)∧m=set.length - i) (fun m σ hI=>?_) _ ⟨0,(by kernel_rfl),Nat.zero_le _,rfl,rfl⟩
 obtain⟨i,e,hi,hr,hm⟩:=hI
 subst e hm
 refine CD.seq (CD.region ?_)
 refine OD.rE 1 [(0,.sl 2 set.length (set.flatMap X0s)),(1,.fn 109),(7,.i64 set.length),(8,.i64 i),(9,.bool (decide ((((i:Nat):Int):Int)<((set.length:Nat):Int))))] ?_
 refine OD.nil (CD.seq ?_)
 refine CD.condP rfl (fun h1=>?_) (fun h1=>?_)
 ·
  obtain⟨x,hx,hd⟩:=nth (l:=set) (i:=i) (by omega)
  refine CD.skip (CD.seq (CD.block (CD.seq (CD.region ?_))))
  refine OD.rE 2 [(0,.sl 2 set.length (set.flatMap X0s)),(1,.fn 109),(5,.i64 i),(7,.i64 set.length),(8,.i64 i)] ?_
  refine OD.nil (CD.seq (CD.region ?_))
  refine OD.rE 3 [(0,.sl 2 set.length (set.flatMap X0s)),(1,.fn 109),(5,.i64 i),(7,.i64 set.length),(8,.i64 i),(11,.fn 109),(12,.sl 2 set.length (set.flatMap X0s)),(13,.i64 i)] ?_
  refine OD.idx rfl rfl (by kernel_rfl) (by omega) (by omega) ?_
  refine OD.rE 0 [(0,.sl 2 set.length (set.flatMap X0s)),(1,.fn 109),(5,.i64 i),(7,.i64 set.length),(8,.i64 i),(11,.fn 109),(14,.ep 2 set.length (set.flatMap X0s) ((((i:Nat):Int):Int).toNat*2))] ?_
  refine OD.ldA rfl (by kernel_rfl) (by kernel_rfl) (XIB hx) rfl (by decide) ?_
  refine OD.rE 0 [(0,.sl 2 set.length (set.flatMap X0s)),(1,.fn 109),(5,.i64 i),(7,.i64 set.length),(8,.i64 i),(11,.fn 109),(15,.agg [.int .i32 x.1,.int .i32 x.2])] ?_
  refine OD.cE (XG7 x) ?_
  refine OD.rE 0 [(0,.sl 2 set.length (set.flatMap X0s)),(1,.fn 109),(5,.i64 i),(7,.i64 set.length),(8,.i64 i),(16,.bool (!(X0o x)))] ?_
  refine OD.nil ?_
  refine CD.condB rfl (fun h2=>?_) (fun h2=>?_)
  ·
   have h2:=XD2 h2
   refine CD.seq (CD.region ?_)
   refine OD.rE 2 [(4,.i64 i)] ?_
   refine OD.nil (CD.ret ?_)
   exact rP (.i64 i) (by rw [hr,hd,XBg,if_neg (by simpa using h2)])
  ·
   have h2:=XD3 h2
   refine CD.skip (CD.region ?_)
   refine OD.rE 1 [(0,.sl 2 set.length (set.flatMap X0s)),(1,.fn 109),(7,.i64 set.length),(18,.i64 (X05 .i64 (((i:Nat):Int)+1)))] ?_
   refine OD.is 18 rfl (wrn (m:=i+1) (by omega) (by omega)) ?_
   refine OD.rE 1 [(0,.sl 2 set.length (set.flatMap X0s)),(1,.fn 109),(7,.i64 set.length),(8,.i64 ((i+1:Nat):Int))] ?_
   refine OD.nil ?_
   exact⟨_,by omega,i+1,(by kernel_rfl),by omega,by rw [hr,hd,XBg,if_pos (by simpa using h2)],rfl⟩
 ·
  refine CD.exit ?_
  refine CD.seq (CD.region ?_)
  refine OD.rE 1 [(4,.i64 (-1))] ?_
  refine OD.nil (CD.ret ?_)
  exact rP (.i64 (-1)) (by rw [hr,List.drop_eq_nil_of_le (by omega)];rfl)
theorem XA6 (set:List (Int×Int)) (hsz:set.length<4611686018427387904):X1Q P ov 108 [.sl 2 set.length (set.flatMap X0s),.fn 109] (.bool (!set.all X0o)):=by
 refine FnD.intro (by kernel_rfl) (fn:=Tryz.f108) (by kernel_rfl) rfl (by kernel_rfl) fun M a0 g0 hg0=>?_
 refine CD.seq (CD.region ?_)
 refine OD.rE 1 [(0,.sl 2 set.length (set.flatMap X0s)),(1,.fn 109)] ?_
 refine OD.nil (CD.seq (CD.region ?_))
 refine OD.rE 2 [(5,.sl 2 set.length (set.flatMap X0s)),(6,.fn 109)] ?_
 refine OD.cE (XG9 set hsz) ?_
 refine OD.rE 2 [(4,.bool (decide ((0:Int)≤(XBg set 0))))] ?_
 refine OD.nil (CD.ret ?_)
 exact rP (.bool (decide ((0:Int)≤(XBg set 0)))) (by rw [XDz])
theorem XIG (k:Int) (set:List (Int×Int)) (no:Bool) (kids:List Nd) (mn mx:Int) (hsz:set.length<4611686018427387904):X1Q P ov 94 [.agg [.i64 k,.sl 2 set.length (set.flatMap X0s),.bool no,.sl 6 kids.length (X0R kids),.i64 mn,.i64 mx]] (.bool (X3o (.mk k set no kids mn mx))):=by
 refine FnD.intro (by kernel_rfl) (fn:=Tryz.f94) (by kernel_rfl) rfl (by kernel_rfl) fun M a0 g0 hg0=>?_
 refine CD.seq (CD.region ?_)
 refine OD.rL 2 [(1,.loc 0 0)] [.box (cN k set no kids mn mx)] ?_
 refine OD.nil (CD.seq (CD.region ?_))
 refine OD.rE 4 [(1,.loc 0 0),(3,.i64 kids.length)] ?_
 refine OD.nil (CD.seq (CD.seq (CD.region ?_)))
 refine OD.rE 2 [(1,.loc 0 0),(3,.i64 kids.length),(8,.i64 k)] ?_
 refine OD.nil (CD.block (CD.seq (CD.region ?_)))
 refine OD.rE 2 [(1,.loc 0 0),(3,.i64 kids.length),(8,.i64 k),(9,.bool (decide ((k:Int)=2)))] ?_
 refine OD.nil ?_
 refine CD.condP rfl (fun h1=>?_) (fun h1=>?_)
 ·
  refine CD.seq (CD.region ?_)
  refine OD.rE 3 [(1,.loc 0 0),(13,.bool (decide ((((kids.length:Nat):Int):Int)=0)))] ?_
  refine OD.ifP 13 rfl (fun h2=>?_) (fun h2=>?_)
  ·
   refine OD.rE 5 [(1,.loc 0 0),(13,.bool true),(18,.bool (decide ((0:Int)<((set.length:Nat):Int))))] ?_
   refine OD.ifP 18 rfl (fun h3=>?_) (fun h3=>?_)
   ·
    refine OD.rE 7 [(23,.bool true),(25,.sl 2 set.length (set.flatMap X0s))] ?_
    refine OD.guard rfl rfl ?_
    refine OD.cE (XA6 set hsz) ?_
    refine OD.rE 3 [(2,.bool (!(!set.all X0o)))] ?_
    refine OD.nil (CD.ret ?_)
    exact rP (.bool (!(!set.all X0o))) (by first | (exfalso;omega) | (simp only [h1,h2,h3,X3o,Bool.not_not,bs,decide_true,decide_false,if_true,if_false,reduceIte]<;>rfl))
   ·
    refine OD.rE 5 [(1,.loc 0 0),(23,.bool no)] ?_
    refine OD.ifB 23 rfl (fun h4=>?_) (fun h4=>?_)
    ·
     refine OD.rE 2 [(23,.bool true),(25,.sl 2 set.length (set.flatMap X0s))] ?_
     refine OD.guard rfl rfl ?_
     refine OD.cE (XA6 set hsz) ?_
     refine OD.rE 3 [(2,.bool (!(!set.all X0o)))] ?_
     refine OD.nil (CD.ret ?_)
     exact rP (.bool (!(!set.all X0o))) (by first | (exfalso;omega) | (simp only [h1,h2,h3,h4,X3o,Bool.not_not,bs,decide_true,decide_false,if_true,if_false,reduceIte]<;>rfl))
    ·
     refine OD.rE 6 [(2,.bool false)] ?_
     refine OD.nil (CD.ret ?_)
     exact rP (.bool false) (by first | (exfalso;omega) | (simp only [h1,h2,h3,h4,X3o,Bool.not_not,bs,decide_true,decide_false,if_true,if_false,reduceIte]<;>rfl))
  ·
   refine OD.rE 16 [(2,.bool false)] ?_
   refine OD.nil (CD.ret ?_)
   exact rP (.bool false) (by first | (exfalso;omega) | (simp only [h1,h2,X3o,Bool.not_not,bs,decide_true,decide_false,if_true,if_false,reduceIte]<;>rfl))
 ·
  refine CD.seq (CD.seq (CD.region ?_))
  refine OD.rE 2 [(1,.loc 0 0),(3,.i64 kids.length),(8,.i64 k),(29,.bool (decide ((k:Int)=3)))] ?_
  refine OD.nil ?_
  refine CD.condS rfl (fun h5=>?_) (fun h5=>?_)
  ·
   refine CD.skip ?_
   refine CD.condT rfl ?_
   refine CD.seq (CD.region ?_)
   refine OD.rE 3 [(2,.bool (decide ((2:Int)≤((kids.length:Nat):Int))))] ?_
   refine OD.nil (CD.ret ?_)
   exact rP (.bool (decide ((2:Int)≤((kids.length:Nat):Int)))) (by first | (exfalso;omega) | (simp only [h1,h5,X3o,Bool.not_not,bs,decide_true,decide_false,if_true,if_false,reduceIte]<;>rfl))
  ·
   refine CD.region ?_
   refine OD.rE 2 [(1,.loc 0 0),(3,.i64 kids.length),(8,.i64 k),(29,.bool (decide ((k:Int)=4)))] ?_
   refine OD.nil ?_
   refine CD.condP rfl (fun h6=>?_) (fun h6=>?_)
   ·
    refine CD.seq (CD.region ?_)
    refine OD.rE 3 [(2,.bool (decide ((2:Int)≤((kids.length:Nat):Int))))] ?_
    refine OD.nil (CD.ret ?_)
    exact rP (.bool (decide ((2:Int)≤((kids.length:Nat):Int)))) (by first | (exfalso;omega) | (simp only [h1,h5,h6,X3o,Bool.not_not,bs,decide_true,decide_false,if_true,if_false,reduceIte]<;>rfl))
   ·
    refine CD.seq (CD.region ?_)
    refine OD.rE 2 [(1,.loc 0 0),(3,.i64 kids.length),(8,.i64 k),(34,.bool (decide ((k:Int)=5)))] ?_
    refine OD.nil ?_
    refine CD.condP rfl (fun h7=>?_) (fun h7=>?_)
    ·
     refine CD.seq (CD.region ?_)
     refine OD.rE 3 [(1,.loc 0 0),(38,.bool (decide ((((kids.length:Nat):Int):Int)=1)))] ?_
     refine OD.ifP 38 rfl (fun h8=>?_) (fun h8=>?_)
     ·
      refine OD.rE 5 [(1,.loc 0 0),(43,.bool (decide ((0:Int)≤mn)))] ?_
      refine OD.ifP 43 rfl (fun h9=>?_) (fun h9=>?_)
      ·
       refine OD.rE 5 [(1,.loc 0 0),(48,.bool (decide ((mn:Int)≤9)))] ?_
       refine OD.ifP 48 rfl (fun h10=>?_) (fun h10=>?_)
       ·
        refine OD.rE 5 [(1,.loc 0 0),(53,.bool (decide ((mx:Int)≤9)))] ?_
        refine OD.ifP 53 rfl (fun h11=>?_) (fun h11=>?_)
        ·
         refine OD.rE 4 [(1,.loc 0 0),(53,.bool true),(57,.bool (decide ((mx:Int)=(-1))))] ?_
         refine OD.ifP 57 rfl (fun h12=>?_) (fun h12=>?_)
         ·
          refine OD.rE 8 [(2,.bool true)] ?_
          refine OD.nil (CD.ret ?_)
          exact rP (.bool true) (by first | (exfalso;omega) | (simp only [h1,h5,h6,h7,h8,h9,h10,h11,h12,X3o,Bool.not_not,bs,decide_true,decide_false,if_true,if_false,reduceIte]<;>rfl))
         ·
          refine OD.rE 8 [(2,.bool (decide ((mn:Int)≤mx)))] ?_
          refine OD.nil (CD.ret ?_)
          exact rP (.bool (decide ((mn:Int)≤mx))) (by first | (exfalso;omega) | (simp only [h1,h5,h6,h7,h8,h9,h10,h11,h12,X3o,Bool.not_not,bs,decide_true,decide_false,if_true,if_false,reduceIte]<;>rfl))
        ·
         refine OD.rE 12 [(2,.bool false)] ?_
         refine OD.nil (CD.ret ?_)
         exact rP (.bool false) (by first | (exfalso;omega) | (simp only [h1,h5,h6,h7,h8,h9,h10,h11,X3o,Bool.not_not,bs,decide_true,decide_false,if_true,if_false,reduceIte]<;>rfl))
       ·
        refine OD.rE 17 [(2,.bool false)] ?_
        refine OD.nil (CD.ret ?_)
        exact rP (.bool false) (by first | (exfalso;omega) | (simp only [h1,h5,h6,h7,h8,h9,h10,X3o,Bool.not_not,bs,decide_true,decide_false,if_true,if_false,reduceIte]<;>rfl))
      ·
       refine OD.rE 22 [(2,.bool false)] ?_
       refine OD.nil (CD.ret ?_)
       exact rP (.bool false) (by first | (exfalso;omega) | (simp only [h1,h5,h6,h7,h8,h9,X3o,Bool.not_not,bs,decide_true,decide_false,if_true,if_false,reduceIte]<;>rfl))
     ·
      refine OD.rE 27 [(2,.bool false)] ?_
      refine OD.nil (CD.ret ?_)
      exact rP (.bool false) (by first | (exfalso;omega) | (simp only [h1,h5,h6,h7,h8,X3o,Bool.not_not,bs,decide_true,decide_false,if_true,if_false,reduceIte]<;>rfl))
    ·
     refine CD.seq (CD.seq (CD.region ?_))
     refine OD.rE 2 [(3,.i64 kids.length),(8,.i64 k),(65,.bool (decide ((k:Int)=6)))] ?_
     refine OD.nil ?_
     refine CD.condS rfl (fun h13=>?_) (fun h13=>?_)
     ·
      refine CD.skip ?_
      refine CD.condT rfl ?_
      refine CD.seq (CD.region ?_)
      refine OD.rE 3 [(2,.bool (decide ((((kids.length:Nat):Int):Int)=0)))] ?_
      refine OD.nil (CD.ret ?_)
      exact rP (.bool (decide ((((kids.length:Nat):Int):Int)=0))) (by first | (exfalso;omega) | (simp only [h1,h5,h6,h7,h13,X3o,Bool.not_not,bs,decide_true,decide_false,if_true,if_false,reduceIte]<;>rfl))
     ·
      refine CD.region ?_
      refine OD.rE 2 [(3,.i64 kids.length),(65,.bool (decide ((k:Int)=7)))] ?_
      refine OD.nil ?_
      refine CD.condP rfl (fun h14=>?_) (fun h14=>?_)
      ·
       refine CD.seq (CD.region ?_)
       refine OD.rE 3 [(2,.bool (decide ((((kids.length:Nat):Int):Int)=0)))] ?_
       refine OD.nil (CD.ret ?_)
       exact rP (.bool (decide ((((kids.length:Nat):Int):Int)=0))) (by first | (exfalso;omega) | (simp only [h1,h5,h6,h7,h13,h14,X3o,Bool.not_not,bs,decide_true,decide_false,if_true,if_false,reduceIte]<;>rfl))
      ·
       refine CD.skip (CD.seq (CD.region ?_))
       refine OD.rE 1 [(2,.bool false)] ?_
       refine OD.nil (CD.ret ?_)
       exact rP (.bool false) (by first | (exfalso;omega) | (simp only [h1,h5,h6,h7,h13,h14,X3o,Bool.not_not,bs,decide_true,decide_false,if_true,if_false,reduceIte]<;>rfl))
theorem XE1:∀ (m:Nat) (k:Int) (set:List (Int×Int)) (no:Bool) (kids:List Nd) (mn mx:Int) (d:Nat),size (.mk k set no kids mn mx)≤m→fit (.mk k set no kids mn mx)→(d≤41)→X1Q P ov 62 [.agg [.i64 k,.sl 2 set.length (set.flatMap X0s),.bool no,.sl 6 kids.length (X0R kids),.i64 mn,.i64 mx],.i64 d] (.i64 ((Nfa.cnt X16 (.mk k set no kids mn mx) d:Nat):Int)):=by
 intro m
 induction m with
 | zero=>intro k set no kids mn mx d hs;exact absurd hs (by have:=X58 (.mk k set no kids mn mx);omega)
 | succ m ih =>
  intro k set no kids mn mx d hs hf hh
  have hf1:=hf.1
  have hf2:=hf.2.1
  have hf3:=hf.2.2.1
  have hf4:=hf.2.2.2.1
  refine FnD.intro (by kernel_rfl) (fn:=Tryz.f62) (by kernel_rfl) rfl (by kernel_rfl) fun M a0 g0 hg0=>?_
  refine CD.seq (CD.region ?_)
  refine OD.rL 2 [(1,.i64 d),(2,.loc 0 0)] [.box (cN k set no kids mn mx)] ?_
  refine OD.nil (CD.seq (CD.seq (CD.region ?_)))
  refine OD.rE 3 [(1,.i64 d),(2,.loc 0 0),(10,.bool (decide ((40:Int)<((d:Nat):Int))))] ?_
  refine OD.ifP 10 rfl (fun h1=>?_) (fun h1=>?_)
  ·
   refine OD.rE 9 [(1,.i64 d),(2,.loc 0 0),(19,.bool true)] ?_
   refine OD.nil ?_
   refine CD.condT rfl ?_
   refine CD.seq (CD.region ?_)
   refine OD.rE 1 [(4,.i64 2001)] ?_
   refine OD.nil (CD.ret ?_)
   exact rP (.i64 2001) (by rw [XA2,if_pos (.inl (by omega))];rfl)
  ·
   refine OD.rE 1 [(1,.i64 d),(2,.loc 0 0),(10,.bool false),(11,.agg (cN k set no kids mn mx))] ?_
   refine OD.guard rfl rfl ?_
   refine OD.cE (XG8 k set no kids mn mx) ?_
   refine OD.rE 3 [(1,.i64 d),(2,.loc 0 0),(15,.bool (!(X2Q (.mk k set no kids mn mx))))] ?_
   refine OD.ifB 15 rfl (fun h2=>?_) (fun h2=>?_)
   ·
    have h2:=XD2 h2
    refine OD.rE 4 [(1,.i64 d),(2,.loc 0 0),(19,.bool true)] ?_
    refine OD.nil ?_
    refine CD.condT rfl ?_
    refine CD.seq (CD.region ?_)
    refine OD.rE 1 [(4,.i64 2001)] ?_
    refine OD.nil (CD.ret ?_)
    exact rP (.i64 2001) (by rw [XA2,if_pos (.inr (by simp [X16, *]))];rfl)
   ·
    have h2:=XD3 h2
    refine OD.rE 1 [(1,.i64 d),(2,.loc 0 0),(15,.bool false),(16,.agg (cN k set no kids mn mx))] ?_
    refine OD.guard rfl rfl ?_
    refine OD.cE (XIG k set no kids mn mx hf.1) ?_
    refine OD.rE 2 [(1,.i64 d),(2,.loc 0 0),(19,.bool (!(X3o (.mk k set no kids mn mx))))] ?_
    refine OD.nil ?_
    refine CD.condB rfl (fun h3=>?_) (fun h3=>?_)
    ·
     have h3:=XD2 h3
     refine CD.seq (CD.region ?_)
     refine OD.rE 1 [(4,.i64 2001)] ?_
     refine OD.nil (CD.ret ?_)
     exact rP (.i64 2001) (by rw [XA2,if_pos (.inr (by simp [X16, *]))];rfl)
    ·
     have h3:=XD3 h3
     refine CD.skip (CD.seq (CD.region ?_))
     refine OD.rE 1 [(1,.i64 d),(2,.loc 0 0),(5,.i64 1)] ?_
     refine OD.nil (CD.seq (CD.seq (CD.region ?_)))
     refine OD.rE 4 [(1,.i64 d),(5,.i64 1),(21,.sl 6 kids.length (X0R kids)),(22,.i64 kids.length),(23,.i64 0)] ?_
     refine OD.nil (CD.block ?_)
     refine CD.weak [1,5,21,22,23] 1 (E':=[(1,.i64 d),(5,.i64 1),(21,.sl 6 kids.length (X0R kids)),(22,.i64 kids.length),(23,.i64 0)]) (by kernel_rfl) (by simp [hg0]) (by kernel_rfl) ?_
     refine CD.loop (fun m σ=>∃ (i:Nat) (all:Nat),σ=⟨[(1,.i64 d),(5,.i64 all),(21,.sl 6 kids.length (X0R kids)),(22,.i64 kids.length),(23,.i64 i)],[.box (cN k set no kids mn mx)]⟩∧(i≤kids.length)∧(all≤2000)∧(Nfa.cnt X16 (.mk k set no kids mn mx) d=XB9 X16 (kids.drop i) d all)∧m=kids.length - i) (fun m σ hI=>?_) _ ⟨0,1,(by kernel_rfl),Nat.zero_le _,by omega,by rw [XA2,if_neg (by simp [X16, *];omega)];rfl,rfl⟩
     obtain⟨i,all,e,hi,ha,hr,hm⟩:=hI
     subst e hm
     refine CD.seq (CD.region ?_)
     refine OD.rE 1 [(1,.i64 d),(5,.i64 all),(21,.sl 6 kids.length (X0R kids)),(22,.i64 kids.length),(23,.i64 i),(24,.bool (decide ((((i:Nat):Int):Int)<((kids.length:Nat):Int))))] ?_
     refine OD.nil (CD.seq ?_)
     refine CD.condP rfl (fun h4=>?_) (fun h4=>?_)
     ·
      obtain⟨⟨k1,set1,no1,kids1,mn1,mx1⟩,hx,hd⟩:=nth (l:=kids) (i:=i) (by omega)
      have hc:=XIC X16 (.mk k1 set1 no1 kids1 mn1 mx1) (d+1)
      refine CD.skip (CD.seq (CD.block (CD.seq (CD.region ?_))))
      refine OD.idx rfl rfl (by kernel_rfl) (by omega) (by omega) ?_
      refine OD.rE 0 [(1,.i64 d),(5,.i64 all),(21,.sl 6 kids.length (X0R kids)),(22,.i64 kids.length),(23,.i64 i),(25,.ep 6 kids.length (X0R kids) ((((i:Nat):Int):Int).toNat*6))] ?_
      refine OD.ldA rfl (by kernel_rfl) (by kernel_rfl) (XAq hx) rfl (by decide) ?_
      refine OD.rL 2 [(1,.i64 d),(5,.i64 all),(7,.loc 1 0),(21,.sl 6 kids.length (X0R kids)),(22,.i64 kids.length),(23,.i64 i)] [.box (cN k set no kids mn mx),.box (cN k1 set1 no1 kids1 mn1 mx1)] ?_
      refine OD.nil (CD.seq (CD.region ?_))
      refine OD.rE 4 [(1,.i64 d),(21,.sl 6 kids.length (X0R kids)),(22,.i64 kids.length),(23,.i64 i),(27,.i64 all),(28,.agg (cN k1 set1 no1 kids1 mn1 mx1)),(30,.i64 (X05 .i64 (((d:Nat):Int)+1)))] ?_
      refine OD.is 30 rfl (wrn (m:=d+1) (by omega) (by omega)) ?_
      refine OD.rE 0 [(1,.i64 d),(21,.sl 6 kids.length (X0R kids)),(22,.i64 kids.length),(23,.i64 i),(27,.i64 all),(28,.agg (cN k1 set1 no1 kids1 mn1 mx1)),(30,.i64 ((d+1:Nat):Int))] ?_
      refine OD.cE (ih k1 set1 no1 kids1 mn1 mx1 (d+1) (X2f hs hx) (X4O hf hx) (by omega)) ?_
      refine OD.rE 1 [(1,.i64 d),(21,.sl 6 kids.length (X0R kids)),(22,.i64 kids.length),(23,.i64 i),(32,.i64 (X05 .i64 (((all:Nat):Int)+((Nfa.cnt X16 (.mk k1 set1 no1 kids1 mn1 mx1) (d+1):Nat):Int))))] ?_
      refine OD.is 32 rfl (wrn (m:=all+(Nfa.cnt X16 (.mk k1 set1 no1 kids1 mn1 mx1) (d+1))) (by omega) (by omega)) ?_
      refine OD.rE 1 [(1,.i64 d),(5,.i64 ((all+(Nfa.cnt X16 (.mk k1 set1 no1 kids1 mn1 mx1) (d+1)):Nat):Int)),(21,.sl 6 kids.length (X0R kids)),(22,.i64 kids.length),(23,.i64 i)] ?_
      refine OD.nil (CD.seq (CD.region ?_))
      refine OD.rE 2 [(1,.i64 d),(5,.i64 ((all+(Nfa.cnt X16 (.mk k1 set1 no1 kids1 mn1 mx1) (d+1)):Nat):Int)),(21,.sl 6 kids.length (X0R kids)),(22,.i64 kids.length),(23,.i64 i),(34,.bool (decide ((2000:Int)<((all+(Nfa.cnt X16 (.mk k1 set1 no1 kids1 mn1 mx1) (d+1)):Nat):Int))))] ?_
      refine OD.nil ?_
      refine CD.condP rfl (fun h5=>?_) (fun h5=>?_)
      ·
       refine CD.seq (CD.region ?_)
       refine OD.rE 1 [(4,.i64 2001)] ?_
       refine OD.nil (CD.ret ?_)
       exact rP (.i64 2001) (by rw [hr,hd,XB9,if_pos (by omega)];rfl)
      ·
       refine CD.skip (CD.region ?_)
       refine OD.rE 1 [(1,.i64 d),(5,.i64 ((all+(Nfa.cnt X16 (.mk k1 set1 no1 kids1 mn1 mx1) (d+1)):Nat):Int)),(21,.sl 6 kids.length (X0R kids)),(22,.i64 kids.length),(35,.i64 (X05 .i64 (((i:Nat):Int)+1)))] ?_
       refine OD.is 35 rfl (wrn (m:=i+1) (by omega) (by omega)) ?_
       refine OD.rE 1 [(1,.i64 d),(5,.i64 ((all+(Nfa.cnt X16 (.mk k1 set1 no1 kids1 mn1 mx1) (d+1)):Nat):Int)),(21,.sl 6 kids.length (X0R kids)),(22,.i64 kids.length),(23,.i64 ((i+1:Nat):Int))] ?_
       refine OD.nilW [1,5,21,22,23] 1 (E':=[(1,.i64 d),(5,.i64 ((all+(Nfa.cnt X16 (.mk k1 set1 no1 kids1 mn1 mx1) (d+1)):Nat):Int)),(21,.sl 6 kids.length (X0R kids)),(22,.i64 kids.length),(23,.i64 ((i+1:Nat):Int))]) (by kernel_rfl) (by simp [hg0]) (by kernel_rfl) ?_
       exact⟨_,by omega,i+1,all+Nfa.cnt X16 (.mk k1 set1 no1 kids1 mn1 mx1) (d+1),(by kernel_rfl),by omega,by omega,by rw [hr,hd,XB9,if_neg (by omega)],rfl⟩
     ·
      refine CD.exit ?_
      refine CD.seq (CD.region ?_)
      refine OD.rE 2 [(4,.i64 all)] ?_
      refine OD.nil (CD.ret ?_)
      exact rP (.i64 all) (by rw [hr,List.drop_eq_nil_of_le (by omega)];rfl)
theorem XIH (k:Int) (set:List (Int×Int)) (no:Bool) (kids:List Nd) (mn mx:Int) (hf:fit (.mk k set no kids mn mx)):X1Q P ov 40 [.agg [.i64 k,.sl 2 set.length (set.flatMap X0s),.bool no,.sl 6 kids.length (X0R kids),.i64 mn,.i64 mx]] (.bool (decide (Nfa.cnt X16 (.mk k set no kids mn mx) 1≤2000))):=by
 refine FnD.intro (by kernel_rfl) (fn:=Tryz.f40) (by kernel_rfl) rfl (by kernel_rfl) fun M a0 g0 hg0=>?_
 refine CD.seq (CD.region ?_)
 refine OD.rL 2 [(1,.loc 0 0)] [.box (cN k set no kids mn mx)] ?_
 refine OD.nil (CD.seq (CD.region ?_))
 refine OD.rE 1 [(3,.agg (cN k set no kids mn mx))] ?_
 refine OD.cE (XE1 _ k set no kids mn mx 1 (Nat.le_refl _) hf (by omega)) ?_
 refine OD.rE 2 [(2,.bool (decide ((((Nfa.cnt X16 (.mk k set no kids mn mx) 1:Nat):Int):Int)≤2000)))] ?_
 refine OD.nil (CD.ret ?_)
 exact rP (.bool (decide ((((Nfa.cnt X16 (.mk k set no kids mn mx) 1:Nat):Int):Int)≤2000))) (congrArg D.bool (decide_eq_decide.2 (by omega)))
theorem XBs:∀ (m:Nat) (k:Int) (set:List (Int×Int)) (no:Bool) (kids:List Nd) (mn mx:Int),size (.mk k set no kids mn mx)≤m→fit (.mk k set no kids mn mx)→(size (.mk k set no kids mn mx)≤2000)→(X0L X16 (.mk k set no kids mn mx))→X1Q P ov 45 [.agg [.i64 k,.sl 2 set.length (set.flatMap X0s),.bool no,.sl 6 kids.length (X0R kids),.i64 mn,.i64 mx]] (.i64 ((wp K14 20001 (.mk k set no kids mn mx):Nat):Int)):=by
 intro m
 induction m with
 | zero=>intro k set no kids mn mx hs;exact absurd hs (by have:=X58 (.mk k set no kids mn mx);omega)
 | succ m ih =>
  intro k set no kids mn mx hs hf hz hl
  have hf1:=hf.1
  have hf2:=hf.2.1
  have hf3:=hf.2.2.1
  have hf4:=hf.2.2.2.1
  have hlen:=X5L (k:=k) (set:=set) (no:=no) (kids:=kids) (mn:=mn) (mx:=mx)
  refine FnD.intro (by kernel_rfl) (fn:=Tryz.f45) (by kernel_rfl) rfl (by kernel_rfl) fun M a0 g0 hg0=>?_
  refine CD.seq (CD.region ?_)
  refine OD.rL 2 [(1,.loc 0 0)] [.box (cN k set no kids mn mx)] ?_
  refine OD.nil (CD.seq (CD.region ?_))
  refine OD.rE 1 [(1,.loc 0 0),(3,.i64 0)] ?_
  refine OD.nil (CD.seq (CD.seq (CD.region ?_)))
  refine OD.rE 4 [(1,.loc 0 0),(3,.i64 0),(8,.sl 6 kids.length (X0R kids)),(9,.i64 kids.length),(10,.i64 0)] ?_
  refine OD.nil (CD.block ?_)
  refine CD.weak [1,3,8,9,10] 1 (E':=[(1,.loc 0 0),(3,.i64 0),(8,.sl 6 kids.length (X0R kids)),(9,.i64 kids.length),(10,.i64 0)]) (by kernel_rfl) (by simp [hg0]) (by kernel_rfl) ?_
  refine CD.loop (fun m σ=>∃ (i:Nat) (w:Nat),σ=⟨[(1,.loc 0 0),(3,.i64 w),(8,.sl 6 kids.length (X0R kids)),(9,.i64 kids.length),(10,.i64 i)],[.box (cN k set no kids mn mx)]⟩∧(i≤kids.length)∧(w≤i*20001)∧(wpL K14 20001 kids 0=wpL K14 20001 (kids.drop i) w)∧m=kids.length - i) (fun m σ hI=>?_) _ ⟨0,0,(by kernel_rfl),Nat.zero_le _,by omega,rfl,rfl⟩
  obtain⟨i,w,e,hi,hw,hr,hm⟩:=hI
  subst e hm
  refine CD.seq (CD.region ?_)
  refine OD.rE 1 [(1,.loc 0 0),(3,.i64 w),(8,.sl 6 kids.length (X0R kids)),(9,.i64 kids.length),(10,.i64 i),(11,.bool (decide ((((i:Nat):Int):Int)<((kids.length:Nat):Int))))] ?_
  refine OD.nil (CD.seq ?_)
  refine CD.condP rfl (fun h1=>?_) (fun h1=>?_)
  ·
   obtain⟨⟨k1,set1,no1,kids1,mn1,mx1⟩,hx,hd⟩:=nth (l:=kids) (i:=i) (by omega)
   have hc:=XID K14 20001 (.mk k1 set1 no1 kids1 mn1 mx1)
   refine CD.skip (CD.seq (CD.block (CD.seq (CD.region ?_))))
   refine OD.idx rfl rfl (by kernel_rfl) (by omega) (by omega) ?_
   refine OD.rE 0 [(1,.loc 0 0),(3,.i64 w),(8,.sl 6 kids.length (X0R kids)),(9,.i64 kids.length),(10,.i64 i),(12,.ep 6 kids.length (X0R kids) ((((i:Nat):Int):Int).toNat*6))] ?_
   refine OD.ldA rfl (by kernel_rfl) (by kernel_rfl) (XAq hx) rfl (by decide) ?_
   refine OD.rL 2 [(1,.loc 0 0),(3,.i64 w),(5,.loc 1 0),(8,.sl 6 kids.length (X0R kids)),(9,.i64 kids.length),(10,.i64 i)] [.box (cN k set no kids mn mx),.box (cN k1 set1 no1 kids1 mn1 mx1)] ?_
   refine OD.nil (CD.region ?_)
   refine OD.rE 2 [(1,.loc 0 0),(8,.sl 6 kids.length (X0R kids)),(9,.i64 kids.length),(10,.i64 i),(14,.i64 w),(15,.agg (cN k1 set1 no1 kids1 mn1 mx1))] ?_
   refine OD.cE (ih k1 set1 no1 kids1 mn1 mx1 (X2f hs hx) (X4O hf hx) (Nat.le_trans (X2f (Nat.le_trans (Nat.le_refl _) (Nat.le_succ_of_le (Nat.le_refl _))) hx) (by omega)) (X10 hl hx)) ?_
   refine OD.rE 1 [(1,.loc 0 0),(8,.sl 6 kids.length (X0R kids)),(9,.i64 kids.length),(10,.i64 i),(17,.i64 (X05 .i64 (((w:Nat):Int)+((wp K14 20001 (.mk k1 set1 no1 kids1 mn1 mx1):Nat):Int))))] ?_
   refine OD.is 17 rfl (wrn (m:=w+(wp K14 20001 (.mk k1 set1 no1 kids1 mn1 mx1))) (by omega) (by omega)) ?_
   refine OD.rE 1 [(1,.loc 0 0),(3,.i64 ((w+(wp K14 20001 (.mk k1 set1 no1 kids1 mn1 mx1)):Nat):Int)),(8,.sl 6 kids.length (X0R kids)),(9,.i64 kids.length),(10,.i64 i)] ?_
   refine OD.nil (CD.region ?_)
   refine OD.rE 1 [(1,.loc 0 0),(3,.i64 ((w+(wp K14 20001 (.mk k1 set1 no1 kids1 mn1 mx1)):Nat):Int)),(8,.sl 6 kids.length (X0R kids)),(9,.i64 kids.length),(18,.i64 (X05 .i64 (((i:Nat):Int)+1)))] ?_
   refine OD.is 18 rfl (wrn (m:=i+1) (by omega) (by omega)) ?_
   refine OD.rE 1 [(1,.loc 0 0),(3,.i64 ((w+(wp K14 20001 (.mk k1 set1 no1 kids1 mn1 mx1)):Nat):Int)),(8,.sl 6 kids.length (X0R kids)),(9,.i64 kids.length),(10,.i64 ((i+1:Nat):Int))] ?_
   refine OD.nilW [1,3,8,9,10] 1 (E':=[(1,.loc 0 0),(3,.i64 ((w+(wp K14 20001 (.mk k1 set1 no1 kids1 mn1 mx1)):Nat):Int)),(8,.sl 6 kids.length (X0R kids)),(9,.i64 kids.length),(10,.i64 ((i+1:Nat):Int))]) (by kernel_rfl) (by simp [hg0]) (by kernel_rfl) ?_
   exact⟨_,by omega,i+1,w+wp K14 20001 (.mk k1 set1 no1 kids1 mn1 mx1),(by kernel_rfl),by omega,by have:=XID K14 20001 (.mk k1 set1 no1 kids1 mn1 mx1);omega,by rw [hr,hd,wpL],rfl⟩
  ·
   refine CD.exit ?_
   refine CD.seq (CD.seq (CD.region ?_))
   refine OD.rE 2 [(1,.loc 0 0),(3,.i64 w),(20,.i64 k)] ?_
   refine OD.nil (CD.block (CD.seq (CD.seq (CD.region ?_))))
   refine OD.rE 2 [(1,.loc 0 0),(3,.i64 w),(20,.i64 k),(21,.bool (decide ((k:Int)=2)))] ?_
   refine OD.nil ?_
   refine CD.condS rfl (fun h2=>?_) (fun h2=>?_)
   ·
    refine CD.skip ?_
    refine CD.condT rfl ?_
    refine CD.region ?_
    refine OD.rE 1 [(3,.i64 1)] ?_
    refine OD.nil (CD.seq (CD.region ?_))
    refine OD.rE 3 [(2,.i64 1)] ?_
    refine OD.nil (CD.ret ?_)
    rw [List.drop_eq_nil_of_le (by omega),X3p]at hr
    exact rP (.i64 1) (congrArg (D.int .i64) (by have hkk:=X1w hl;rw [X97,hr];simp only [K14,h1,h2,reduceIte,Int.reduceEq]<;>omega))
   ·
    refine CD.seq (CD.region ?_)
    refine OD.rE 2 [(1,.loc 0 0),(3,.i64 w),(20,.i64 k),(21,.bool (decide ((k:Int)=6)))] ?_
    refine OD.nil ?_
    refine CD.condS rfl (fun h3=>?_) (fun h3=>?_)
    ·
     refine CD.skip ?_
     refine CD.condT rfl ?_
     refine CD.region ?_
     refine OD.rE 1 [(3,.i64 1)] ?_
     refine OD.nil (CD.seq (CD.region ?_))
     refine OD.rE 3 [(2,.i64 1)] ?_
     refine OD.nil (CD.ret ?_)
     rw [List.drop_eq_nil_of_le (by omega),X3p]at hr
     exact rP (.i64 1) (congrArg (D.int .i64) (by have hkk:=X1w hl;rw [X97,hr];simp only [K14,h1,h2,h3,reduceIte,Int.reduceEq]<;>omega))
    ·
     refine CD.region ?_
     refine OD.rE 2 [(1,.loc 0 0),(3,.i64 w),(20,.i64 k),(21,.bool (decide ((k:Int)=7)))] ?_
     refine OD.nil ?_
     refine CD.condP rfl (fun h4=>?_) (fun h4=>?_)
     ·
      refine CD.region ?_
      refine OD.rE 1 [(3,.i64 1)] ?_
      refine OD.nil (CD.seq (CD.region ?_))
      refine OD.rE 3 [(2,.i64 1)] ?_
      refine OD.nil (CD.ret ?_)
      rw [List.drop_eq_nil_of_le (by omega),X3p]at hr
      exact rP (.i64 1) (congrArg (D.int .i64) (by have hkk:=X1w hl;rw [X97,hr];simp only [K14,h1,h2,h3,h4,reduceIte,Int.reduceEq]<;>omega))
     ·
      refine CD.seq (CD.region ?_)
      refine OD.rE 2 [(1,.loc 0 0),(3,.i64 w),(20,.i64 k),(25,.bool (decide ((k:Int)=4)))] ?_
      refine OD.nil ?_
      refine CD.condP rfl (fun h5=>?_) (fun h5=>?_)
      ·
       refine CD.region ?_
       refine OD.rE 2 [(28,.i64 (X05 .i64 (((w:Nat):Int)+1)))] ?_
       refine OD.is 28 rfl (wrn (m:=w+1) (by omega) (by omega)) ?_
       refine OD.rE 1 [(3,.i64 ((w+1:Nat):Int))] ?_
       refine OD.nil (CD.seq (CD.region ?_))
       refine OD.rE 2 [(43,.i64 (min (((w+1:Nat):Int):Int) 20001))] ?_
       refine OD.is 43 rfl X9d ?_
       refine OD.rE 1 [(2,.i64 ((min (w+1) 20001:Nat):Int))] ?_
       refine OD.nil (CD.ret ?_)
       rw [List.drop_eq_nil_of_le (by omega),X3p]at hr
       exact rP (.i64 ((min (w+1) 20001:Nat):Int)) (congrArg (D.int .i64) (by have hkk:=X1w hl;rw [X97,hr];simp only [K14,h1,h2,h3,h4,h5,reduceIte,Int.reduceEq]<;>omega))
      ·
       refine CD.seq (CD.region ?_)
       refine OD.rE 2 [(1,.loc 0 0),(3,.i64 w),(29,.bool (decide ((k:Int)=5)))] ?_
       refine OD.nil ?_
       refine CD.condP rfl (fun h6=>?_) (fun h6=>?_)
       ·
        have hk:0≤mn∧mn≤9∧mx≤9∧(mx = -1∨mn≤mx):=by subst h6;exact X7A hl
        refine CD.seq (CD.region ?_)
        refine OD.rE 3 [(1,.loc 0 0),(3,.i64 w),(6,.i64 mx)] ?_
        refine OD.nil (CD.seq (CD.seq (CD.region ?_)))
        refine OD.rE 2 [(1,.loc 0 0),(3,.i64 w),(6,.i64 mx),(34,.bool (decide ((mx:Int)<0)))] ?_
        refine OD.nil ?_
        refine CD.condP rfl (fun h7=>?_) (fun h7=>?_)
        ·
         refine CD.region ?_
         refine OD.rE 3 [(3,.i64 w),(37,.i64 (X05 .i64 (mn+1)))] ?_
         refine OD.is 37 rfl (XF1 (by omega) (by omega)) ?_
         refine OD.rE 1 [(3,.i64 w),(6,.i64 (mn+1))] ?_
         refine OD.nil (CD.region ?_)
         refine OD.rE 3 [(40,.i64 (X05 .i64 (((w:Nat):Int)*(mn+1))))] ?_
         have hmul:=XFZ (a:=(w:Int)) (b:=((mn+1))) (A:=40002000) (B:=10) (by omega) (by omega) (by omega) (by omega)
         refine OD.is 40 rfl (XF1 (by omega) (by omega)) ?_
         refine OD.rE 1 [(41,.i64 (X05 .i64 ((((w:Nat):Int)*(mn+1))+1)))] ?_
         refine OD.is 41 rfl (XF1 (by omega) (by omega)) ?_
         refine OD.rE 1 [(3,.i64 ((((w:Nat):Int)*(mn+1))+1))] ?_
         refine OD.nil (CD.seq (CD.region ?_))
         refine OD.rE 3 [(2,.i64 (min ((((w:Nat):Int)*(mn+1))+1:Int) 20001))] ?_
         refine OD.nil (CD.ret ?_)
         rw [List.drop_eq_nil_of_le (by omega),X3p]at hr
         exact rP (.i64 (min ((((w:Nat):Int)*(mn+1))+1:Int) 20001)) (congrArg (D.int .i64) (by have hkk:=X1w hl;rw [X97,hr];simp only [K14,h1,h2,h3,h4,h5,h6,h7,reduceIte,Int.reduceEq];have:=X7v (w:=w) (t:=(mn+1)) (by omega);omega))
        ·
         refine CD.skip (CD.region ?_)
         refine OD.rE 3 [(40,.i64 (X05 .i64 (((w:Nat):Int)*mx)))] ?_
         have hmul:=XFZ (a:=(w:Int)) (b:=(mx)) (A:=40002000) (B:=10) (by omega) (by omega) (by omega) (by omega)
         refine OD.is 40 rfl (XF1 (by omega) (by omega)) ?_
         refine OD.rE 1 [(41,.i64 (X05 .i64 ((((w:Nat):Int)*mx)+1)))] ?_
         refine OD.is 41 rfl (XF1 (by omega) (by omega)) ?_
         refine OD.rE 1 [(3,.i64 ((((w:Nat):Int)*mx)+1))] ?_
         refine OD.nil (CD.seq (CD.region ?_))
         refine OD.rE 3 [(2,.i64 (min ((((w:Nat):Int)*mx)+1:Int) 20001))] ?_
         refine OD.nil (CD.ret ?_)
         rw [List.drop_eq_nil_of_le (by omega),X3p]at hr
         exact rP (.i64 (min ((((w:Nat):Int)*mx)+1:Int) 20001)) (congrArg (D.int .i64) (by have hkk:=X1w hl;rw [X97,hr];simp only [K14,h1,h2,h3,h4,h5,h6,h7,reduceIte,Int.reduceEq];have:=X7v (w:=w) (t:=mx) (by omega);omega))
       ·
        refine CD.skip (CD.seq (CD.region ?_))
        refine OD.rE 2 [(43,.i64 (min (((w:Nat):Int):Int) 20001))] ?_
        refine OD.is 43 rfl X9d ?_
        refine OD.rE 1 [(2,.i64 ((min w 20001:Nat):Int))] ?_
        refine OD.nil (CD.ret ?_)
        rw [List.drop_eq_nil_of_le (by omega),X3p]at hr
        exact rP (.i64 ((min w 20001:Nat):Int)) (congrArg (D.int .i64) (by have hkk:=X1w hl;rw [X97,hr];have hq:k=3:=(by omega);subst hq;simp only [K14,reduceIte]<;>omega))
end
end Go.Proofs.YtiebldaihnbkmaaGreatDoor
set_option maxRecDepth 100000
set_option maxHeartbeats 4000000
namespace Go.Proofs.YtiebldaihnbkmaaGreatDoor
open Go.Vai Go.Nfa
noncomputable section
theorem in_ok (set:List (Int×Int)) (no:Bool) (ks:List D) (n:Nat) (k mn mx r:Int) (hsz:set.length<4611686018427387904):X1Q P ov 67 [.agg [.i64 k,.sl 2 set.length (set.flatMap X0s),.bool no,.sl 6 n ks,.i64 mn,.i64 mx],.int .i32 r] (.bool (X2k set no r)):=by
 refine FnD.intro (by kernel_rfl) (fn:=Tryz.f67) (by kernel_rfl) rfl (by kernel_rfl) fun M a0 g0 hg0=>?_
 refine CD.seq (CD.region ?_)
 refine OD.rL 2 [(1,.int .i32 r),(2,.loc 0 0)] [.box [.i64 k,.sl 2 set.length (set.flatMap X0s),.bool no,.sl 6 n ks,.i64 mn,.i64 mx]] ?_
 refine OD.nil (CD.seq (CD.seq (CD.region ?_)))
 refine OD.rE 4 [(1,.int .i32 r),(2,.loc 0 0),(8,.sl 2 set.length (set.flatMap X0s)),(9,.i64 set.length),(10,.i64 0)] ?_
 refine OD.nil (CD.block ?_)
 refine CD.weak [1,2,8,9,10] 1 (E':=[(1,.int .i32 r),(2,.loc 0 0),(8,.sl 2 set.length (set.flatMap X0s)),(9,.i64 set.length),(10,.i64 0)]) (by kernel_rfl) (by simp [hg0]) (by kernel_rfl) ?_
 refine CD.loop (fun m σ=>∃ (i:Nat),σ=⟨[(1,.int .i32 r),(2,.loc 0 0),(8,.sl 2 set.length (set.flatMap X0s)),(9,.i64 set.length),(10,.i64 i)],[.box [.i64 k,.sl 2 set.length (set.flatMap X0s),.bool no,.sl 6 n ks,.i64 mn,.i64 mx]]⟩∧(i≤set.length)∧(X2k set no r=X2k (set.drop i) no r)∧m=set.length - i) (fun m σ hI=>?_) _ ⟨0,(by kernel_rfl),Nat.zero_le _,rfl,rfl⟩
 obtain⟨i,e,hi,hr,hm⟩:=hI
 subst e hm
 refine CD.seq (CD.region ?_)
 refine OD.rE 1 [(1,.int .i32 r),(2,.loc 0 0),(8,.sl 2 set.length (set.flatMap X0s)),(9,.i64 set.length),(10,.i64 i),(11,.bool (decide ((((i:Nat):Int):Int)<((set.length:Nat):Int))))] ?_
 refine OD.nil (CD.seq ?_)
 refine CD.condP rfl (fun h1=>?_) (fun h1=>?_)
 ·
  obtain⟨x,hx,hd⟩:=nth (l:=set) (i:=i) (by omega)
  refine CD.skip (CD.seq (CD.block (CD.seq (CD.region ?_))))
  refine OD.idx rfl rfl (by kernel_rfl) (by omega) (by omega) ?_
  refine OD.rE 0 [(1,.int .i32 r),(2,.loc 0 0),(8,.sl 2 set.length (set.flatMap X0s)),(9,.i64 set.length),(10,.i64 i),(12,.ep 2 set.length (set.flatMap X0s) ((((i:Nat):Int):Int).toNat*2))] ?_
  refine OD.ldA rfl (by kernel_rfl) (by kernel_rfl) (XIB hx) rfl (by decide) ?_
  refine OD.rL 2 [(1,.int .i32 r),(2,.loc 0 0),(6,.loc 1 0),(8,.sl 2 set.length (set.flatMap X0s)),(9,.i64 set.length),(10,.i64 i)] [.box [.i64 k,.sl 2 set.length (set.flatMap X0s),.bool no,.sl 6 n ks,.i64 mn,.i64 mx],.box [.int .i32 x.1,.int .i32 x.2]] ?_
  refine OD.nil (CD.seq (CD.region ?_))
  refine OD.rE 5 [(1,.int .i32 r),(2,.loc 0 0),(6,.loc 1 0),(8,.sl 2 set.length (set.flatMap X0s)),(9,.i64 set.length),(10,.i64 i),(18,.bool (decide ((x.1:Int)≤r)))] ?_
  refine OD.ifP 18 rfl (fun h2=>?_) (fun h2=>?_)
  ·
   refine OD.rE 5 [(1,.int .i32 r),(2,.loc 0 0),(8,.sl 2 set.length (set.flatMap X0s)),(9,.i64 set.length),(10,.i64 i),(23,.bool (decide ((r:Int)≤x.2)))] ?_
   refine OD.nil ?_
   refine CD.condP rfl (fun h3=>?_) (fun h3=>?_)
   ·
    refine CD.seq (CD.region ?_)
    refine OD.rE 4 [(4,.bool (!no))] ?_
    refine OD.nil (CD.ret ?_)
    exact rP (.bool (!no)) (by rw [hr,hd,X4P];simp only [h1,h2,h3,bs,decide_true,decide_false,if_true,if_false,reduceIte])
   ·
    refine CD.skip (CD.region ?_)
    refine OD.rE 1 [(1,.int .i32 r),(2,.loc 0 0),(8,.sl 2 set.length (set.flatMap X0s)),(9,.i64 set.length),(27,.i64 (X05 .i64 (((i:Nat):Int)+1)))] ?_
    refine OD.is 27 rfl (wrn (m:=i+1) (by omega) (by omega)) ?_
    refine OD.rE 1 [(1,.int .i32 r),(2,.loc 0 0),(8,.sl 2 set.length (set.flatMap X0s)),(9,.i64 set.length),(10,.i64 ((i+1:Nat):Int))] ?_
    refine OD.nilW [1,2,8,9,10] 1 (E':=[(1,.int .i32 r),(2,.loc 0 0),(8,.sl 2 set.length (set.flatMap X0s)),(9,.i64 set.length),(10,.i64 ((i+1:Nat):Int))]) (by kernel_rfl) (by simp [hg0]) (by kernel_rfl) ?_
    exact⟨_,by omega,i+1,(by kernel_rfl),by omega,by rw [hr,hd,X4P];simp only [h1,h2,h3,bs,decide_true,decide_false,if_true,if_false,reduceIte],rfl⟩
  ·
   refine OD.rE 5 [(1,.int .i32 r),(2,.loc 0 0),(8,.sl 2 set.length (set.flatMap X0s)),(9,.i64 set.length),(10,.i64 i),(23,.bool false)] ?_
   refine OD.nil ?_
   refine CD.condF rfl ?_
   refine CD.skip (CD.region ?_)
   refine OD.rE 1 [(1,.int .i32 r),(2,.loc 0 0),(8,.sl 2 set.length (set.flatMap X0s)),(9,.i64 set.length),(27,.i64 (X05 .i64 (((i:Nat):Int)+1)))] ?_
   refine OD.is 27 rfl (wrn (m:=i+1) (by omega) (by omega)) ?_
   refine OD.rE 1 [(1,.int .i32 r),(2,.loc 0 0),(8,.sl 2 set.length (set.flatMap X0s)),(9,.i64 set.length),(10,.i64 ((i+1:Nat):Int))] ?_
   refine OD.nilW [1,2,8,9,10] 1 (E':=[(1,.int .i32 r),(2,.loc 0 0),(8,.sl 2 set.length (set.flatMap X0s)),(9,.i64 set.length),(10,.i64 ((i+1:Nat):Int))]) (by kernel_rfl) (by simp [hg0]) (by kernel_rfl) ?_
   exact⟨_,by omega,i+1,(by kernel_rfl),by omega,by rw [hr,hd,X4P];simp only [h1,h2,bs,decide_true,decide_false,if_true,if_false,reduceIte],rfl⟩
 ·
  refine CD.exit ?_
  refine CD.seq (CD.region ?_)
  refine OD.rE 3 [(4,.bool no)] ?_
  refine OD.nil (CD.ret ?_)
  exact rP (.bool no) (by rw [hr,List.drop_eq_nil_of_le (by omega)];rfl)
end
end Go.Proofs.YtiebldaihnbkmaaGreatDoor
set_option maxRecDepth 100000
set_option maxHeartbeats 4000000
namespace Go.Proofs.YtiebldaihnbkmaaGreatDoor
open Go.Vai Go.Nfa
noncomputable section
end
end Go.Proofs.YtiebldaihnbkmaaGreatDoor
