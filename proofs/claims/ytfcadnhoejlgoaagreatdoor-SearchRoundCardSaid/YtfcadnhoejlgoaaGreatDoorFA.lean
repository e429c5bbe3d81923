/-
  What is proved here: where the walks of find begin; what a pattern's machine is told by (plain law, no program in sight). what functions of the pattern's package come to (walks that a program of mine has printed). No conditions but those that the theorems state.
-/
import Derived.Test.YtfcadnhoejlgoaaGreatDoorPureAlt
import Derived.Test.YtfcadnhoejlgoaaGreatDoorPGa
import Derived.Test.YtfcadnhoejlgoaaGreatDoorNR
import Derived.Test.YtfcadnhoejlgoaaGreatDoorNQ
import Derived.Test.YtfcadnhoejlgoaaGreatDoorNT
import Derived.Test.YtfcadnhoejlgoaaGreatDoorRI
set_option linter.unusedVariables false
set_option linter.unusedSimpArgs false
namespace Go.Vai
open Go.Nfa Go.Utf
def XCD (h:XKt):D:=.tup [.int .i64 h.1,.int .i64 h.2.1,.bool h.2.2]
theorem XCE (l:List Int) (N:Nd) (a:Int):∃ m:Nat,max a 0=(m:Int)∧X9J l N a=X54 l N (l.length - m) m :=
 ⟨(max a 0).toNat,by omega,rfl⟩
theorem XCF (l:List Int) (N:Nd) (a:Int):∃ m:Nat,min (max a 0) (l.length:Int)=(m:Int)∧m≤l.length∧X9K l N a=X5d l N m :=
 ⟨(min (max a 0) (l.length:Int)).toNat,by omega,by omega,rfl⟩
theorem XHp {l:List Int} {N:Nd} {a:Int} (h:¬ (X0S l N a).length=0):atR l N a=(((X0S l N a).getD ((X0S l N a).length - 1) 0:Nat):Int) - a:=XGq h rfl
def XId (t:ByteArray):D→List Ob→Prop:=fun r L1 =>
 (∃ N:Nd,(∀ M,X2g t=some M→¬ (wr K14 1000000 M≤400∧X77 M≤10))∧r=.tup [.agg (X0z N),.lit (.pointer none),.bool false]∧L1=[]) ∨
 (∃ (N:Nd) (n1:Nat),X2g t=some N∧(X0F K14 N).1.length=n1∧wp K14 20001 N≤20000∧X77 N≤10∧r=.tup [.agg (X0z N),.loc 3 0,.bool true] ∧
  L1=[.box (X0z N),.box (X0z N),.box (X0z N),.box [.sl 9 n1 ((X0F K14 N).1.flatMap X03),.int .i64 (((X0F K14 N).2:Nat):Int),.int .i64 ((wp K14 20001 N:Nat):Int)]])
theorem XCG {t:ByteArray} (h:X2g t=none) {N:Nd}:XId t (.tup [.agg (X0z N),.lit (.pointer none),.bool false]) []:=.inl ⟨N,⟨fun M e=>(by rw [h]at e;cases e),rfl,rfl⟩⟩
theorem X8w {t:ByteArray} {N:Nd} (h:X2g t=some N) (b:¬ (wr K14 1000000 N≤400∧X77 N≤10)):XId t (.tup [.agg (X0z N),.lit (.pointer none),.bool false]) []:=.inl ⟨N,⟨fun M e=>(by rw [h]at e;cases e;exact b),rfl,rfl⟩⟩
end Go.Vai
set_option maxRecDepth 100000
set_option maxHeartbeats 4000000
namespace Go.Proofs.YtfcadnhoejlgoaaGreatDoor
open Go.Vai Go.Nfa
noncomputable section
theorem XL5 (k:Int) (set:List (Int×Int)) (no:Bool) (kids:List Nd) (mn mx:Int) (l:List Int) (a:Int) (hf:fit (.mk k set no kids mn mx)) (hal:X0H X16 (.mk k set no kids mn mx)) (hlb:l.length≤1000000):X1K P ov 17 [.agg [.i64 k,.sl 2 set.length (set.flatMap X0K),.bool no,.sl 6 kids.length (X0G kids),.i64 mn,.i64 mx],.sl 1 l.length (l.map (D.int .i32)),.i64 a] (.i64 (atR l (.mk k set no kids mn mx) a)):=by
 refine FnD.intro (by kernel_rfl) (fn:=Tryz.f17) (by kernel_rfl) rfl (by kernel_rfl) fun M a0 g0 hg0=>?_
 refine CD.seq (CD.region ?_)
 refine OD.rL 2 [(1,.vI l),(2,.i64 a),(3,.loc 0 0)] [.box (cN k set no kids mn mx)] ?_
 refine OD.nil (CD.seq (CD.region ?_))
 refine OD.rE 3 [(2,.i64 a),(8,.agg (cN k set no kids mn mx)),(9,.vI l),(10,.i64 a)] ?_
 refine OD.cE (XGM k set no kids mn mx l a hf hal (by omega)) ?_
 refine OD.rE 1 [(2,.i64 a),(7,.sl 1 ((X0S l (.mk k set no kids mn mx) a).length) ((X0S l (.mk k set no kids mn mx) a).map X0h))] ?_
 refine OD.nil (CD.seq (CD.seq (CD.region ?_)))
 refine OD.rE 3 [(2,.i64 a),(7,.sl 1 ((X0S l (.mk k set no kids mn mx) a).length) ((X0S l (.mk k set no kids mn mx) a).map X0h)),(14,.bool (decide (((((X0S l (.mk k set no kids mn mx) a).length:Nat):Int):Int)=0)))] ?_
 refine OD.nil ?_
 refine CD.condP rfl (fun h1=>?_) (fun h1=>?_)
 ·
  refine CD.seq (CD.region ?_)
  refine OD.rE 1 [(6,.i64 0)] ?_
  refine OD.nil (CD.ret ?_)
  exact rP (.i64 0) (congrArg (D.int .i64) ((XBZ (by omega)).symm))
 ·
  refine CD.skip (CD.seq (CD.region ?_))
  have hel:=X99 l (.mk k set no kids mn mx) a hal
  have hlb2:=XBa (l:=l) (N:=(.mk k set no kids mn mx)) (a:=a) (x:=(X0S l (.mk k set no kids mn mx) a).length - 1) hal (by omega)
  refine OD.rE 4 [(2,.i64 a),(15,.sl 1 ((X0S l (.mk k set no kids mn mx) a).length) ((X0S l (.mk k set no kids mn mx) a).map X0h)),(18,.i64 (X09 .i64 ((((X0S l (.mk k set no kids mn mx) a).length:Nat):Int) - 1)))] ?_
  refine OD.is 18 rfl (wrn (m:=((X0S l (.mk k set no kids mn mx) a).length) - 1) (by omega) (by omega)) ?_
  refine OD.rE 0 [(2,.i64 a),(15,.sl 1 ((X0S l (.mk k set no kids mn mx) a).length) ((X0S l (.mk k set no kids mn mx) a).map X0h)),(18,.i64 ((((X0S l (.mk k set no kids mn mx) a).length) - 1:Nat):Int))] ?_
  refine OD.idxSV (i:=(((X0S l (.mk k set no kids mn mx) a).length) - 1)) rfl rfl (by kernel_rfl) (by omega) (by omega) ?_
  refine OD.rE 0 [(2,.i64 a),(19,.ep 1 ((X0S l (.mk k set no kids mn mx) a).length) ((X0S l (.mk k set no kids mn mx) a).map X0h) (((X0S l (.mk k set no kids mn mx) a).length) - 1))] ?_
  refine OD.ldSV 0 (f:=X0h) (xs:=(X0S l (.mk k set no kids mn mx) a)) rfl (by kernel_rfl) (by first | omega | (simp<;>omega)) ?_
  refine OD.rE 2 [(22,.i64 (X09 .i64 (((((X0S l (.mk k set no kids mn mx) a).getD (((X0S l (.mk k set no kids mn mx) a).length) - 1) 0):Nat):Int) - a)))] ?_
  refine OD.is 22 rfl (X5e (by omega) (by omega)) ?_
  refine OD.rE 1 [(6,.i64 (((((X0S l (.mk k set no kids mn mx) a).getD (((X0S l (.mk k set no kids mn mx) a).length) - 1) 0):Nat):Int) - a))] ?_
  refine OD.nil (CD.ret ?_)
  exact rP (.i64 (((((X0S l (.mk k set no kids mn mx) a).getD (((X0S l (.mk k set no kids mn mx) a).length) - 1) 0):Nat):Int) - a)) (congrArg (D.int .i64) ((XHp (by omega)).symm))
theorem XL6 (k:Int) (set:List (Int×Int)) (no:Bool) (kids:List Nd) (mn mx:Int) (n1:Nat) (l:List Int) (a:Int) (hf:fit (.mk k set no kids mn mx)) (hal:X0H X16 (.mk k set no kids mn mx)) (hn1:(X0F K14 (.mk k set no kids mn mx)).1.length=n1) (hsb:n1≤1000000) (hlb:l.length≤1000000):FnD P ov 16 [.loc 0 0,.sl 1 l.length (l.map (D.int .i32)),.i64 a] [.box [.sl 9 n1 (((X0F K14 (.mk k set no kids mn mx)).1).flatMap X03),.i64 (((X0F K14 (.mk k set no kids mn mx)).2:Nat):Int),.i64 ((wp K14 20001 (.mk k set no kids mn mx):Nat):Int)]] (fun r L1=>r=.i64 (atR l (.mk k set no kids mn mx) a)∧L1=[.box [.sl 9 n1 (((X0F K14 (.mk k set no kids mn mx)).1).flatMap X03),.i64 (((X0F K14 (.mk k set no kids mn mx)).2:Nat):Int),.i64 ((wp K14 20001 (.mk k set no kids mn mx):Nat):Int)]]):=by
 refine FnD.intro (by kernel_rfl) (fn:=Tryz.f16) (by kernel_rfl) rfl (by kernel_rfl) fun M a0 g0 hg0=>?_
 refine CD.seq (CD.region ?_)
 refine OD.rE 1 [(0,.loc 0 0),(1,.vI l),(2,.i64 a)] ?_
 refine OD.nil (CD.seq (CD.region ?_))
 refine OD.rE 3 [(2,.i64 a),(8,.loc 0 0),(9,.vI l),(10,.i64 a)] ?_
 refine OD.cO [0] [.loc 0 0,.vI l,.i64 a] (XJG (.mk k set no kids mn mx) (X0F K14 (.mk k set no kids mn mx)).1 (X0F K14 (.mk k set no kids mn mx)).2 n1 ((wp K14 20001 (.mk k set no kids mn mx):Nat):Int) l a hal rfl (XCT hf) hn1 (by omega) (by omega)) (fun r L1 hr=>?_)
 obtain⟨rfl,rfl⟩:=hr
 refine OD.rE 1 [(2,.i64 a),(7,.sl 1 ((X0S l (.mk k set no kids mn mx) a).length) ((X0S l (.mk k set no kids mn mx) a).map X0h))] ?_
 refine OD.nil (CD.seq (CD.seq (CD.region ?_)))
 refine OD.rE 3 [(2,.i64 a),(7,.sl 1 ((X0S l (.mk k set no kids mn mx) a).length) ((X0S l (.mk k set no kids mn mx) a).map X0h)),(14,.bool (decide (((((X0S l (.mk k set no kids mn mx) a).length:Nat):Int):Int)=0)))] ?_
 refine OD.nil ?_
 refine CD.condP rfl (fun h1=>?_) (fun h1=>?_)
 ·
  refine CD.seq (CD.region ?_)
  refine OD.rE 1 [(6,.i64 0)] ?_
  refine OD.nil (CD.ret ?_)
  (try dsimp only);first | refine X01 ?_ | refine X02 ?_
  exact rO 1 (.i64 0) [.pN (.mk k set no kids mn mx) n1] (⟨congrArg (D.int .i64) ((XBZ (by omega)).symm),rfl⟩)
 ·
  refine CD.skip (CD.seq (CD.region ?_))
  have hel:=X99 l (.mk k set no kids mn mx) a hal
  have hlb2:=XBa (l:=l) (N:=(.mk k set no kids mn mx)) (a:=a) (x:=(X0S l (.mk k set no kids mn mx) a).length - 1) hal (by omega)
  refine OD.rE 4 [(2,.i64 a),(15,.sl 1 ((X0S l (.mk k set no kids mn mx) a).length) ((X0S l (.mk k set no kids mn mx) a).map X0h)),(18,.i64 (X09 .i64 ((((X0S l (.mk k set no kids mn mx) a).length:Nat):Int) - 1)))] ?_
  refine OD.is 18 rfl (wrn (m:=((X0S l (.mk k set no kids mn mx) a).length) - 1) (by omega) (by omega)) ?_
  refine OD.rE 0 [(2,.i64 a),(15,.sl 1 ((X0S l (.mk k set no kids mn mx) a).length) ((X0S l (.mk k set no kids mn mx) a).map X0h)),(18,.i64 ((((X0S l (.mk k set no kids mn mx) a).length) - 1:Nat):Int))] ?_
  refine OD.idxSV (i:=(((X0S l (.mk k set no kids mn mx) a).length) - 1)) rfl rfl (by kernel_rfl) (by omega) (by omega) ?_
  refine OD.rE 0 [(2,.i64 a),(19,.ep 1 ((X0S l (.mk k set no kids mn mx) a).length) ((X0S l (.mk k set no kids mn mx) a).map X0h) (((X0S l (.mk k set no kids mn mx) a).length) - 1))] ?_
  refine OD.ldSV 0 (f:=X0h) (xs:=(X0S l (.mk k set no kids mn mx) a)) rfl (by kernel_rfl) (by first | omega | (simp<;>omega)) ?_
  refine OD.rE 2 [(22,.i64 (X09 .i64 (((((X0S l (.mk k set no kids mn mx) a).getD (((X0S l (.mk k set no kids mn mx) a).length) - 1) 0):Nat):Int) - a)))] ?_
  refine OD.is 22 rfl (X5e (by omega) (by omega)) ?_
  refine OD.rE 1 [(6,.i64 (((((X0S l (.mk k set no kids mn mx) a).getD (((X0S l (.mk k set no kids mn mx) a).length) - 1) 0):Nat):Int) - a))] ?_
  refine OD.nil (CD.ret ?_)
  (try dsimp only);first | refine X01 ?_ | refine X02 ?_
  exact rO 1 (.i64 (((((X0S l (.mk k set no kids mn mx) a).getD (((X0S l (.mk k set no kids mn mx) a).length) - 1) 0):Nat):Int) - a)) [.pN (.mk k set no kids mn mx) n1] (⟨congrArg (D.int .i64) ((XHp (by omega)).symm),rfl⟩)
theorem XIe (k:Int) (set:List (Int×Int)) (no:Bool) (kids:List Nd) (mn mx:Int) (n1:Nat) (l:List Int) (a:Int) (hf:fit (.mk k set no kids mn mx)) (hal:X0H X16 (.mk k set no kids mn mx)) (hn1:(X0F K14 (.mk k set no kids mn mx)).1.length=n1) (hsb:n1≤1000000) (hlb:l.length≤1000000):FnD P ov 12 [.loc 0 0,.sl 1 l.length (l.map (D.int .i32)),.i64 a] [.box [.sl 9 n1 (((X0F K14 (.mk k set no kids mn mx)).1).flatMap X03),.i64 (((X0F K14 (.mk k set no kids mn mx)).2:Nat):Int),.i64 ((wp K14 20001 (.mk k set no kids mn mx):Nat):Int)]] (fun r L1=>r=XCD (X9J l (.mk k set no kids mn mx) a)∧L1=[.box [.sl 9 n1 (((X0F K14 (.mk k set no kids mn mx)).1).flatMap X03),.i64 (((X0F K14 (.mk k set no kids mn mx)).2:Nat):Int),.i64 ((wp K14 20001 (.mk k set no kids mn mx):Nat):Int)]]):=by
 refine FnD.intro (by kernel_rfl) (fn:=Tryz.f12) (by kernel_rfl) rfl (by kernel_rfl) fun M a0 g0 hg0=>?_
 refine CD.seq (CD.region ?_)
 refine OD.rE 3 [(0,.loc 0 0),(1,.vI l),(2,.i64 a)] ?_
 refine OD.nil (CD.seq (CD.seq (CD.region ?_)))
 refine OD.rE 2 [(0,.loc 0 0),(1,.vI l),(12,.i64 (max (a:Int) 0))] ?_
 obtain⟨m0,hm0,hnr⟩:=XCE l (.mk k set no kids mn mx) a
 refine OD.is 12 rfl (congrArg (D.int .i64) hm0) ?_
 refine OD.rE 1 [(0,.loc 0 0),(1,.vI l),(9,.i64 m0)] ?_
 refine OD.nil (CD.block ?_)
 refine CD.weak [0,1,9] 1 (E':=[(0,.loc 0 0),(1,.vI l),(9,.i64 m0)]) (by kernel_rfl) (by simp [hg0]) (by kernel_rfl) ?_
 refine CD.loop (fun m σ=>∃ (i:Nat),σ=⟨[(0,.loc 0 0),(1,.vI l),(9,.i64 i)],[.pN (.mk k set no kids mn mx) n1]⟩∧(X54 l (.mk k set no kids mn mx) (l.length - m0) m0=X54 l (.mk k set no kids mn mx) (l.length - i) i)∧m=l.length - i) (fun m σ hI=>?_) _ ⟨m0,(by kernel_rfl),rfl,rfl⟩
 obtain⟨i,e,hr,hm⟩:=hI
 subst e hm
 refine CD.seq (CD.seq (CD.region ?_))
 refine OD.rE 4 [(0,.loc 0 0),(1,.vI l),(9,.i64 i),(16,.bool (decide ((((i:Nat):Int):Int)<((l.length:Nat):Int))))] ?_
 refine OD.nil ?_
 refine CD.condP rfl (fun h1=>?_) (fun h1=>?_)
 ·
  refine CD.skip (CD.seq (CD.block (CD.seq (CD.region ?_))))
  refine OD.rE 3 [(0,.loc 0 0),(1,.vI l),(9,.i64 i),(19,.loc 0 0),(20,.vI l),(21,.i64 i)] ?_
  refine OD.cO [0] [.loc 0 0,.vI l,.i64 i] (XL6 k set no kids mn mx n1 l ((i:Nat):Int) hf hal hn1 hsb hlb) (fun r L1 hr=>?_)
  obtain⟨rfl,rfl⟩:=hr
  refine OD.rE 1 [(0,.loc 0 0),(1,.vI l),(9,.i64 i),(10,.i64 (atR l (.mk k set no kids mn mx) ((i:Nat):Int)))] ?_
  refine OD.nil (CD.seq (CD.region ?_))
  refine OD.rE 2 [(0,.loc 0 0),(1,.vI l),(9,.i64 i),(10,.i64 (atR l (.mk k set no kids mn mx) ((i:Nat):Int))),(24,.bool (decide ((0:Int)<(atR l (.mk k set no kids mn mx) ((i:Nat):Int)))))] ?_
  refine OD.nil ?_
  refine CD.condP rfl (fun h2=>?_) (fun h2=>?_)
  ·
   refine CD.seq (CD.region ?_)
   refine OD.rE 5 [(6,.i64 i),(7,.i64 (atR l (.mk k set no kids mn mx) ((i:Nat):Int))),(8,.bool true)] ?_
   refine OD.nil (CD.ret ?_)
   (try dsimp only);first | refine X01 ?_ | refine X02 ?_
   exact rO 1 (.tup [.i64 i,.i64 (atR l (.mk k set no kids mn mx) ((i:Nat):Int)),.bool true]) [.pN (.mk k set no kids mn mx) n1] (⟨(congrArg XCD (show X9J l (.mk k set no kids mn mx) a=(((i:Nat):Int),(atR l (.mk k set no kids mn mx) ((i:Nat):Int)),true)from by rw [hnr,hr,XE3 (by omega) h2])).symm,rfl⟩)
  ·
   refine CD.skip (CD.region ?_)
   refine OD.rE 2 [(0,.loc 0 0),(1,.vI l),(18,.i64 (X09 .i64 (((i:Nat):Int)+1)))] ?_
   refine OD.is 18 rfl (wrn (m:=i+1) (by omega) (by omega)) ?_
   refine OD.rE 1 [(0,.loc 0 0),(1,.vI l),(9,.i64 ((i+1:Nat):Int))] ?_
   refine OD.nil ?_
   exact⟨_,by omega,i+1,(by kernel_rfl),by rw [hr,XGr (by omega) h2],rfl⟩
 ·
  refine CD.exit ?_
  refine CD.seq (CD.region ?_)
  refine OD.rE 3 [(6,.i64 0),(7,.i64 0),(8,.bool false)] ?_
  refine OD.nil (CD.ret ?_)
  (try dsimp only);first | refine X01 ?_ | refine X02 ?_
  exact rO 1 (.tup [.i64 0,.i64 0,.bool false]) [.pN (.mk k set no kids mn mx) n1] (⟨(congrArg XCD (show X9J l (.mk k set no kids mn mx) a=(0,0,false)from by rw [hnr,hr,XE2 (by omega)])).symm,rfl⟩)
theorem XIf (k:Int) (set:List (Int×Int)) (no:Bool) (kids:List Nd) (mn mx:Int) (n1:Nat) (l:List Int) (a:Int) (hf:fit (.mk k set no kids mn mx)) (hal:X0H X16 (.mk k set no kids mn mx)) (hn1:(X0F K14 (.mk k set no kids mn mx)).1.length=n1) (hsb:n1≤1000000) (hlb:l.length≤1000000):FnD P ov 14 [.loc 0 0,.sl 1 l.length (l.map (D.int .i32)),.i64 a] [.box [.sl 9 n1 (((X0F K14 (.mk k set no kids mn mx)).1).flatMap X03),.i64 (((X0F K14 (.mk k set no kids mn mx)).2:Nat):Int),.i64 ((wp K14 20001 (.mk k set no kids mn mx):Nat):Int)]] (fun r L1=>r=XCD (X9K l (.mk k set no kids mn mx) a)∧L1=[.box [.sl 9 n1 (((X0F K14 (.mk k set no kids mn mx)).1).flatMap X03),.i64 (((X0F K14 (.mk k set no kids mn mx)).2:Nat):Int),.i64 ((wp K14 20001 (.mk k set no kids mn mx):Nat):Int)]]):=by
 refine FnD.intro (by kernel_rfl) (fn:=Tryz.f14) (by kernel_rfl) rfl (by kernel_rfl) fun M a0 g0 hg0=>?_
 refine CD.seq (CD.region ?_)
 refine OD.rE 3 [(0,.loc 0 0),(1,.vI l),(2,.i64 a)] ?_
 refine OD.nil (CD.seq (CD.seq (CD.region ?_)))
 refine OD.rE 5 [(0,.loc 0 0),(1,.vI l),(15,.i64 (min (max (a:Int) 0:Int) ((l.length:Nat):Int)))] ?_
 obtain⟨m0,hm0,hm1,hlr⟩:=XCF l (.mk k set no kids mn mx) a
 refine OD.is 15 rfl (congrArg (D.int .i64) hm0) ?_
 refine OD.rE 1 [(0,.loc 0 0),(1,.vI l),(16,.i64 (X09 .i64 (((m0:Nat):Int) - 1)))] ?_
 refine OD.is 16 rfl (X5e (by omega) (by omega)) ?_
 refine OD.rE 1 [(0,.loc 0 0),(1,.vI l),(9,.i64 (((m0:Nat):Int) - 1))] ?_
 refine OD.nil (CD.block ?_)
 refine CD.weak [0,1,9] 1 (E':=[(0,.loc 0 0),(1,.vI l),(9,.i64 (((m0:Nat):Int) - 1))]) (by kernel_rfl) (by simp [hg0]) (by kernel_rfl) ?_
 refine CD.loop (fun m σ=>∃ (i:Nat),σ=⟨[(0,.loc 0 0),(1,.vI l),(9,.i64 (((i:Nat):Int) - 1))],[.pN (.mk k set no kids mn mx) n1]⟩∧(i≤l.length)∧(X5d l (.mk k set no kids mn mx) m0=X5d l (.mk k set no kids mn mx) i)∧m=i+1) (fun m σ hI=>?_) _ ⟨m0,(by kernel_rfl),hm1,rfl,rfl⟩
 obtain⟨i,e,hi,hr,hm⟩:=hI
 subst e hm
 refine CD.seq (CD.seq (CD.region ?_))
 refine OD.rE 2 [(0,.loc 0 0),(1,.vI l),(9,.i64 (((i:Nat):Int) - 1)),(18,.bool (decide ((0:Int)≤(((i:Nat):Int) - 1))))] ?_
 refine OD.nil ?_
 refine CD.condP rfl (fun h1=>?_) (fun h1=>?_)
 ·
  refine CD.skip (CD.seq (CD.block (CD.seq (CD.region ?_))))
  obtain⟨j,hj⟩:∃ j,i=j+1:=⟨i - 1,by omega⟩
  refine OD.is 9 rfl (congrArg (D.int .i64) (show((i:Nat):Int) - 1=((j:Nat):Int)by omega)) ?_
  refine OD.rE 3 [(0,.loc 0 0),(1,.vI l),(9,.i64 j),(21,.loc 0 0),(22,.vI l),(23,.i64 j)] ?_
  refine OD.cO [0] [.loc 0 0,.vI l,.i64 j] (XL6 k set no kids mn mx n1 l ((j:Nat):Int) hf hal hn1 hsb hlb) (fun r L1 hr=>?_)
  obtain⟨rfl,rfl⟩:=hr
  refine OD.rE 1 [(0,.loc 0 0),(1,.vI l),(9,.i64 j),(10,.i64 (atR l (.mk k set no kids mn mx) ((j:Nat):Int)))] ?_
  refine OD.nil (CD.seq (CD.region ?_))
  refine OD.rE 2 [(0,.loc 0 0),(1,.vI l),(9,.i64 j),(10,.i64 (atR l (.mk k set no kids mn mx) ((j:Nat):Int))),(26,.bool (decide ((0:Int)<(atR l (.mk k set no kids mn mx) ((j:Nat):Int)))))] ?_
  refine OD.nil ?_
  refine CD.condP rfl (fun h2=>?_) (fun h2=>?_)
  ·
   refine CD.seq (CD.region ?_)
   refine OD.rE 5 [(6,.i64 j),(7,.i64 (atR l (.mk k set no kids mn mx) ((j:Nat):Int))),(8,.bool true)] ?_
   refine OD.nil (CD.ret ?_)
   (try dsimp only);first | refine X01 ?_ | refine X02 ?_
   exact rO 1 (.tup [.i64 j,.i64 (atR l (.mk k set no kids mn mx) ((j:Nat):Int)),.bool true]) [.pN (.mk k set no kids mn mx) n1] (⟨(congrArg XCD (show X9K l (.mk k set no kids mn mx) a=(((j:Nat):Int),(atR l (.mk k set no kids mn mx) ((j:Nat):Int)),true)from by rw [hlr,hr,hj,XE4 h2])).symm,rfl⟩)
  ·
   refine CD.skip (CD.region ?_)
   refine OD.rE 2 [(0,.loc 0 0),(1,.vI l),(20,.i64 (X09 .i64 (((j:Nat):Int) - 1)))] ?_
   refine OD.is 20 rfl (X5e (by omega) (by omega)) ?_
   refine OD.rE 1 [(0,.loc 0 0),(1,.vI l),(9,.i64 (((j:Nat):Int) - 1))] ?_
   refine OD.nil ?_
   exact⟨_,by omega,j,(by kernel_rfl),by omega,by rw [hr,hj,XGs h2],rfl⟩
 ·
  refine CD.exit ?_
  refine CD.seq (CD.region ?_)
  refine OD.rE 3 [(6,.i64 0),(7,.i64 0),(8,.bool false)] ?_
  refine OD.nil (CD.ret ?_)
  (try dsimp only);first | refine X01 ?_ | refine X02 ?_
  exact rO 1 (.tup [.i64 0,.i64 0,.bool false]) [.pN (.mk k set no kids mn mx) n1] (⟨(congrArg XCD (show X9K l (.mk k set no kids mn mx) a=(0,0,false)from by rw [hlr,hr,show i=0 by omega,X5d])).symm,rfl⟩)
end
end Go.Proofs.YtfcadnhoejlgoaaGreatDoor
