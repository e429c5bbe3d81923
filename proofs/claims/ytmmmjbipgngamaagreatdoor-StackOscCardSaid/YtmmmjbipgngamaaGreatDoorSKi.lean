/-
  What is proved here: what a text's OSC is made of; what is found after one push. what goes to the outside is, decoded, what was taken (a walk that a program of mine has printed). No conditions but those that the theorems state.
-/
import Derived.Test.YtmmmjbipgngamaaGreatDoorSKg
set_option linter.unusedVariables false
set_option linter.unusedSimpArgs false
namespace Go.Proofs.YtmmmjbipgngamaaGreatDoor
open Go.Vai Go.RowKit
noncomputable section
theorem X7r (s:ByteArray) (i j:Nat):(s.extract i j).data.toList=(s.data.toList.take j).drop i:=by
 rw [ByteArray.data_extract,Array.toList_extract,List.extract_eq_take_drop,List.drop_take]
theorem X2H (s:ByteArray):s.size=s.data.toList.length:=by rw [Array.length_toList];rfl
theorem X32 (x:ByteArray):(X1p x).data.toList=([27,93,53,50,59,99,59]++(b64 x).data.toList)++[7]:=by
 unfold X1p
 rw [ByteArray.data_append,Array.toList_append,ByteArray.data_append,Array.toList_append]
theorem X33 (x:ByteArray):(X1p x).size=8+(b64 x).size:=by
 rw [X2H,X32,List.length_append,List.length_append,X2H (b64 x)]
 simp only [List.length_cons,List.length_nil];omega
theorem X4F (x:ByteArray):(X1p x).extract 0 7=(⟨#[27,93,53,50,59,99,59]⟩:ByteArray):=by
 refine Go.WideShapes.bytes_inj ?_
 rw [X7r,X32]
 rfl
theorem XCS (x:ByteArray):(X1p x).extract 7 ((X1p x).size - 1)=b64 x:=by
 refine Go.WideShapes.bytes_inj ?_
 rw [X7r,X32,X33,X2H (b64 x)]
 have h:([27,93,53,50,59,99,59]++(b64 x).data.toList).length=8+(b64 x).data.toList.length - 1:=by
  rw [List.length_append];simp only [List.length_cons,List.length_nil];omega
 rw [← h,List.take_append_of_le_length (Nat.le_refl _),List.take_length]
 rfl
theorem XCT {s:ByteArray} {i:Nat} (h:i<s.size):sB s i=(s.data.toList.getD i 0).toNat:=by
 unfold sB
 rw [dif_pos h,List.getD_eq_getElem?_getD,List.getElem?_eq_getElem (by rw [← X2H];exact h)]
 rfl
theorem X34 (x:ByteArray):sB (X1p x) ((X1p x).size - 1)=7:=by
 rw [XCT (by rw [X33];omega),X32,X33,X2H (b64 x)]
 have h:8+(b64 x).data.toList.length - 1=([27,93,53,50,59,99,59]++(b64 x).data.toList).length:=by
  rw [List.length_append];simp only [List.length_cons,List.length_nil];omega
 rw [h,List.getD_eq_getElem?_getD,List.getElem?_append_right (Nat.le_refl _),Nat.sub_self]
 rfl
theorem XDV {room:Int} {n t:ByteArray} {l2:List X0o} (hr:1≤room) (h:EvR room [(n,t,true)] l2):l2=[(n,t,true)]:=by
 rcases h with⟨_,h⟩ | ⟨h,_⟩
 · exact h
 ·
  have:X0g [(n,t,true)] true=1:=rfl
  rw [this]at h;omega
theorem XCU {n t:ByteArray} (hn:¬ n=ByteArray.empty):X9y [(n,t,true)] n=(X1p t,true):=by
 have hf:X0z [(n,t,true)] n=0:=X62 (l:=[(n,t,true)]) (i:=0) (by simp) (fun j hj=>by omega) rfl
 unfold X9y X4A
 simp only [if_neg hn,hf]
 rfl
theorem XAh:X9y [] ByteArray.empty=(ByteArray.empty,false):=by
 unfold X9y X54
 simp
theorem XAi (room:Int) (n0:Nat) (l rest:List X0o):FnD P ov 12 [.loc 0 0,.str ByteArray.empty] [.box [.int .i64 room,.int .i64 ((n0:Nat):Int),.row 1 0 l.length (l.length+rest.length)],.row 3 (l.length+rest.length) ((l++rest).flatMap X0N)]
  fun r L1=>r=.str ByteArray.empty∧L1=[.box [.int .i64 room,.int .i64 ((n0:Nat):Int),.row 1 0 l.length (l.length+rest.length)],.row 3 (l.length+rest.length) ((l++rest).flatMap X0N)]:=by
 refine FnD.intro (by kernel_rfl) (fn:=Tryz.f12) (by kernel_rfl) rfl (by kernel_rfl) fun M a0 g0 hg0=>?_
 refine CD.seq ?_
 refine CD.region ?_
 refine OD.runE 1 [0,1] (E':=[(0,.loc 0 0),(1,.str ByteArray.empty)]) (by kernel_rfl) ?_
 refine OD.nil ?_
 refine CD.seq ?_
 refine CD.seq ?_
 refine CD.region ?_
 refine OD.runE 6 [0,1,12] (E':=[(0,.loc 0 0),(1,.str ByteArray.empty),(12,.bool true)]) (by kernel_rfl) ?_
 refine OD.nil ?_
 refine CD.condT rfl ?_
 refine CD.seq ?_
 refine CD.region ?_
 refine OD.runE 1 [4] (E':=[(4,.str ByteArray.empty)]) (by kernel_rfl) ?_
 refine OD.nil ?_
 refine CD.ret ?_
 first | refine X1h ?_ | refine X1i ?_ | (dsimp only;first | refine X1h ?_ | refine X1i ?_)
 refine XBE 2 (r:=.str ByteArray.empty) (L':=[.box [.int .i64 room,.int .i64 ((n0:Nat):Int),.row 1 0 l.length (l.length+rest.length)],.row 3 (l.length+rest.length) ((l++rest).flatMap X0N)]) (by kernel_rfl) ?_ ?_ (by kernel_rfl) (by kernel_rfl) ?_
 · exact Nat.le_of_ble_eq_true (by kernel_rfl)
 · exact Nat.le_of_ble_eq_true (by kernel_rfl)
 · exact⟨rfl,rfl⟩
end
end Go.Proofs.YtmmmjbipgngamaaGreatDoor
set_option maxRecDepth 100000
set_option maxHeartbeats 4000000
namespace Go.Proofs.YtmmmjbipgngamaaGreatDoor
open Go.Vai Go.RowKit
noncomputable section
theorem XAj (s:ByteArray) (c:Nat):X2m P ov 11 [.str s,.int .i64 ((c:Nat):Int)] (.str (s.extract 0 (min s.size c))):=by
 refine FnD.intro (by kernel_rfl) (fn:=Tryz.f11) (by kernel_rfl) rfl (by kernel_rfl) fun M a0 g0 hg0=>?_
 refine CD.seq ?_
 refine CD.region ?_
 refine OD.runE 1 [0,1] (E':=[(0,.str s),(1,.int .i64 ((c:Nat):Int))]) (by kernel_rfl) ?_
 refine OD.nil ?_
 refine CD.seq ?_
 refine CD.region ?_
 refine OD.runE 5 [5,9] (E':=[(5,.str s),(9,.int .i64 (min (((s.size:Nat):Int):Int) ((c:Nat):Int)))]) (by kernel_rfl) ?_
 refine OD.is 9 rfl XC4 ?_
 refine OD.runE 0 [5,9] (E':=[(5,.str s),(9,.int .i64 ((min s.size c:Nat):Int))]) (by kernel_rfl) ?_
 refine OD.slS (lw:=0) (u:=(min s.size c)) rfl (by kernel_rfl) (.inl ⟨rfl,rfl⟩) (.inr ⟨_,_,rfl,rfl⟩) (by omega) (by omega) ?_
 refine OD.runE 1 [4] (E':=[(4,.str (s.extract 0 (min s.size c)))]) (by kernel_rfl) ?_
 refine OD.nil ?_
 refine CD.ret ?_
 exact X5X (by kernel_rfl) (by kernel_rfl) (r:=.str (s.extract 0 (min s.size c))) (rfl)
theorem X78 (t:ByteArray) (hts:t.size≤140737488351232):X2m P ov 5 [.str t] (.bool true):=by
 refine FnD.intro (by kernel_rfl) (fn:=Tryz.f5) (by kernel_rfl) rfl (by kernel_rfl) fun M a0 g0 hg0=>?_
 refine CD.seq ?_
 refine CD.region ?_
 refine OD.runE 1 [0] (E':=[(0,.str t)]) (by kernel_rfl) ?_
 refine OD.nil ?_
 refine CD.seq ?_
 refine CD.region ?_
 refine OD.callE (XAc) rfl (by kernel_rfl) (by kernel_rfl) (by kernel_rfl) ?_
 refine OD.runE 1 [0,3] (E':=[(0,.str t),(3,.bool true)]) (by kernel_rfl) ?_
 refine OD.nil ?_
 refine CD.seq ?_
 refine CD.seq ?_
 refine CD.region ?_
 refine OD.runE 2 [0,12] (E':=[(0,.str t),(12,.bool false)]) (by kernel_rfl) ?_
 refine OD.nil ?_
 refine CD.condF rfl ?_
 refine CD.skip ?_
 refine CD.seq ?_
 refine CD.region ?_
 refine OD.runE 1 [13] (E':=[(13,.str t)]) (by kernel_rfl) ?_
 refine OD.callE (XAj t 60) rfl (by kernel_rfl) (by kernel_rfl) (by kernel_rfl) ?_
 refine OD.runE 1 [0] (E':=[(0,.str (t.extract 0 (min t.size 60)))]) (by kernel_rfl) ?_
 obtain⟨x,hx⟩:∃ x,x=(t.extract 0 (min t.size 60)):=⟨_,rfl⟩
 have hxs:x.size≤60:=by rw [hx,ByteArray.size_extract];omega
 refine OD.is 0 rfl (congrArg D.str hx.symm) ?_
 refine OD.runE 0 [0] (E':=[(0,.str x)]) (by kernel_rfl) ?_
 refine OD.nil ?_
 refine CD.seq ?_
 refine CD.region ?_
 refine OD.callO [] (ds:=[.int .i64 3]) (X7S 3) rfl (by kernel_rfl) (by kernel_rfl) (by kernel_rfl) (by kernel_rfl) (by kernel_rfl) (fun r L1 hr=>?_)
 obtain⟨rfl,rfl⟩:=hr
 refine OD.runE 1 [0,4] (E':=[(0,.str x),(4,.loc 0 0)]) (by kernel_rfl) ?_
 refine OD.nil ?_
 refine CD.seq ?_
 refine CD.region ?_
 refine OD.runE 2 [0,4,16,17] (E':=[(0,.str x),(4,.loc 0 0),(16,.loc 0 0),(17,.str x)]) (by kernel_rfl) ?_
 by_cases hxe:x=ByteArray.empty
 ·
  subst hxe
  refine OD.callO [0,1] (ds:=[.loc 0 0,.str ByteArray.empty]) (XAi 3 0 [] []) rfl (by kernel_rfl) (by kernel_rfl) (by kernel_rfl) (by kernel_rfl) (by kernel_rfl) (fun r L1 hr=>?_)
  obtain⟨rfl,rfl⟩:=hr
  refine OD.runE 1 [0,4,5] (E':=[(0,.str ByteArray.empty),(4,.loc 0 0),(5,.str ByteArray.empty)]) (by kernel_rfl) ?_
  refine OD.nil ?_
  refine CD.seq ?_
  refine CD.region ?_
  refine OD.runE 2 [0,5,20,21] (E':=[(0,.str ByteArray.empty),(5,.str ByteArray.empty),(20,.loc 0 0),(21,.str ByteArray.empty)]) (by kernel_rfl) ?_
  have hosc:=XBK 3 0 ([]:List X0o) ByteArray.empty (show 0≤1000000 by decide) (by intro e he;cases he)
  rw [XAh]at hosc
  refine OD.callFz (jb:=0) (jr:=1) (o:=0) (n:=0) (c:=0) (e:=3) (N:=0) (d0:=.int .i64 3) (d1:=.int .i64 0) (cells:=(([]:List X0o)++([]:List X0o)).flatMap X0N) (rest:=[.str ByteArray.empty]) (R:=fun r=>r=.tup [.str ByteArray.empty,.bool false]) hosc rfl (by kernel_rfl) rfl rfl rfl rfl (by kernel_rfl) (X66 ([]:List X0o) []) (by omega) (by kernel_rfl) (fun r hr=>by rw [hr];rfl) (fun r hr=>?_)
  subst hr
  refine OD.runE 5 [0,5,6,7] (E':=[(0,.str ByteArray.empty),(5,.str ByteArray.empty),(6,.str ByteArray.empty),(7,.bool false)]) (by kernel_rfl) ?_
  refine OD.nil ?_
  refine CD.seq ?_
  refine CD.seq ?_
  refine CD.region ?_
  refine OD.runE 2 [0,5,6,7,26] (E':=[(0,.str ByteArray.empty),(5,.str ByteArray.empty),(6,.str ByteArray.empty),(7,.bool false),(26,.bool true)]) (by kernel_rfl) ?_
  refine OD.nil ?_
  refine CD.condT rfl ?_
  refine CD.seq ?_
  refine CD.region ?_
  refine OD.runE 7 [2] (E':=[(2,.bool true)]) (by kernel_rfl) ?_
  refine OD.nil ?_
  refine CD.ret ?_
  exact X5X (by kernel_rfl) (by kernel_rfl) (r:=.bool true) (rfl)
 ·
  refine OD.callO [0,1] (ds:=[.loc 0 0,.str x]) (XCR 3 0 [] [] x hxe (by omega) (by decide) (by decide) (by decide) (by decide)) rfl (by kernel_rfl) (by kernel_rfl) (by kernel_rfl) (by kernel_rfl) (by kernel_rfl) (fun r L1 hr=>?_)
  obtain⟨k,l2,r2,hk,he,hz,rfl,rfl⟩:=hr
  obtain rfl:=XDV (by omega) he
  refine OD.runE 1 [0,4,5] (E':=[(0,.str x),(4,.loc 0 0),(5,.str (bn k))]) (by kernel_rfl) ?_
  refine OD.nil ?_
  refine CD.seq ?_
  refine CD.region ?_
  refine OD.runE 2 [0,5,20,21] (E':=[(0,.str x),(5,.str (bn k)),(20,.loc 0 0),(21,.str (bn k))]) (by kernel_rfl) ?_
  have hosc:=XBK 3 ((k+1:Nat):Int) [(bn k,x,true)] (bn k) (show 1≤1000000 by decide) (by intro e he;rw [List.mem_singleton.1 he];show x.size≤1000;omega)
  rw [XCU (X9N k)]at hosc
  refine OD.callFz (jb:=0) (jr:=1) (o:=0) (n:=1) (c:=1+r2.length) (e:=3) (N:=1+r2.length) (d0:=.int .i64 3) (d1:=.int .i64 ((k+1:Nat):Int)) (cells:=([(bn k,x,true)]++r2).flatMap X0N) (rest:=[.str (bn k)]) (R:=fun r=>r=.tup [.str (X1p x),.bool true]) (by have hc:=X3r [(bn k,x,true)] r2;exact hc.symm ▸ hosc) rfl (by kernel_rfl) rfl rfl rfl rfl (by kernel_rfl) (X66 [(bn k,x,true)] r2) (by omega) (by kernel_rfl) (fun r hr=>by rw [hr];rfl) (fun r hr=>?_)
  subst hr
  have hos:=X33 x
  have hbs:=X3s x
  refine OD.runE 5 [0,5,6,7] (E':=[(0,.str x),(5,.str (bn k)),(6,.str (X1p x)),(7,.bool true)]) (by kernel_rfl) ?_
  refine OD.nil ?_
  refine CD.seq ?_
  refine CD.seq ?_
  refine CD.region ?_
  refine OD.runE 1 [0,5,6,7,25] (E':=[(0,.str x),(5,.str (bn k)),(6,.str (X1p x)),(7,.bool true),(25,.str x)]) (by kernel_rfl) ?_
  refine OD.eqS rfl rfl ?_
  refine OD.runE 0 [0,5,6,7,26] (E':=[(0,.str x),(5,.str (bn k)),(6,.str (X1p x)),(7,.bool true),(26,.bool (decide (x=ByteArray.empty)))]) (by kernel_rfl) ?_
  refine OD.nil ?_
  refine CD.condP rfl (fun h1=>?_) (fun h1=>?_)
  ·
   refine CD.seq ?_
   refine CD.region ?_
   refine OD.runE 1 [7,27] (E':=[(7,.bool true),(27,.str (bn k))]) (by kernel_rfl) ?_
   refine OD.eqS rfl rfl ?_
   refine OD.runE 1 [7,29] (E':=[(7,.bool true),(29,.bool (decide ((bn k)=ByteArray.empty)))]) (by kernel_rfl) ?_
   refine OD.ifP 29 rfl (fun h2=>?_) (fun h2=>?_)
   ·
    refine OD.runE 4 [2] (E':=[(2,.bool false)]) (by kernel_rfl) ?_
    refine OD.nil ?_
    refine CD.ret ?_
    exact X5X (by kernel_rfl) (by kernel_rfl) (r:=.bool false) (by exfalso;first | omega | exact absurd (X4F x) (by assumption) | exact hxe (by assumption) | (have:=X34 x;omega))
   ·
    refine OD.runE 4 [2] (E':=[(2,.bool false)]) (by kernel_rfl) ?_
    refine OD.nil ?_
    refine CD.ret ?_
    exact X5X (by kernel_rfl) (by kernel_rfl) (r:=.bool false) (by exfalso;first | omega | exact absurd (X4F x) (by assumption) | exact hxe (by assumption) | (have:=X34 x;omega))
  ·
   refine CD.skip ?_
   refine CD.seq ?_
   refine CD.seq ?_
   refine CD.region ?_
   refine OD.runE 8 [0,6,40] (E':=[(0,.str x),(6,.str (X1p x)),(40,.bool (decide (((((X1p x).size:Nat):Int):Int)<8)))]) (by kernel_rfl) ?_
   refine OD.ifP 40 rfl (fun h3=>?_) (fun h3=>?_)
   ·
    refine OD.runE 12 [0,6,52] (E':=[(0,.str x),(6,.str (X1p x)),(52,.bool true)]) (by kernel_rfl) ?_
    refine OD.nil ?_
    refine CD.condT rfl ?_
    refine CD.seq ?_
    refine CD.region ?_
    refine OD.runE 1 [2] (E':=[(2,.bool false)]) (by kernel_rfl) ?_
    refine OD.nil ?_
    refine CD.ret ?_
    exact X5X (by kernel_rfl) (by kernel_rfl) (r:=.bool false) (by exfalso;first | omega | exact absurd (X4F x) (by assumption) | exact hxe (by assumption) | (have:=X34 x;omega))
   ·
    refine OD.runE 1 [0,6,40,41] (E':=[(0,.str x),(6,.str (X1p x)),(40,.bool false),(41,.str (X1p x))]) (by kernel_rfl) ?_
    refine OD.guard rfl rfl ?_
    refine OD.slS (lw:=0) (u:=7) rfl (by kernel_rfl) (.inl ⟨rfl,rfl⟩) (.inr ⟨_,_,rfl,rfl⟩) (by omega) (by omega) ?_
    refine OD.runE 0 [0,6,40,42] (E':=[(0,.str x),(6,.str (X1p x)),(40,.bool false),(42,.str ((X1p x).extract 0 7))]) (by kernel_rfl) ?_
    refine OD.guard rfl rfl ?_
    refine OD.neS rfl rfl ?_
    refine OD.runE 2 [0,6,45] (E':=[(0,.str x),(6,.str (X1p x)),(45,.bool (decide (¬ ((X1p x).extract 0 7)=(⟨#[27,93,53,50,59,99,59]⟩:ByteArray))))]) (by kernel_rfl) ?_
    refine OD.ifP 45 rfl (fun h4=>?_) (fun h4=>?_)
    ·
     refine OD.runE 7 [0,6,52] (E':=[(0,.str x),(6,.str (X1p x)),(52,.bool true)]) (by kernel_rfl) ?_
     refine OD.nil ?_
     refine CD.condT rfl ?_
     refine CD.seq ?_
     refine CD.region ?_
     refine OD.runE 1 [2] (E':=[(2,.bool false)]) (by kernel_rfl) ?_
     refine OD.nil ?_
     refine CD.ret ?_
     exact X5X (by kernel_rfl) (by kernel_rfl) (r:=.bool false) (by exfalso;first | omega | exact absurd (X4F x) (by assumption) | exact hxe (by assumption) | (have:=X34 x;omega))
    ·
     refine OD.runE 4 [0,6,45,46,49] (E':=[(0,.str x),(6,.str (X1p x)),(45,.bool false),(46,.str (X1p x)),(49,.int .i64 (X1E .i64 ((((X1p x).size:Nat):Int) - 1)))]) (by kernel_rfl) ?_
     refine OD.is 49 rfl (wrn (m:=((X1p x).size) - 1) (by omega) (by omega)) ?_
     refine OD.runE 0 [0,6,45,46,49] (E':=[(0,.str x),(6,.str (X1p x)),(45,.bool false),(46,.str (X1p x)),(49,.int .i64 ((((X1p x).size) - 1:Nat):Int))]) (by kernel_rfl) ?_
     refine OD.guard rfl rfl ?_
     refine OD.ixS (i:=(((X1p x).size) - 1)) rfl rfl (by kernel_rfl) (by omega) (by omega) (fun hb1=>?_)
     refine OD.runE 2 [0,6,52] (E':=[(0,.str x),(6,.str (X1p x)),(52,.bool (decide (¬ (((sB (X1p x) (((X1p x).size) - 1):Nat):Int):Int)=7)))]) (by kernel_rfl) ?_
     refine OD.nil ?_
     refine CD.condP rfl (fun h5=>?_) (fun h5=>?_)
     ·
      refine CD.seq ?_
      refine CD.region ?_
      refine OD.runE 1 [2] (E':=[(2,.bool false)]) (by kernel_rfl) ?_
      refine OD.nil ?_
      refine CD.ret ?_
      exact X5X (by kernel_rfl) (by kernel_rfl) (r:=.bool false) (by exfalso;first | omega | exact absurd (X4F x) (by assumption) | exact hxe (by assumption) | (have:=X34 x;omega))
     ·
      refine CD.skip ?_
      refine CD.seq ?_
      refine CD.region ?_
      refine OD.runE 4 [0,54,57] (E':=[(0,.str x),(54,.str (X1p x)),(57,.int .i64 (X1E .i64 ((((X1p x).size:Nat):Int) - 1)))]) (by kernel_rfl) ?_
      refine OD.is 57 rfl (wrn (m:=((X1p x).size) - 1) (by omega) (by omega)) ?_
      refine OD.runE 0 [0,54,57] (E':=[(0,.str x),(54,.str (X1p x)),(57,.int .i64 ((((X1p x).size) - 1:Nat):Int))]) (by kernel_rfl) ?_
      refine OD.slS (lw:=7) (u:=(((X1p x).size) - 1)) rfl (by kernel_rfl) (.inr ⟨_,_,rfl,rfl⟩) (.inr ⟨_,_,rfl,rfl⟩) (by omega) (by omega) ?_
      refine OD.runE 0 [0,58] (E':=[(0,.str x),(58,.str ((X1p x).extract 7 (((X1p x).size) - 1)))]) (by kernel_rfl) ?_
      refine OD.is 58 rfl (congrArg D.str (XCS x)) ?_
      refine OD.callE (XCQ x (by omega)) rfl (by kernel_rfl) (by kernel_rfl) (by kernel_rfl) ?_
      refine OD.runE 5 [0,8,9] (E':=[(0,.str x),(8,.str x),(9,.bool true)]) (by kernel_rfl) ?_
      refine OD.nil ?_
      refine CD.seq ?_
      refine CD.region ?_
      refine OD.runE 4 [63,64,65] (E':=[(63,.bool true),(64,.str x),(65,.str x)]) (by kernel_rfl) ?_
      refine OD.guard rfl rfl ?_
      refine OD.eqS rfl rfl ?_
      refine OD.runE 2 [2] (E':=[(2,.bool (decide (x=x)))]) (by kernel_rfl) ?_
      refine OD.nil ?_
      refine CD.ret ?_
      exact X5X (by kernel_rfl) (by kernel_rfl) (r:=.bool (decide (x=x))) (congrArg D.bool (decide_eq_true rfl))
end
end Go.Proofs.YtmmmjbipgngamaaGreatDoor
