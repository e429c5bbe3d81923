/-
  What is proved here: what functions of the pattern's package come to (walks that a program of mine has printed). No conditions.
-/
import Derived.Test.YtiebldaihnbkmaaGreatDoorPLa
import Derived.Test.YtiebldaihnbkmaaGreatDoorNT
set_option linter.unusedVariables false
set_option linter.unusedSimpArgs false
set_option maxRecDepth 100000
set_option maxHeartbeats 4000000
namespace Go.Proofs.YtiebldaihnbkmaaGreatDoor
open Go.Vai Go.Nfa Go.Utf
noncomputable section
theorem XHg (s:ByteArray) (hs:s.size=1) (hf:X38 s):FnD P ov 64 [.str s] [] (fun r L1=>(fun r=>∃ z,r=.int .i32 z∧X0a z) r∧L1=[]):=by
 refine FnD.intro (by kernel_rfl) (fn:=Tryz.f64) (by kernel_rfl) rfl (by kernel_rfl) fun M a0 g0 hg0=>?_
 refine CD.seq ?_
 refine CD.region ?_
 refine OD.runE 1 [0] (E':=[(0,.str s)]) (by kernel_rfl) ?_
 refine OD.nil ?_
 refine CD.seq ?_
 refine CD.seq ?_
 refine CD.region ?_
 refine OD.runE 2 [0,6] (E':=[(0,.str s),(6,.int .i64 ((s.size:Nat):Int))]) (by kernel_rfl) ?_
 refine OD.is 6 rfl (congrArg (fun n:Nat=>D.int .i64 (n:Int)) hs) ?_
 refine OD.runE 1 [0,7] (E':=[(0,.str s),(7,.bool true)]) (by kernel_rfl) ?_
 refine OD.nil ?_
 refine CD.condT rfl ?_
 refine CD.seq ?_
 refine CD.region ?_
 refine OD.runE 1 [8] (E':=[(8,.str s)]) (by kernel_rfl) ?_
 refine OD.ixS (i:=0) rfl rfl (by kernel_rfl) rfl (by omega) (fun hb1=>?_)
 refine OD.runE 1 [10] (E':=[(10,.int .i32 (X05 .i32 (((sB s 0:Nat):Int))))]) (by kernel_rfl) ?_
 refine OD.is 10 rfl (X6F (by omega) (by omega)) ?_
 refine OD.runE 1 [2] (E':=[(2,.int .i32 ((sB s 0:Nat):Int))]) (by kernel_rfl) ?_
 refine OD.nil ?_
 refine CD.ret ?_
 first | refine X01 ?_ | refine X02 ?_ | (dsimp only;first | refine X01 ?_ | refine X02 ?_)
 refine XBN 0 (r:=.int .i32 ((sB s 0:Nat):Int)) (L':=[]) (by kernel_rfl) ?_ ?_ (by kernel_rfl) (by kernel_rfl) ?_
 · exact Nat.le_of_ble_eq_true (by kernel_rfl)
 · exact Nat.le_of_ble_eq_true (by kernel_rfl)
 · exact⟨⟨_,rfl,X46 hf (.inl ⟨hs,rfl⟩)⟩,rfl⟩
theorem XHh (s:ByteArray) (hs:s.size=2) (hf:X38 s):FnD P ov 64 [.str s] [] (fun r L1=>(fun r=>∃ z,r=.int .i32 z∧X0a z) r∧L1=[]):=by
 refine FnD.intro (by kernel_rfl) (fn:=Tryz.f64) (by kernel_rfl) rfl (by kernel_rfl) fun M a0 g0 hg0=>?_
 refine CD.seq ?_
 refine CD.region ?_
 refine OD.runE 1 [0] (E':=[(0,.str s)]) (by kernel_rfl) ?_
 refine OD.nil ?_
 refine CD.seq ?_
 refine CD.seq ?_
 refine CD.region ?_
 refine OD.runE 2 [0,6] (E':=[(0,.str s),(6,.int .i64 ((s.size:Nat):Int))]) (by kernel_rfl) ?_
 refine OD.is 6 rfl (congrArg (fun n:Nat=>D.int .i64 (n:Int)) hs) ?_
 refine OD.runE 1 [0,7] (E':=[(0,.str s),(7,.bool false)]) (by kernel_rfl) ?_
 refine OD.nil ?_
 refine CD.condF rfl ?_
 refine CD.skip ?_
 refine CD.seq ?_
 refine CD.region ?_
 refine OD.runE 1 [0,11] (E':=[(0,.str s),(11,.str s)]) (by kernel_rfl) ?_
 refine OD.ixS (i:=0) rfl rfl (by kernel_rfl) rfl (by omega) (fun hb1=>?_)
 refine OD.runE 1 [0,13] (E':=[(0,.str s),(13,.int .i32 (X05 .i32 (((sB s 0:Nat):Int))))]) (by kernel_rfl) ?_
 refine OD.is 13 rfl (X6F (by omega) (by omega)) ?_
 refine OD.runE 2 [0,13,15] (E':=[(0,.str s),(13,.int .i32 ((sB s 0:Nat):Int)),(15,.int .i64 ((s.size:Nat):Int))]) (by kernel_rfl) ?_
 refine OD.is 15 rfl (congrArg (fun n:Nat=>D.int .i64 (n:Int)) hs) ?_
 refine OD.runE 5 [0,3] (E':=[(0,.str s),(3,.int .i32 (((sB s 0) % 32:Nat):Int))]) (by kernel_rfl) ?_
 refine OD.nil ?_
 refine CD.seq ?_
 refine CD.seq ?_
 refine CD.region ?_
 refine OD.runE 1 [0,3,4] (E':=[(0,.str s),(3,.int .i32 (((sB s 0) % 32:Nat):Int)),(4,.int .i64 1)]) (by kernel_rfl) ?_
 refine OD.nil ?_
 refine CD.block ?_
 refine CD.weak [0,3,4] 0 (E':=[(0,.str s),(3,.int .i32 (((sB s 0) % 32:Nat):Int)),(4,.int .i64 1)]) (by kernel_rfl) (by simp [hg0]) (by kernel_rfl) ?_
 refine CD.loop (fun m σ=>∃ (i:Nat) (z:Int),σ=⟨[(0,.str s),(3,.int .i32 z),(4,.int .i64 ((i:Nat):Int))],[]⟩∧(1≤i∧i≤2)∧(VI s 32 i z)∧m=2 - i) (fun m σ hI=>?_) _ ⟨1,(((sB s 0) % 32:Nat):Int),(by kernel_rfl),⟨by omega,by omega⟩,.inl ⟨rfl,rfl⟩,rfl⟩
 obtain⟨i,z,e,hi,hv,hm⟩:=hI
 subst e hm
 refine CD.seq ?_
 refine CD.seq ?_
 refine CD.region ?_
 refine OD.runE 3 [0,3,4,20,22] (E':=[(0,.str s),(3,.int .i32 z),(4,.int .i64 ((i:Nat):Int)),(20,.int .i64 ((i:Nat):Int)),(22,.int .i64 ((s.size:Nat):Int))]) (by kernel_rfl) ?_
 refine OD.is 22 rfl (congrArg (fun n:Nat=>D.int .i64 (n:Int)) hs) ?_
 refine OD.runE 1 [0,3,4,23] (E':=[(0,.str s),(3,.int .i32 z),(4,.int .i64 ((i:Nat):Int)),(23,.bool (decide ((((i:Nat):Int):Int)<2)))]) (by kernel_rfl) ?_
 refine OD.nil ?_
 refine CD.condP rfl (fun h1=>?_) (fun h1=>?_)
 ·
  refine CD.skip ?_
  refine CD.seq ?_
  refine CD.block ?_
  refine CD.region ?_
  refine OD.runE 4 [0,4,27,28,29] (E':=[(0,.str s),(4,.int .i64 ((i:Nat):Int)),(27,.int .i32 (X05 .i32 (z*64))),(28,.str s),(29,.int .i64 ((i:Nat):Int))]) (by kernel_rfl) ?_
  refine OD.ixS (i:=i) rfl rfl (by kernel_rfl) rfl (by omega) (fun hb2=>?_)
  refine OD.runE 1 [0,4,27,31] (E':=[(0,.str s),(4,.int .i64 ((i:Nat):Int)),(27,.int .i32 (X05 .i32 (z*64))),(31,.int .i32 (X05 .i32 (((sB s i:Nat):Int))))]) (by kernel_rfl) ?_
  refine OD.is 31 rfl (X6F (by omega) (by omega)) ?_
  refine OD.runE 3 [0,3,4] (E':=[(0,.str s),(3,.int .i32 (X05 .i32 ((X05 .i32 (z*64))+(((sB s i) % 64:Nat):Int)))),(4,.int .i64 ((i:Nat):Int))]) (by kernel_rfl) ?_
  refine OD.nil ?_
  refine CD.region ?_
  refine OD.runE 2 [0,3,25] (E':=[(0,.str s),(3,.int .i32 (X05 .i32 ((X05 .i32 (z*64))+(((sB s i) % 64:Nat):Int)))),(25,.int .i64 (X05 .i64 (((i:Nat):Int)+1)))]) (by kernel_rfl) ?_
  refine OD.is 25 rfl (wrn (m:=i+1) (by omega) (by omega)) ?_
  refine OD.runE 1 [0,3,4] (E':=[(0,.str s),(3,.int .i32 (X05 .i32 ((X05 .i32 (z*64))+(((sB s i) % 64:Nat):Int)))),(4,.int .i64 ((i+1:Nat):Int))]) (by kernel_rfl) ?_
  refine OD.nil ?_
  exact⟨_,by omega,i+1,X05 .i32 ((X05 .i32 (z*64))+(((sB s i) % 64:Nat):Int)),(by kernel_rfl),⟨by omega,by omega⟩,hv.next (by decide) (by omega),rfl⟩
 ·
  refine CD.exit ?_
  refine CD.seq ?_
  refine CD.region ?_
  refine OD.runE 2 [2] (E':=[(2,.int .i32 z)]) (by kernel_rfl) ?_
  refine OD.nil ?_
  refine CD.ret ?_
  first | refine X01 ?_ | refine X02 ?_ | (dsimp only;first | refine X01 ?_ | refine X02 ?_)
  refine XBN 0 (r:=.int .i32 z) (L':=[]) (by kernel_rfl) ?_ ?_ (by kernel_rfl) (by kernel_rfl) ?_
  · exact Nat.le_of_ble_eq_true (by kernel_rfl)
  · exact Nat.le_of_ble_eq_true (by kernel_rfl)
  · exact⟨⟨_,rfl,X9C hf hs (by omega) hv⟩,rfl⟩
theorem XHi (s:ByteArray) (hs:s.size=3) (hf:X38 s):FnD P ov 64 [.str s] [] (fun r L1=>(fun r=>∃ z,r=.int .i32 z∧X0a z) r∧L1=[]):=by
 refine FnD.intro (by kernel_rfl) (fn:=Tryz.f64) (by kernel_rfl) rfl (by kernel_rfl) fun M a0 g0 hg0=>?_
 refine CD.seq ?_
 refine CD.region ?_
 refine OD.runE 1 [0] (E':=[(0,.str s)]) (by kernel_rfl) ?_
 refine OD.nil ?_
 refine CD.seq ?_
 refine CD.seq ?_
 refine CD.region ?_
 refine OD.runE 2 [0,6] (E':=[(0,.str s),(6,.int .i64 ((s.size:Nat):Int))]) (by kernel_rfl) ?_
 refine OD.is 6 rfl (congrArg (fun n:Nat=>D.int .i64 (n:Int)) hs) ?_
 refine OD.runE 1 [0,7] (E':=[(0,.str s),(7,.bool false)]) (by kernel_rfl) ?_
 refine OD.nil ?_
 refine CD.condF rfl ?_
 refine CD.skip ?_
 refine CD.seq ?_
 refine CD.region ?_
 refine OD.runE 1 [0,11] (E':=[(0,.str s),(11,.str s)]) (by kernel_rfl) ?_
 refine OD.ixS (i:=0) rfl rfl (by kernel_rfl) rfl (by omega) (fun hb1=>?_)
 refine OD.runE 1 [0,13] (E':=[(0,.str s),(13,.int .i32 (X05 .i32 (((sB s 0:Nat):Int))))]) (by kernel_rfl) ?_
 refine OD.is 13 rfl (X6F (by omega) (by omega)) ?_
 refine OD.runE 2 [0,13,15] (E':=[(0,.str s),(13,.int .i32 ((sB s 0:Nat):Int)),(15,.int .i64 ((s.size:Nat):Int))]) (by kernel_rfl) ?_
 refine OD.is 15 rfl (congrArg (fun n:Nat=>D.int .i64 (n:Int)) hs) ?_
 refine OD.runE 5 [0,3] (E':=[(0,.str s),(3,.int .i32 (((sB s 0) % 16:Nat):Int))]) (by kernel_rfl) ?_
 refine OD.nil ?_
 refine CD.seq ?_
 refine CD.seq ?_
 refine CD.region ?_
 refine OD.runE 1 [0,3,4] (E':=[(0,.str s),(3,.int .i32 (((sB s 0) % 16:Nat):Int)),(4,.int .i64 1)]) (by kernel_rfl) ?_
 refine OD.nil ?_
 refine CD.block ?_
 refine CD.weak [0,3,4] 0 (E':=[(0,.str s),(3,.int .i32 (((sB s 0) % 16:Nat):Int)),(4,.int .i64 1)]) (by kernel_rfl) (by simp [hg0]) (by kernel_rfl) ?_
 refine CD.loop (fun m σ=>∃ (i:Nat) (z:Int),σ=⟨[(0,.str s),(3,.int .i32 z),(4,.int .i64 ((i:Nat):Int))],[]⟩∧(1≤i∧i≤3)∧(VI s 16 i z)∧m=3 - i) (fun m σ hI=>?_) _ ⟨1,(((sB s 0) % 16:Nat):Int),(by kernel_rfl),⟨by omega,by omega⟩,.inl ⟨rfl,rfl⟩,rfl⟩
 obtain⟨i,z,e,hi,hv,hm⟩:=hI
 subst e hm
 refine CD.seq ?_
 refine CD.seq ?_
 refine CD.region ?_
 refine OD.runE 3 [0,3,4,20,22] (E':=[(0,.str s),(3,.int .i32 z),(4,.int .i64 ((i:Nat):Int)),(20,.int .i64 ((i:Nat):Int)),(22,.int .i64 ((s.size:Nat):Int))]) (by kernel_rfl) ?_
 refine OD.is 22 rfl (congrArg (fun n:Nat=>D.int .i64 (n:Int)) hs) ?_
 refine OD.runE 1 [0,3,4,23] (E':=[(0,.str s),(3,.int .i32 z),(4,.int .i64 ((i:Nat):Int)),(23,.bool (decide ((((i:Nat):Int):Int)<3)))]) (by kernel_rfl) ?_
 refine OD.nil ?_
 refine CD.condP rfl (fun h1=>?_) (fun h1=>?_)
 ·
  refine CD.skip ?_
  refine CD.seq ?_
  refine CD.block ?_
  refine CD.region ?_
  refine OD.runE 4 [0,4,27,28,29] (E':=[(0,.str s),(4,.int .i64 ((i:Nat):Int)),(27,.int .i32 (X05 .i32 (z*64))),(28,.str s),(29,.int .i64 ((i:Nat):Int))]) (by kernel_rfl) ?_
  refine OD.ixS (i:=i) rfl rfl (by kernel_rfl) rfl (by omega) (fun hb2=>?_)
  refine OD.runE 1 [0,4,27,31] (E':=[(0,.str s),(4,.int .i64 ((i:Nat):Int)),(27,.int .i32 (X05 .i32 (z*64))),(31,.int .i32 (X05 .i32 (((sB s i:Nat):Int))))]) (by kernel_rfl) ?_
  refine OD.is 31 rfl (X6F (by omega) (by omega)) ?_
  refine OD.runE 3 [0,3,4] (E':=[(0,.str s),(3,.int .i32 (X05 .i32 ((X05 .i32 (z*64))+(((sB s i) % 64:Nat):Int)))),(4,.int .i64 ((i:Nat):Int))]) (by kernel_rfl) ?_
  refine OD.nil ?_
  refine CD.region ?_
  refine OD.runE 2 [0,3,25] (E':=[(0,.str s),(3,.int .i32 (X05 .i32 ((X05 .i32 (z*64))+(((sB s i) % 64:Nat):Int)))),(25,.int .i64 (X05 .i64 (((i:Nat):Int)+1)))]) (by kernel_rfl) ?_
  refine OD.is 25 rfl (wrn (m:=i+1) (by omega) (by omega)) ?_
  refine OD.runE 1 [0,3,4] (E':=[(0,.str s),(3,.int .i32 (X05 .i32 ((X05 .i32 (z*64))+(((sB s i) % 64:Nat):Int)))),(4,.int .i64 ((i+1:Nat):Int))]) (by kernel_rfl) ?_
  refine OD.nil ?_
  exact⟨_,by omega,i+1,X05 .i32 ((X05 .i32 (z*64))+(((sB s i) % 64:Nat):Int)),(by kernel_rfl),⟨by omega,by omega⟩,hv.next (by decide) (by omega),rfl⟩
 ·
  refine CD.exit ?_
  refine CD.seq ?_
  refine CD.region ?_
  refine OD.runE 2 [2] (E':=[(2,.int .i32 z)]) (by kernel_rfl) ?_
  refine OD.nil ?_
  refine CD.ret ?_
  first | refine X01 ?_ | refine X02 ?_ | (dsimp only;first | refine X01 ?_ | refine X02 ?_)
  refine XBN 0 (r:=.int .i32 z) (L':=[]) (by kernel_rfl) ?_ ?_ (by kernel_rfl) (by kernel_rfl) ?_
  · exact Nat.le_of_ble_eq_true (by kernel_rfl)
  · exact Nat.le_of_ble_eq_true (by kernel_rfl)
  · exact⟨⟨_,rfl,X9D hf hs (by omega) hv⟩,rfl⟩
theorem XHj (s:ByteArray) (hs:s.size=4) (hf:X38 s):FnD P ov 64 [.str s] [] (fun r L1=>(fun r=>∃ z,r=.int .i32 z∧X0a z) r∧L1=[]):=by
 refine FnD.intro (by kernel_rfl) (fn:=Tryz.f64) (by kernel_rfl) rfl (by kernel_rfl) fun M a0 g0 hg0=>?_
 refine CD.seq ?_
 refine CD.region ?_
 refine OD.runE 1 [0] (E':=[(0,.str s)]) (by kernel_rfl) ?_
 refine OD.nil ?_
 refine CD.seq ?_
 refine CD.seq ?_
 refine CD.region ?_
 refine OD.runE 2 [0,6] (E':=[(0,.str s),(6,.int .i64 ((s.size:Nat):Int))]) (by kernel_rfl) ?_
 refine OD.is 6 rfl (congrArg (fun n:Nat=>D.int .i64 (n:Int)) hs) ?_
 refine OD.runE 1 [0,7] (E':=[(0,.str s),(7,.bool false)]) (by kernel_rfl) ?_
 refine OD.nil ?_
 refine CD.condF rfl ?_
 refine CD.skip ?_
 refine CD.seq ?_
 refine CD.region ?_
 refine OD.runE 1 [0,11] (E':=[(0,.str s),(11,.str s)]) (by kernel_rfl) ?_
 refine OD.ixS (i:=0) rfl rfl (by kernel_rfl) rfl (by omega) (fun hb1=>?_)
 refine OD.runE 1 [0,13] (E':=[(0,.str s),(13,.int .i32 (X05 .i32 (((sB s 0:Nat):Int))))]) (by kernel_rfl) ?_
 refine OD.is 13 rfl (X6F (by omega) (by omega)) ?_
 refine OD.runE 2 [0,13,15] (E':=[(0,.str s),(13,.int .i32 ((sB s 0:Nat):Int)),(15,.int .i64 ((s.size:Nat):Int))]) (by kernel_rfl) ?_
 refine OD.is 15 rfl (congrArg (fun n:Nat=>D.int .i64 (n:Int)) hs) ?_
 refine OD.runE 5 [0,3] (E':=[(0,.str s),(3,.int .i32 (((sB s 0) % 8:Nat):Int))]) (by kernel_rfl) ?_
 refine OD.nil ?_
 refine CD.seq ?_
 refine CD.seq ?_
 refine CD.region ?_
 refine OD.runE 1 [0,3,4] (E':=[(0,.str s),(3,.int .i32 (((sB s 0) % 8:Nat):Int)),(4,.int .i64 1)]) (by kernel_rfl) ?_
 refine OD.nil ?_
 refine CD.block ?_
 refine CD.weak [0,3,4] 0 (E':=[(0,.str s),(3,.int .i32 (((sB s 0) % 8:Nat):Int)),(4,.int .i64 1)]) (by kernel_rfl) (by simp [hg0]) (by kernel_rfl) ?_
 refine CD.loop (fun m σ=>∃ (i:Nat) (z:Int),σ=⟨[(0,.str s),(3,.int .i32 z),(4,.int .i64 ((i:Nat):Int))],[]⟩∧(1≤i∧i≤4)∧(VI s 8 i z)∧m=4 - i) (fun m σ hI=>?_) _ ⟨1,(((sB s 0) % 8:Nat):Int),(by kernel_rfl),⟨by omega,by omega⟩,.inl ⟨rfl,rfl⟩,rfl⟩
 obtain⟨i,z,e,hi,hv,hm⟩:=hI
 subst e hm
 refine CD.seq ?_
 refine CD.seq ?_
 refine CD.region ?_
 refine OD.runE 3 [0,3,4,20,22] (E':=[(0,.str s),(3,.int .i32 z),(4,.int .i64 ((i:Nat):Int)),(20,.int .i64 ((i:Nat):Int)),(22,.int .i64 ((s.size:Nat):Int))]) (by kernel_rfl) ?_
 refine OD.is 22 rfl (congrArg (fun n:Nat=>D.int .i64 (n:Int)) hs) ?_
 refine OD.runE 1 [0,3,4,23] (E':=[(0,.str s),(3,.int .i32 z),(4,.int .i64 ((i:Nat):Int)),(23,.bool (decide ((((i:Nat):Int):Int)<4)))]) (by kernel_rfl) ?_
 refine OD.nil ?_
 refine CD.condP rfl (fun h1=>?_) (fun h1=>?_)
 ·
  refine CD.skip ?_
  refine CD.seq ?_
  refine CD.block ?_
  refine CD.region ?_
  refine OD.runE 4 [0,4,27,28,29] (E':=[(0,.str s),(4,.int .i64 ((i:Nat):Int)),(27,.int .i32 (X05 .i32 (z*64))),(28,.str s),(29,.int .i64 ((i:Nat):Int))]) (by kernel_rfl) ?_
  refine OD.ixS (i:=i) rfl rfl (by kernel_rfl) rfl (by omega) (fun hb2=>?_)
  refine OD.runE 1 [0,4,27,31] (E':=[(0,.str s),(4,.int .i64 ((i:Nat):Int)),(27,.int .i32 (X05 .i32 (z*64))),(31,.int .i32 (X05 .i32 (((sB s i:Nat):Int))))]) (by kernel_rfl) ?_
  refine OD.is 31 rfl (X6F (by omega) (by omega)) ?_
  refine OD.runE 3 [0,3,4] (E':=[(0,.str s),(3,.int .i32 (X05 .i32 ((X05 .i32 (z*64))+(((sB s i) % 64:Nat):Int)))),(4,.int .i64 ((i:Nat):Int))]) (by kernel_rfl) ?_
  refine OD.nil ?_
  refine CD.region ?_
  refine OD.runE 2 [0,3,25] (E':=[(0,.str s),(3,.int .i32 (X05 .i32 ((X05 .i32 (z*64))+(((sB s i) % 64:Nat):Int)))),(25,.int .i64 (X05 .i64 (((i:Nat):Int)+1)))]) (by kernel_rfl) ?_
  refine OD.is 25 rfl (wrn (m:=i+1) (by omega) (by omega)) ?_
  refine OD.runE 1 [0,3,4] (E':=[(0,.str s),(3,.int .i32 (X05 .i32 ((X05 .i32 (z*64))+(((sB s i) % 64:Nat):Int)))),(4,.int .i64 ((i+1:Nat):Int))]) (by kernel_rfl) ?_
  refine OD.nil ?_
  exact⟨_,by omega,i+1,X05 .i32 ((X05 .i32 (z*64))+(((sB s i) % 64:Nat):Int)),(by kernel_rfl),⟨by omega,by omega⟩,hv.next (by decide) (by omega),rfl⟩
 ·
  refine CD.exit ?_
  refine CD.seq ?_
  refine CD.region ?_
  refine OD.runE 2 [2] (E':=[(2,.int .i32 z)]) (by kernel_rfl) ?_
  refine OD.nil ?_
  refine CD.ret ?_
  first | refine X01 ?_ | refine X02 ?_ | (dsimp only;first | refine X01 ?_ | refine X02 ?_)
  refine XBN 0 (r:=.int .i32 z) (L':=[]) (by kernel_rfl) ?_ ?_ (by kernel_rfl) (by kernel_rfl) ?_
  · exact Nat.le_of_ble_eq_true (by kernel_rfl)
  · exact Nat.le_of_ble_eq_true (by kernel_rfl)
  · exact⟨⟨_,rfl,X9E hf hs (by omega) hv⟩,rfl⟩
theorem XJ3 (s:ByteArray) (hf:X38 s):FnD P ov 64 [.str s] [] (fun r L1=>(fun r=>∃ z,r=.int .i32 z∧X0a z) r∧L1=[]):=by
 rcases XAz hf with h | h | h | h
 · exact XHg s h hf
 · exact XHh s h hf
 · exact XHi s h hf
 · exact XHj s h hf
theorem XHk (s:ByteArray) (hsz:s.size≤1048576):FnD P ov 63 [.str s] [] (fun r L1=>(fun r=>∃ (n:Nat) (ok:Bool),r=.tup [.int .i64 (n:Int),.bool ok]∧oneS s n ok) r∧L1=[]):=by
 refine FnD.intro (by kernel_rfl) (fn:=Tryz.f63) (by kernel_rfl) rfl (by kernel_rfl) fun M a0 g0 hg0=>?_
 refine CD.seq ?_
 refine CD.region ?_
 refine OD.runE 2 [0] (E':=[(0,.str s)]) (by kernel_rfl) ?_
 refine OD.nil ?_
 refine CD.seq ?_
 refine CD.region ?_
 refine OD.callE (XEF) rfl (by kernel_rfl) (by kernel_rfl) (by kernel_rfl) ?_
 refine OD.runE 1 [0,4] (E':=[(0,.str s),(4,.sl 2 9 (X0F.flatMap X1D))]) (by kernel_rfl) ?_
 refine OD.nil ?_
 refine CD.seq ?_
 refine CD.region ?_
 refine OD.runE 1 [0,4,5] (E':=[(0,.str s),(4,.sl 2 9 (X0F.flatMap X1D)),(5,.int .i64 0)]) (by kernel_rfl) ?_
 refine OD.nil ?_
 refine CD.seq ?_
 refine CD.seq ?_
 refine CD.region ?_
 refine OD.runE 1 [0,4,5,6] (E':=[(0,.str s),(4,.sl 2 9 (X0F.flatMap X1D)),(5,.int .i64 0),(6,.int .i64 0)]) (by kernel_rfl) ?_
 refine OD.nil ?_
 refine CD.block ?_
 refine CD.weak [0,4,5,6] 0 (E':=[(0,.str s),(4,.sl 2 9 (X0F.flatMap X1D)),(5,.int .i64 0),(6,.int .i64 0)]) (by kernel_rfl) (by simp [hg0]) (by kernel_rfl) ?_
 refine CD.loop (fun m σ=>∃ (i:Nat) (b:Nat),σ=⟨[(0,.str s),(4,.sl 2 9 (X0F.flatMap X1D)),(5,.int .i64 ((b:Nat):Int)),(6,.int .i64 ((i:Nat):Int))],[]⟩∧(i≤9)∧(b≤s.size∧b≤4)∧m=9 - i) (fun m σ hI=>?_) _ ⟨0,0,(by kernel_rfl),by omega,by omega,rfl⟩
 obtain⟨i,b,e,hi,hb,hm⟩:=hI
 subst e hm
 refine CD.seq ?_
 refine CD.seq ?_
 refine CD.region ?_
 refine OD.runE 4 [0,4,5,6,12] (E':=[(0,.str s),(4,.sl 2 9 (X0F.flatMap X1D)),(5,.int .i64 ((b:Nat):Int)),(6,.int .i64 ((i:Nat):Int)),(12,.bool (decide ((((i:Nat):Int):Int)<9)))]) (by kernel_rfl) ?_
 refine OD.nil ?_
 refine CD.condP rfl (fun h1=>?_) (fun h1=>?_)
 ·
  obtain⟨fm,hfm⟩:=XED (i:=i) (by omega)
  have hfl:=XEC hfm
  refine CD.skip ?_
  refine CD.seq ?_
  refine CD.block ?_
  refine CD.seq ?_
  refine CD.region ?_
  refine OD.runE 1 [0,4,5,6,7] (E':=[(0,.str s),(4,.sl 2 9 (X0F.flatMap X1D)),(5,.int .i64 ((b:Nat):Int)),(6,.int .i64 ((i:Nat):Int)),(7,.int .i64 0)]) (by kernel_rfl) ?_
  refine OD.nil ?_
  refine CD.seq ?_
  refine CD.block ?_
  refine CD.weak [0,4,5,6,7] 0 (E':=[(0,.str s),(4,.sl 2 9 (X0F.flatMap X1D)),(5,.int .i64 ((b:Nat):Int)),(6,.int .i64 ((i:Nat):Int)),(7,.int .i64 0)]) (by kernel_rfl) (by simp [hg0]) (by kernel_rfl) ?_
  refine CD.loop (fun m σ=>∃ (j:Nat),σ=⟨[(0,.str s),(4,.sl 2 9 (X0F.flatMap X1D)),(5,.int .i64 ((b:Nat):Int)),(6,.int .i64 ((i:Nat):Int)),(7,.int .i64 ((j:Nat):Int))],[]⟩∧(j≤fm.1.length∧j≤s.size)∧(XI4 s fm j)∧m=fm.1.length - j+b) (fun m σ hI=>?_) _ ⟨0,(by kernel_rfl),by omega,(fun k hk=>absurd hk (Nat.not_lt_zero k)),rfl⟩
  obtain⟨j,e,hj,hfit,hm⟩:=hI
  subst e hm
  refine CD.seq ?_
  refine CD.seq ?_
  refine CD.drawn (by kernel_rfl) ?_
  refine OD.runE 3 [0,4,5,6,7,15,16,17] (E':=[(0,.str s),(4,.sl 2 9 (X0F.flatMap X1D)),(5,.int .i64 ((b:Nat):Int)),(6,.int .i64 ((i:Nat):Int)),(7,.int .i64 ((j:Nat):Int)),(15,.int .i64 ((j:Nat):Int)),(16,.sl 2 9 (X0F.flatMap X1D)),(17,.int .i64 ((i:Nat):Int))]) (by kernel_rfl) ?_
  refine OD.idxSE (i:=i) (e:=2) rfl rfl (by kernel_rfl) (by omega) (by omega) ?_
  refine OD.runE 1 [0,4,5,6,7,15,19] (E':=[(0,.str s),(4,.sl 2 9 (X0F.flatMap X1D)),(5,.int .i64 ((b:Nat):Int)),(6,.int .i64 ((i:Nat):Int)),(7,.int .i64 ((j:Nat):Int)),(15,.int .i64 ((j:Nat):Int)),(19,.ep 2 9 (X0F.flatMap X1D) (i*2+0))]) (by kernel_rfl) ?_
  refine OD.ldL (d:=.sl 1 fm.1.length (fm.1.map u8D)) rfl (by kernel_rfl) (X2B hfm) ?_
  refine OD.runE 3 [0,4,5,6,7,23] (E':=[(0,.str s),(4,.sl 2 9 (X0F.flatMap X1D)),(5,.int .i64 ((b:Nat):Int)),(6,.int .i64 ((i:Nat):Int)),(7,.int .i64 ((j:Nat):Int)),(23,.bool (decide ((((j:Nat):Int):Int)<((fm.1.length:Nat):Int))))]) (by kernel_rfl) ?_
  refine OD.ifP 23 rfl (fun h2=>?_) (fun h2=>?_)
  ·
   refine OD.runE 6 [0,4,5,6,7,29] (E':=[(0,.str s),(4,.sl 2 9 (X0F.flatMap X1D)),(5,.int .i64 ((b:Nat):Int)),(6,.int .i64 ((i:Nat):Int)),(7,.int .i64 ((j:Nat):Int)),(29,.bool (decide ((((j:Nat):Int):Int)<((s.size:Nat):Int))))]) (by kernel_rfl) ?_
   refine OD.ifP 29 rfl (fun h3=>?_) (fun h3=>?_)
   ·
    refine OD.runE 2 [0,4,5,6,7,29,30,31] (E':=[(0,.str s),(4,.sl 2 9 (X0F.flatMap X1D)),(5,.int .i64 ((b:Nat):Int)),(6,.int .i64 ((i:Nat):Int)),(7,.int .i64 ((j:Nat):Int)),(29,.bool true),(30,.str s),(31,.int .i64 ((j:Nat):Int))]) (by kernel_rfl) ?_
    refine OD.guard rfl rfl ?_
    refine OD.ixS (i:=j) rfl rfl (by kernel_rfl) (by omega) (by omega) (fun hb1=>?_)
    refine OD.runE 2 [0,4,5,6,7,29,32,33,34] (E':=[(0,.str s),(4,.sl 2 9 (X0F.flatMap X1D)),(5,.int .i64 ((b:Nat):Int)),(6,.int .i64 ((i:Nat):Int)),(7,.int .i64 ((j:Nat):Int)),(29,.bool true),(32,.int .u8 ((sB s j:Nat):Int)),(33,.sl 2 9 (X0F.flatMap X1D)),(34,.int .i64 ((i:Nat):Int))]) (by kernel_rfl) ?_
    refine OD.guard rfl rfl ?_
    refine OD.idxSE (i:=i) (e:=2) rfl rfl (by kernel_rfl) (by omega) (by omega) ?_
    refine OD.runE 1 [0,4,5,6,7,29,32,36] (E':=[(0,.str s),(4,.sl 2 9 (X0F.flatMap X1D)),(5,.int .i64 ((b:Nat):Int)),(6,.int .i64 ((i:Nat):Int)),(7,.int .i64 ((j:Nat):Int)),(29,.bool true),(32,.int .u8 ((sB s j:Nat):Int)),(36,.ep 2 9 (X0F.flatMap X1D) (i*2+0))]) (by kernel_rfl) ?_
    refine OD.guard rfl rfl ?_
    refine OD.ldL (d:=.sl 1 fm.1.length (fm.1.map u8D)) rfl (by kernel_rfl) (X2B hfm) ?_
    refine OD.runE 1 [0,4,5,6,7,29,32,37,38] (E':=[(0,.str s),(4,.sl 2 9 (X0F.flatMap X1D)),(5,.int .i64 ((b:Nat):Int)),(6,.int .i64 ((i:Nat):Int)),(7,.int .i64 ((j:Nat):Int)),(29,.bool true),(32,.int .u8 ((sB s j:Nat):Int)),(37,.sl 1 fm.1.length (fm.1.map u8D)),(38,.int .i64 ((j:Nat):Int))]) (by kernel_rfl) ?_
    refine OD.guard rfl rfl ?_
    refine OD.idxSV (i:=j) rfl rfl (by kernel_rfl) (by omega) (by omega) ?_
    refine OD.runE 0 [0,4,5,6,7,29,32,39] (E':=[(0,.str s),(4,.sl 2 9 (X0F.flatMap X1D)),(5,.int .i64 ((b:Nat):Int)),(6,.int .i64 ((i:Nat):Int)),(7,.int .i64 ((j:Nat):Int)),(29,.bool true),(32,.int .u8 ((sB s j:Nat):Int)),(39,.ep 1 fm.1.length (fm.1.map u8D) j)]) (by kernel_rfl) ?_
    refine OD.guard rfl rfl ?_
    refine OD.ldSV 0 (f:=u8D) (xs:=fm.1) rfl (by kernel_rfl) (by first | omega | (simp only [List.length_set,List.length_replicate,List.length_append,List.length_singleton,List.length_cons,List.length_nil];omega)) ?_
    refine OD.runE 3 [0,4,5,6,7,43] (E':=[(0,.str s),(4,.sl 2 9 (X0F.flatMap X1D)),(5,.int .i64 ((b:Nat):Int)),(6,.int .i64 ((i:Nat):Int)),(7,.int .i64 ((j:Nat):Int)),(43,.bool (decide (((((fm.1.getD j 0):Nat):Int):Int)≤((sB s j:Nat):Int))))]) (by kernel_rfl) ?_
    refine OD.ifP 43 rfl (fun h4=>?_) (fun h4=>?_)
    ·
     refine OD.runE 2 [0,4,5,6,7,43,44,45] (E':=[(0,.str s),(4,.sl 2 9 (X0F.flatMap X1D)),(5,.int .i64 ((b:Nat):Int)),(6,.int .i64 ((i:Nat):Int)),(7,.int .i64 ((j:Nat):Int)),(43,.bool true),(44,.str s),(45,.int .i64 ((j:Nat):Int))]) (by kernel_rfl) ?_
     refine OD.guard rfl rfl ?_
     refine OD.ixS (i:=j) rfl rfl (by kernel_rfl) (by omega) (by omega) (fun hb2=>?_)
     refine OD.runE 2 [0,4,5,6,7,43,46,47,48] (E':=[(0,.str s),(4,.sl 2 9 (X0F.flatMap X1D)),(5,.int .i64 ((b:Nat):Int)),(6,.int .i64 ((i:Nat):Int)),(7,.int .i64 ((j:Nat):Int)),(43,.bool true),(46,.int .u8 ((sB s j:Nat):Int)),(47,.sl 2 9 (X0F.flatMap X1D)),(48,.int .i64 ((i:Nat):Int))]) (by kernel_rfl) ?_
     refine OD.guard rfl rfl ?_
     refine OD.idxSE (i:=i) (e:=2) rfl rfl (by kernel_rfl) (by omega) (by omega) ?_
     refine OD.runE 1 [0,4,5,6,7,43,46,50] (E':=[(0,.str s),(4,.sl 2 9 (X0F.flatMap X1D)),(5,.int .i64 ((b:Nat):Int)),(6,.int .i64 ((i:Nat):Int)),(7,.int .i64 ((j:Nat):Int)),(43,.bool true),(46,.int .u8 ((sB s j:Nat):Int)),(50,.ep 2 9 (X0F.flatMap X1D) (i*2+1))]) (by kernel_rfl) ?_
     refine OD.guard rfl rfl ?_
     refine OD.ldL (d:=.sl 1 fm.2.length (fm.2.map u8D)) rfl (by kernel_rfl) (XAw hfm) ?_
     refine OD.runE 1 [0,4,5,6,7,43,46,51,52] (E':=[(0,.str s),(4,.sl 2 9 (X0F.flatMap X1D)),(5,.int .i64 ((b:Nat):Int)),(6,.int .i64 ((i:Nat):Int)),(7,.int .i64 ((j:Nat):Int)),(43,.bool true),(46,.int .u8 ((sB s j:Nat):Int)),(51,.sl 1 fm.2.length (fm.2.map u8D)),(52,.int .i64 ((j:Nat):Int))]) (by kernel_rfl) ?_
     refine OD.guard rfl rfl ?_
     refine OD.idxSV (i:=j) rfl rfl (by kernel_rfl) (by omega) (by omega) ?_
     refine OD.runE 0 [0,4,5,6,7,43,46,53] (E':=[(0,.str s),(4,.sl 2 9 (X0F.flatMap X1D)),(5,.int .i64 ((b:Nat):Int)),(6,.int .i64 ((i:Nat):Int)),(7,.int .i64 ((j:Nat):Int)),(43,.bool true),(46,.int .u8 ((sB s j:Nat):Int)),(53,.ep 1 fm.2.length (fm.2.map u8D) j)]) (by kernel_rfl) ?_
     refine OD.guard rfl rfl ?_
     refine OD.ldSV 0 (f:=u8D) (xs:=fm.2) rfl (by kernel_rfl) (by first | omega | (simp only [List.length_set,List.length_replicate,List.length_append,List.length_singleton,List.length_cons,List.length_nil];omega)) ?_
     refine OD.runE 2 [0,4,5,6,7,56] (E':=[(0,.str s),(4,.sl 2 9 (X0F.flatMap X1D)),(5,.int .i64 ((b:Nat):Int)),(6,.int .i64 ((i:Nat):Int)),(7,.int .i64 ((j:Nat):Int)),(56,.bool (decide ((((sB s j:Nat):Int):Int)≤(((fm.2.getD j 0):Nat):Int))))]) (by kernel_rfl) ?_
     refine OD.nil ⟨by kernel_rfl,?_⟩
     refine CD.condP rfl (fun h5=>?_) (fun h5=>?_)
     ·
      refine CD.skip ?_
      refine CD.block ?_
      refine CD.region ?_
      refine OD.runE 2 [0,4,5,6,58] (E':=[(0,.str s),(4,.sl 2 9 (X0F.flatMap X1D)),(5,.int .i64 ((b:Nat):Int)),(6,.int .i64 ((i:Nat):Int)),(58,.int .i64 (X05 .i64 (((j:Nat):Int)+1)))]) (by kernel_rfl) ?_
      refine OD.is 58 rfl (wrn (m:=j+1) (by omega) (by omega)) ?_
      refine OD.runE 1 [0,4,5,6,7] (E':=[(0,.str s),(4,.sl 2 9 (X0F.flatMap X1D)),(5,.int .i64 ((b:Nat):Int)),(6,.int .i64 ((i:Nat):Int)),(7,.int .i64 ((j+1:Nat):Int))]) (by kernel_rfl) ?_
      refine OD.nil ?_
      exact⟨_,by omega,j+1,(by kernel_rfl),by omega,hfit.next (by first | assumption | omega) (by first | assumption | omega),rfl⟩
     ·
      refine CD.exit ?_
      refine CD.seq ?_
      refine CD.seq ?_
      refine CD.region ?_
      refine OD.runE 3 [0,4,5,6,7,59,60,61] (E':=[(0,.str s),(4,.sl 2 9 (X0F.flatMap X1D)),(5,.int .i64 ((b:Nat):Int)),(6,.int .i64 ((i:Nat):Int)),(7,.int .i64 ((j:Nat):Int)),(59,.int .i64 ((j:Nat):Int)),(60,.sl 2 9 (X0F.flatMap X1D)),(61,.int .i64 ((i:Nat):Int))]) (by kernel_rfl) ?_
      refine OD.idxSE (i:=i) (e:=2) rfl rfl (by kernel_rfl) (by omega) (by omega) ?_
      refine OD.runE 1 [0,4,5,6,7,59,63] (E':=[(0,.str s),(4,.sl 2 9 (X0F.flatMap X1D)),(5,.int .i64 ((b:Nat):Int)),(6,.int .i64 ((i:Nat):Int)),(7,.int .i64 ((j:Nat):Int)),(59,.int .i64 ((j:Nat):Int)),(63,.ep 2 9 (X0F.flatMap X1D) (i*2+0))]) (by kernel_rfl) ?_
      refine OD.ldL (d:=.sl 1 fm.1.length (fm.1.map u8D)) rfl (by kernel_rfl) (X2B hfm) ?_
      refine OD.runE 2 [0,4,5,6,7,66] (E':=[(0,.str s),(4,.sl 2 9 (X0F.flatMap X1D)),(5,.int .i64 ((b:Nat):Int)),(6,.int .i64 ((i:Nat):Int)),(7,.int .i64 ((j:Nat):Int)),(66,.bool (decide ((((j:Nat):Int):Int)=((fm.1.length:Nat):Int))))]) (by kernel_rfl) ?_
      refine OD.nil ?_
      refine CD.condP rfl (fun h6=>?_) (fun h6=>?_)
      ·
       refine CD.seq ?_
       refine CD.region ?_
       refine OD.runE 3 [2,3] (E':=[(2,.int .i64 ((j:Nat):Int)),(3,.bool true)]) (by kernel_rfl) ?_
       refine OD.nil ?_
       refine CD.ret ?_
       first | refine X01 ?_ | refine X02 ?_ | (dsimp only;first | refine X01 ?_ | refine X02 ?_)
       refine XBN 0 (r:=.tup [.int .i64 ((j:Nat):Int),.bool true]) (L':=[]) (by kernel_rfl) ?_ ?_ (by kernel_rfl) (by kernel_rfl) ?_
       · exact Nat.le_of_ble_eq_true (by kernel_rfl)
       · exact Nat.le_of_ble_eq_true (by kernel_rfl)
       · exact⟨⟨_,_,rfl,by omega,by omega,fun h=>⟨by omega,fm,List.mem_of_getElem? hfm,by omega,hfit⟩⟩,rfl⟩
      ·
       refine CD.skip ?_
       refine CD.region ?_
       refine OD.runE 3 [0,4,6,70] (E':=[(0,.str s),(4,.sl 2 9 (X0F.flatMap X1D)),(6,.int .i64 ((i:Nat):Int)),(70,.int .i64 (max (((b:Nat):Int):Int) ((j:Nat):Int)))]) (by kernel_rfl) ?_
       refine OD.is 70 rfl X5i ?_
       refine OD.runE 1 [0,4,5,6] (E':=[(0,.str s),(4,.sl 2 9 (X0F.flatMap X1D)),(5,.int .i64 ((max b j:Nat):Int)),(6,.int .i64 ((i:Nat):Int))]) (by kernel_rfl) ?_
       refine OD.nil ?_
       refine CD.region ?_
       refine OD.runE 2 [0,4,5,14] (E':=[(0,.str s),(4,.sl 2 9 (X0F.flatMap X1D)),(5,.int .i64 ((max b j:Nat):Int)),(14,.int .i64 (X05 .i64 (((i:Nat):Int)+1)))]) (by kernel_rfl) ?_
       refine OD.is 14 rfl (wrn (m:=i+1) (by omega) (by omega)) ?_
       refine OD.runE 1 [0,4,5,6] (E':=[(0,.str s),(4,.sl 2 9 (X0F.flatMap X1D)),(5,.int .i64 ((max b j:Nat):Int)),(6,.int .i64 ((i+1:Nat):Int))]) (by kernel_rfl) ?_
       refine OD.nil ?_
       exact⟨_,by omega,i+1,(max b j),(by kernel_rfl),by omega,by omega,rfl⟩
    ·
     refine OD.runE 13 [0,4,5,6,7,56] (E':=[(0,.str s),(4,.sl 2 9 (X0F.flatMap X1D)),(5,.int .i64 ((b:Nat):Int)),(6,.int .i64 ((i:Nat):Int)),(7,.int .i64 ((j:Nat):Int)),(56,.bool false)]) (by kernel_rfl) ?_
     refine OD.nil ⟨by kernel_rfl,?_⟩
     refine CD.condF rfl ?_
     refine CD.exit ?_
     refine CD.seq ?_
     refine CD.seq ?_
     refine CD.region ?_
     refine OD.runE 3 [0,4,5,6,7,59,60,61] (E':=[(0,.str s),(4,.sl 2 9 (X0F.flatMap X1D)),(5,.int .i64 ((b:Nat):Int)),(6,.int .i64 ((i:Nat):Int)),(7,.int .i64 ((j:Nat):Int)),(59,.int .i64 ((j:Nat):Int)),(60,.sl 2 9 (X0F.flatMap X1D)),(61,.int .i64 ((i:Nat):Int))]) (by kernel_rfl) ?_
     refine OD.idxSE (i:=i) (e:=2) rfl rfl (by kernel_rfl) (by omega) (by omega) ?_
     refine OD.runE 1 [0,4,5,6,7,59,63] (E':=[(0,.str s),(4,.sl 2 9 (X0F.flatMap X1D)),(5,.int .i64 ((b:Nat):Int)),(6,.int .i64 ((i:Nat):Int)),(7,.int .i64 ((j:Nat):Int)),(59,.int .i64 ((j:Nat):Int)),(63,.ep 2 9 (X0F.flatMap X1D) (i*2+0))]) (by kernel_rfl) ?_
     refine OD.ldL (d:=.sl 1 fm.1.length (fm.1.map u8D)) rfl (by kernel_rfl) (X2B hfm) ?_
     refine OD.runE 2 [0,4,5,6,7,66] (E':=[(0,.str s),(4,.sl 2 9 (X0F.flatMap X1D)),(5,.int .i64 ((b:Nat):Int)),(6,.int .i64 ((i:Nat):Int)),(7,.int .i64 ((j:Nat):Int)),(66,.bool (decide ((((j:Nat):Int):Int)=((fm.1.length:Nat):Int))))]) (by kernel_rfl) ?_
     refine OD.nil ?_
     refine CD.condP rfl (fun h7=>?_) (fun h7=>?_)
     ·
      refine CD.seq ?_
      refine CD.region ?_
      refine OD.runE 3 [2,3] (E':=[(2,.int .i64 ((j:Nat):Int)),(3,.bool true)]) (by kernel_rfl) ?_
      refine OD.nil ?_
      refine CD.ret ?_
      first | refine X01 ?_ | refine X02 ?_ | (dsimp only;first | refine X01 ?_ | refine X02 ?_)
      refine XBN 0 (r:=.tup [.int .i64 ((j:Nat):Int),.bool true]) (L':=[]) (by kernel_rfl) ?_ ?_ (by kernel_rfl) (by kernel_rfl) ?_
      · exact Nat.le_of_ble_eq_true (by kernel_rfl)
      · exact Nat.le_of_ble_eq_true (by kernel_rfl)
      · exact⟨⟨_,_,rfl,by omega,by omega,fun h=>⟨by omega,fm,List.mem_of_getElem? hfm,by omega,hfit⟩⟩,rfl⟩
     ·
      refine CD.skip ?_
      refine CD.region ?_
      refine OD.runE 3 [0,4,6,70] (E':=[(0,.str s),(4,.sl 2 9 (X0F.flatMap X1D)),(6,.int .i64 ((i:Nat):Int)),(70,.int .i64 (max (((b:Nat):Int):Int) ((j:Nat):Int)))]) (by kernel_rfl) ?_
      refine OD.is 70 rfl X5i ?_
      refine OD.runE 1 [0,4,5,6] (E':=[(0,.str s),(4,.sl 2 9 (X0F.flatMap X1D)),(5,.int .i64 ((max b j:Nat):Int)),(6,.int .i64 ((i:Nat):Int))]) (by kernel_rfl) ?_
      refine OD.nil ?_
      refine CD.region ?_
      refine OD.runE 2 [0,4,5,14] (E':=[(0,.str s),(4,.sl 2 9 (X0F.flatMap X1D)),(5,.int .i64 ((max b j:Nat):Int)),(14,.int .i64 (X05 .i64 (((i:Nat):Int)+1)))]) (by kernel_rfl) ?_
      refine OD.is 14 rfl (wrn (m:=i+1) (by omega) (by omega)) ?_
      refine OD.runE 1 [0,4,5,6] (E':=[(0,.str s),(4,.sl 2 9 (X0F.flatMap X1D)),(5,.int .i64 ((max b j:Nat):Int)),(6,.int .i64 ((i+1:Nat):Int))]) (by kernel_rfl) ?_
      refine OD.nil ?_
      exact⟨_,by omega,i+1,(max b j),(by kernel_rfl),by omega,by omega,rfl⟩
   ·
    refine OD.runE 27 [0,4,5,6,7,56] (E':=[(0,.str s),(4,.sl 2 9 (X0F.flatMap X1D)),(5,.int .i64 ((b:Nat):Int)),(6,.int .i64 ((i:Nat):Int)),(7,.int .i64 ((j:Nat):Int)),(56,.bool false)]) (by kernel_rfl) ?_
    refine OD.nil ⟨by kernel_rfl,?_⟩
    refine CD.condF rfl ?_
    refine CD.exit ?_
    refine CD.seq ?_
    refine CD.seq ?_
    refine CD.region ?_
    refine OD.runE 3 [0,4,5,6,7,59,60,61] (E':=[(0,.str s),(4,.sl 2 9 (X0F.flatMap X1D)),(5,.int .i64 ((b:Nat):Int)),(6,.int .i64 ((i:Nat):Int)),(7,.int .i64 ((j:Nat):Int)),(59,.int .i64 ((j:Nat):Int)),(60,.sl 2 9 (X0F.flatMap X1D)),(61,.int .i64 ((i:Nat):Int))]) (by kernel_rfl) ?_
    refine OD.idxSE (i:=i) (e:=2) rfl rfl (by kernel_rfl) (by omega) (by omega) ?_
    refine OD.runE 1 [0,4,5,6,7,59,63] (E':=[(0,.str s),(4,.sl 2 9 (X0F.flatMap X1D)),(5,.int .i64 ((b:Nat):Int)),(6,.int .i64 ((i:Nat):Int)),(7,.int .i64 ((j:Nat):Int)),(59,.int .i64 ((j:Nat):Int)),(63,.ep 2 9 (X0F.flatMap X1D) (i*2+0))]) (by kernel_rfl) ?_
    refine OD.ldL (d:=.sl 1 fm.1.length (fm.1.map u8D)) rfl (by kernel_rfl) (X2B hfm) ?_
    refine OD.runE 2 [0,4,5,6,7,66] (E':=[(0,.str s),(4,.sl 2 9 (X0F.flatMap X1D)),(5,.int .i64 ((b:Nat):Int)),(6,.int .i64 ((i:Nat):Int)),(7,.int .i64 ((j:Nat):Int)),(66,.bool (decide ((((j:Nat):Int):Int)=((fm.1.length:Nat):Int))))]) (by kernel_rfl) ?_
    refine OD.nil ?_
    refine CD.condP rfl (fun h8=>?_) (fun h8=>?_)
    ·
     refine CD.seq ?_
     refine CD.region ?_
     refine OD.runE 3 [2,3] (E':=[(2,.int .i64 ((j:Nat):Int)),(3,.bool true)]) (by kernel_rfl) ?_
     refine OD.nil ?_
     refine CD.ret ?_
     first | refine X01 ?_ | refine X02 ?_ | (dsimp only;first | refine X01 ?_ | refine X02 ?_)
     refine XBN 0 (r:=.tup [.int .i64 ((j:Nat):Int),.bool true]) (L':=[]) (by kernel_rfl) ?_ ?_ (by kernel_rfl) (by kernel_rfl) ?_
     · exact Nat.le_of_ble_eq_true (by kernel_rfl)
     · exact Nat.le_of_ble_eq_true (by kernel_rfl)
     · exact⟨⟨_,_,rfl,by omega,by omega,fun h=>⟨by omega,fm,List.mem_of_getElem? hfm,by omega,hfit⟩⟩,rfl⟩
    ·
     refine CD.skip ?_
     refine CD.region ?_
     refine OD.runE 3 [0,4,6,70] (E':=[(0,.str s),(4,.sl 2 9 (X0F.flatMap X1D)),(6,.int .i64 ((i:Nat):Int)),(70,.int .i64 (max (((b:Nat):Int):Int) ((j:Nat):Int)))]) (by kernel_rfl) ?_
     refine OD.is 70 rfl X5i ?_
     refine OD.runE 1 [0,4,5,6] (E':=[(0,.str s),(4,.sl 2 9 (X0F.flatMap X1D)),(5,.int .i64 ((max b j:Nat):Int)),(6,.int .i64 ((i:Nat):Int))]) (by kernel_rfl) ?_
     refine OD.nil ?_
     refine CD.region ?_
     refine OD.runE 2 [0,4,5,14] (E':=[(0,.str s),(4,.sl 2 9 (X0F.flatMap X1D)),(5,.int .i64 ((max b j:Nat):Int)),(14,.int .i64 (X05 .i64 (((i:Nat):Int)+1)))]) (by kernel_rfl) ?_
     refine OD.is 14 rfl (wrn (m:=i+1) (by omega) (by omega)) ?_
     refine OD.runE 1 [0,4,5,6] (E':=[(0,.str s),(4,.sl 2 9 (X0F.flatMap X1D)),(5,.int .i64 ((max b j:Nat):Int)),(6,.int .i64 ((i+1:Nat):Int))]) (by kernel_rfl) ?_
     refine OD.nil ?_
     exact⟨_,by omega,i+1,(max b j),(by kernel_rfl),by omega,by omega,rfl⟩
  ·
   refine OD.runE 33 [0,4,5,6,7,56] (E':=[(0,.str s),(4,.sl 2 9 (X0F.flatMap X1D)),(5,.int .i64 ((b:Nat):Int)),(6,.int .i64 ((i:Nat):Int)),(7,.int .i64 ((j:Nat):Int)),(56,.bool false)]) (by kernel_rfl) ?_
   refine OD.nil ⟨by kernel_rfl,?_⟩
   refine CD.condF rfl ?_
   refine CD.exit ?_
   refine CD.seq ?_
   refine CD.seq ?_
   refine CD.region ?_
   refine OD.runE 3 [0,4,5,6,7,59,60,61] (E':=[(0,.str s),(4,.sl 2 9 (X0F.flatMap X1D)),(5,.int .i64 ((b:Nat):Int)),(6,.int .i64 ((i:Nat):Int)),(7,.int .i64 ((j:Nat):Int)),(59,.int .i64 ((j:Nat):Int)),(60,.sl 2 9 (X0F.flatMap X1D)),(61,.int .i64 ((i:Nat):Int))]) (by kernel_rfl) ?_
   refine OD.idxSE (i:=i) (e:=2) rfl rfl (by kernel_rfl) (by omega) (by omega) ?_
   refine OD.runE 1 [0,4,5,6,7,59,63] (E':=[(0,.str s),(4,.sl 2 9 (X0F.flatMap X1D)),(5,.int .i64 ((b:Nat):Int)),(6,.int .i64 ((i:Nat):Int)),(7,.int .i64 ((j:Nat):Int)),(59,.int .i64 ((j:Nat):Int)),(63,.ep 2 9 (X0F.flatMap X1D) (i*2+0))]) (by kernel_rfl) ?_
   refine OD.ldL (d:=.sl 1 fm.1.length (fm.1.map u8D)) rfl (by kernel_rfl) (X2B hfm) ?_
   refine OD.runE 2 [0,4,5,6,7,66] (E':=[(0,.str s),(4,.sl 2 9 (X0F.flatMap X1D)),(5,.int .i64 ((b:Nat):Int)),(6,.int .i64 ((i:Nat):Int)),(7,.int .i64 ((j:Nat):Int)),(66,.bool (decide ((((j:Nat):Int):Int)=((fm.1.length:Nat):Int))))]) (by kernel_rfl) ?_
   refine OD.nil ?_
   refine CD.condP rfl (fun h9=>?_) (fun h9=>?_)
   ·
    refine CD.seq ?_
    refine CD.region ?_
    refine OD.runE 3 [2,3] (E':=[(2,.int .i64 ((j:Nat):Int)),(3,.bool true)]) (by kernel_rfl) ?_
    refine OD.nil ?_
    refine CD.ret ?_
    first | refine X01 ?_ | refine X02 ?_ | (dsimp only;first | refine X01 ?_ | refine X02 ?_)
    refine XBN 0 (r:=.tup [.int .i64 ((j:Nat):Int),.bool true]) (L':=[]) (by kernel_rfl) ?_ ?_ (by kernel_rfl) (by kernel_rfl) ?_
    · exact Nat.le_of_ble_eq_true (by kernel_rfl)
    · exact Nat.le_of_ble_eq_true (by kernel_rfl)
    · exact⟨⟨_,_,rfl,by omega,by omega,fun h=>⟨by omega,fm,List.mem_of_getElem? hfm,by omega,hfit⟩⟩,rfl⟩
   ·
    refine CD.skip ?_
    refine CD.region ?_
    refine OD.runE 3 [0,4,6,70] (E':=[(0,.str s),(4,.sl 2 9 (X0F.flatMap X1D)),(6,.int .i64 ((i:Nat):Int)),(70,.int .i64 (max (((b:Nat):Int):Int) ((j:Nat):Int)))]) (by kernel_rfl) ?_
    refine OD.is 70 rfl X5i ?_
    refine OD.runE 1 [0,4,5,6] (E':=[(0,.str s),(4,.sl 2 9 (X0F.flatMap X1D)),(5,.int .i64 ((max b j:Nat):Int)),(6,.int .i64 ((i:Nat):Int))]) (by kernel_rfl) ?_
    refine OD.nil ?_
    refine CD.region ?_
    refine OD.runE 2 [0,4,5,14] (E':=[(0,.str s),(4,.sl 2 9 (X0F.flatMap X1D)),(5,.int .i64 ((max b j:Nat):Int)),(14,.int .i64 (X05 .i64 (((i:Nat):Int)+1)))]) (by kernel_rfl) ?_
    refine OD.is 14 rfl (wrn (m:=i+1) (by omega) (by omega)) ?_
    refine OD.runE 1 [0,4,5,6] (E':=[(0,.str s),(4,.sl 2 9 (X0F.flatMap X1D)),(5,.int .i64 ((max b j:Nat):Int)),(6,.int .i64 ((i+1:Nat):Int))]) (by kernel_rfl) ?_
    refine OD.nil ?_
    exact⟨_,by omega,i+1,(max b j),(by kernel_rfl),by omega,by omega,rfl⟩
 ·
  refine CD.exit ?_
  refine CD.seq ?_
  refine CD.region ?_
  refine OD.runE 3 [2,3] (E':=[(2,.int .i64 ((b:Nat):Int)),(3,.bool false)]) (by kernel_rfl) ?_
  refine OD.nil ?_
  refine CD.ret ?_
  first | refine X01 ?_ | refine X02 ?_ | (dsimp only;first | refine X01 ?_ | refine X02 ?_)
  refine XBN 0 (r:=.tup [.int .i64 ((b:Nat):Int),.bool false]) (L':=[]) (by kernel_rfl) ?_ ?_ (by kernel_rfl) (by kernel_rfl) ?_
  · exact Nat.le_of_ble_eq_true (by kernel_rfl)
  · exact Nat.le_of_ble_eq_true (by kernel_rfl)
  · exact⟨⟨_,_,rfl,by omega,by omega,fun h=>by cases h⟩,rfl⟩
theorem XHl (s:ByteArray) (hsz:s.size≤1048576):FnD P ov 44 [.str s] [] (fun r L1=>(fun r=>∃ (l:List Int) (n:Nat) (k:Int),r=.tup [.sl 1 n (l.map (D.int .i32)),.int .i64 k]∧l.length=n∧X2E l) r∧L1=[]):=by
 refine FnD.intro (by kernel_rfl) (fn:=Tryz.f44) (by kernel_rfl) rfl (by kernel_rfl) fun M a0 g0 hg0=>?_
 refine CD.seq ?_
 refine CD.region ?_
 refine OD.runE 2 [0] (E':=[(0,.str s)]) (by kernel_rfl) ?_
 refine OD.nil ?_
 refine CD.seq ?_
 refine CD.region ?_
 refine OD.runE 1 [0,4] (E':=[(0,.str s),(4,.lit (.slice none 0 0))]) (by kernel_rfl) ?_
 refine OD.nilRow 4 1 rfl ?_
 refine OD.runE 0 [0,4] (E':=[(0,.str s),(4,.row 0 0 0 0)]) (by kernel_rfl) ?_
 refine OD.nil ?_
 refine CD.seq ?_
 refine CD.block ?_
 refine CD.weak [0,4] 1 (E':=[(0,.str s),(4,.row 0 0 0 0)]) (by kernel_rfl) (by simp [hg0]) (by kernel_rfl) ?_
 refine CD.loop (fun m σ=>∃ (t:ByteArray) (out:List Int) (n:Nat),σ=⟨[(0,.str t),(4,.row 0 0 n n)],[.row 1 n (out.map (D.int .i32))]⟩∧(n+t.size≤s.size)∧(out.length=n)∧(X2E out)∧m=t.size+n - n) (fun m σ hI=>?_) _ ⟨s,([]:List Int),0,(by kernel_rfl),by omega,rfl,(fun r hr=>by cases hr),rfl⟩
 obtain⟨t,out,n,e,hb,hn,hsg,hm⟩:=hI
 subst e hm
 refine CD.seq ?_
 refine CD.seq ?_
 refine CD.region ?_
 refine OD.runE 3 [0,4,9] (E':=[(0,.str t),(4,.row 0 0 n n),(9,.bool (decide ((0:Int)<((t.size:Nat):Int))))]) (by kernel_rfl) ?_
 refine OD.nil ?_
 refine CD.condP rfl (fun h1=>?_) (fun h1=>?_)
 ·
  refine CD.skip ?_
  refine CD.block ?_
  refine CD.seq ?_
  refine CD.region ?_
  refine OD.runE 1 [0,4,11] (E':=[(0,.str t),(4,.row 0 0 n n),(11,.str t)]) (by kernel_rfl) ?_
  refine OD.callP (R:=fun r=>∃ (n:Nat) (ok:Bool),r=.tup [.int .i64 (n:Int),.bool ok]∧oneS t n ok) rfl (by kernel_rfl) (by kernel_rfl) (by kernel_rfl) (XHk t (by omega)) (fun r hr=>?_)
  obtain⟨n1,ok1,rfl,hos⟩:=hr
  have hn1:=hos.1
  refine OD.runE 5 [0,4,5,6] (E':=[(0,.str t),(4,.row 0 0 n n),(5,.int .i64 ((n1:Nat):Int)),(6,.bool ok1)]) (by kernel_rfl) ?_
  refine OD.nil ?_
  refine CD.seq ?_
  refine CD.seq ?_
  refine CD.region ?_
  refine OD.runE 1 [0,4,5,15] (E':=[(0,.str t),(4,.row 0 0 n n),(5,.int .i64 ((n1:Nat):Int)),(15,.bool ok1)]) (by kernel_rfl) ?_
  refine OD.nil ?_
  refine CD.condB rfl (fun h2=>?_) (fun h2=>?_)
  ·
   refine CD.seq ?_
   refine CD.region ?_
   refine OD.runE 3 [0,5,16,17,18] (E':=[(0,.str t),(5,.int .i64 ((n1:Nat):Int)),(16,.row 0 0 n n),(17,.str t),(18,.int .i64 ((n1:Nat):Int))]) (by kernel_rfl) ?_
   refine OD.slS (lw:=0) (u:=n1) rfl (by kernel_rfl) (.inl ⟨rfl,rfl⟩) (.inr ⟨_,_,rfl,rfl⟩) (by omega) (by omega) ?_
   refine OD.runE 0 [0,5,16,19] (E':=[(0,.str t),(5,.int .i64 ((n1:Nat):Int)),(16,.row 0 0 n n),(19,.str (t.extract 0 n1))]) (by kernel_rfl) ?_
   rw [h2]at hos
   have hfo:=XAy hos
   have hex:(t.extract 0 n1).size=n1:=by rw [ByteArray.size_extract];omega
   have h1n:=hfo.2
   refine OD.callP (R:=fun r=>∃ z,r=.int .i32 z∧X0a z) rfl (by kernel_rfl) (by kernel_rfl) (by kernel_rfl) (XJ3 (t.extract 0 n1) hfo.1) (fun r hr=>?_)
   obtain⟨z1,rfl,hz1⟩:=hr
   refine OD.runE 0 [0,5,16,20] (E':=[(0,.str t),(5,.int .i64 ((n1:Nat):Int)),(16,.row 0 0 n n),(20,.int .i32 z1)]) (by kernel_rfl) ?_
   refine OD.bsl (e:=1) (cs:=[.int .i32 z1]) rfl (by kernel_rfl) ?_
   refine OD.runE 0 [0,5,16,21] (E':=[(0,.str t),(5,.int .i64 ((n1:Nat):Int)),(16,.row 0 0 n n),(21,.sl 1 1 [.int .i32 z1])]) (by kernel_rfl) ?_
   refine OD.appV (f:=(D.int .i32)) (xs:=out) (vs:=[z1]) rfl (by kernel_rfl) rfl rfl rfl rfl (by first | omega | (simp only [List.length_set,List.length_replicate,List.length_append,List.length_singleton,List.length_cons,List.length_nil];omega)) (by decide) (by omega) ?_
   refine OD.runE 1 [0,4,5] (E':=[(0,.str t),(4,.row 0 0 (n+1) (n+1)),(5,.int .i64 ((n1:Nat):Int))]) (by kernel_rfl) ?_
   refine OD.nil ?_
   refine CD.seq ?_
   refine CD.region ?_
   refine OD.runE 2 [4,23,24] (E':=[(4,.row 0 0 (n+1) (n+1)),(23,.str t),(24,.int .i64 ((n1:Nat):Int))]) (by kernel_rfl) ?_
   refine OD.slS (lw:=n1) (u:=t.size) rfl (by kernel_rfl) (.inr ⟨_,_,rfl,rfl⟩) (.inl ⟨rfl,rfl⟩) (by omega) (by omega) ?_
   refine OD.runE 1 [0,4] (E':=[(0,.str (t.extract n1 t.size)),(4,.row 0 0 (n+1) (n+1))]) (by kernel_rfl) ?_
   refine OD.nil ?_
   refine CD.exit ?_
   exact⟨_,by rw [ByteArray.size_extract];omega,(t.extract n1 t.size),(out++[z1]),n+1,(by kernel_rfl),by rw [ByteArray.size_extract];omega,by first | exact hn | (rw [List.length_append,hn];rfl),hsg.snoc hz1,rfl⟩
  ·
   refine CD.skip ?_
   refine CD.seq ?_
   refine CD.seq ?_
   refine CD.region ?_
   refine OD.runE 4 [0,4,5,29] (E':=[(0,.str t),(4,.row 0 0 n n),(5,.int .i64 ((n1:Nat):Int)),(29,.bool (decide ((((n1:Nat):Int):Int)=((t.size:Nat):Int))))]) (by kernel_rfl) ?_
   refine OD.nil ?_
   refine CD.condP rfl (fun h3=>?_) (fun h3=>?_)
   ·
    refine CD.seq ?_
    refine CD.region ?_
    refine OD.runE 4 [2,3] (E':=[(2,.row 0 0 n n),(3,.int .i64 ((n1:Nat):Int))]) (by kernel_rfl) ?_
    refine OD.nil ?_
    refine CD.freeze 2 rfl rfl (Nat.le_refl _) ?_
    refine CD.ret ?_
    first | refine X01 ?_ | refine X02 ?_ | (dsimp only;first | refine X01 ?_ | refine X02 ?_)
    refine XBN 0 (r:=.tup [.sl 1 n (out.map (D.int .i32)),.int .i64 ((n1:Nat):Int)]) (L':=[]) (by kernel_rfl) ?_ ?_ (by kernel_rfl) (by kernel_rfl) ?_
    · exact Nat.le_of_ble_eq_true (by kernel_rfl)
    · exact Nat.le_of_ble_eq_true (by kernel_rfl)
    · exact⟨⟨_,_,_,rfl,hn,hsg⟩,rfl⟩
   ·
    refine CD.skip ?_
    refine CD.seq ?_
    refine CD.region ?_
    refine OD.runE 1 [0,5,32] (E':=[(0,.str t),(5,.int .i64 ((n1:Nat):Int)),(32,.row 0 0 n n)]) (by kernel_rfl) ?_
    refine OD.bsl (e:=1) (cs:=[.int .i32 65533]) rfl (by kernel_rfl) ?_
    refine OD.runE 0 [0,5,32,33] (E':=[(0,.str t),(5,.int .i64 ((n1:Nat):Int)),(32,.row 0 0 n n),(33,.sl 1 1 [.int .i32 65533])]) (by kernel_rfl) ?_
    refine OD.appV (f:=(D.int .i32)) (xs:=out) (vs:=[65533]) rfl (by kernel_rfl) rfl rfl rfl rfl (by first | omega | (simp only [List.length_set,List.length_replicate,List.length_append,List.length_singleton,List.length_cons,List.length_nil];omega)) (by decide) (by omega) ?_
    refine OD.runE 1 [0,4,5] (E':=[(0,.str t),(4,.row 0 0 (n+1) (n+1)),(5,.int .i64 ((n1:Nat):Int))]) (by kernel_rfl) ?_
    refine OD.nil ?_
    refine CD.region ?_
    refine OD.runE 3 [4,35,37] (E':=[(4,.row 0 0 (n+1) (n+1)),(35,.str t),(37,.int .i64 (max (1:Int) ((n1:Nat):Int)))]) (by kernel_rfl) ?_
    refine OD.is 37 rfl X5i ?_
    refine OD.runE 0 [4,35,37] (E':=[(4,.row 0 0 (n+1) (n+1)),(35,.str t),(37,.int .i64 ((max 1 n1:Nat):Int))]) (by kernel_rfl) ?_
    refine OD.slS (lw:=(max 1 n1)) (u:=t.size) rfl (by kernel_rfl) (.inr ⟨_,_,rfl,rfl⟩) (.inl ⟨rfl,rfl⟩) (by omega) (by omega) ?_
    refine OD.runE 1 [0,4] (E':=[(0,.str (t.extract (max 1 n1) t.size)),(4,.row 0 0 (n+1) (n+1))]) (by kernel_rfl) ?_
    refine OD.nil ?_
    exact⟨_,by rw [ByteArray.size_extract];omega,(t.extract (max 1 n1) t.size),(out++[65533]),n+1,(by kernel_rfl),by rw [ByteArray.size_extract];omega,by first | exact hn | (rw [List.length_append,hn];rfl),hsg.snoc XEQ,rfl⟩
 ·
  refine CD.exit ?_
  refine CD.seq ?_
  refine CD.region ?_
  refine OD.runE 3 [2,3] (E':=[(2,.row 0 0 n n),(3,.int .i64 0)]) (by kernel_rfl) ?_
  refine OD.nil ?_
  refine CD.freeze 2 rfl rfl (Nat.le_refl _) ?_
  refine CD.ret ?_
  first | refine X01 ?_ | refine X02 ?_ | (dsimp only;first | refine X01 ?_ | refine X02 ?_)
  refine XBN 0 (r:=.tup [.sl 1 n (out.map (D.int .i32)),.int .i64 0]) (L':=[]) (by kernel_rfl) ?_ ?_ (by kernel_rfl) (by kernel_rfl) ?_
  · exact Nat.le_of_ble_eq_true (by kernel_rfl)
  · exact Nat.le_of_ble_eq_true (by kernel_rfl)
  · exact⟨⟨_,_,_,rfl,hn,hsg⟩,rfl⟩
theorem XAd (s:ByteArray) (c:Nat) (hsz:s.size≤1048576):FnD P ov 24 [.str s,.int .i64 ((c:Nat):Int)] [] (fun r L1=>(fun r=>∃ l:List Int,r=.sl 1 l.length (l.map (D.int .i32))∧l.length≤c∧X2E l) r∧L1=[]):=by
 refine FnD.intro (by kernel_rfl) (fn:=Tryz.f24) (by kernel_rfl) rfl (by kernel_rfl) fun M a0 g0 hg0=>?_
 refine CD.seq ?_
 refine CD.region ?_
 refine OD.runE 1 [0,1] (E':=[(0,.str s),(1,.int .i64 ((c:Nat):Int))]) (by kernel_rfl) ?_
 refine OD.nil ?_
 refine CD.seq ?_
 refine CD.region ?_
 refine OD.runE 1 [1,8] (E':=[(1,.int .i64 ((c:Nat):Int)),(8,.str s)]) (by kernel_rfl) ?_
 refine OD.callP (R:=fun r=>∃ (l:List Int) (n:Nat) (k:Int),r=.tup [.sl 1 n (l.map (D.int .i32)),.int .i64 k]∧l.length=n∧X2E l) rfl (by kernel_rfl) (by kernel_rfl) (by kernel_rfl) (XHl s (by omega)) (fun r hr=>?_)
 obtain⟨l1,n1,k1,rfl,hl1,hs1⟩:=hr
 refine OD.runE 5 [1,5] (E':=[(1,.int .i64 ((c:Nat):Int)),(5,.sl 1 n1 (l1.map (D.int .i32)))]) (by kernel_rfl) ?_
 refine OD.nil ?_
 refine CD.seq ?_
 refine CD.region ?_
 refine OD.runE 5 [12,16] (E':=[(12,.sl 1 n1 (l1.map (D.int .i32))),(16,.int .i64 (min (((n1:Nat):Int):Int) ((c:Nat):Int)))]) (by kernel_rfl) ?_
 refine OD.is 16 rfl X9d ?_
 refine OD.runE 0 [12,16] (E':=[(12,.sl 1 n1 (l1.map (D.int .i32))),(16,.int .i64 ((min n1 c:Nat):Int))]) (by kernel_rfl) ?_
 refine OD.slSl (lw:=0) (u:=(min n1 c)) rfl (by kernel_rfl) (.inl ⟨rfl,rfl⟩) (.inr ⟨_,_,rfl,rfl⟩) (by omega) (by omega) ?_
 refine OD.is 17 rfl (XGJ (xs:=l1) (u:=(min n1 c))) ?_
 refine OD.runE 1 [4] (E':=[(4,.sl 1 (min n1 c) ((l1.take (min n1 c)).map (D.int .i32)))]) (by kernel_rfl) ?_
 refine OD.nil ?_
 refine CD.ret ?_
 first | refine X01 ?_ | refine X02 ?_ | (dsimp only;first | refine X01 ?_ | refine X02 ?_)
 refine XBN 0 (r:=.sl 1 (min n1 c) ((l1.take (min n1 c)).map (D.int .i32))) (L':=[]) (by kernel_rfl) ?_ ?_ (by kernel_rfl) (by kernel_rfl) ?_
 · exact Nat.le_of_ble_eq_true (by kernel_rfl)
 · exact Nat.le_of_ble_eq_true (by kernel_rfl)
 · exact⟨XER hl1 hs1,rfl⟩
theorem XHm (n:Nat) (hn:n<55296∨(57343<n∧n≤1114111)):X1Q P ov 57 [.int .i32 ((n:Nat):Int)] (.bool true):=by
 refine FnD.intro (by kernel_rfl) (fn:=Tryz.f57) (by kernel_rfl) rfl (by kernel_rfl) fun M a0 g0 hg0=>?_
 refine CD.seq ?_
 refine CD.region ?_
 refine OD.runE 1 [0] (E':=[(0,.int .i32 ((n:Nat):Int))]) (by kernel_rfl) ?_
 refine OD.nil ?_
 refine CD.seq ?_
 refine CD.region ?_
 refine OD.runE 3 [0,5] (E':=[(0,.int .i32 ((n:Nat):Int)),(5,.bool (decide ((0:Int)≤((n:Nat):Int))))]) (by kernel_rfl) ?_
 refine OD.ifP 5 rfl (fun h1=>?_) (fun h1=>?_)
 ·
  refine OD.runE 4 [0,9] (E':=[(0,.int .i32 ((n:Nat):Int)),(9,.bool (decide ((((n:Nat):Int):Int)≤1114111)))]) (by kernel_rfl) ?_
  refine OD.ifP 9 rfl (fun h2=>?_) (fun h2=>?_)
  ·
   refine OD.runE 3 [0,9,12] (E':=[(0,.int .i32 ((n:Nat):Int)),(9,.bool true),(12,.bool (decide ((((n:Nat):Int):Int)<55296)))]) (by kernel_rfl) ?_
   refine OD.ifP 12 rfl (fun h3=>?_) (fun h3=>?_)
   ·
    refine OD.runE 5 [2] (E':=[(2,.bool true)]) (by kernel_rfl) ?_
    refine OD.nil ?_
    refine CD.ret ?_
    exact X6O (by kernel_rfl) (by kernel_rfl) (r:=.bool true) (by first | rfl | (exfalso;omega) | exact congrArg D.bool (decide_eq_true (by omega)))
   ·
    refine OD.runE 5 [2] (E':=[(2,.bool (decide ((57343:Int)<((n:Nat):Int))))]) (by kernel_rfl) ?_
    refine OD.nil ?_
    refine CD.ret ?_
    exact X6O (by kernel_rfl) (by kernel_rfl) (r:=.bool (decide ((57343:Int)<((n:Nat):Int)))) (by first | rfl | (exfalso;omega) | exact congrArg D.bool (decide_eq_true (by omega)))
  ·
   refine OD.runE 8 [2] (E':=[(2,.bool false)]) (by kernel_rfl) ?_
   refine OD.nil ?_
   refine CD.ret ?_
   exact X6O (by kernel_rfl) (by kernel_rfl) (r:=.bool false) (by first | rfl | (exfalso;omega) | exact congrArg D.bool (decide_eq_true (by omega)))
 ·
  refine OD.runE 12 [2] (E':=[(2,.bool false)]) (by kernel_rfl) ?_
  refine OD.nil ?_
  refine CD.ret ?_
  exact X6O (by kernel_rfl) (by kernel_rfl) (r:=.bool false) (by first | rfl | (exfalso;omega) | exact congrArg D.bool (decide_eq_true (by omega)))
theorem XHn (n:Nat) (hn:n<55296∨(57343<n∧n≤1114111)):X1Q P ov 33 [.int .i32 ((n:Nat):Int)] (.str (X85 ((n:Nat):Int))):=by
 refine FnD.intro (by kernel_rfl) (fn:=Tryz.f33) (by kernel_rfl) rfl (by kernel_rfl) fun M a0 g0 hg0=>?_
 refine CD.seq ?_
 refine CD.region ?_
 refine OD.runE 1 [0] (E':=[(0,.int .i32 ((n:Nat):Int))]) (by kernel_rfl) ?_
 refine OD.nil ?_
 refine CD.seq ?_
 refine CD.block ?_
 refine CD.seq ?_
 refine CD.region ?_
 refine OD.runE 1 [0,4] (E':=[(0,.int .i32 ((n:Nat):Int)),(4,.int .i32 ((n:Nat):Int))]) (by kernel_rfl) ?_
 refine OD.callE (XHm n hn) rfl (by kernel_rfl) (by kernel_rfl) (by kernel_rfl) ?_
 refine OD.runE 2 [0,3] (E':=[(0,.int .i32 ((n:Nat):Int)),(3,.bool false)]) (by kernel_rfl) ?_
 refine OD.nil ?_
 refine CD.condF rfl ?_
 refine CD.seq ?_
 refine CD.region ?_
 refine OD.runE 3 [0,8] (E':=[(0,.int .i32 ((n:Nat):Int)),(8,.bool (decide ((((n:Nat):Int):Int)<128)))]) (by kernel_rfl) ?_
 refine OD.nil ?_
 refine CD.condP rfl (fun h1=>?_) (fun h1=>?_)
 ·
  refine CD.seq ?_
  refine CD.region ?_
  refine OD.runE 2 [12] (E':=[(12,.int .u8 (X05 .u8 (((n:Nat):Int))))]) (by kernel_rfl) ?_
  refine OD.is 12 rfl (wr8 (by omega) (by omega)) ?_
  refine OD.runE 0 [12] (E':=[(12,.int .u8 ((n:Nat):Int))]) (by kernel_rfl) ?_
  refine OD.bsl (e:=1) (cs:=[.int .u8 ((n:Nat):Int)]) rfl (by kernel_rfl) ?_
  refine OD.runE 0 [13] (E':=[(13,.sl 1 1 [.int .u8 ((n:Nat):Int)])]) (by kernel_rfl) ?_
  refine OD.convBS (xs:=[((n:Nat):Int)]) rfl rfl (by decide) (by kernel_rfl) (by kernel_rfl) ?_
  refine OD.runE 1 [2] (E':=[(2,.str (strOfNums [((n:Nat):Int)]))]) (by kernel_rfl) ?_
  refine OD.nil ?_
  refine CD.ret ?_
  exact X6O (by kernel_rfl) (by kernel_rfl) (r:=.str (strOfNums [((n:Nat):Int)])) (congrArg D.str (by unfold X85 XBA;rw [Int.toNat_natCast];unfold X4V;simp only [if_pos (show n<128 by omega)];rfl))
 ·
  refine CD.seq ?_
  refine CD.region ?_
  refine OD.runE 3 [0,15] (E':=[(0,.int .i32 ((n:Nat):Int)),(15,.bool (decide ((((n:Nat):Int):Int)<2048)))]) (by kernel_rfl) ?_
  refine OD.nil ?_
  refine CD.condP rfl (fun h2=>?_) (fun h2=>?_)
  ·
   refine CD.seq ?_
   refine CD.region ?_
   refine OD.runE 1 [0,18] (E':=[(0,.int .i32 ((n:Nat):Int)),(18,.int .i32 ((n:Nat):Int))]) (by kernel_rfl) ?_
   refine OD.bit rfl rfl (XB0 (m:=n) (n:=64) (by decide) (by omega)) ?_
   refine OD.runE 1 [0,20] (E':=[(0,.int .i32 ((n:Nat):Int)),(20,.int .i32 (X05 .i32 (192+((n / 64:Nat):Int))))]) (by kernel_rfl) ?_
   refine OD.is 20 rfl (X6F (by omega) (by omega)) ?_
   refine OD.runE 1 [0,21] (E':=[(0,.int .i32 ((n:Nat):Int)),(21,.int .u8 (X05 .u8 (192+((n / 64:Nat):Int))))]) (by kernel_rfl) ?_
   refine OD.is 21 rfl (wr8 (by omega) (by omega)) ?_
   refine OD.runE 3 [21,24] (E':=[(21,.int .u8 (192+((n / 64:Nat):Int))),(24,.int .i32 (X05 .i32 (128+((n % 64:Nat):Int))))]) (by kernel_rfl) ?_
   refine OD.is 24 rfl (X6F (by omega) (by omega)) ?_
   refine OD.runE 1 [21,25] (E':=[(21,.int .u8 (192+((n / 64:Nat):Int))),(25,.int .u8 (X05 .u8 (128+((n % 64:Nat):Int))))]) (by kernel_rfl) ?_
   refine OD.is 25 rfl (wr8 (by omega) (by omega)) ?_
   refine OD.runE 0 [21,25] (E':=[(21,.int .u8 (192+((n / 64:Nat):Int))),(25,.int .u8 (128+((n % 64:Nat):Int)))]) (by kernel_rfl) ?_
   refine OD.bsl (e:=1) (cs:=[.int .u8 (192+((n / 64:Nat):Int)),.int .u8 (128+((n % 64:Nat):Int))]) rfl (by kernel_rfl) ?_
   refine OD.runE 0 [26] (E':=[(26,.sl 1 2 [.int .u8 (192+((n / 64:Nat):Int)),.int .u8 (128+((n % 64:Nat):Int))])]) (by kernel_rfl) ?_
   refine OD.convBS (xs:=[192+((n / 64:Nat):Int),128+((n % 64:Nat):Int)]) rfl rfl (by decide) (by kernel_rfl) (by kernel_rfl) ?_
   refine OD.runE 1 [2] (E':=[(2,.str (strOfNums [192+((n / 64:Nat):Int),128+((n % 64:Nat):Int)]))]) (by kernel_rfl) ?_
   refine OD.nil ?_
   refine CD.ret ?_
   exact X6O (by kernel_rfl) (by kernel_rfl) (r:=.str (strOfNums [192+((n / 64:Nat):Int),128+((n % 64:Nat):Int)])) (congrArg D.str (by unfold X85 XBA;rw [Int.toNat_natCast];unfold X4V;simp only [if_neg (show ¬ n<128 by omega),if_pos (show n<2048 by omega)];rfl))
  ·
   refine CD.seq ?_
   refine CD.region ?_
   refine OD.runE 3 [0,28] (E':=[(0,.int .i32 ((n:Nat):Int)),(28,.bool (decide ((((n:Nat):Int):Int)<65536)))]) (by kernel_rfl) ?_
   refine OD.nil ?_
   refine CD.condP rfl (fun h3=>?_) (fun h3=>?_)
   ·
    refine CD.seq ?_
    refine CD.region ?_
    refine OD.runE 1 [0,31] (E':=[(0,.int .i32 ((n:Nat):Int)),(31,.int .i32 ((n:Nat):Int))]) (by kernel_rfl) ?_
    refine OD.bit rfl rfl (XB0 (m:=n) (n:=4096) (by decide) (by omega)) ?_
    refine OD.runE 1 [0,33] (E':=[(0,.int .i32 ((n:Nat):Int)),(33,.int .i32 (X05 .i32 (224+((n / 4096:Nat):Int))))]) (by kernel_rfl) ?_
    refine OD.is 33 rfl (X6F (by omega) (by omega)) ?_
    refine OD.runE 1 [0,34] (E':=[(0,.int .i32 ((n:Nat):Int)),(34,.int .u8 (X05 .u8 (224+((n / 4096:Nat):Int))))]) (by kernel_rfl) ?_
    refine OD.is 34 rfl (wr8 (by omega) (by omega)) ?_
    refine OD.runE 1 [0,34,35] (E':=[(0,.int .i32 ((n:Nat):Int)),(34,.int .u8 (224+((n / 4096:Nat):Int))),(35,.int .i32 ((n:Nat):Int))]) (by kernel_rfl) ?_
    refine OD.bit rfl rfl (XB0 (m:=n) (n:=64) (by decide) (by omega)) ?_
    refine OD.runE 2 [0,34,38] (E':=[(0,.int .i32 ((n:Nat):Int)),(34,.int .u8 (224+((n / 4096:Nat):Int))),(38,.int .i32 (X05 .i32 (128+(((n / 64) % 64:Nat):Int))))]) (by kernel_rfl) ?_
    refine OD.is 38 rfl (X6F (by omega) (by omega)) ?_
    refine OD.runE 1 [0,34,39] (E':=[(0,.int .i32 ((n:Nat):Int)),(34,.int .u8 (224+((n / 4096:Nat):Int))),(39,.int .u8 (X05 .u8 (128+(((n / 64) % 64:Nat):Int))))]) (by kernel_rfl) ?_
    refine OD.is 39 rfl (wr8 (by omega) (by omega)) ?_
    refine OD.runE 3 [34,39,42] (E':=[(34,.int .u8 (224+((n / 4096:Nat):Int))),(39,.int .u8 (128+(((n / 64) % 64:Nat):Int))),(42,.int .i32 (X05 .i32 (128+((n % 64:Nat):Int))))]) (by kernel_rfl) ?_
    refine OD.is 42 rfl (X6F (by omega) (by omega)) ?_
    refine OD.runE 1 [34,39,43] (E':=[(34,.int .u8 (224+((n / 4096:Nat):Int))),(39,.int .u8 (128+(((n / 64) % 64:Nat):Int))),(43,.int .u8 (X05 .u8 (128+((n % 64:Nat):Int))))]) (by kernel_rfl) ?_
    refine OD.is 43 rfl (wr8 (by omega) (by omega)) ?_
    refine OD.runE 0 [34,39,43] (E':=[(34,.int .u8 (224+((n / 4096:Nat):Int))),(39,.int .u8 (128+(((n / 64) % 64:Nat):Int))),(43,.int .u8 (128+((n % 64:Nat):Int)))]) (by kernel_rfl) ?_
    refine OD.bsl (e:=1) (cs:=[.int .u8 (224+((n / 4096:Nat):Int)),.int .u8 (128+(((n / 64) % 64:Nat):Int)),.int .u8 (128+((n % 64:Nat):Int))]) rfl (by kernel_rfl) ?_
    refine OD.runE 0 [44] (E':=[(44,.sl 1 3 [.int .u8 (224+((n / 4096:Nat):Int)),.int .u8 (128+(((n / 64) % 64:Nat):Int)),.int .u8 (128+((n % 64:Nat):Int))])]) (by kernel_rfl) ?_
    refine OD.convBS (xs:=[224+((n / 4096:Nat):Int),128+(((n / 64) % 64:Nat):Int),128+((n % 64:Nat):Int)]) rfl rfl (by decide) (by kernel_rfl) (by kernel_rfl) ?_
    refine OD.runE 1 [2] (E':=[(2,.str (strOfNums [224+((n / 4096:Nat):Int),128+(((n / 64) % 64:Nat):Int),128+((n % 64:Nat):Int)]))]) (by kernel_rfl) ?_
    refine OD.nil ?_
    refine CD.ret ?_
    exact X6O (by kernel_rfl) (by kernel_rfl) (r:=.str (strOfNums [224+((n / 4096:Nat):Int),128+(((n / 64) % 64:Nat):Int),128+((n % 64:Nat):Int)])) (congrArg D.str (by unfold X85 XBA;rw [Int.toNat_natCast];unfold X4V;simp only [if_neg (show ¬ n<128 by omega),if_neg (show ¬ n<2048 by omega),if_pos (show n<65536 by omega)];rfl))
   ·
    refine CD.skip ?_
    refine CD.seq ?_
    refine CD.region ?_
    refine OD.runE 1 [0,46] (E':=[(0,.int .i32 ((n:Nat):Int)),(46,.int .i32 ((n:Nat):Int))]) (by kernel_rfl) ?_
    refine OD.bit rfl rfl (XB0 (m:=n) (n:=262144) (by decide) (by omega)) ?_
    refine OD.runE 1 [0,48] (E':=[(0,.int .i32 ((n:Nat):Int)),(48,.int .i32 (X05 .i32 (240+((n / 262144:Nat):Int))))]) (by kernel_rfl) ?_
    refine OD.is 48 rfl (X6F (by omega) (by omega)) ?_
    refine OD.runE 1 [0,49] (E':=[(0,.int .i32 ((n:Nat):Int)),(49,.int .u8 (X05 .u8 (240+((n / 262144:Nat):Int))))]) (by kernel_rfl) ?_
    refine OD.is 49 rfl (wr8 (by omega) (by omega)) ?_
    refine OD.runE 1 [0,49,50] (E':=[(0,.int .i32 ((n:Nat):Int)),(49,.int .u8 (240+((n / 262144:Nat):Int))),(50,.int .i32 ((n:Nat):Int))]) (by kernel_rfl) ?_
    refine OD.bit rfl rfl (XB0 (m:=n) (n:=4096) (by decide) (by omega)) ?_
    refine OD.runE 2 [0,49,53] (E':=[(0,.int .i32 ((n:Nat):Int)),(49,.int .u8 (240+((n / 262144:Nat):Int))),(53,.int .i32 (X05 .i32 (128+(((n / 4096) % 64:Nat):Int))))]) (by kernel_rfl) ?_
    refine OD.is 53 rfl (X6F (by omega) (by omega)) ?_
    refine OD.runE 1 [0,49,54] (E':=[(0,.int .i32 ((n:Nat):Int)),(49,.int .u8 (240+((n / 262144:Nat):Int))),(54,.int .u8 (X05 .u8 (128+(((n / 4096) % 64:Nat):Int))))]) (by kernel_rfl) ?_
    refine OD.is 54 rfl (wr8 (by omega) (by omega)) ?_
    refine OD.runE 1 [0,49,54,55] (E':=[(0,.int .i32 ((n:Nat):Int)),(49,.int .u8 (240+((n / 262144:Nat):Int))),(54,.int .u8 (128+(((n / 4096) % 64:Nat):Int))),(55,.int .i32 ((n:Nat):Int))]) (by kernel_rfl) ?_
    refine OD.bit rfl rfl (XB0 (m:=n) (n:=64) (by decide) (by omega)) ?_
    refine OD.runE 2 [0,49,54,58] (E':=[(0,.int .i32 ((n:Nat):Int)),(49,.int .u8 (240+((n / 262144:Nat):Int))),(54,.int .u8 (128+(((n / 4096) % 64:Nat):Int))),(58,.int .i32 (X05 .i32 (128+(((n / 64) % 64:Nat):Int))))]) (by kernel_rfl) ?_
    refine OD.is 58 rfl (X6F (by omega) (by omega)) ?_
    refine OD.runE 1 [0,49,54,59] (E':=[(0,.int .i32 ((n:Nat):Int)),(49,.int .u8 (240+((n / 262144:Nat):Int))),(54,.int .u8 (128+(((n / 4096) % 64:Nat):Int))),(59,.int .u8 (X05 .u8 (128+(((n / 64) % 64:Nat):Int))))]) (by kernel_rfl) ?_
    refine OD.is 59 rfl (wr8 (by omega) (by omega)) ?_
    refine OD.runE 3 [49,54,59,62] (E':=[(49,.int .u8 (240+((n / 262144:Nat):Int))),(54,.int .u8 (128+(((n / 4096) % 64:Nat):Int))),(59,.int .u8 (128+(((n / 64) % 64:Nat):Int))),(62,.int .i32 (X05 .i32 (128+((n % 64:Nat):Int))))]) (by kernel_rfl) ?_
    refine OD.is 62 rfl (X6F (by omega) (by omega)) ?_
    refine OD.runE 1 [49,54,59,63] (E':=[(49,.int .u8 (240+((n / 262144:Nat):Int))),(54,.int .u8 (128+(((n / 4096) % 64:Nat):Int))),(59,.int .u8 (128+(((n / 64) % 64:Nat):Int))),(63,.int .u8 (X05 .u8 (128+((n % 64:Nat):Int))))]) (by kernel_rfl) ?_
    refine OD.is 63 rfl (wr8 (by omega) (by omega)) ?_
    refine OD.runE 0 [49,54,59,63] (E':=[(49,.int .u8 (240+((n / 262144:Nat):Int))),(54,.int .u8 (128+(((n / 4096) % 64:Nat):Int))),(59,.int .u8 (128+(((n / 64) % 64:Nat):Int))),(63,.int .u8 (128+((n % 64:Nat):Int)))]) (by kernel_rfl) ?_
    refine OD.bsl (e:=1) (cs:=[.int .u8 (240+((n / 262144:Nat):Int)),.int .u8 (128+(((n / 4096) % 64:Nat):Int)),.int .u8 (128+(((n / 64) % 64:Nat):Int)),.int .u8 (128+((n % 64:Nat):Int))]) rfl (by kernel_rfl) ?_
    refine OD.runE 0 [64] (E':=[(64,.sl 1 4 [.int .u8 (240+((n / 262144:Nat):Int)),.int .u8 (128+(((n / 4096) % 64:Nat):Int)),.int .u8 (128+(((n / 64) % 64:Nat):Int)),.int .u8 (128+((n % 64:Nat):Int))])]) (by kernel_rfl) ?_
    refine OD.convBS (xs:=[240+((n / 262144:Nat):Int),128+(((n / 4096) % 64:Nat):Int),128+(((n / 64) % 64:Nat):Int),128+((n % 64:Nat):Int)]) rfl rfl (by decide) (by kernel_rfl) (by kernel_rfl) ?_
    refine OD.runE 1 [2] (E':=[(2,.str (strOfNums [240+((n / 262144:Nat):Int),128+(((n / 4096) % 64:Nat):Int),128+(((n / 64) % 64:Nat):Int),128+((n % 64:Nat):Int)]))]) (by kernel_rfl) ?_
    refine OD.nil ?_
    refine CD.ret ?_
    exact X6O (by kernel_rfl) (by kernel_rfl) (r:=.str (strOfNums [240+((n / 262144:Nat):Int),128+(((n / 4096) % 64:Nat):Int),128+(((n / 64) % 64:Nat):Int),128+((n % 64:Nat):Int)])) (congrArg D.str (by unfold X85 XBA;rw [Int.toNat_natCast];unfold X4V;simp only [if_neg (show ¬ n<128 by omega),if_neg (show ¬ n<2048 by omega),if_neg (show ¬ n<65536 by omega)];rfl))
theorem XHo (r:Int) (h:X0a r):X1Q P ov 33 [.int .i32 r] (.str (X85 r)):=by
 obtain⟨n,rfl,hn⟩:=X5X h
 exact XHn n hn
theorem XDR  : X1Q P ov 34 [.bool false] (.int .i64 0):=by
 refine FnD.intro (by kernel_rfl) (fn:=Tryz.f34) (by kernel_rfl) rfl (by kernel_rfl) fun M a0 g0 hg0=>?_
 refine CD.seq ?_
 refine CD.region ?_
 refine OD.runE 1 [0] (E':=[(0,.bool false)]) (by kernel_rfl) ?_
 refine OD.nil ?_
 refine CD.seq ?_
 refine CD.seq ?_
 refine CD.region ?_
 refine OD.runE 1 [3] (E':=[(3,.bool false)]) (by kernel_rfl) ?_
 refine OD.nil ?_
 refine CD.condF rfl ?_
 refine CD.skip ?_
 refine CD.seq ?_
 refine CD.region ?_
 refine OD.runE 1 [2] (E':=[(2,.int .i64 0)]) (by kernel_rfl) ?_
 refine OD.nil ?_
 refine CD.ret ?_
 exact X6O (by kernel_rfl) (by kernel_rfl) (r:=.int .i64 0) (rfl)
theorem XDS  : X1Q P ov 34 [.bool true] (.int .i64 1):=by
 refine FnD.intro (by kernel_rfl) (fn:=Tryz.f34) (by kernel_rfl) rfl (by kernel_rfl) fun M a0 g0 hg0=>?_
 refine CD.seq ?_
 refine CD.region ?_
 refine OD.runE 1 [0] (E':=[(0,.bool true)]) (by kernel_rfl) ?_
 refine OD.nil ?_
 refine CD.seq ?_
 refine CD.seq ?_
 refine CD.region ?_
 refine OD.runE 1 [3] (E':=[(3,.bool true)]) (by kernel_rfl) ?_
 refine OD.nil ?_
 refine CD.condT rfl ?_
 refine CD.seq ?_
 refine CD.region ?_
 refine OD.runE 1 [2] (E':=[(2,.int .i64 1)]) (by kernel_rfl) ?_
 refine OD.nil ?_
 refine CD.ret ?_
 exact X6O (by kernel_rfl) (by kernel_rfl) (r:=.int .i64 1) (rfl)
end
end Go.Proofs.YtiebldaihnbkmaaGreatDoor
