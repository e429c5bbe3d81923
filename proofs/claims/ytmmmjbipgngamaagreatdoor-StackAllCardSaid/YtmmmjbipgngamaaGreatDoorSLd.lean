/-
  What is proved here: an entry of the other stack goes (a walk that a program of mine has printed). what functions of the other stack come to (walks that a program of mine has printed). Set of the other stack (a walk that a program of mine has printed). No conditions but those that the theorems state.
-/
import Derived.Test.YtmmmjbipgngamaaGreatDoorSLa
set_option linter.unusedVariables false
set_option linter.unusedSimpArgs false
set_option maxRecDepth 100000
set_option maxHeartbeats 4000000
namespace Go.Proofs.YtmmmjbipgngamaaGreatDoor
open Go.Vai Go.RowKit
noncomputable section
theorem XCA (room:Int) (nx:Nat) (ms:List X0A) (i:Nat) (hi:i<ms.length) (hm:ms.length≤1000000):FnD P ov 37 [.loc 0 0,.int .i64 ((i:Nat):Int)] [.box [.int .i64 room,.row 1 0 ms.length ms.length,.int .i64 ((nx:Nat):Int)],.row 3 ms.length (ms.flatMap X04)] (fun r L1=>r=.tup []∧L1=[.box [.int .i64 room,.row 1 0 ((ms.eraseIdx i).length) ((ms.eraseIdx i).length),.int .i64 ((nx:Nat):Int)],.row 3 ((ms.eraseIdx i).length) ((ms.eraseIdx i).flatMap X04)]):=by
 refine FnD.intro (by kernel_rfl) (fn:=Tryz.f37) (by kernel_rfl) rfl (by kernel_rfl) fun M a0 g0 hg0=>?_
 refine CD.drawnY [4,11] [6,14] [(21,1)] 19 (i+(ms.length - (i+1))) (i+(ms.length - (i+1))) (jb:=0) (jr:=1) (o:=0) (n:=ms.length) (c:=ms.length) (e:=3) (N:=ms.length) (d0:=.int .i64 room) (d1:=.int .i64 ((nx:Nat):Int)) (cells:=ms.flatMap X04) (N':=(i+(ms.length - (i+1)))) (cells':=(ms.eraseIdx i).flatMap X04) (opsP:=#[{ dst:=some 4,op:=Go.Op.move (Go.Operand.tmp 0),type:=26,pos := "ref.go:124", after:=#[],guard:=none },{ dst:=some 5,op:=Go.Op.move (Go.Operand.tmp 0),type:=26,pos := "ref.go:124", after:=#[],guard:=none },{ dst:=some 6,op:=Go.Op.nilCheck (Go.Operand.tmp 5),type:=0,pos := "ref.go:124", after:=#[{ on:=1,ground:=Go.Ground.data }],guard:=none },{ dst:=some 7,op:=Go.Op.fieldAddr 55 (Go.Operand.tmp 6) 1,type:=0,pos := "ref.go:124", after:=#[{ on:=2,ground:=Go.Ground.data }],guard:=none },{ dst:=some 8,op:=Go.Op.load 53 (Go.Operand.tmp 7),type:=53,pos := "ref.go:124", after:=#[{ on:=3,ground:=Go.Ground.data }],guard:=none },{ dst:=some 9,op:=Go.Op.move (Go.Operand.tmp 1),type:=3,pos := "ref.go:124", after:=#[],guard:=none },{ dst:=some 10,op:=Go.Op.slice 53 (Go.Operand.tmp 8) none (some (Go.Operand.tmp 9)) none,type:=53,pos := "ref.go:124", after:=#[{ on:=4,ground:=Go.Ground.data },{ on:=5,ground:=Go.Ground.data }],guard:=none },{ dst:=some 11,op:=Go.Op.call { callee:=Go.Callee.builtin Go.Builtin.append,args:=#[Go.Operand.const (Go.Value.slice none 0 0),Go.Operand.tmp 10],argTypes:=#[53,53] },type:=53,pos := "ref.go:124", after:=#[{ on:=6,ground:=Go.Ground.data }],guard:=none },{ dst:=some 12,op:=Go.Op.move (Go.Operand.tmp 0),type:=26,pos := "ref.go:124", after:=#[],guard:=none },{ dst:=some 13,op:=Go.Op.nilCheck (Go.Operand.tmp 12),type:=0,pos := "ref.go:124", after:=#[{ on:=8,ground:=Go.Ground.data }],guard:=none },{ dst:=some 14,op:=Go.Op.fieldAddr 55 (Go.Operand.tmp 13) 1,type:=0,pos := "ref.go:124", after:=#[{ on:=9,ground:=Go.Ground.data }],guard:=none },{ dst:=some 15,op:=Go.Op.load 53 (Go.Operand.tmp 14),type:=53,pos := "ref.go:124", after:=#[{ on:=10,ground:=Go.Ground.data }],guard:=none },{ dst:=some 16,op:=Go.Op.move (Go.Operand.tmp 1),type:=3,pos := "ref.go:124", after:=#[],guard:=none },{ dst:=some 17,op:=Go.Op.binOp Go.BinOp.add 3 (Go.Operand.tmp 16) (Go.Operand.const (Go.Value.int Go.IntKind.i64 1)) 3,type:=3,pos := "ref.go:124", after:=#[{ on:=12,ground:=Go.Ground.data }],guard:=none },{ dst:=some 18,op:=Go.Op.slice 53 (Go.Operand.tmp 15) (some (Go.Operand.tmp 17)) none none,type:=53,pos := "ref.go:124", after:=#[{ on:=11,ground:=Go.Ground.data },{ on:=13,ground:=Go.Ground.data }],guard:=none },{ dst:=some 19,op:=Go.Op.call { callee:=Go.Callee.builtin Go.Builtin.append,args:=#[Go.Operand.tmp 11,Go.Operand.tmp 18],argTypes:=#[53,53] },type:=53,pos := "ref.go:124", after:=#[{ on:=7,ground:=Go.Ground.data },{ on:=14,ground:=Go.Ground.data },{ on:=7,ground:=Go.Ground.chain }],guard:=none },{ dst:=some 20,op:=Go.Op.nilCheck (Go.Operand.tmp 4),type:=0,pos := "ref.go:124", after:=#[{ on:=0,ground:=Go.Ground.data },{ on:=0,ground:=Go.Ground.phase },{ on:=1,ground:=Go.Ground.phase },{ on:=2,ground:=Go.Ground.phase },{ on:=3,ground:=Go.Ground.phase },{ on:=4,ground:=Go.Ground.phase },{ on:=5,ground:=Go.Ground.phase },{ on:=6,ground:=Go.Ground.phase },{ on:=7,ground:=Go.Ground.phase },{ on:=8,ground:=Go.Ground.phase },{ on:=9,ground:=Go.Ground.phase },{ on:=10,ground:=Go.Ground.phase },{ on:=11,ground:=Go.Ground.phase },{ on:=12,ground:=Go.Ground.phase },{ on:=13,ground:=Go.Ground.phase },{ on:=14,ground:=Go.Ground.phase },{ on:=15,ground:=Go.Ground.phase }],guard:=none },{ dst:=some 21,op:=Go.Op.fieldAddr 55 (Go.Operand.tmp 20) 1,type:=0,pos := "ref.go:124", after:=#[{ on:=16,ground:=Go.Ground.data },{ on:=0,ground:=Go.Ground.phase },{ on:=1,ground:=Go.Ground.phase },{ on:=2,ground:=Go.Ground.phase },{ on:=3,ground:=Go.Ground.phase },{ on:=4,ground:=Go.Ground.phase },{ on:=5,ground:=Go.Ground.phase },{ on:=6,ground:=Go.Ground.phase },{ on:=7,ground:=Go.Ground.phase },{ on:=8,ground:=Go.Ground.phase },{ on:=9,ground:=Go.Ground.phase },{ on:=10,ground:=Go.Ground.phase },{ on:=11,ground:=Go.Ground.phase },{ on:=12,ground:=Go.Ground.phase },{ on:=13,ground:=Go.Ground.phase },{ on:=14,ground:=Go.Ground.phase },{ on:=15,ground:=Go.Ground.phase }],guard:=none }]) (last:={ dst:=none,op:=Go.Op.store 53 (Go.Operand.tmp 21) (Go.Operand.tmp 19),type:=0,pos := "ref.go:124", after:=#[{ on:=17,ground:=Go.Ground.data },{ on:=15,ground:=Go.Ground.data },{ on:=15,ground:=Go.Ground.chain },{ on:=0,ground:=Go.Ground.phase },{ on:=1,ground:=Go.Ground.phase },{ on:=2,ground:=Go.Ground.phase },{ on:=3,ground:=Go.Ground.phase },{ on:=4,ground:=Go.Ground.phase },{ on:=5,ground:=Go.Ground.phase },{ on:=6,ground:=Go.Ground.phase },{ on:=7,ground:=Go.Ground.phase },{ on:=8,ground:=Go.Ground.phase },{ on:=9,ground:=Go.Ground.phase },{ on:=10,ground:=Go.Ground.phase },{ on:=11,ground:=Go.Ground.phase },{ on:=12,ground:=Go.Ground.phase },{ on:=13,ground:=Go.Ground.phase },{ on:=14,ground:=Go.Ground.phase },{ on:=15,ground:=Go.Ground.phase }],guard:=none }) rfl rfl rfl rfl rfl (X2P ms) (Nat.le_refl _) (by omega) (by kernel_rfl) (XC3 _) ?_ ?_
 ·
  intro M1 a1 bx1 bq b0 i0 c0 hc0 hsl hbx
  rw [X1K]at hsl
  refine OD.runE 2 [0,1,4,5] (E':=[(0,X0s bq 0),(1,.int .i64 ((i:Nat):Int)),(4,X0s bq 0),(5,X0s bq 0)]) (by kernel_rfl) ?_
  refine OD.nckL rfl ?_
  refine OD.runE 0 [0,1,4,6] (E':=[(0,X0s bq 0),(1,.int .i64 ((i:Nat):Int)),(4,X0s bq 0),(6,X0s bq 0)]) (by kernel_rfl) ?_
  refine OD.fadL (i:=0) (o:=0) (o1:=1) (b':=0) (x':=none) rfl (by kernel_rfl) ?_
  refine OD.runE 0 [0,1,4,7] (E':=[(0,X0s bq 0),(1,.int .i64 ((i:Nat):Int)),(4,X0s bq 0),(7,X0s bq 1)]) (by kernel_rfl) ?_
  refine OD.ldBg (d:=X49 b0 i0 ms.length c0) hbx rfl (by kernel_rfl) ?_
  refine OD.runE 1 [0,1,4,7,8,9] (E':=[(0,X0s bq 0),(1,.int .i64 ((i:Nat):Int)),(4,X0s bq 0),(7,X0s bq 1),(8,X49 b0 i0 ms.length c0),(9,.int .i64 ((i:Nat):Int))]) (by kernel_rfl) ?_
  refine OD.slLit (il:=i0) (m:=ms.length) (cl:=c0) (lw:=0) (u:=i) hsl rfl (by kernel_rfl) (.inl ⟨rfl,rfl⟩) (.inr ⟨_,_,rfl,rfl⟩) (by omega) (by omega) ?_
  refine OD.unlit 10 0 (m:=i - 0) (cl:=c0 - 0) hsl rfl (by omega) (by omega) rfl ?_
  refine OD.is 10 rfl (XH4 (n':=i) (by omega) (XAd ms i)) ?_
  refine OD.runE 0 [0,1,4,7,8,9,10] (E':=[(0,X0s bq 0),(1,.int .i64 ((i:Nat):Int)),(4,X0s bq 0),(7,X0s bq 1),(8,X49 b0 i0 ms.length c0),(9,.int .i64 ((i:Nat):Int)),(10,.sl 3 i ((ms.take i).flatMap X04))]) (by kernel_rfl) ?_
  refine OD.appC rfl (by kernel_rfl) rfl (by omega) (by omega) ?_
  refine OD.runE 1 [1,4,7,8,9,11,12] (E':=[(1,.int .i64 ((i:Nat):Int)),(4,X0s bq 0),(7,X0s bq 1),(8,X49 b0 i0 ms.length c0),(9,.int .i64 ((i:Nat):Int)),(11,.row 0 0 i i),(12,X0s bq 0)]) (by kernel_rfl) ?_
  refine OD.nckL rfl ?_
  refine OD.runE 0 [1,4,7,8,9,11,12,13] (E':=[(1,.int .i64 ((i:Nat):Int)),(4,X0s bq 0),(7,X0s bq 1),(8,X49 b0 i0 ms.length c0),(9,.int .i64 ((i:Nat):Int)),(11,.row 0 0 i i),(12,X0s bq 0),(13,X0s bq 0)]) (by kernel_rfl) ?_
  refine OD.fadL (i:=0) (o:=0) (o1:=1) (b':=0) (x':=none) rfl (by kernel_rfl) ?_
  refine OD.runE 0 [1,4,7,8,9,11,12,13,14] (E':=[(1,.int .i64 ((i:Nat):Int)),(4,X0s bq 0),(7,X0s bq 1),(8,X49 b0 i0 ms.length c0),(9,.int .i64 ((i:Nat):Int)),(11,.row 0 0 i i),(12,X0s bq 0),(13,X0s bq 0),(14,X0s bq 1)]) (by kernel_rfl) ?_
  refine OD.ldBg (d:=X49 b0 i0 ms.length c0) hbx rfl (by kernel_rfl) ?_
  refine OD.runE 2 [4,7,8,9,11,12,13,14,15,16,17] (E':=[(4,X0s bq 0),(7,X0s bq 1),(8,X49 b0 i0 ms.length c0),(9,.int .i64 ((i:Nat):Int)),(11,.row 0 0 i i),(12,X0s bq 0),(13,X0s bq 0),(14,X0s bq 1),(15,X49 b0 i0 ms.length c0),(16,.int .i64 ((i:Nat):Int)),(17,.int .i64 (X0X .i64 (((i:Nat):Int)+1)))]) (by kernel_rfl) ?_
  refine OD.is 17 rfl (wrn (m:=i+1) (by omega) (by omega)) ?_
  refine OD.runE 0 [4,7,8,9,11,12,13,14,15,16,17] (E':=[(4,X0s bq 0),(7,X0s bq 1),(8,X49 b0 i0 ms.length c0),(9,.int .i64 ((i:Nat):Int)),(11,.row 0 0 i i),(12,X0s bq 0),(13,X0s bq 0),(14,X0s bq 1),(15,X49 b0 i0 ms.length c0),(16,.int .i64 ((i:Nat):Int)),(17,.int .i64 ((i+1:Nat):Int))]) (by kernel_rfl) ?_
  refine OD.slLit (il:=i0) (m:=ms.length) (cl:=c0) (lw:=(i+1)) (u:=ms.length) hsl rfl (by kernel_rfl) (.inr ⟨_,_,rfl,rfl⟩) (.inl ⟨rfl,rfl⟩) (by omega) (by omega) ?_
  refine OD.unlit 18 (i+1) (m:=ms.length - (i+1)) (cl:=c0 - (i+1)) hsl rfl (by omega) (by omega) rfl ?_
  refine OD.is 18 rfl (XH4 (n':=ms.length - (i+1)) (by omega) (XAe ms i)) ?_
  refine OD.runE 0 [4,7,8,9,11,12,13,14,15,16,17,18] (E':=[(4,X0s bq 0),(7,X0s bq 1),(8,X49 b0 i0 ms.length c0),(9,.int .i64 ((i:Nat):Int)),(11,.row 0 0 i i),(12,X0s bq 0),(13,X0s bq 0),(14,X0s bq 1),(15,X49 b0 i0 ms.length c0),(16,.int .i64 ((i:Nat):Int)),(17,.int .i64 ((i+1:Nat):Int)),(18,.sl 3 (ms.length - (i+1)) ((ms.drop (i+1)).flatMap X04))]) (by kernel_rfl) ?_
  refine OD.appA (e:=3) rfl (by kernel_rfl) rfl rfl rfl (by rw [X1F,List.length_take];omega) (by rw [X1F,List.length_drop]) (by omega) (by omega) ?_
  refine OD.rowIs 0 rfl (cs':=(ms.eraseIdx i).flatMap X04) (X92 ms i) ?_
  refine OD.runE 0 [4,7,8,9,12,13,14,15,16,17,18,19] (E':=[(4,X0s bq 0),(7,X0s bq 1),(8,X49 b0 i0 ms.length c0),(9,.int .i64 ((i:Nat):Int)),(12,X0s bq 0),(13,X0s bq 0),(14,X0s bq 1),(15,X49 b0 i0 ms.length c0),(16,.int .i64 ((i:Nat):Int)),(17,.int .i64 ((i+1:Nat):Int)),(18,.sl 3 (ms.length - (i+1)) ((ms.drop (i+1)).flatMap X04)),(19,.row 0 0 (i+(ms.length - (i+1))) (i+(ms.length - (i+1))))]) (by kernel_rfl) ?_
  refine OD.nckL rfl ?_
  refine OD.runE 0 [4,7,8,9,12,13,14,15,16,17,18,19,20] (E':=[(4,X0s bq 0),(7,X0s bq 1),(8,X49 b0 i0 ms.length c0),(9,.int .i64 ((i:Nat):Int)),(12,X0s bq 0),(13,X0s bq 0),(14,X0s bq 1),(15,X49 b0 i0 ms.length c0),(16,.int .i64 ((i:Nat):Int)),(17,.int .i64 ((i+1:Nat):Int)),(18,.sl 3 (ms.length - (i+1)) ((ms.drop (i+1)).flatMap X04)),(19,.row 0 0 (i+(ms.length - (i+1))) (i+(ms.length - (i+1)))),(20,X0s bq 0)]) (by kernel_rfl) ?_
  refine OD.fadL (i:=0) (o:=0) (o1:=1) (b':=0) (x':=none) rfl (by kernel_rfl) ?_
  refine OD.runE 0 [4,7,8,9,12,13,14,15,16,17,18,19,21] (E':=[(4,X0s bq 0),(7,X0s bq 1),(8,X49 b0 i0 ms.length c0),(9,.int .i64 ((i:Nat):Int)),(12,X0s bq 0),(13,X0s bq 0),(14,X0s bq 1),(15,X49 b0 i0 ms.length c0),(16,.int .i64 ((i:Nat):Int)),(17,.int .i64 ((i+1:Nat):Int)),(18,.sl 3 (ms.length - (i+1)) ((ms.drop (i+1)).flatMap X04)),(19,.row 0 0 (i+(ms.length - (i+1))) (i+(ms.length - (i+1)))),(21,X0s bq 1)]) (by kernel_rfl) ?_
  refine OD.nil ⟨by kernel_rfl,⟨⟨53,7,1,X49 b0 i0 ms.length c0,by kernel_rfl,rfl,by kernel_rfl⟩,⟨⟨53,14,1,X49 b0 i0 ms.length c0,by kernel_rfl,rfl,by kernel_rfl⟩,trivial⟩⟩,⟨⟨53,8,none,(some (.tmp 9)),i0,ms.length,c0,0,i,by kernel_rfl,rfl,by kernel_rfl,.inl ⟨rfl,rfl⟩,.inr ⟨_,_,rfl,rfl⟩,by omega,by omega⟩,⟨⟨53,15,(some (.tmp 17)),none,i0,ms.length,c0,(i+1),ms.length,by kernel_rfl,rfl,by kernel_rfl,.inr ⟨_,_,rfl,rfl⟩,.inl ⟨rfl,rfl⟩,by omega,by omega⟩,trivial⟩⟩,⟨rfl,trivial⟩,rfl,rfl⟩
 ·
  refine OD.run 1 [] (E':=[]) (L':=[.box [.int .i64 room,.row 2 0 (i+(ms.length - (i+1))) (i+(ms.length - (i+1))),.int .i64 ((nx:Nat):Int)],.row 3 ms.length (ms.flatMap X04),.row 3 (i+(ms.length - (i+1))) ((ms.eraseIdx i).flatMap X04)]) (by kernel_rfl) ?_
  refine OD.swap 1 2 rfl rfl ?_
  refine OD.weak [] 2 (E':=[]) (by kernel_rfl) (by simp [hg0]) (by kernel_rfl) ?_
  refine OD.run 0 [] (E':=[]) (L':=[.box [.int .i64 room,.row 1 0 (i+(ms.length - (i+1))) (i+(ms.length - (i+1))),.int .i64 ((nx:Nat):Int)],.row 3 (i+(ms.length - (i+1))) ((ms.eraseIdx i).flatMap X04)]) (by kernel_rfl) ?_
  refine OD.nil ?_
  first | refine X06 ?_ | refine X07 ?_ | (dsimp only;first | refine X06 ?_ | refine X07 ?_)
  refine X26 2 (r:=.tup []) (L':=[.box [.int .i64 room,.row 1 0 (i+(ms.length - (i+1))) (i+(ms.length - (i+1))),.int .i64 ((nx:Nat):Int)],.row 3 (i+(ms.length - (i+1))) ((ms.eraseIdx i).flatMap X04)]) (by kernel_rfl) ?_ ?_ (by kernel_rfl) (by kernel_rfl) ?_
  · exact Nat.le_of_ble_eq_true (by kernel_rfl)
  · exact Nat.le_of_ble_eq_true (by kernel_rfl)
  · exact(by rw [← XC4 hi];exact⟨rfl,rfl⟩)
end
end Go.Proofs.YtmmmjbipgngamaaGreatDoor
set_option maxRecDepth 100000
set_option maxHeartbeats 4000000
namespace Go.Proofs.YtmmmjbipgngamaaGreatDoor
open Go.Vai Go.RowKit
noncomputable section
theorem XDp (room:Int) (nx:Nat) (ms:List X0A) (name:ByteArray) (hm:ms.length≤900000):FnD P ov 17 [.loc 0 0,.str name] [.box [.int .i64 room,.row 1 0 ms.length ms.length,.int .i64 ((nx:Nat):Int)],.row 3 ms.length (ms.flatMap X04)] (fun r L1=>r=.bool (X15 ms name).1∧L1=[.box [.int .i64 room,.row 1 0 ((X15 ms name).2.length) ((X15 ms name).2.length),.int .i64 ((nx:Nat):Int)],.row 3 ((X15 ms name).2.length) (((X15 ms name).2).flatMap X04)]):=by
 refine FnD.intro (by kernel_rfl) (fn:=Tryz.f17) (by kernel_rfl) rfl (by kernel_rfl) fun M a0 g0 hg0=>?_
 refine CD.seq ?_
 refine CD.region ?_
 refine OD.runE 1 [0,1] (E':=[(0,.loc 0 0),(1,.str name)]) (by kernel_rfl) ?_
 refine OD.nil ?_
 refine CD.seq ?_
 refine CD.region ?_
 refine OD.runE 2 [0,6,7] (E':=[(0,.loc 0 0),(6,.loc 0 0),(7,.str name)]) (by kernel_rfl) ?_
 refine OD.callFy (jb:=0) (jr:=1) (o:=0) (n:=ms.length) (c:=ms.length) (e:=3) (N:=ms.length) (d0:=.int .i64 room) (d1:=.int .i64 ((nx:Nat):Int)) (cells:=ms.flatMap X04) (rest:=[.str name]) (R:=fun r=>r=.int .i64 (X0I ms name)) (by rw [X1K];exact X4w _ _ ms name (by omega)) rfl (by kernel_rfl) rfl rfl rfl rfl (by kernel_rfl) (X2P ms) (Nat.le_refl _) (by kernel_rfl) (fun r hr=>by rw [hr];rfl) (fun r hr=>?_)
 subst hr
 rcases X1k ms name with hfe | ⟨fi,hfe,hil⟩
 ·
  refine OD.is 8 rfl (congrArg (D.int .i64) hfe) ?_
  refine OD.runE 1 [0,5] (E':=[(0,.loc 0 0),(5,.int .i64 (-1))]) (by kernel_rfl) ?_
  refine OD.nil ?_
  refine CD.seq ?_
  refine CD.seq ?_
  refine CD.region ?_
  refine OD.runE 2 [0,5,10] (E':=[(0,.loc 0 0),(5,.int .i64 (-1)),(10,.bool false)]) (by kernel_rfl) ?_
  refine OD.nil ?_
  refine CD.condF rfl ?_
  refine CD.skip ?_
  refine CD.seq ?_
  refine CD.region ?_
  refine OD.runE 3 [4] (E':=[(4,.bool false)]) (by kernel_rfl) ?_
  refine OD.nil ?_
  refine CD.ret ?_
  first | refine X06 ?_ | refine X07 ?_ | (dsimp only;first | refine X06 ?_ | refine X07 ?_)
  refine X26 2 (r:=.bool false) (L':=[.box [.int .i64 room,.row 1 0 ms.length ms.length,.int .i64 ((nx:Nat):Int)],.row 3 ms.length (ms.flatMap X04)]) (by kernel_rfl) ?_ ?_ (by kernel_rfl) (by kernel_rfl) ?_
  · exact Nat.le_of_ble_eq_true (by kernel_rfl)
  · exact Nat.le_of_ble_eq_true (by kernel_rfl)
  · exact(by first | (exfalso;omega) | (have hd:X15 ms name=(false,ms):=(by unfold X15;rw [hfe,if_pos (by omega)]);rw [hd];exact⟨rfl,rfl⟩))
 ·
  refine OD.is 8 rfl (congrArg (D.int .i64) hfe) ?_
  refine OD.runE 1 [0,5] (E':=[(0,.loc 0 0),(5,.int .i64 ((fi:Nat):Int))]) (by kernel_rfl) ?_
  refine OD.nil ?_
  refine CD.seq ?_
  refine CD.seq ?_
  refine CD.region ?_
  refine OD.runE 2 [0,5,10] (E':=[(0,.loc 0 0),(5,.int .i64 ((fi:Nat):Int)),(10,.bool (decide ((0:Int)≤((fi:Nat):Int))))]) (by kernel_rfl) ?_
  refine OD.nil ?_
  refine CD.condP rfl (fun h1=>?_) (fun h1=>?_)
  ·
   refine CD.region ?_
   refine OD.runE 2 [5,11,12] (E':=[(5,.int .i64 ((fi:Nat):Int)),(11,.loc 0 0),(12,.int .i64 ((fi:Nat):Int))]) (by kernel_rfl) ?_
   refine OD.callO [0,1] (ds:=[.loc 0 0,.int .i64 ((fi:Nat):Int)]) (XCA room nx ms fi hil (by omega)) rfl (by kernel_rfl) (by kernel_rfl) (by kernel_rfl) (by kernel_rfl) (by kernel_rfl) (fun r L1 hr=>?_)
   obtain⟨rfl,rfl⟩:=hr
   refine OD.runE 0 [5] (E':=[(5,.int .i64 ((fi:Nat):Int))]) (by kernel_rfl) ?_
   refine OD.nil ?_
   refine CD.seq ?_
   refine CD.region ?_
   refine OD.runE 3 [4] (E':=[(4,.bool (decide ((0:Int)≤((fi:Nat):Int))))]) (by kernel_rfl) ?_
   refine OD.nil ?_
   refine CD.ret ?_
   first | refine X06 ?_ | refine X07 ?_ | (dsimp only;first | refine X06 ?_ | refine X07 ?_)
   refine X26 2 (r:=.bool (decide ((0:Int)≤((fi:Nat):Int)))) (L':=[.box [.int .i64 room,.row 1 0 ((ms.eraseIdx fi).length) ((ms.eraseIdx fi).length),.int .i64 ((nx:Nat):Int)],.row 3 ((ms.eraseIdx fi).length) ((ms.eraseIdx fi).flatMap X04)]) (by kernel_rfl) ?_ ?_ (by kernel_rfl) (by kernel_rfl) ?_
   · exact Nat.le_of_ble_eq_true (by kernel_rfl)
   · exact Nat.le_of_ble_eq_true (by kernel_rfl)
   · exact(by have hd:X15 ms name=(true,ms.eraseIdx fi):=(by unfold X15;rw [hfe,if_neg (by omega),Int.toNat_natCast]);rw [hd];exact⟨congrArg D.bool (decide_eq_true (by omega)),rfl⟩)
  ·
   refine CD.skip ?_
   refine CD.seq ?_
   refine CD.region ?_
   refine OD.runE 3 [4] (E':=[(4,.bool (decide ((0:Int)≤((fi:Nat):Int))))]) (by kernel_rfl) ?_
   refine OD.nil ?_
   refine CD.ret ?_
   first | refine X06 ?_ | refine X07 ?_ | (dsimp only;first | refine X06 ?_ | refine X07 ?_)
   refine X26 2 (r:=.bool (decide ((0:Int)≤((fi:Nat):Int)))) (L':=[.box [.int .i64 room,.row 1 0 ms.length ms.length,.int .i64 ((nx:Nat):Int)],.row 3 ms.length (ms.flatMap X04)]) (by kernel_rfl) ?_ ?_ (by kernel_rfl) (by kernel_rfl) ?_
   · exact Nat.le_of_ble_eq_true (by kernel_rfl)
   · exact Nat.le_of_ble_eq_true (by kernel_rfl)
   · exact(by first | (exfalso;omega) | (have hd:X15 ms name=(false,ms):=(by unfold X15;rw [hfe,if_pos (by omega)]);rw [hd];exact⟨rfl,rfl⟩))
theorem XDq (room:Int) (n0:Nat) (ms:List X0A) (text:ByteArray) (htx:¬ text=ByteArray.empty) (hroom:1≤room) (hm:ms.length≤900000) (hn:n0+ms.length≤900000):FnD P ov 13 [.loc 0 0,.str text] [.box [.int .i64 room,.row 1 0 ms.length ms.length,.int .i64 ((n0:Nat):Int)],.row 3 ms.length (ms.flatMap X04)] (fun r L1=>∃ (k:Nat) (m2:List X0A),X4H ms n0 k∧FvR room (ms++[(bn k,text,true)]) m2∧r=.str (bn k)∧L1=[.box [.int .i64 room,.row 1 0 m2.length m2.length,.int .i64 ((k+1:Nat):Int)],.row 3 m2.length (m2.flatMap X04)]):=by
 refine FnD.intro (by kernel_rfl) (fn:=Tryz.f13) (by kernel_rfl) rfl (by kernel_rfl) fun M a0 g0 hg0=>?_
 refine CD.seq ?_
 refine CD.region ?_
 refine OD.runE 1 [0,1] (E':=[(0,.loc 0 0),(1,.str text)]) (by kernel_rfl) ?_
 refine OD.nil ?_
 refine CD.seq ?_
 refine CD.seq ?_
 refine CD.region ?_
 refine OD.runE 1 [0,1,9] (E':=[(0,.loc 0 0),(1,.str text),(9,.str text)]) (by kernel_rfl) ?_
 refine OD.eqS rfl rfl ?_
 refine OD.runE 0 [0,1,10] (E':=[(0,.loc 0 0),(1,.str text),(10,.bool (decide (text=ByteArray.empty)))]) (by kernel_rfl) ?_
 refine OD.nil ?_
 refine CD.condP rfl (fun h1=>?_) (fun h1=>?_)
 ·
  refine CD.seq ?_
  exact(htx (by assumption)).elim
 ·
  refine CD.skip ?_
  refine CD.seq ?_
  refine CD.block ?_
  refine CD.weak [0,1] 2 (E':=[(0,.loc 0 0),(1,.str text)]) (by kernel_rfl) (by simp [hg0]) (by kernel_rfl) ?_
  refine CD.loop (fun m σ=>∃ (nx:Nat),σ=⟨[(0,.loc 0 0),(1,.str text)],[.box [.int .i64 room,.row 1 0 ms.length ms.length,.int .i64 ((nx:Nat):Int)],.row 3 ms.length (ms.flatMap X04)]⟩∧(NxI ms n0 nx)∧m=XBq ms nx) (fun m σ hI=>?_) _ ⟨n0,(by kernel_rfl),NxI.init,rfl⟩
  obtain⟨nx,e,hN,hm⟩:=hI
  subst e hm
  have hnb:=hN.le
  refine CD.seq ?_
  refine CD.seq ?_
  refine CD.region ?_
  refine OD.runE 5 [0,1,11,15] (E':=[(0,.loc 0 0),(1,.str text),(11,.loc 0 0),(15,.int .i64 ((nx:Nat):Int))]) (by kernel_rfl) ?_
  refine OD.callE (X7k (nx) (by omega)) rfl (by kernel_rfl) (by kernel_rfl) (by kernel_rfl) ?_
  refine OD.runE 0 [0,1,11,16] (E':=[(0,.loc 0 0),(1,.str text),(11,.loc 0 0),(16,.str (X3k nx))]) (by kernel_rfl) ?_
  refine OD.catS rfl rfl (XDd (by omega)) ?_
  refine OD.is 17 rfl (show _=D.str (bn nx)from rfl) ?_
  refine OD.runE 0 [0,1,11,17] (E':=[(0,.loc 0 0),(1,.str text),(11,.loc 0 0),(17,.str (bn nx))]) (by kernel_rfl) ?_
  refine OD.callFy (jb:=0) (jr:=1) (o:=0) (n:=ms.length) (c:=ms.length) (e:=3) (N:=ms.length) (d0:=.int .i64 room) (d1:=.int .i64 ((nx:Nat):Int)) (cells:=ms.flatMap X04) (rest:=[.str (bn nx)]) (R:=fun r=>r=.int .i64 (X0I ms (bn nx))) (by rw [X1K];exact X4w _ _ ms (bn nx) (by omega)) rfl (by kernel_rfl) rfl rfl rfl rfl (by kernel_rfl) (X2P ms) (Nat.le_refl _) (by kernel_rfl) (fun r hr=>by rw [hr];rfl) (fun r hr=>?_)
  subst hr
  refine OD.runE 1 [0,1,19] (E':=[(0,.loc 0 0),(1,.str text),(19,.bool (decide ((0:Int)≤(X0I ms (bn nx)))))]) (by kernel_rfl) ?_
  refine OD.nil ?_
  refine CD.condP rfl (fun h2=>?_) (fun h2=>?_)
  ·
   refine CD.skip ?_
   refine CD.block ?_
   refine CD.region ?_
   refine OD.runE 5 [0,1,20,24] (E':=[(0,.loc 0 0),(1,.str text),(20,.loc 0 0),(24,.int .i64 (X0X .i64 (((nx:Nat):Int)+1)))]) (by kernel_rfl) ?_
   refine OD.is 24 rfl (wrn (m:=nx+1) (by omega) (by omega)) ?_
   refine OD.run 3 [0,1] (E':=[(0,.loc 0 0),(1,.str text)]) (L':=[.box [.int .i64 room,.row 1 0 ms.length ms.length,.int .i64 ((nx+1:Nat):Int)],.row 3 ms.length (ms.flatMap X04)]) (by kernel_rfl) ?_
   refine OD.nil ?_
   exact⟨_,X71 (by omega),(nx+1),(by kernel_rfl),hN.step (by omega),rfl⟩
  ·
   refine CD.exit ?_
   refine CD.seq ?_
   refine CD.region ?_
   refine OD.runE 4 [0,1,30] (E':=[(0,.loc 0 0),(1,.str text),(30,.int .i64 ((nx:Nat):Int))]) (by kernel_rfl) ?_
   refine OD.callE (X7k (nx) (by omega)) rfl (by kernel_rfl) (by kernel_rfl) (by kernel_rfl) ?_
   refine OD.runE 0 [0,1,31] (E':=[(0,.loc 0 0),(1,.str text),(31,.str (X3k nx))]) (by kernel_rfl) ?_
   refine OD.catS rfl rfl (XDd (by omega)) ?_
   refine OD.is 32 rfl (show _=D.str (bn nx)from rfl) ?_
   refine OD.runE 1 [0,1,5] (E':=[(0,.loc 0 0),(1,.str text),(5,.str (bn nx))]) (by kernel_rfl) ?_
   refine OD.nil ?_
   refine CD.seq ?_
   refine CD.region ?_
   refine OD.runE 5 [0,1,5,33,37] (E':=[(0,.loc 0 0),(1,.str text),(5,.str (bn nx)),(33,.loc 0 0),(37,.int .i64 (X0X .i64 (((nx:Nat):Int)+1)))]) (by kernel_rfl) ?_
   refine OD.is 37 rfl (wrn (m:=nx+1) (by omega) (by omega)) ?_
   refine OD.run 3 [0,1,5] (E':=[(0,.loc 0 0),(1,.str text),(5,.str (bn nx))]) (L':=[.box [.int .i64 room,.row 1 0 ms.length ms.length,.int .i64 ((nx+1:Nat):Int)],.row 3 ms.length (ms.flatMap X04)]) (by kernel_rfl) ?_
   refine OD.nil ?_
   refine CD.seq ?_
   refine CD.region ?_
   refine OD.runE 8 [0,5,40,44,47] (E':=[(0,.loc 0 0),(5,.str (bn nx)),(40,.loc 0 0),(44,.row 1 0 ms.length ms.length),(47,.agg [.str (bn nx),.str text,.bool true])]) (by kernel_rfl) ?_
   refine OD.bsl (e:=3) (cs:=[.str (bn nx),.str text,.bool true]) rfl (by kernel_rfl) ?_
   refine OD.runE 0 [0,5,40,44,48] (E':=[(0,.loc 0 0),(5,.str (bn nx)),(40,.loc 0 0),(44,.row 1 0 ms.length ms.length),(48,.sl 3 1 [.str (bn nx),.str text,.bool true])]) (by kernel_rfl) ?_
   refine OD.appE (enc:=X04) (xs:=ms) (vs:=[(bn nx,text,true)]) rfl (by kernel_rfl) rfl rfl rfl (by rfl) X1u rfl (by decide) (by omega) (by omega) ?_
   refine OD.run 3 [0,5] (E':=[(0,.loc 0 0),(5,.str (bn nx))]) (L':=[.box [.int .i64 room,.row 1 0 (ms.length+1) (ms.length+1),.int .i64 ((nx+1:Nat):Int)],.row 3 (ms.length+1) ((ms++[(bn nx,text,true)]).flatMap X04)]) (by kernel_rfl) ?_
   obtain⟨m1,hm1⟩:∃ x,x=ms++[(bn nx,text,true)]:=⟨_,rfl⟩
   have hl1:m1.length=ms.length+1:=by rw [hm1,List.length_append];rfl
   refine OD.toL (L':=[.box [.int .i64 room,.row 1 0 m1.length m1.length,.int .i64 ((nx+1:Nat):Int)],.row 3 m1.length (m1.flatMap X04)]) (by rw [hl1,hm1]) ?_
   refine OD.run 0 [0,5] (E':=[(0,.loc 0 0),(5,.str (bn nx))]) (L':=[.box [.int .i64 room,.row 1 0 m1.length m1.length,.int .i64 ((nx+1:Nat):Int)],.row 3 m1.length (m1.flatMap X04)]) (by kernel_rfl) ?_
   refine OD.nil ?_
   refine CD.seq ?_
   refine CD.region ?_
   refine OD.runE 2 [0,5,6,7] (E':=[(0,.loc 0 0),(5,.str (bn nx)),(6,.int .i64 (-1)),(7,.int .i64 0)]) (by kernel_rfl) ?_
   refine OD.nil ?_
   refine CD.seq ?_
   refine CD.seq ?_
   refine CD.region ?_
   refine OD.runE 1 [0,5,6,7,8] (E':=[(0,.loc 0 0),(5,.str (bn nx)),(6,.int .i64 (-1)),(7,.int .i64 0),(8,.int .i64 0)]) (by kernel_rfl) ?_
   refine OD.nil ?_
   refine CD.block ?_
   refine CD.weak [0,5,6,7,8] 2 (E':=[(0,.loc 0 0),(5,.str (bn nx)),(6,.int .i64 (-1)),(7,.int .i64 0),(8,.int .i64 0)]) (by kernel_rfl) (by simp [hg0]) (by kernel_rfl) ?_
   refine CD.loop (fun m σ=>∃ (i:Nat) (n:Nat) (f:Int),σ=⟨[(0,.loc 0 0),(5,.str (bn nx)),(6,.int .i64 f),(7,.int .i64 ((n:Nat):Int)),(8,.int .i64 ((i:Nat):Int))],[.box [.int .i64 room,.row 1 0 m1.length m1.length,.int .i64 ((nx+1:Nat):Int)],.row 3 m1.length (m1.flatMap X04)]⟩∧(i≤m1.length)∧(X76 m1 i n f)∧m=m1.length - i) (fun m σ hI=>?_) _ ⟨0,0,(-1),(by kernel_rfl),Nat.zero_le _,X76.init,rfl⟩
   obtain⟨i,n,f,e,hi,hF,hm⟩:=hI
   subst e hm
   have hni:=hF.le
   refine CD.seq ?_
   refine CD.seq ?_
   refine CD.region ?_
   refine OD.runE 7 [0,5,6,7,8,58] (E':=[(0,.loc 0 0),(5,.str (bn nx)),(6,.int .i64 f),(7,.int .i64 ((n:Nat):Int)),(8,.int .i64 ((i:Nat):Int)),(58,.bool (decide ((((i:Nat):Int):Int)<((m1.length:Nat):Int))))]) (by kernel_rfl) ?_
   refine OD.nil ?_
   refine CD.condP rfl (fun h3=>?_) (fun h3=>?_)
   ·
    refine CD.skip ?_
    refine CD.seq ?_
    refine CD.block ?_
    refine CD.seq ?_
    refine CD.region ?_
    refine OD.runE 5 [0,5,6,7,8,64,65] (E':=[(0,.loc 0 0),(5,.str (bn nx)),(6,.int .i64 f),(7,.int .i64 ((n:Nat):Int)),(8,.int .i64 ((i:Nat):Int)),(64,.row 1 0 m1.length m1.length),(65,.int .i64 ((i:Nat):Int))]) (by kernel_rfl) ?_
    refine OD.idxE (i:=i) (e:=3) rfl rfl (by kernel_rfl) (by omega) (by omega) ?_
    refine OD.runE 1 [0,5,6,7,8,67] (E':=[(0,.loc 0 0),(5,.str (bn nx)),(6,.int .i64 f),(7,.int .i64 ((n:Nat):Int)),(8,.int .i64 ((i:Nat):Int)),(67,.loc 1 (i*3+2))]) (by kernel_rfl) ?_
    refine OD.ldR (d:=.bool (m1.getD i e0).2.2) rfl rfl (by kernel_rfl) (X23 (k:=2) (by omega) (by decide) rfl) ?_
    refine OD.runE 0 [0,5,6,7,8,68] (E':=[(0,.loc 0 0),(5,.str (bn nx)),(6,.int .i64 f),(7,.int .i64 ((n:Nat):Int)),(8,.int .i64 ((i:Nat):Int)),(68,.bool (m1.getD i e0).2.2)]) (by kernel_rfl) ?_
    refine OD.nil ?_
    refine CD.condB rfl (fun h4=>?_) (fun h4=>?_)
    ·
     refine CD.seq ?_
     refine CD.region ?_
     refine OD.runE 2 [0,5,6,8,70] (E':=[(0,.loc 0 0),(5,.str (bn nx)),(6,.int .i64 f),(8,.int .i64 ((i:Nat):Int)),(70,.int .i64 (X0X .i64 (((n:Nat):Int)+1)))]) (by kernel_rfl) ?_
     refine OD.is 70 rfl (wrn (m:=n+1) (by omega) (by omega)) ?_
     refine OD.runE 1 [0,5,6,7,8] (E':=[(0,.loc 0 0),(5,.str (bn nx)),(6,.int .i64 f),(7,.int .i64 ((n+1:Nat):Int)),(8,.int .i64 ((i:Nat):Int))]) (by kernel_rfl) ?_
     refine OD.nil ?_
     refine CD.seq ?_
     refine CD.region ?_
     refine OD.runE 2 [0,5,6,7,8,72] (E':=[(0,.loc 0 0),(5,.str (bn nx)),(6,.int .i64 f),(7,.int .i64 ((n+1:Nat):Int)),(8,.int .i64 ((i:Nat):Int)),(72,.bool (decide ((f:Int)<0)))]) (by kernel_rfl) ?_
     refine OD.nil ?_
     refine CD.condP rfl (fun h5=>?_) (fun h5=>?_)
     ·
      refine CD.region ?_
      refine OD.runE 2 [0,5,6,7,8] (E':=[(0,.loc 0 0),(5,.str (bn nx)),(6,.int .i64 ((i:Nat):Int)),(7,.int .i64 ((n+1:Nat):Int)),(8,.int .i64 ((i:Nat):Int))]) (by kernel_rfl) ?_
      refine OD.nil ?_
      refine CD.region ?_
      refine OD.runE 2 [0,5,6,7,60] (E':=[(0,.loc 0 0),(5,.str (bn nx)),(6,.int .i64 ((i:Nat):Int)),(7,.int .i64 ((n+1:Nat):Int)),(60,.int .i64 (X0X .i64 (((i:Nat):Int)+1)))]) (by kernel_rfl) ?_
      refine OD.is 60 rfl (wrn (m:=i+1) (by omega) (by omega)) ?_
      refine OD.runE 1 [0,5,6,7,8] (E':=[(0,.loc 0 0),(5,.str (bn nx)),(6,.int .i64 ((i:Nat):Int)),(7,.int .i64 ((n+1:Nat):Int)),(8,.int .i64 ((i+1:Nat):Int))]) (by kernel_rfl) ?_
      refine OD.nil ?_
      exact⟨_,by omega,(i+1),(n+1),((i:Nat):Int),(by kernel_rfl),by omega,by first | exact hF.first (by omega) (by assumption) (by omega) | exact hF.more (by omega) (by assumption) (by omega) | exact hF.no (by omega) (by assumption),rfl⟩
     ·
      refine CD.skip ?_
      refine CD.region ?_
      refine OD.runE 2 [0,5,6,7,60] (E':=[(0,.loc 0 0),(5,.str (bn nx)),(6,.int .i64 f),(7,.int .i64 ((n+1:Nat):Int)),(60,.int .i64 (X0X .i64 (((i:Nat):Int)+1)))]) (by kernel_rfl) ?_
      refine OD.is 60 rfl (wrn (m:=i+1) (by omega) (by omega)) ?_
      refine OD.runE 1 [0,5,6,7,8] (E':=[(0,.loc 0 0),(5,.str (bn nx)),(6,.int .i64 f),(7,.int .i64 ((n+1:Nat):Int)),(8,.int .i64 ((i+1:Nat):Int))]) (by kernel_rfl) ?_
      refine OD.nil ?_
      exact⟨_,by omega,(i+1),(n+1),f,(by kernel_rfl),by omega,by first | exact hF.first (by omega) (by assumption) (by omega) | exact hF.more (by omega) (by assumption) (by omega) | exact hF.no (by omega) (by assumption),rfl⟩
    ·
     refine CD.skip ?_
     refine CD.region ?_
     refine OD.runE 2 [0,5,6,7,60] (E':=[(0,.loc 0 0),(5,.str (bn nx)),(6,.int .i64 f),(7,.int .i64 ((n:Nat):Int)),(60,.int .i64 (X0X .i64 (((i:Nat):Int)+1)))]) (by kernel_rfl) ?_
     refine OD.is 60 rfl (wrn (m:=i+1) (by omega) (by omega)) ?_
     refine OD.runE 1 [0,5,6,7,8] (E':=[(0,.loc 0 0),(5,.str (bn nx)),(6,.int .i64 f),(7,.int .i64 ((n:Nat):Int)),(8,.int .i64 ((i+1:Nat):Int))]) (by kernel_rfl) ?_
     refine OD.nil ?_
     exact⟨_,by omega,(i+1),n,f,(by kernel_rfl),by omega,by first | exact hF.first (by omega) (by assumption) (by omega) | exact hF.more (by omega) (by assumption) (by omega) | exact hF.no (by omega) (by assumption),rfl⟩
   ·
    refine CD.exit ?_
    refine CD.seq ?_
    refine CD.seq ?_
    refine CD.region ?_
    refine OD.runE 6 [0,5,6,79] (E':=[(0,.loc 0 0),(5,.str (bn nx)),(6,.int .i64 f),(79,.bool (decide ((room:Int)<((n:Nat):Int))))]) (by kernel_rfl) ?_
    refine OD.nil ?_
    refine CD.condP rfl (fun h6=>?_) (fun h6=>?_)
    ·
     refine CD.region ?_
     obtain⟨hna,hfk⟩:=hF.fin (by omega)
     obtain⟨k,hk1,hk2⟩:=hfk (by omega)
     subst hk1
     refine OD.runE 2 [5,80,81] (E':=[(5,.str (bn nx)),(80,.loc 0 0),(81,.int .i64 ((k:Nat):Int))]) (by kernel_rfl) ?_
     refine OD.callO [0,1] (ds:=[.loc 0 0,.int .i64 ((k:Nat):Int)]) (XCA room (nx+1) m1 k hk2.1 (by omega)) rfl (by kernel_rfl) (by kernel_rfl) (by kernel_rfl) (by kernel_rfl) (by kernel_rfl) (fun r L1 hr=>?_)
     obtain⟨rfl,rfl⟩:=hr
     refine OD.runE 0 [5] (E':=[(5,.str (bn nx))]) (by kernel_rfl) ?_
     refine OD.nil ?_
     refine CD.seq ?_
     refine CD.region ?_
     refine OD.runE 2 [4] (E':=[(4,.str (bn nx))]) (by kernel_rfl) ?_
     refine OD.nil ?_
     refine CD.ret ?_
     first | refine X06 ?_ | refine X07 ?_ | (dsimp only;first | refine X06 ?_ | refine X07 ?_)
     refine X26 2 (r:=.str (bn nx)) (L':=[.box [.int .i64 room,.row 1 0 ((m1.eraseIdx k).length) ((m1.eraseIdx k).length),.int .i64 ((nx+1:Nat):Int)],.row 3 ((m1.eraseIdx k).length) ((m1.eraseIdx k).flatMap X04)]) (by kernel_rfl) ?_ ?_ (by kernel_rfl) (by kernel_rfl) ?_
     · exact Nat.le_of_ble_eq_true (by kernel_rfl)
     · exact Nat.le_of_ble_eq_true (by kernel_rfl)
     · exact⟨nx,m1.eraseIdx k,hN.fin (by omega),hm1 ▸ .inr ⟨by omega,k,hk2,rfl⟩,rfl,rfl⟩
    ·
     refine CD.skip ?_
     refine CD.seq ?_
     refine CD.region ?_
     refine OD.runE 2 [4] (E':=[(4,.str (bn nx))]) (by kernel_rfl) ?_
     refine OD.nil ?_
     refine CD.ret ?_
     first | refine X06 ?_ | refine X07 ?_ | (dsimp only;first | refine X06 ?_ | refine X07 ?_)
     refine X26 2 (r:=.str (bn nx)) (L':=[.box [.int .i64 room,.row 1 0 m1.length m1.length,.int .i64 ((nx+1:Nat):Int)],.row 3 m1.length (m1.flatMap X04)]) (by kernel_rfl) ?_ ?_ (by kernel_rfl) (by kernel_rfl) ?_
     · exact Nat.le_of_ble_eq_true (by kernel_rfl)
     · exact Nat.le_of_ble_eq_true (by kernel_rfl)
     · exact(by(have hna:=(hF.fin (by omega)).1);exact⟨nx,m1,hN.fin (by omega),hm1 ▸ .inl ⟨by omega,rfl⟩,rfl,rfl⟩)
theorem XCB (room:Int) (n0:Nat) (ms:List X0A):FnD P ov 13 [.loc 0 0,.str ByteArray.empty] [.box [.int .i64 room,.row 1 0 ms.length ms.length,.int .i64 ((n0:Nat):Int)],.row 3 ms.length (ms.flatMap X04)] (fun r L1=>r=.str ByteArray.empty∧L1=[.box [.int .i64 room,.row 1 0 ms.length ms.length,.int .i64 ((n0:Nat):Int)],.row 3 ms.length (ms.flatMap X04)]):=by
 refine FnD.intro (by kernel_rfl) (fn:=Tryz.f13) (by kernel_rfl) rfl (by kernel_rfl) fun M a0 g0 hg0=>?_
 refine CD.seq ?_
 refine CD.region ?_
 refine OD.runE 1 [0,1] (E':=[(0,.loc 0 0),(1,.str ByteArray.empty)]) (by kernel_rfl) ?_
 refine OD.nil ?_
 refine CD.seq ?_
 refine CD.seq ?_
 refine CD.region ?_
 refine OD.runE 2 [0,1,10] (E':=[(0,.loc 0 0),(1,.str ByteArray.empty),(10,.bool true)]) (by kernel_rfl) ?_
 refine OD.nil ?_
 refine CD.condT rfl ?_
 refine CD.seq ?_
 refine CD.region ?_
 refine OD.runE 1 [4] (E':=[(4,.str ByteArray.empty)]) (by kernel_rfl) ?_
 refine OD.nil ?_
 refine CD.ret ?_
 first | refine X06 ?_ | refine X07 ?_ | (dsimp only;first | refine X06 ?_ | refine X07 ?_)
 refine X26 2 (r:=.str ByteArray.empty) (L':=[.box [.int .i64 room,.row 1 0 ms.length ms.length,.int .i64 ((n0:Nat):Int)],.row 3 ms.length (ms.flatMap X04)]) (by kernel_rfl) ?_ ?_ (by kernel_rfl) (by kernel_rfl) ?_
 · exact Nat.le_of_ble_eq_true (by kernel_rfl)
 · exact Nat.le_of_ble_eq_true (by kernel_rfl)
 · exact⟨rfl,rfl⟩
end
end Go.Proofs.YtmmmjbipgngamaaGreatDoor
set_option maxRecDepth 100000
set_option maxHeartbeats 4000000
namespace Go.Proofs.YtmmmjbipgngamaaGreatDoor
open Go.Vai Go.RowKit
noncomputable section
theorem XCC (room:Int) (nx:Nat) (ms:List X0A) (name text:ByteArray) (hm:ms.length≤900000) (hns:name.size≤1000):FnD P ov 15 [.loc 0 0,.str name,.str text] [.box [.int .i64 room,.row 1 0 ms.length ms.length,.int .i64 ((nx:Nat):Int)],.row 3 ms.length (ms.flatMap X04)] (fun r L1=>((¬ (X1J name=true∧¬ text=ByteArray.empty)∨X2O ms name)→r=.bool false∧L1=[.box [.int .i64 room,.row 1 0 ms.length ms.length,.int .i64 ((nx:Nat):Int)],.row 3 ms.length (ms.flatMap X04)])∧(X1J name=true∧¬ text=ByteArray.empty∧¬ X2O ms name→r=.bool true∧L1=[.box [.int .i64 room,.row 1 0 ((X3b ms name text).length) ((X3b ms name text).length),.int .i64 ((nx:Nat):Int)],.row 3 ((X3b ms name text).length) ((X3b ms name text).flatMap X04)])):=by
 refine FnD.intro (by kernel_rfl) (fn:=Tryz.f15) (by kernel_rfl) rfl (by kernel_rfl) fun M a0 g0 hg0=>?_
 refine CD.seq ?_
 refine CD.region ?_
 refine OD.runE 1 [0,1,2] (E':=[(0,.loc 0 0),(1,.str name),(2,.str text)]) (by kernel_rfl) ?_
 refine OD.nil ?_
 refine CD.seq ?_
 refine CD.region ?_
 refine OD.runE 1 [0,1,2,7] (E':=[(0,.loc 0 0),(1,.str name),(2,.str text),(7,.int .i64 0)]) (by kernel_rfl) ?_
 refine OD.nil ?_
 refine CD.seq ?_
 refine CD.seq ?_
 refine CD.region ?_
 refine OD.runE 1 [0,1,2,7,8] (E':=[(0,.loc 0 0),(1,.str name),(2,.str text),(7,.int .i64 0),(8,.int .i64 0)]) (by kernel_rfl) ?_
 refine OD.nil ?_
 refine CD.block ?_
 refine CD.weak [0,1,2,7,8] 2 (E':=[(0,.loc 0 0),(1,.str name),(2,.str text),(7,.int .i64 0),(8,.int .i64 0)]) (by kernel_rfl) (by simp [hg0]) (by kernel_rfl) ?_
 refine CD.loop (fun m σ=>∃ (i:Nat) (n:Nat),σ=⟨[(0,.loc 0 0),(1,.str name),(2,.str text),(7,.int .i64 ((n:Nat):Int)),(8,.int .i64 ((i:Nat):Int))],[.box [.int .i64 room,.row 1 0 ms.length ms.length,.int .i64 ((nx:Nat):Int)],.row 3 ms.length (ms.flatMap X04)]⟩∧(i≤ms.length)∧(n=X0G (ms.take i) false∧n≤i)∧m=ms.length - i) (fun m σ hI=>?_) _ ⟨0,0,(by kernel_rfl),Nat.zero_le _,⟨rfl,Nat.le_refl _⟩,rfl⟩
 obtain⟨i,n,e,hi,hc,hm⟩:=hI
 subst e hm
 refine CD.seq ?_
 refine CD.seq ?_
 refine CD.region ?_
 refine OD.runE 7 [0,1,2,7,8,17] (E':=[(0,.loc 0 0),(1,.str name),(2,.str text),(7,.int .i64 ((n:Nat):Int)),(8,.int .i64 ((i:Nat):Int)),(17,.bool (decide ((((i:Nat):Int):Int)<((ms.length:Nat):Int))))]) (by kernel_rfl) ?_
 refine OD.nil ?_
 refine CD.condP rfl (fun h1=>?_) (fun h1=>?_)
 ·
  refine CD.skip ?_
  refine CD.seq ?_
  refine CD.block ?_
  refine CD.seq ?_
  refine CD.region ?_
  refine OD.runE 5 [0,1,2,7,8,23,24] (E':=[(0,.loc 0 0),(1,.str name),(2,.str text),(7,.int .i64 ((n:Nat):Int)),(8,.int .i64 ((i:Nat):Int)),(23,.row 1 0 ms.length ms.length),(24,.int .i64 ((i:Nat):Int))]) (by kernel_rfl) ?_
  refine OD.idxE (i:=i) (e:=3) rfl rfl (by kernel_rfl) (by omega) (by omega) ?_
  refine OD.runE 1 [0,1,2,7,8,26] (E':=[(0,.loc 0 0),(1,.str name),(2,.str text),(7,.int .i64 ((n:Nat):Int)),(8,.int .i64 ((i:Nat):Int)),(26,.loc 1 (i*3+2))]) (by kernel_rfl) ?_
  refine OD.ldR (d:=.bool (ms.getD i e0).2.2) rfl rfl (by kernel_rfl) (X23 (k:=2) (by omega) (by decide) rfl) ?_
  refine OD.runE 1 [0,1,2,7,8,28] (E':=[(0,.loc 0 0),(1,.str name),(2,.str text),(7,.int .i64 ((n:Nat):Int)),(8,.int .i64 ((i:Nat):Int)),(28,.bool (!(ms.getD i e0).2.2))]) (by kernel_rfl) ?_
  refine OD.nil ?_
  refine CD.condB rfl (fun h2=>?_) (fun h2=>?_)
  ·
   have h2:=XES h2
   refine CD.region ?_
   refine OD.runE 2 [0,1,2,8,30] (E':=[(0,.loc 0 0),(1,.str name),(2,.str text),(8,.int .i64 ((i:Nat):Int)),(30,.int .i64 (X0X .i64 (((n:Nat):Int)+1)))]) (by kernel_rfl) ?_
   refine OD.is 30 rfl (wrn (m:=n+1) (by omega) (by omega)) ?_
   refine OD.runE 1 [0,1,2,7,8] (E':=[(0,.loc 0 0),(1,.str name),(2,.str text),(7,.int .i64 ((n+1:Nat):Int)),(8,.int .i64 ((i:Nat):Int))]) (by kernel_rfl) ?_
   refine OD.nil ?_
   refine CD.region ?_
   refine OD.runE 2 [0,1,2,7,19] (E':=[(0,.loc 0 0),(1,.str name),(2,.str text),(7,.int .i64 ((n+1:Nat):Int)),(19,.int .i64 (X0X .i64 (((i:Nat):Int)+1)))]) (by kernel_rfl) ?_
   refine OD.is 19 rfl (wrn (m:=i+1) (by omega) (by omega)) ?_
   refine OD.runE 1 [0,1,2,7,8] (E':=[(0,.loc 0 0),(1,.str name),(2,.str text),(7,.int .i64 ((n+1:Nat):Int)),(8,.int .i64 ((i+1:Nat):Int))]) (by kernel_rfl) ?_
   refine OD.nil ?_
   exact⟨_,by omega,(i+1),(n+1),(by kernel_rfl),by omega,⟨by rw [X1R (by omega),← hc.1,if_pos (by assumption)],by omega⟩,rfl⟩
  ·
   have h2:=XDL h2
   refine CD.skip ?_
   refine CD.region ?_
   refine OD.runE 2 [0,1,2,7,19] (E':=[(0,.loc 0 0),(1,.str name),(2,.str text),(7,.int .i64 ((n:Nat):Int)),(19,.int .i64 (X0X .i64 (((i:Nat):Int)+1)))]) (by kernel_rfl) ?_
   refine OD.is 19 rfl (wrn (m:=i+1) (by omega) (by omega)) ?_
   refine OD.runE 1 [0,1,2,7,8] (E':=[(0,.loc 0 0),(1,.str name),(2,.str text),(7,.int .i64 ((n:Nat):Int)),(8,.int .i64 ((i+1:Nat):Int))]) (by kernel_rfl) ?_
   refine OD.nil ?_
   exact⟨_,by omega,(i+1),n,(by kernel_rfl),by omega,⟨by rw [X1R (by omega),← hc.1,if_neg (fun e=>by rw [(by assumption:(ms.getD i e0).2.2=true)]at e;cases e),Nat.add_zero],by omega⟩,rfl⟩
 ·
  refine CD.exit ?_
  refine CD.seq ?_
  refine CD.region ?_
  have hna:n=X0G ms false:=by rw [hc.1,List.take_of_length_le (by omega)]
  refine OD.runE 2 [0,1,2,7,31,32] (E':=[(0,.loc 0 0),(1,.str name),(2,.str text),(7,.int .i64 ((n:Nat):Int)),(31,.loc 0 0),(32,.str name)]) (by kernel_rfl) ?_
  refine OD.callFy (jb:=0) (jr:=1) (o:=0) (n:=ms.length) (c:=ms.length) (e:=3) (N:=ms.length) (d0:=.int .i64 room) (d1:=.int .i64 ((nx:Nat):Int)) (cells:=ms.flatMap X04) (rest:=[.str name]) (R:=fun r=>r=.int .i64 (X0I ms name)) (by rw [X1K];exact X4w _ _ ms name (by omega)) rfl (by kernel_rfl) rfl rfl rfl rfl (by kernel_rfl) (X2P ms) (Nat.le_refl _) (by kernel_rfl) (fun r hr=>by rw [hr];rfl) (fun r hr=>?_)
  subst hr
  rcases X1k ms name with hfe | ⟨fi,hfe,hil⟩
  ·
   refine OD.is 33 rfl (congrArg (D.int .i64) hfe) ?_
   refine OD.runE 1 [0,1,2,7,9] (E':=[(0,.loc 0 0),(1,.str name),(2,.str text),(7,.int .i64 ((n:Nat):Int)),(9,.int .i64 (-1))]) (by kernel_rfl) ?_
   refine OD.nil ?_
   refine CD.seq ?_
   refine CD.seq ?_
   refine CD.region ?_
   refine OD.runE 1 [0,1,2,7,9,34] (E':=[(0,.loc 0 0),(1,.str name),(2,.str text),(7,.int .i64 ((n:Nat):Int)),(9,.int .i64 (-1)),(34,.str name)]) (by kernel_rfl) ?_
   refine OD.callE (XBz name (by omega)) rfl (by kernel_rfl) (by kernel_rfl) (by kernel_rfl) ?_
   refine OD.runE 2 [0,1,2,7,9,37] (E':=[(0,.loc 0 0),(1,.str name),(2,.str text),(7,.int .i64 ((n:Nat):Int)),(9,.int .i64 (-1)),(37,.bool (!(X1J name)))]) (by kernel_rfl) ?_
   refine OD.ifB 37 rfl (fun h3=>?_) (fun h3=>?_)
   ·
    have h3:=XES h3
    refine OD.runE 21 [0,1,2,9,58] (E':=[(0,.loc 0 0),(1,.str name),(2,.str text),(9,.int .i64 (-1)),(58,.bool true)]) (by kernel_rfl) ?_
    refine OD.nil ?_
    refine CD.condT rfl ?_
    refine CD.seq ?_
    refine CD.region ?_
    refine OD.runE 1 [6] (E':=[(6,.bool false)]) (by kernel_rfl) ?_
    refine OD.nil ?_
    refine CD.ret ?_
    first | refine X06 ?_ | refine X07 ?_ | (dsimp only;first | refine X06 ?_ | refine X07 ?_)
    refine X26 2 (r:=.bool false) (L':=[.box [.int .i64 room,.row 1 0 ms.length ms.length,.int .i64 ((nx:Nat):Int)],.row 3 ms.length (ms.flatMap X04)]) (by kernel_rfl) ?_ ?_ (by kernel_rfl) (by kernel_rfl) ?_
    · exact Nat.le_of_ble_eq_true (by kernel_rfl)
    · exact Nat.le_of_ble_eq_true (by kernel_rfl)
    · exact⟨fun _=>⟨rfl,rfl⟩,fun⟨a,b,c⟩=>by exfalso;first | exact b (by assumption) | exact Bool.noConfusion (a.symm.trans (by assumption:X1J name=false)) | exact c ⟨.inl (by omega),by omega⟩ | exact c ⟨.inr (by rw [hfe,Int.toNat_natCast];assumption),by omega⟩⟩
   ·
    have h3:=XDL h3
    refine OD.runE 1 [0,1,2,7,9,37,38] (E':=[(0,.loc 0 0),(1,.str name),(2,.str text),(7,.int .i64 ((n:Nat):Int)),(9,.int .i64 (-1)),(37,.bool false),(38,.str text)]) (by kernel_rfl) ?_
    refine OD.guard rfl rfl ?_
    refine OD.eqS rfl rfl ?_
    refine OD.runE 2 [0,1,2,7,9,41] (E':=[(0,.loc 0 0),(1,.str name),(2,.str text),(7,.int .i64 ((n:Nat):Int)),(9,.int .i64 (-1)),(41,.bool (decide (text=ByteArray.empty)))]) (by kernel_rfl) ?_
    refine OD.ifP 41 rfl (fun h4=>?_) (fun h4=>?_)
    ·
     refine OD.runE 17 [0,1,2,9,58] (E':=[(0,.loc 0 0),(1,.str name),(2,.str text),(9,.int .i64 (-1)),(58,.bool true)]) (by kernel_rfl) ?_
     refine OD.nil ?_
     refine CD.condT rfl ?_
     refine CD.seq ?_
     refine CD.region ?_
     refine OD.runE 1 [6] (E':=[(6,.bool false)]) (by kernel_rfl) ?_
     refine OD.nil ?_
     refine CD.ret ?_
     first | refine X06 ?_ | refine X07 ?_ | (dsimp only;first | refine X06 ?_ | refine X07 ?_)
     refine X26 2 (r:=.bool false) (L':=[.box [.int .i64 room,.row 1 0 ms.length ms.length,.int .i64 ((nx:Nat):Int)],.row 3 ms.length (ms.flatMap X04)]) (by kernel_rfl) ?_ ?_ (by kernel_rfl) (by kernel_rfl) ?_
     · exact Nat.le_of_ble_eq_true (by kernel_rfl)
     · exact Nat.le_of_ble_eq_true (by kernel_rfl)
     · exact⟨fun _=>⟨rfl,rfl⟩,fun⟨a,b,c⟩=>by exfalso;first | exact b (by assumption) | exact Bool.noConfusion (a.symm.trans (by assumption:X1J name=false)) | exact c ⟨.inl (by omega),by omega⟩ | exact c ⟨.inr (by rw [hfe,Int.toNat_natCast];assumption),by omega⟩⟩
    ·
     refine OD.runE 3 [0,1,2,9,41,44] (E':=[(0,.loc 0 0),(1,.str name),(2,.str text),(9,.int .i64 (-1)),(41,.bool false),(44,.bool (decide ((50:Int)≤((n:Nat):Int))))]) (by kernel_rfl) ?_
     refine OD.ifP 44 rfl (fun h5=>?_) (fun h5=>?_)
     ·
      refine OD.runE 14 [0,1,2,9,58] (E':=[(0,.loc 0 0),(1,.str name),(2,.str text),(9,.int .i64 (-1)),(58,.bool true)]) (by kernel_rfl) ?_
      refine OD.nil ?_
      refine CD.condT rfl ?_
      refine CD.seq ?_
      refine CD.region ?_
      refine OD.runE 1 [6] (E':=[(6,.bool false)]) (by kernel_rfl) ?_
      refine OD.nil ?_
      refine CD.ret ?_
      first | refine X06 ?_ | refine X07 ?_ | (dsimp only;first | refine X06 ?_ | refine X07 ?_)
      refine X26 2 (r:=.bool false) (L':=[.box [.int .i64 room,.row 1 0 ms.length ms.length,.int .i64 ((nx:Nat):Int)],.row 3 ms.length (ms.flatMap X04)]) (by kernel_rfl) ?_ ?_ (by kernel_rfl) (by kernel_rfl) ?_
      · exact Nat.le_of_ble_eq_true (by kernel_rfl)
      · exact Nat.le_of_ble_eq_true (by kernel_rfl)
      · exact⟨fun _=>⟨rfl,rfl⟩,fun⟨a,b,c⟩=>by exfalso;first | exact b (by assumption) | exact Bool.noConfusion (a.symm.trans (by assumption:X1J name=false)) | exact c ⟨.inl (by omega),by omega⟩ | exact c ⟨.inr (by rw [hfe,Int.toNat_natCast];assumption),by omega⟩⟩
     ·
      refine OD.runE 14 [0,1,2,9,58] (E':=[(0,.loc 0 0),(1,.str name),(2,.str text),(9,.int .i64 (-1)),(58,.bool false)]) (by kernel_rfl) ?_
      refine OD.nil ?_
      refine CD.condF rfl ?_
      refine CD.skip ?_
      refine CD.seq ?_
      refine CD.seq ?_
      refine CD.region ?_
      refine OD.runE 2 [0,1,2,9,60] (E':=[(0,.loc 0 0),(1,.str name),(2,.str text),(9,.int .i64 (-1)),(60,.bool false)]) (by kernel_rfl) ?_
      refine OD.nil ?_
      refine CD.condF rfl ?_
      refine CD.skip ?_
      refine CD.seq ?_
      refine CD.region ?_
      refine OD.runE 8 [76,80,83] (E':=[(76,.loc 0 0),(80,.row 1 0 ms.length ms.length),(83,.agg [.str name,.str text,.bool false])]) (by kernel_rfl) ?_
      refine OD.bsl (e:=3) (cs:=[.str name,.str text,.bool false]) rfl (by kernel_rfl) ?_
      refine OD.runE 0 [76,80,84] (E':=[(76,.loc 0 0),(80,.row 1 0 ms.length ms.length),(84,.sl 3 1 [.str name,.str text,.bool false])]) (by kernel_rfl) ?_
      refine OD.appE (enc:=X04) (xs:=ms) (vs:=[(name,text,false)]) rfl (by kernel_rfl) rfl rfl rfl (by rfl) X1u rfl (by decide) (by omega) (by omega) ?_
      refine OD.run 3 [] (E':=[]) (L':=[.box [.int .i64 room,.row 1 0 (ms.length+1) (ms.length+1),.int .i64 ((nx:Nat):Int)],.row 3 (ms.length+1) ((ms++[(name,text,false)]).flatMap X04)]) (by kernel_rfl) ?_
      refine OD.nil ?_
      refine CD.seq ?_
      refine CD.region ?_
      refine OD.runE 1 [6] (E':=[(6,.bool true)]) (by kernel_rfl) ?_
      refine OD.nil ?_
      refine CD.ret ?_
      first | refine X06 ?_ | refine X07 ?_ | (dsimp only;first | refine X06 ?_ | refine X07 ?_)
      refine X26 2 (r:=.bool true) (L':=[.box [.int .i64 room,.row 1 0 (ms.length+1) (ms.length+1),.int .i64 ((nx:Nat):Int)],.row 3 (ms.length+1) ((ms++[(name,text,false)]).flatMap X04)]) (by kernel_rfl) ?_ ?_ (by kernel_rfl) (by kernel_rfl) ?_
      · exact Nat.le_of_ble_eq_true (by kernel_rfl)
      · exact Nat.le_of_ble_eq_true (by kernel_rfl)
      · exact⟨fun h=>by exfalso;rcases h with h | h;exact h ⟨by assumption,by assumption⟩;obtain⟨h1,h2⟩:=h;first | omega | (rcases h1 with h1 | h1;omega;rw [hfe,Int.toNat_natCast,(by assumption:(ms.getD fi e0).2.2=false)]at h1;cases h1),fun _=>by have hrs:X3b ms name text=ms++[(name,text,false)]:=(by unfold X3b;rw [hfe,if_pos (by omega)]);rw [hrs,List.length_append];exact⟨rfl,rfl⟩⟩
  ·
   refine OD.is 33 rfl (congrArg (D.int .i64) hfe) ?_
   refine OD.runE 1 [0,1,2,7,9] (E':=[(0,.loc 0 0),(1,.str name),(2,.str text),(7,.int .i64 ((n:Nat):Int)),(9,.int .i64 ((fi:Nat):Int))]) (by kernel_rfl) ?_
   refine OD.nil ?_
   refine CD.seq ?_
   refine CD.seq ?_
   refine CD.region ?_
   refine OD.runE 1 [0,1,2,7,9,34] (E':=[(0,.loc 0 0),(1,.str name),(2,.str text),(7,.int .i64 ((n:Nat):Int)),(9,.int .i64 ((fi:Nat):Int)),(34,.str name)]) (by kernel_rfl) ?_
   refine OD.callE (XBz name (by omega)) rfl (by kernel_rfl) (by kernel_rfl) (by kernel_rfl) ?_
   refine OD.runE 2 [0,1,2,7,9,37] (E':=[(0,.loc 0 0),(1,.str name),(2,.str text),(7,.int .i64 ((n:Nat):Int)),(9,.int .i64 ((fi:Nat):Int)),(37,.bool (!(X1J name)))]) (by kernel_rfl) ?_
   refine OD.ifB 37 rfl (fun h6=>?_) (fun h6=>?_)
   ·
    have h6:=XES h6
    refine OD.runE 21 [0,1,2,9,58] (E':=[(0,.loc 0 0),(1,.str name),(2,.str text),(9,.int .i64 ((fi:Nat):Int)),(58,.bool true)]) (by kernel_rfl) ?_
    refine OD.nil ?_
    refine CD.condT rfl ?_
    refine CD.seq ?_
    refine CD.region ?_
    refine OD.runE 1 [6] (E':=[(6,.bool false)]) (by kernel_rfl) ?_
    refine OD.nil ?_
    refine CD.ret ?_
    first | refine X06 ?_ | refine X07 ?_ | (dsimp only;first | refine X06 ?_ | refine X07 ?_)
    refine X26 2 (r:=.bool false) (L':=[.box [.int .i64 room,.row 1 0 ms.length ms.length,.int .i64 ((nx:Nat):Int)],.row 3 ms.length (ms.flatMap X04)]) (by kernel_rfl) ?_ ?_ (by kernel_rfl) (by kernel_rfl) ?_
    · exact Nat.le_of_ble_eq_true (by kernel_rfl)
    · exact Nat.le_of_ble_eq_true (by kernel_rfl)
    · exact⟨fun _=>⟨rfl,rfl⟩,fun⟨a,b,c⟩=>by exfalso;first | exact b (by assumption) | exact Bool.noConfusion (a.symm.trans (by assumption:X1J name=false)) | exact c ⟨.inl (by omega),by omega⟩ | exact c ⟨.inr (by rw [hfe,Int.toNat_natCast];assumption),by omega⟩⟩
   ·
    have h6:=XDL h6
    refine OD.runE 1 [0,1,2,7,9,37,38] (E':=[(0,.loc 0 0),(1,.str name),(2,.str text),(7,.int .i64 ((n:Nat):Int)),(9,.int .i64 ((fi:Nat):Int)),(37,.bool false),(38,.str text)]) (by kernel_rfl) ?_
    refine OD.guard rfl rfl ?_
    refine OD.eqS rfl rfl ?_
    refine OD.runE 2 [0,1,2,7,9,41] (E':=[(0,.loc 0 0),(1,.str name),(2,.str text),(7,.int .i64 ((n:Nat):Int)),(9,.int .i64 ((fi:Nat):Int)),(41,.bool (decide (text=ByteArray.empty)))]) (by kernel_rfl) ?_
    refine OD.ifP 41 rfl (fun h7=>?_) (fun h7=>?_)
    ·
     refine OD.runE 17 [0,1,2,9,58] (E':=[(0,.loc 0 0),(1,.str name),(2,.str text),(9,.int .i64 ((fi:Nat):Int)),(58,.bool true)]) (by kernel_rfl) ?_
     refine OD.nil ?_
     refine CD.condT rfl ?_
     refine CD.seq ?_
     refine CD.region ?_
     refine OD.runE 1 [6] (E':=[(6,.bool false)]) (by kernel_rfl) ?_
     refine OD.nil ?_
     refine CD.ret ?_
     first | refine X06 ?_ | refine X07 ?_ | (dsimp only;first | refine X06 ?_ | refine X07 ?_)
     refine X26 2 (r:=.bool false) (L':=[.box [.int .i64 room,.row 1 0 ms.length ms.length,.int .i64 ((nx:Nat):Int)],.row 3 ms.length (ms.flatMap X04)]) (by kernel_rfl) ?_ ?_ (by kernel_rfl) (by kernel_rfl) ?_
     · exact Nat.le_of_ble_eq_true (by kernel_rfl)
     · exact Nat.le_of_ble_eq_true (by kernel_rfl)
     · exact⟨fun _=>⟨rfl,rfl⟩,fun⟨a,b,c⟩=>by exfalso;first | exact b (by assumption) | exact Bool.noConfusion (a.symm.trans (by assumption:X1J name=false)) | exact c ⟨.inl (by omega),by omega⟩ | exact c ⟨.inr (by rw [hfe,Int.toNat_natCast];assumption),by omega⟩⟩
    ·
     refine OD.runE 3 [0,1,2,9,41,44] (E':=[(0,.loc 0 0),(1,.str name),(2,.str text),(9,.int .i64 ((fi:Nat):Int)),(41,.bool false),(44,.bool (decide ((50:Int)≤((n:Nat):Int))))]) (by kernel_rfl) ?_
     refine OD.ifP 44 rfl (fun h8=>?_) (fun h8=>?_)
     ·
      refine OD.runE 3 [0,1,2,9,41,44,47] (E':=[(0,.loc 0 0),(1,.str name),(2,.str text),(9,.int .i64 ((fi:Nat):Int)),(41,.bool false),(44,.bool true),(47,.bool (decide ((((fi:Nat):Int):Int)<0)))]) (by kernel_rfl) ?_
      refine OD.ifP 47 rfl (fun h9=>?_) (fun h9=>?_)
      ·
       refine OD.runE 11 [0,1,2,9,58] (E':=[(0,.loc 0 0),(1,.str name),(2,.str text),(9,.int .i64 ((fi:Nat):Int)),(58,.bool true)]) (by kernel_rfl) ?_
       refine OD.nil ?_
       refine CD.condT rfl ?_
       refine CD.seq ?_
       refine CD.region ?_
       refine OD.runE 1 [6] (E':=[(6,.bool false)]) (by kernel_rfl) ?_
       refine OD.nil ?_
       refine CD.ret ?_
       first | refine X06 ?_ | refine X07 ?_ | (dsimp only;first | refine X06 ?_ | refine X07 ?_)
       refine X26 2 (r:=.bool false) (L':=[.box [.int .i64 room,.row 1 0 ms.length ms.length,.int .i64 ((nx:Nat):Int)],.row 3 ms.length (ms.flatMap X04)]) (by kernel_rfl) ?_ ?_ (by kernel_rfl) (by kernel_rfl) ?_
       · exact Nat.le_of_ble_eq_true (by kernel_rfl)
       · exact Nat.le_of_ble_eq_true (by kernel_rfl)
       · exact⟨fun _=>⟨rfl,rfl⟩,fun⟨a,b,c⟩=>by exfalso;first | exact b (by assumption) | exact Bool.noConfusion (a.symm.trans (by assumption:X1J name=false)) | exact c ⟨.inl (by omega),by omega⟩ | exact c ⟨.inr (by rw [hfe,Int.toNat_natCast];assumption),by omega⟩⟩
      ·
       refine OD.runE 5 [0,1,2,9,41,44,47,51,52] (E':=[(0,.loc 0 0),(1,.str name),(2,.str text),(9,.int .i64 ((fi:Nat):Int)),(41,.bool false),(44,.bool true),(47,.bool false),(51,.row 1 0 ms.length ms.length),(52,.int .i64 ((fi:Nat):Int))]) (by kernel_rfl) ?_
       refine OD.guard rfl rfl ?_
       refine OD.idxE (i:=fi) (e:=3) rfl rfl (by kernel_rfl) (by omega) (by omega) ?_
       refine OD.runE 1 [0,1,2,9,41,44,47,54] (E':=[(0,.loc 0 0),(1,.str name),(2,.str text),(9,.int .i64 ((fi:Nat):Int)),(41,.bool false),(44,.bool true),(47,.bool false),(54,.loc 1 (fi*3+2))]) (by kernel_rfl) ?_
       refine OD.guard rfl rfl ?_
       refine OD.ldR (d:=.bool (ms.getD fi e0).2.2) rfl rfl (by kernel_rfl) (X23 (k:=2) (by omega) (by decide) rfl) ?_
       refine OD.runE 3 [0,1,2,9,58] (E':=[(0,.loc 0 0),(1,.str name),(2,.str text),(9,.int .i64 ((fi:Nat):Int)),(58,.bool (ms.getD fi e0).2.2)]) (by kernel_rfl) ?_
       refine OD.nil ?_
       refine CD.condB rfl (fun h10=>?_) (fun h10=>?_)
       ·
        refine CD.seq ?_
        refine CD.region ?_
        refine OD.runE 1 [6] (E':=[(6,.bool false)]) (by kernel_rfl) ?_
        refine OD.nil ?_
        refine CD.ret ?_
        first | refine X06 ?_ | refine X07 ?_ | (dsimp only;first | refine X06 ?_ | refine X07 ?_)
        refine X26 2 (r:=.bool false) (L':=[.box [.int .i64 room,.row 1 0 ms.length ms.length,.int .i64 ((nx:Nat):Int)],.row 3 ms.length (ms.flatMap X04)]) (by kernel_rfl) ?_ ?_ (by kernel_rfl) (by kernel_rfl) ?_
        · exact Nat.le_of_ble_eq_true (by kernel_rfl)
        · exact Nat.le_of_ble_eq_true (by kernel_rfl)
        · exact⟨fun _=>⟨rfl,rfl⟩,fun⟨a,b,c⟩=>by exfalso;first | exact b (by assumption) | exact Bool.noConfusion (a.symm.trans (by assumption:X1J name=false)) | exact c ⟨.inl (by omega),by omega⟩ | exact c ⟨.inr (by rw [hfe,Int.toNat_natCast];assumption),by omega⟩⟩
       ·
        refine CD.skip ?_
        refine CD.seq ?_
        refine CD.seq ?_
        refine CD.region ?_
        refine OD.runE 2 [0,1,2,9,60] (E':=[(0,.loc 0 0),(1,.str name),(2,.str text),(9,.int .i64 ((fi:Nat):Int)),(60,.bool (decide ((0:Int)≤((fi:Nat):Int))))]) (by kernel_rfl) ?_
        refine OD.nil ?_
        refine CD.condP rfl (fun h11=>?_) (fun h11=>?_)
        ·
         refine CD.seq ?_
         refine CD.region ?_
         refine OD.runE 4 [0,1,2,9,64] (E':=[(0,.loc 0 0),(1,.str name),(2,.str text),(9,.int .i64 ((fi:Nat):Int)),(64,.row 1 0 ms.length ms.length)]) (by kernel_rfl) ?_
         refine OD.appCR (e:=3) (ds:=ms.flatMap X04) rfl (by kernel_rfl) rfl rfl (X2P ms) (X1K ms) (by omega) (by omega) ?_
         refine OD.runE 1 [0,1,2,9,10] (E':=[(0,.loc 0 0),(1,.str name),(2,.str text),(9,.int .i64 ((fi:Nat):Int)),(10,.row 2 0 ms.length ms.length)]) (by kernel_rfl) ?_
         refine OD.nil ?_
         refine CD.seq ?_
         refine CD.region ?_
         refine OD.runE 5 [0,10,66,67,70] (E':=[(0,.loc 0 0),(10,.row 2 0 ms.length ms.length),(66,.row 2 0 ms.length ms.length),(67,.int .i64 ((fi:Nat):Int)),(70,.agg [.str name,.str text,.bool false])]) (by kernel_rfl) ?_
         refine OD.idxE (i:=fi) (e:=3) rfl rfl (by kernel_rfl) (by omega) (by omega) ?_
         refine OD.runE 0 [0,10,70,71] (E':=[(0,.loc 0 0),(10,.row 2 0 ms.length ms.length),(70,.agg [.str name,.str text,.bool false]),(71,.loc 2 (fi*3))]) (by kernel_rfl) ?_
         refine OD.stR (e:=3) (m:=3) (ds:=[.str name,.str text,.bool false]) rfl rfl rfl rfl rfl (by kernel_rfl) rfl (by rw [X1F];omega) ?_
         refine OD.rowIs 2 rfl (cs':=(ms.set fi (name,text,false)).flatMap X04) (X6N hil) ?_
         refine OD.runE 0 [0,10] (E':=[(0,.loc 0 0),(10,.row 2 0 ms.length ms.length)]) (by kernel_rfl) ?_
         refine OD.nil ?_
         refine CD.seq ?_
         refine CD.region ?_
         refine OD.run 5 [] (E':=[]) (L':=[.box [.int .i64 room,.row 2 0 ms.length ms.length,.int .i64 ((nx:Nat):Int)],.row 3 ms.length (ms.flatMap X04),.row 3 ms.length ((ms.set fi (name,text,false)).flatMap X04)]) (by kernel_rfl) ?_
         refine OD.swap 1 2 rfl rfl ?_
         refine OD.weak [] 2 (E':=[]) (by kernel_rfl) (by simp [hg0]) (by kernel_rfl) ?_
         refine OD.run 0 [] (E':=[]) (L':=[.box [.int .i64 room,.row 1 0 ms.length ms.length,.int .i64 ((nx:Nat):Int)],.row 3 ms.length ((ms.set fi (name,text,false)).flatMap X04)]) (by kernel_rfl) ?_
         refine OD.nil ?_
         refine CD.seq ?_
         refine CD.region ?_
         refine OD.runE 1 [6] (E':=[(6,.bool true)]) (by kernel_rfl) ?_
         refine OD.nil ?_
         refine CD.ret ?_
         first | refine X06 ?_ | refine X07 ?_ | (dsimp only;first | refine X06 ?_ | refine X07 ?_)
         refine X26 2 (r:=.bool true) (L':=[.box [.int .i64 room,.row 1 0 ms.length ms.length,.int .i64 ((nx:Nat):Int)],.row 3 ms.length ((ms.set fi (name,text,false)).flatMap X04)]) (by kernel_rfl) ?_ ?_ (by kernel_rfl) (by kernel_rfl) ?_
         · exact Nat.le_of_ble_eq_true (by kernel_rfl)
         · exact Nat.le_of_ble_eq_true (by kernel_rfl)
         · exact⟨fun h=>by exfalso;rcases h with h | h;exact h ⟨by assumption,by assumption⟩;obtain⟨h1,h2⟩:=h;first | omega | (rcases h1 with h1 | h1;omega;rw [hfe,Int.toNat_natCast,(by assumption:(ms.getD fi e0).2.2=false)]at h1;cases h1),fun _=>by have hrs:X3b ms name text=ms.set fi (name,text,false):=(by unfold X3b;rw [hfe,if_neg (by omega),Int.toNat_natCast]);rw [hrs,List.length_set];exact⟨rfl,rfl⟩⟩
        ·
         refine CD.skip ?_
         refine CD.seq ?_
         refine CD.region ?_
         refine OD.runE 8 [76,80,83] (E':=[(76,.loc 0 0),(80,.row 1 0 ms.length ms.length),(83,.agg [.str name,.str text,.bool false])]) (by kernel_rfl) ?_
         refine OD.bsl (e:=3) (cs:=[.str name,.str text,.bool false]) rfl (by kernel_rfl) ?_
         refine OD.runE 0 [76,80,84] (E':=[(76,.loc 0 0),(80,.row 1 0 ms.length ms.length),(84,.sl 3 1 [.str name,.str text,.bool false])]) (by kernel_rfl) ?_
         refine OD.appE (enc:=X04) (xs:=ms) (vs:=[(name,text,false)]) rfl (by kernel_rfl) rfl rfl rfl (by rfl) X1u rfl (by decide) (by omega) (by omega) ?_
         refine OD.run 3 [] (E':=[]) (L':=[.box [.int .i64 room,.row 1 0 (ms.length+1) (ms.length+1),.int .i64 ((nx:Nat):Int)],.row 3 (ms.length+1) ((ms++[(name,text,false)]).flatMap X04)]) (by kernel_rfl) ?_
         refine OD.nil ?_
         refine CD.seq ?_
         refine CD.region ?_
         refine OD.runE 1 [6] (E':=[(6,.bool true)]) (by kernel_rfl) ?_
         refine OD.nil ?_
         refine CD.ret ?_
         first | refine X06 ?_ | refine X07 ?_ | (dsimp only;first | refine X06 ?_ | refine X07 ?_)
         refine X26 2 (r:=.bool true) (L':=[.box [.int .i64 room,.row 1 0 (ms.length+1) (ms.length+1),.int .i64 ((nx:Nat):Int)],.row 3 (ms.length+1) ((ms++[(name,text,false)]).flatMap X04)]) (by kernel_rfl) ?_ ?_ (by kernel_rfl) (by kernel_rfl) ?_
         · exact Nat.le_of_ble_eq_true (by kernel_rfl)
         · exact Nat.le_of_ble_eq_true (by kernel_rfl)
         · exact⟨fun h=>by exfalso;rcases h with h | h;exact h ⟨by assumption,by assumption⟩;obtain⟨h1,h2⟩:=h;first | omega | (rcases h1 with h1 | h1;omega;rw [hfe,Int.toNat_natCast,(by assumption:(ms.getD fi e0).2.2=false)]at h1;cases h1),fun _=>by have hrs:X3b ms name text=ms++[(name,text,false)]:=(by unfold X3b;rw [hfe,if_pos (by omega)]);rw [hrs,List.length_append];exact⟨rfl,rfl⟩⟩
     ·
      refine OD.runE 14 [0,1,2,9,58] (E':=[(0,.loc 0 0),(1,.str name),(2,.str text),(9,.int .i64 ((fi:Nat):Int)),(58,.bool false)]) (by kernel_rfl) ?_
      refine OD.nil ?_
      refine CD.condF rfl ?_
      refine CD.skip ?_
      refine CD.seq ?_
      refine CD.seq ?_
      refine CD.region ?_
      refine OD.runE 2 [0,1,2,9,60] (E':=[(0,.loc 0 0),(1,.str name),(2,.str text),(9,.int .i64 ((fi:Nat):Int)),(60,.bool (decide ((0:Int)≤((fi:Nat):Int))))]) (by kernel_rfl) ?_
      refine OD.nil ?_
      refine CD.condP rfl (fun h12=>?_) (fun h12=>?_)
      ·
       refine CD.seq ?_
       refine CD.region ?_
       refine OD.runE 4 [0,1,2,9,64] (E':=[(0,.loc 0 0),(1,.str name),(2,.str text),(9,.int .i64 ((fi:Nat):Int)),(64,.row 1 0 ms.length ms.length)]) (by kernel_rfl) ?_
       refine OD.appCR (e:=3) (ds:=ms.flatMap X04) rfl (by kernel_rfl) rfl rfl (X2P ms) (X1K ms) (by omega) (by omega) ?_
       refine OD.runE 1 [0,1,2,9,10] (E':=[(0,.loc 0 0),(1,.str name),(2,.str text),(9,.int .i64 ((fi:Nat):Int)),(10,.row 2 0 ms.length ms.length)]) (by kernel_rfl) ?_
       refine OD.nil ?_
       refine CD.seq ?_
       refine CD.region ?_
       refine OD.runE 5 [0,10,66,67,70] (E':=[(0,.loc 0 0),(10,.row 2 0 ms.length ms.length),(66,.row 2 0 ms.length ms.length),(67,.int .i64 ((fi:Nat):Int)),(70,.agg [.str name,.str text,.bool false])]) (by kernel_rfl) ?_
       refine OD.idxE (i:=fi) (e:=3) rfl rfl (by kernel_rfl) (by omega) (by omega) ?_
       refine OD.runE 0 [0,10,70,71] (E':=[(0,.loc 0 0),(10,.row 2 0 ms.length ms.length),(70,.agg [.str name,.str text,.bool false]),(71,.loc 2 (fi*3))]) (by kernel_rfl) ?_
       refine OD.stR (e:=3) (m:=3) (ds:=[.str name,.str text,.bool false]) rfl rfl rfl rfl rfl (by kernel_rfl) rfl (by rw [X1F];omega) ?_
       refine OD.rowIs 2 rfl (cs':=(ms.set fi (name,text,false)).flatMap X04) (X6N hil) ?_
       refine OD.runE 0 [0,10] (E':=[(0,.loc 0 0),(10,.row 2 0 ms.length ms.length)]) (by kernel_rfl) ?_
       refine OD.nil ?_
       refine CD.seq ?_
       refine CD.region ?_
       refine OD.run 5 [] (E':=[]) (L':=[.box [.int .i64 room,.row 2 0 ms.length ms.length,.int .i64 ((nx:Nat):Int)],.row 3 ms.length (ms.flatMap X04),.row 3 ms.length ((ms.set fi (name,text,false)).flatMap X04)]) (by kernel_rfl) ?_
       refine OD.swap 1 2 rfl rfl ?_
       refine OD.weak [] 2 (E':=[]) (by kernel_rfl) (by simp [hg0]) (by kernel_rfl) ?_
       refine OD.run 0 [] (E':=[]) (L':=[.box [.int .i64 room,.row 1 0 ms.length ms.length,.int .i64 ((nx:Nat):Int)],.row 3 ms.length ((ms.set fi (name,text,false)).flatMap X04)]) (by kernel_rfl) ?_
       refine OD.nil ?_
       refine CD.seq ?_
       refine CD.region ?_
       refine OD.runE 1 [6] (E':=[(6,.bool true)]) (by kernel_rfl) ?_
       refine OD.nil ?_
       refine CD.ret ?_
       first | refine X06 ?_ | refine X07 ?_ | (dsimp only;first | refine X06 ?_ | refine X07 ?_)
       refine X26 2 (r:=.bool true) (L':=[.box [.int .i64 room,.row 1 0 ms.length ms.length,.int .i64 ((nx:Nat):Int)],.row 3 ms.length ((ms.set fi (name,text,false)).flatMap X04)]) (by kernel_rfl) ?_ ?_ (by kernel_rfl) (by kernel_rfl) ?_
       · exact Nat.le_of_ble_eq_true (by kernel_rfl)
       · exact Nat.le_of_ble_eq_true (by kernel_rfl)
       · exact⟨fun h=>by exfalso;rcases h with h | h;exact h ⟨by assumption,by assumption⟩;obtain⟨h1,h2⟩:=h;first | omega | (rcases h1 with h1 | h1;omega;rw [hfe,Int.toNat_natCast,(by assumption:(ms.getD fi e0).2.2=false)]at h1;cases h1),fun _=>by have hrs:X3b ms name text=ms.set fi (name,text,false):=(by unfold X3b;rw [hfe,if_neg (by omega),Int.toNat_natCast]);rw [hrs,List.length_set];exact⟨rfl,rfl⟩⟩
      ·
       refine CD.skip ?_
       refine CD.seq ?_
       refine CD.region ?_
       refine OD.runE 8 [76,80,83] (E':=[(76,.loc 0 0),(80,.row 1 0 ms.length ms.length),(83,.agg [.str name,.str text,.bool false])]) (by kernel_rfl) ?_
       refine OD.bsl (e:=3) (cs:=[.str name,.str text,.bool false]) rfl (by kernel_rfl) ?_
       refine OD.runE 0 [76,80,84] (E':=[(76,.loc 0 0),(80,.row 1 0 ms.length ms.length),(84,.sl 3 1 [.str name,.str text,.bool false])]) (by kernel_rfl) ?_
       refine OD.appE (enc:=X04) (xs:=ms) (vs:=[(name,text,false)]) rfl (by kernel_rfl) rfl rfl rfl (by rfl) X1u rfl (by decide) (by omega) (by omega) ?_
       refine OD.run 3 [] (E':=[]) (L':=[.box [.int .i64 room,.row 1 0 (ms.length+1) (ms.length+1),.int .i64 ((nx:Nat):Int)],.row 3 (ms.length+1) ((ms++[(name,text,false)]).flatMap X04)]) (by kernel_rfl) ?_
       refine OD.nil ?_
       refine CD.seq ?_
       refine CD.region ?_
       refine OD.runE 1 [6] (E':=[(6,.bool true)]) (by kernel_rfl) ?_
       refine OD.nil ?_
       refine CD.ret ?_
       first | refine X06 ?_ | refine X07 ?_ | (dsimp only;first | refine X06 ?_ | refine X07 ?_)
       refine X26 2 (r:=.bool true) (L':=[.box [.int .i64 room,.row 1 0 (ms.length+1) (ms.length+1),.int .i64 ((nx:Nat):Int)],.row 3 (ms.length+1) ((ms++[(name,text,false)]).flatMap X04)]) (by kernel_rfl) ?_ ?_ (by kernel_rfl) (by kernel_rfl) ?_
       · exact Nat.le_of_ble_eq_true (by kernel_rfl)
       · exact Nat.le_of_ble_eq_true (by kernel_rfl)
       · exact⟨fun h=>by exfalso;rcases h with h | h;exact h ⟨by assumption,by assumption⟩;obtain⟨h1,h2⟩:=h;first | omega | (rcases h1 with h1 | h1;omega;rw [hfe,Int.toNat_natCast,(by assumption:(ms.getD fi e0).2.2=false)]at h1;cases h1),fun _=>by have hrs:X3b ms name text=ms++[(name,text,false)]:=(by unfold X3b;rw [hfe,if_pos (by omega)]);rw [hrs,List.length_append];exact⟨rfl,rfl⟩⟩
end
end Go.Proofs.YtmmmjbipgngamaaGreatDoor
