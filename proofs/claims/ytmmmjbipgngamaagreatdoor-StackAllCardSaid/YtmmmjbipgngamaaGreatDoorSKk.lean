/-
  What is proved here: base 10; names in a row; what is there after some pushes. what functions of the stack come to (walks that a program of mine has printed). No conditions but those that the theorems state.
-/
import Derived.Test.YtmmmjbipgngamaaGreatDoorSKi
import Derived.Test.YtmmmjbipgngamaaGreatDoorRY
set_option linter.unusedVariables false
set_option linter.unusedSimpArgs false
namespace Go.Vai
open Go.RowKit
noncomputable section
theorem XFq {m n:Nat} (h:0<n) (hm:m<9223372036854775808):XA3 .quo (.int .i64 (m:Int)) (.int .i64 (n:Int))=some (.int .i64 ((m / n:Nat):Int)):=by
 have e1:Nat.blt 0 n=true:=by simpa using h
 show(match kEq .i64 .i64 with | true=>XGK .quo .i64 (Int.ofNat m) (Int.ofNat n) | false=>none)=_
 have h2:m.div n≤m:=Nat.div_le_self m n
 have h3:X0X .i64 (Int.ofNat (m.div n))=((m.div n:Nat):Int):=Go.Vai.wrap64 (n:=((m.div n:Nat):Int)) (by omega) (by omega)
 simp only [show kEq .i64 .i64=true from rfl,XGK,XH8,e1,h3]
 rfl
theorem X6L {n:Nat} (h:n<10):strOfNums [((48+n:Nat):Int)]=X3k n:=by
 refine Go.WideShapes.bytes_inj ?_
 rw [X2X,strOfNums_data]
 unfold Lib.decDigits
 rw [dif_pos h]
 show[UInt8.ofNat (((48+n:Nat):Int)).toNat]=_
 rw [Int.toNat_natCast]
theorem X9t {n:Nat} (h:¬ n<10):X3k (n / 10)++X3k (n % 10)=X3k n:=by
 refine Go.WideShapes.bytes_inj ?_
 rw [ByteArray.data_append,Array.toList_append,X2X,X2X,X2X]
 conv=>rhs;unfold Lib.decDigits
 rw [dif_neg h]
 congr 1
 unfold Lib.decDigits
 rw [dif_pos (by omega)]
theorem XH1 {a b:Nat} (ha:a≤1000000) (hb:b≤1000000):(X3k a).size+(X3k b).size≤1000000000:=by
 have:=X8w ha
 have:=X8w hb
 omega
theorem X6M {l:List X0A} {i:Nat} {ns:List ByteArray} (h:i<l.length) (hn:ns=(l.take i).map Prod.fst):ns++[(l.getD i e0).1]=(l.take (i+1)).map Prod.fst:=by
 rw [hn,List.take_add_one,X10 h];simp
theorem X7j {l rest:List X0A} {i:Nat} (h:i<l.length):(((l++rest).flatMap X04).drop (i*3)).take 3=[.str (l.getD i e0).1,.str (l.getD i e0).2.1,.bool (l.getD i e0).2.2]:=by
 rw [X3R (by rw [List.length_append];omega),XBs h]
end
end Go.Vai
set_option maxRecDepth 100000
set_option maxHeartbeats 4000000
namespace Go.Proofs.YtmmmjbipgngamaaGreatDoor
open Go.Vai Go.RowKit
noncomputable section
theorem X7k (n:Nat) (hn:n≤1000000):X2G P ov 19 [.int .i64 ((n:Nat):Int)] (.str (X3k n)):=by
 induction n using Nat.strongRecOn with
 | _ n ih =>
 refine FnD.intro (by kernel_rfl) (fn:=Tryz.f19) (by kernel_rfl) rfl (by kernel_rfl) fun M a0 g0 hg0=>?_
 refine CD.seq ?_
 refine CD.region ?_
 refine OD.runE 1 [0] (E':=[(0,.int .i64 ((n:Nat):Int))]) (by kernel_rfl) ?_
 refine OD.nil ?_
 refine CD.seq ?_
 refine CD.seq ?_
 refine CD.region ?_
 refine OD.runE 2 [0,4] (E':=[(0,.int .i64 ((n:Nat):Int)),(4,.bool (decide ((((n:Nat):Int):Int)<10)))]) (by kernel_rfl) ?_
 refine OD.nil ?_
 refine CD.condP rfl (fun h1=>?_) (fun h1=>?_)
 ·
  refine CD.seq ?_
  refine CD.region ?_
  refine OD.runE 2 [6] (E':=[(6,.int .i64 (X0X .i64 (48+((n:Nat):Int))))]) (by kernel_rfl) ?_
  refine OD.is 6 rfl (wrn (m:=48+n) (by omega) (by omega)) ?_
  refine OD.runE 1 [7] (E':=[(7,.int .u8 (X0X .u8 (((48+n:Nat):Int))))]) (by kernel_rfl) ?_
  refine OD.is 7 rfl (wr8 (by omega) (by omega)) ?_
  refine OD.runE 0 [7] (E':=[(7,.int .u8 ((48+n:Nat):Int))]) (by kernel_rfl) ?_
  refine OD.bsl (e:=1) (cs:=[.int .u8 ((48+n:Nat):Int)]) rfl (by kernel_rfl) ?_
  refine OD.runE 0 [8] (E':=[(8,.sl 1 1 [.int .u8 ((48+n:Nat):Int)])]) (by kernel_rfl) ?_
  refine OD.convBS (xs:=[((48+n:Nat):Int)]) rfl rfl (by decide) (by kernel_rfl) (by kernel_rfl) ?_
  refine OD.runE 1 [2] (E':=[(2,.str (strOfNums [((48+n:Nat):Int)]))]) (by kernel_rfl) ?_
  refine OD.nil ?_
  refine CD.ret ?_
  exact X36 (by kernel_rfl) (by kernel_rfl) (r:=.str (strOfNums [((48+n:Nat):Int)])) (by first | exact congrArg D.str (X6L (by omega)) | exact congrArg D.str (X9t (by omega)))
 ·
  refine CD.skip ?_
  refine CD.seq ?_
  refine CD.region ?_
  refine OD.runE 1 [0,10] (E':=[(0,.int .i64 ((n:Nat):Int)),(10,.int .i64 ((n:Nat):Int))]) (by kernel_rfl) ?_
  refine OD.bit rfl rfl (XFq (m:=n) (n:=10) (by decide) (by omega)) ?_
  refine OD.runE 0 [0,11] (E':=[(0,.int .i64 ((n:Nat):Int)),(11,.int .i64 ((n / 10:Nat):Int))]) (by kernel_rfl) ?_
  refine OD.callE (ih ((n / 10)) (by omega) (by omega)) rfl (by kernel_rfl) (by kernel_rfl) (by kernel_rfl) ?_
  refine OD.runE 2 [12,14] (E':=[(12,.str (X3k ((n / 10)))),(14,.int .i64 ((n % 10:Nat):Int))]) (by kernel_rfl) ?_
  refine OD.callE (ih ((n % 10)) (by omega) (by omega)) rfl (by kernel_rfl) (by kernel_rfl) (by kernel_rfl) ?_
  refine OD.runE 0 [12,15] (E':=[(12,.str (X3k ((n / 10)))),(15,.str (X3k ((n % 10))))]) (by kernel_rfl) ?_
  refine OD.catS rfl rfl (XH1 (by omega) (by omega)) ?_
  refine OD.runE 1 [2] (E':=[(2,.str ((X3k ((n / 10)))++(X3k ((n % 10)))))]) (by kernel_rfl) ?_
  refine OD.nil ?_
  refine CD.ret ?_
  exact X36 (by kernel_rfl) (by kernel_rfl) (r:=.str ((X3k ((n / 10)))++(X3k ((n % 10))))) (by first | exact congrArg D.str (X6L (by omega)) | exact congrArg D.str (X9t (by omega)))
theorem XDk (room:Int) (nx:Nat) (l rest:List X0A) (hl:l.length+rest.length≤1000000):FnD P ov 20 [.loc 0 0] [.box [.int .i64 room,.int .i64 ((nx:Nat):Int),.row 1 0 l.length (l.length+rest.length)],.row 3 (l.length+rest.length) ((l++rest).flatMap X04)] (fun r L1=>r=.sl 1 l.length ((l.map Prod.fst).map D.str)∧L1=[.box [.int .i64 room,.int .i64 ((nx:Nat):Int),.row 1 0 l.length (l.length+rest.length)],.row 3 (l.length+rest.length) ((l++rest).flatMap X04)]):=by
 refine FnD.intro (by kernel_rfl) (fn:=Tryz.f20) (by kernel_rfl) rfl (by kernel_rfl) fun M a0 g0 hg0=>?_
 refine CD.seq ?_
 refine CD.region ?_
 refine OD.runE 1 [0] (E':=[(0,.loc 0 0)]) (by kernel_rfl) ?_
 refine OD.nil ?_
 refine CD.seq ?_
 refine CD.seq ?_
 refine CD.region ?_
 refine OD.runE 2 [0,7] (E':=[(0,.loc 0 0),(7,.bool false)]) (by kernel_rfl) ?_
 refine OD.nil ?_
 refine CD.condF rfl ?_
 refine CD.skip ?_
 refine CD.seq ?_
 refine CD.region ?_
 refine OD.runE 1 [0,3] (E':=[(0,.loc 0 0),(3,.lit (.slice none 0 0))]) (by kernel_rfl) ?_
 refine OD.nilRow 3 1 rfl ?_
 refine OD.runE 0 [0,3] (E':=[(0,.loc 0 0),(3,.row 2 0 0 0)]) (by kernel_rfl) ?_
 refine OD.nil ?_
 refine CD.seq ?_
 refine CD.seq ?_
 refine CD.region ?_
 refine OD.runE 6 [3,11,12,13] (E':=[(3,.row 2 0 0 0),(11,.row 1 0 l.length (l.length+rest.length)),(12,.int .i64 ((l.length:Nat):Int)),(13,.int .i64 0)]) (by kernel_rfl) ?_
 refine OD.nil ?_
 refine CD.block ?_
 refine CD.weak [3,11,12,13] 3 (E':=[(3,.row 2 0 0 0),(11,.row 1 0 l.length (l.length+rest.length)),(12,.int .i64 ((l.length:Nat):Int)),(13,.int .i64 0)]) (by kernel_rfl) (by simp [hg0]) (by kernel_rfl) ?_
 refine CD.loop (fun m σ=>∃ (i:Nat) (ns:List ByteArray),σ=⟨[(3,.row 2 0 i i),(11,.row 1 0 l.length (l.length+rest.length)),(12,.int .i64 ((l.length:Nat):Int)),(13,.int .i64 ((i:Nat):Int))],[.box [.int .i64 room,.int .i64 ((nx:Nat):Int),.row 1 0 l.length (l.length+rest.length)],.row 3 (l.length+rest.length) ((l++rest).flatMap X04),.row 1 i (ns.map D.str)]⟩∧(i≤l.length)∧(ns.length=i)∧(ns=(l.take i).map Prod.fst)∧m=l.length - i) (fun m σ hI=>?_) _ ⟨0,[],(by kernel_rfl),Nat.zero_le _,rfl,rfl,rfl⟩
 obtain⟨i,ns,e,hi,hnl,hns,hm⟩:=hI
 subst e hm
 refine CD.seq ?_
 refine CD.region ?_
 refine OD.runE 1 [3,11,12,13,14] (E':=[(3,.row 2 0 i i),(11,.row 1 0 l.length (l.length+rest.length)),(12,.int .i64 ((l.length:Nat):Int)),(13,.int .i64 ((i:Nat):Int)),(14,.bool (decide ((((i:Nat):Int):Int)<((l.length:Nat):Int))))]) (by kernel_rfl) ?_
 refine OD.nil ?_
 refine CD.seq ?_
 refine CD.condP rfl (fun h1=>?_) (fun h1=>?_)
 ·
  refine CD.skip ?_
  refine CD.seq ?_
  refine CD.block ?_
  refine CD.seq ?_
  refine CD.region ?_
  refine OD.idxE (i:=i) (e:=3) rfl rfl (by kernel_rfl) (by omega) (by omega) ?_
  refine OD.runE 0 [3,11,12,13,15] (E':=[(3,.row 2 0 i i),(11,.row 1 0 l.length (l.length+rest.length)),(12,.int .i64 ((l.length:Nat):Int)),(13,.int .i64 ((i:Nat):Int)),(15,.loc 1 (i*3))]) (by kernel_rfl) ?_
  refine OD.ldRA (ds:=[.str ((l.getD i e0).1),.str ((l.getD i e0).2.1),.bool (l.getD i e0).2.2]) rfl rfl (by kernel_rfl) (by kernel_rfl) (X7j (by omega)) rfl (by decide) ?_
  refine OD.run 2 [3,5,11,12,13] (E':=[(3,.row 2 0 i i),(5,.loc 3 0),(11,.row 1 0 l.length (l.length+rest.length)),(12,.int .i64 ((l.length:Nat):Int)),(13,.int .i64 ((i:Nat):Int))]) (L':=[.box [.int .i64 room,.int .i64 ((nx:Nat):Int),.row 1 0 l.length (l.length+rest.length)],.row 3 (l.length+rest.length) ((l++rest).flatMap X04),.row 1 i (ns.map D.str),.box [.str ((l.getD i e0).1),.str ((l.getD i e0).2.1),.bool (l.getD i e0).2.2]]) (by kernel_rfl) ?_
  refine OD.nil ?_
  refine CD.region ?_
  refine OD.runE 3 [11,12,13,17,19] (E':=[(11,.row 1 0 l.length (l.length+rest.length)),(12,.int .i64 ((l.length:Nat):Int)),(13,.int .i64 ((i:Nat):Int)),(17,.row 2 0 i i),(19,.str ((l.getD i e0).1))]) (by kernel_rfl) ?_
  refine OD.bsl (e:=1) (cs:=[.str ((l.getD i e0).1)]) rfl (by kernel_rfl) ?_
  refine OD.runE 0 [11,12,13,17,20] (E':=[(11,.row 1 0 l.length (l.length+rest.length)),(12,.int .i64 ((l.length:Nat):Int)),(13,.int .i64 ((i:Nat):Int)),(17,.row 2 0 i i),(20,.sl 1 1 [.str ((l.getD i e0).1)])]) (by kernel_rfl) ?_
  refine OD.appV (f:=D.str) (xs:=ns) (vs:=[(l.getD i e0).1]) rfl (by kernel_rfl) rfl rfl rfl rfl hnl (by decide) (by omega) ?_
  refine OD.runE 1 [3,11,12,13] (E':=[(3,.row 2 0 (i+1) (i+1)),(11,.row 1 0 l.length (l.length+rest.length)),(12,.int .i64 ((l.length:Nat):Int)),(13,.int .i64 ((i:Nat):Int))]) (by kernel_rfl) ?_
  refine OD.nil ?_
  refine CD.region ?_
  refine OD.runE 1 [3,11,12,22] (E':=[(3,.row 2 0 (i+1) (i+1)),(11,.row 1 0 l.length (l.length+rest.length)),(12,.int .i64 ((l.length:Nat):Int)),(22,.int .i64 (X0X .i64 (((i:Nat):Int)+1)))]) (by kernel_rfl) ?_
  refine OD.is 22 rfl (wrn (m:=i+1) (by omega) (by omega)) ?_
  refine OD.runE 1 [3,11,12,13] (E':=[(3,.row 2 0 (i+1) (i+1)),(11,.row 1 0 l.length (l.length+rest.length)),(12,.int .i64 ((l.length:Nat):Int)),(13,.int .i64 ((i+1:Nat):Int))]) (by kernel_rfl) ?_
  refine OD.nilW [3,11,12,13] 3 (E':=[(3,.row 2 0 (i+1) (i+1)),(11,.row 1 0 l.length (l.length+rest.length)),(12,.int .i64 ((l.length:Nat):Int)),(13,.int .i64 ((i+1:Nat):Int))]) (by kernel_rfl) (by simp [hg0]) (by kernel_rfl) ?_
  exact⟨_,by omega,i+1,(ns++[(l.getD i e0).1]),(by kernel_rfl),by omega,by rw [List.length_append,hnl];rfl,X6M (by omega) hns,rfl⟩
 ·
  refine CD.exit ?_
  refine CD.seq ?_
  refine CD.region ?_
  refine OD.runE 2 [2] (E':=[(2,.row 2 0 i i)]) (by kernel_rfl) ?_
  refine OD.nil ?_
  refine CD.freeze 2 rfl rfl (Nat.le_refl _) ?_
  refine CD.ret ?_
  first | refine X06 ?_ | refine X07 ?_ | (dsimp only;first | refine X06 ?_ | refine X07 ?_)
  refine X26 2 (r:=.sl 1 i (ns.map D.str)) (L':=[.box [.int .i64 room,.int .i64 ((nx:Nat):Int),.row 1 0 l.length (l.length+rest.length)],.row 3 (l.length+rest.length) ((l++rest).flatMap X04)]) (by kernel_rfl) ?_ ?_ (by kernel_rfl) (by kernel_rfl) ?_
  · exact Nat.le_of_ble_eq_true (by kernel_rfl)
  · exact Nat.le_of_ble_eq_true (by kernel_rfl)
  · exact(by(have hil:i=l.length:=(by omega));subst hil;rw [hns,List.take_length];exact⟨rfl,rfl⟩)
end
end Go.Proofs.YtmmmjbipgngamaaGreatDoor
