/-
  What is proved here: base 10; names in a row; what is there after some pushes. what functions of the stack come to (walks that a program of mine has printed). of automatic ones never more than there is room for; the eldest goes first (a walk that a program of No conditions but those that the theorems state.
-/
import Derived.Test.YtmmmjbipgngamaaGreatDoorSKi
import Derived.Test.YtmmmjbipgngamaaGreatDoorRY
set_option linter.unusedVariables false
set_option linter.unusedSimpArgs false
namespace Go.Vai
open Go.RowKit
noncomputable section
theorem XCR {m n:Nat} (h:0<n) (hm:m<9223372036854775808):X6l .quo (.int .i64 (m:Int)) (.int .i64 (n:Int))=some (.int .i64 ((m / n:Nat):Int)):=by
 have e1:Nat.blt 0 n=true:=by simpa using h
 show(match kEq .i64 .i64 with | true=>XBM .quo .i64 (Int.ofNat m) (Int.ofNat n) | false=>none)=_
 have h2:m.div n≤m:=Nat.div_le_self m n
 have h3:X0k .i64 (Int.ofNat (m.div n))=((m.div n:Nat):Int):=Go.Vai.wrap64 (n:=((m.div n:Nat):Int)) (by omega) (by omega)
 simp only [show kEq .i64 .i64=true from rfl,XBM,XCq,e1,h3]
 rfl
theorem X55 {n:Nat} (h:n<10):strOfNums [((48+n:Nat):Int)]=X2K n:=by
 refine Go.WideShapes.bytes_inj ?_
 rw [X1v,strOfNums_data]
 unfold Lib.decDigits
 rw [dif_pos h]
 show[UInt8.ofNat (((48+n:Nat):Int)).toNat]=_
 rw [Int.toNat_natCast]
theorem X7j {n:Nat} (h:¬ n<10):X2K (n / 10)++X2K (n % 10)=X2K n:=by
 refine Go.WideShapes.bytes_inj ?_
 rw [ByteArray.data_append,Array.toList_append,X1v,X1v,X1v]
 conv=>rhs;unfold Lib.decDigits
 rw [dif_neg h]
 congr 1
 unfold Lib.decDigits
 rw [dif_pos (by omega)]
theorem XDO {a b:Nat} (ha:a≤1000000) (hb:b≤1000000):(X2K a).size+(X2K b).size≤1000000000:=by
 have:=X70 ha
 have:=X70 hb
 omega
theorem X8F {l:List X0y} {i:Nat} {ns:List ByteArray} (h:i<l.length) (hn:ns=(l.take i).map Prod.fst):ns++[(l.getD i e0).1]=(l.take (i+1)).map Prod.fst:=by
 rw [hn,List.take_add_one,X1A h];simp
theorem X62 {l rest:List X0y} {i:Nat} (h:i<l.length):(((l++rest).flatMap X0Z).drop (i*3)).take 3=[.str (l.getD i e0).1,.str (l.getD i e0).2.1,.bool (l.getD i e0).2.2]:=by
 rw [X3o (by rw [List.length_append];omega),X9N h]
theorem XAi {ns:List ByteArray} {i:Nat} (h:i<ns.length):(ns.map D.str)[i*1]?=some (.str (ns.getD i ByteArray.empty)):=by
 rw [Nat.mul_one,List.getElem?_map,getD_some (d:=ByteArray.empty) h];rfl
def tS:ByteArray:=⟨#[116]⟩
def stR (room n:Nat):List X0y:=(List.range (min room n)).map fun j=>(bn (n - 1 - j),tS,true)
theorem X2L (room n:Nat):(stR room n).length=min room n:=by simp [stR]
theorem X4D {room n j:Nat} (h:j<min room n):(stR room n).getD j e0=(bn (n - 1 - j),tS,true):=by
 unfold stR
 rw [List.getD_eq_getElem?_getD,List.getElem?_map,List.getElem?_range h];rfl
theorem X63 (room n:Nat):X0d (stR room n) true=min room n:=by
 unfold X0d
 rw [List.filter_eq_self.2,X2L]
 intro e he
 obtain⟨j,_,rfl⟩:=List.mem_map.1 he
 rfl
theorem XAj {room n:Nat}:X1u (stR room n) (bn n)<0:=by
 rcases X48 (stR room n) (bn n)with h | ⟨i,h1,h2,h3,_⟩
 · exact h
 ·
  rw [X2L]at h2
  rw [X4D h2]at h3
  have:=XBK h3
  omega
theorem XAk {room n k:Nat} (h:XCM (stR room n) n k):k=n:=by
 obtain⟨h1,_,h3⟩:=h
 by_cases e:k=n
 · exact e
 · exact absurd XAj (h3 n (Nat.le_refl _) (by omega))
theorem XAl (room n:Nat) (hr:n<room):(bn n,tS,true)::stR room n=stR room (n+1):=by
 unfold stR
 rw [Nat.min_eq_right (by omega),Nat.min_eq_right (by omega),List.range_succ_eq_map,List.map_cons,List.map_map]
 congr 1
 refine List.map_congr_left fun j hj=>?_
 have:=List.mem_range.1 hj
 simp only [Function.comp,Prod.mk.injEq,and_true]
 congr 1;omega
theorem XAm {room n i:Nat} (h0:0<room) (hr:room≤n) (hi:XAb ((bn n,tS,true)::stR room n) i):((bn n,tS,true)::stR room n).eraseIdx i=stR room (n+1):=by
 obtain⟨h1,h2,h3⟩:=hi
 have hl:((bn n,tS,true)::stR room n).length=room+1:=by rw [List.length_cons,X2L,Nat.min_eq_left hr]
 have hi:i=room:=by
  by_cases e:i=room
  · exact e
  ·
   have:=h3 room (by omega) (by omega)
   obtain⟨r,rfl⟩:∃ r,room=r+1:=⟨room - 1,by omega⟩
   have g:((bn n,tS,true)::stR (r+1) n).getD (r+1) e0=(stR (r+1) n).getD r e0:=rfl
   rw [g,X4D (by omega)]at this
   cases this
 rw [hi]
 refine List.ext_getElem? fun j=>?_
 have eq:∀ j,j<room+1→((bn n,tS,true)::stR room n)[j]?=some (bn (n - j),tS,true):=by
  intro j hj
  cases j with
  | zero=>rfl
  | succ j =>
   rw [List.getElem?_cons_succ,X1A (by rw [X2L];omega),X4D (by omega)]
   congr 3;omega
 rw [List.getElem?_eraseIdx]
 by_cases hj:j<room
 ·
  rw [if_pos hj,eq j (by omega),X1A (by rw [X2L];omega),X4D (by omega)]
  congr 3
 · rw [if_neg hj,List.getElem?_eq_none (by omega),List.getElem?_eq_none (by rw [X2L];omega)]
theorem XAn {room n:Nat} {l2:List X0y} (h0:0<room) (h:EvR ((room:Nat):Int) ((bn n,tS,true)::stR room n) l2):l2=stR room (n+1):=by
 have ha:X0d ((bn n,tS,true)::stR room n) true=min room n+1:=by rw [X1g,if_pos rfl,X63]
 rcases h with⟨h1,rfl⟩ | ⟨h1,i,hi,rfl⟩
 · rw [ha]at h1;exact XAl room n (by omega)
 · rw [ha]at h1;exact XAm h0 (by omega) hi
theorem X4E {room n j:Nat} (h:j<min room n):(((stR room n).map Prod.fst).getD j ByteArray.empty)=bn (n - 1 - j):=by
 rw [List.getD_eq_getElem?_getD,List.getElem?_map,X1A (by rw [X2L];exact h),X4D h];rfl
theorem tS_ne:¬ (⟨#[116]⟩:ByteArray)=ByteArray.empty:=fun h=>by
 have:=congrArg ByteArray.size h
 exact absurd this (by decide)
theorem XAo (room:Nat):([]:List X0y)=stR room 0:=by
 unfold stR;rw [Nat.min_zero];rfl
end
end Go.Vai
set_option maxRecDepth 100000
set_option maxHeartbeats 4000000
namespace Go.Proofs.YtmmmjbipgngamaaGreatDoor
open Go.Vai Go.RowKit
noncomputable section
theorem X64 (n:Nat) (hn:n≤1000000):X4n P ov 19 [.int .i64 ((n:Nat):Int)] (.str (X2K n)):=by
 induction n using Nat.strongRecOn with
 | _ n ih =>
 refine FnD.intro (by kernel_rfl) (fn:=Tryz.f19) (by kernel_rfl) rfl (by kernel_rfl) fun M a0 g0 hg0=>?_
 refine CD.seq ?_
 refine CD.region ?_
 refine OD.runE 1 [0] (E':=[(0,.int .i64 ((n:Nat):Int))]) (by kernel_rfl) ?_
 refine OD.nil ?_
 refine CD.seq ?_
 refine CD.seq ?_
 refine CD.region ?_
 refine OD.runE 2 [0,4] (E':=[(0,.int .i64 ((n:Nat):Int)),(4,.bool (decide ((((n:Nat):Int):Int)<10)))]) (by kernel_rfl) ?_
 refine OD.nil ?_
 refine CD.condP rfl (fun h1=>?_) (fun h1=>?_)
 ·
  refine CD.seq ?_
  refine CD.region ?_
  refine OD.runE 2 [6] (E':=[(6,.int .i64 (X0k .i64 (48+((n:Nat):Int))))]) (by kernel_rfl) ?_
  refine OD.is 6 rfl (wrn (m:=48+n) (by omega) (by omega)) ?_
  refine OD.runE 1 [7] (E':=[(7,.int .u8 (X0k .u8 (((48+n:Nat):Int))))]) (by kernel_rfl) ?_
  refine OD.is 7 rfl (wr8 (by omega) (by omega)) ?_
  refine OD.runE 0 [7] (E':=[(7,.int .u8 ((48+n:Nat):Int))]) (by kernel_rfl) ?_
  refine OD.bsl (e:=1) (cs:=[.int .u8 ((48+n:Nat):Int)]) rfl (by kernel_rfl) ?_
  refine OD.runE 0 [8] (E':=[(8,.sl 1 1 [.int .u8 ((48+n:Nat):Int)])]) (by kernel_rfl) ?_
  refine OD.convBS (xs:=[((48+n:Nat):Int)]) rfl rfl (by decide) (by kernel_rfl) (by kernel_rfl) ?_
  refine OD.runE 1 [2] (E':=[(2,.str (strOfNums [((48+n:Nat):Int)]))]) (by kernel_rfl) ?_
  refine OD.nil ?_
  refine CD.ret ?_
  exact XAI (by kernel_rfl) (by kernel_rfl) (r:=.str (strOfNums [((48+n:Nat):Int)])) (by first | exact congrArg D.str (X55 (by omega)) | exact congrArg D.str (X7j (by omega)))
 ·
  refine CD.skip ?_
  refine CD.seq ?_
  refine CD.region ?_
  refine OD.runE 1 [0,10] (E':=[(0,.int .i64 ((n:Nat):Int)),(10,.int .i64 ((n:Nat):Int))]) (by kernel_rfl) ?_
  refine OD.bit rfl rfl (XCR (m:=n) (n:=10) (by decide) (by omega)) ?_
  refine OD.runE 0 [0,11] (E':=[(0,.int .i64 ((n:Nat):Int)),(11,.int .i64 ((n / 10:Nat):Int))]) (by kernel_rfl) ?_
  refine OD.callE (ih ((n / 10)) (by omega) (by omega)) rfl (by kernel_rfl) (by kernel_rfl) (by kernel_rfl) ?_
  refine OD.runE 2 [12,14] (E':=[(12,.str (X2K ((n / 10)))),(14,.int .i64 ((n % 10:Nat):Int))]) (by kernel_rfl) ?_
  refine OD.callE (ih ((n % 10)) (by omega) (by omega)) rfl (by kernel_rfl) (by kernel_rfl) (by kernel_rfl) ?_
  refine OD.runE 0 [12,15] (E':=[(12,.str (X2K ((n / 10)))),(15,.str (X2K ((n % 10))))]) (by kernel_rfl) ?_
  refine OD.catS rfl rfl (XDO (by omega) (by omega)) ?_
  refine OD.runE 1 [2] (E':=[(2,.str ((X2K ((n / 10)))++(X2K ((n % 10)))))]) (by kernel_rfl) ?_
  refine OD.nil ?_
  refine CD.ret ?_
  exact XAI (by kernel_rfl) (by kernel_rfl) (r:=.str ((X2K ((n / 10)))++(X2K ((n % 10))))) (by first | exact congrArg D.str (X55 (by omega)) | exact congrArg D.str (X7j (by omega)))
theorem XAp (room:Int) (nx:Nat) (l rest:List X0y) (hl:l.length+rest.length≤1000000):FnD P ov 20 [.loc 0 0] [.box [.int .i64 room,.int .i64 ((nx:Nat):Int),.row 1 0 l.length (l.length+rest.length)],.row 3 (l.length+rest.length) ((l++rest).flatMap X0Z)] (fun r L1=>r=.sl 1 l.length ((l.map Prod.fst).map D.str)∧L1=[.box [.int .i64 room,.int .i64 ((nx:Nat):Int),.row 1 0 l.length (l.length+rest.length)],.row 3 (l.length+rest.length) ((l++rest).flatMap X0Z)]):=by
 refine FnD.intro (by kernel_rfl) (fn:=Tryz.f20) (by kernel_rfl) rfl (by kernel_rfl) fun M a0 g0 hg0=>?_
 refine CD.seq ?_
 refine CD.region ?_
 refine OD.runE 1 [0] (E':=[(0,.loc 0 0)]) (by kernel_rfl) ?_
 refine OD.nil ?_
 refine CD.seq ?_
 refine CD.seq ?_
 refine CD.region ?_
 refine OD.runE 2 [0,7] (E':=[(0,.loc 0 0),(7,.bool false)]) (by kernel_rfl) ?_
 refine OD.nil ?_
 refine CD.condF rfl ?_
 refine CD.skip ?_
 refine CD.seq ?_
 refine CD.region ?_
 refine OD.runE 1 [0,3] (E':=[(0,.loc 0 0),(3,.lit (.slice none 0 0))]) (by kernel_rfl) ?_
 refine OD.nilRow 3 1 rfl ?_
 refine OD.runE 0 [0,3] (E':=[(0,.loc 0 0),(3,.row 2 0 0 0)]) (by kernel_rfl) ?_
 refine OD.nil ?_
 refine CD.seq ?_
 refine CD.seq ?_
 refine CD.region ?_
 refine OD.runE 6 [3,11,12,13] (E':=[(3,.row 2 0 0 0),(11,.row 1 0 l.length (l.length+rest.length)),(12,.int .i64 ((l.length:Nat):Int)),(13,.int .i64 0)]) (by kernel_rfl) ?_
 refine OD.nil ?_
 refine CD.block ?_
 refine CD.weak [3,11,12,13] 3 (E':=[(3,.row 2 0 0 0),(11,.row 1 0 l.length (l.length+rest.length)),(12,.int .i64 ((l.length:Nat):Int)),(13,.int .i64 0)]) (by kernel_rfl) (by simp [hg0]) (by kernel_rfl) ?_
 refine CD.loop (fun m σ=>∃ (i:Nat) (ns:List ByteArray),σ=⟨[(3,.row 2 0 i i),(11,.row 1 0 l.length (l.length+rest.length)),(12,.int .i64 ((l.length:Nat):Int)),(13,.int .i64 ((i:Nat):Int))],[.box [.int .i64 room,.int .i64 ((nx:Nat):Int),.row 1 0 l.length (l.length+rest.length)],.row 3 (l.length+rest.length) ((l++rest).flatMap X0Z),.row 1 i (ns.map D.str)]⟩∧(i≤l.length)∧(ns.length=i)∧(ns=(l.take i).map Prod.fst)∧m=l.length - i) (fun m σ hI=>?_) _ ⟨0,[],(by kernel_rfl),Nat.zero_le _,rfl,rfl,rfl⟩
 obtain⟨i,ns,e,hi,hnl,hns,hm⟩:=hI
 subst e hm
 refine CD.seq ?_
 refine CD.region ?_
 refine OD.runE 1 [3,11,12,13,14] (E':=[(3,.row 2 0 i i),(11,.row 1 0 l.length (l.length+rest.length)),(12,.int .i64 ((l.length:Nat):Int)),(13,.int .i64 ((i:Nat):Int)),(14,.bool (decide ((((i:Nat):Int):Int)<((l.length:Nat):Int))))]) (by kernel_rfl) ?_
 refine OD.nil ?_
 refine CD.seq ?_
 refine CD.condP rfl (fun h1=>?_) (fun h1=>?_)
 ·
  refine CD.skip ?_
  refine CD.seq ?_
  refine CD.block ?_
  refine CD.seq ?_
  refine CD.region ?_
  refine OD.idxE (i:=i) (e:=3) rfl rfl (by kernel_rfl) (by omega) (by omega) ?_
  refine OD.runE 0 [3,11,12,13,15] (E':=[(3,.row 2 0 i i),(11,.row 1 0 l.length (l.length+rest.length)),(12,.int .i64 ((l.length:Nat):Int)),(13,.int .i64 ((i:Nat):Int)),(15,.loc 1 (i*3))]) (by kernel_rfl) ?_
  refine OD.ldRA (ds:=[.str ((l.getD i e0).1),.str ((l.getD i e0).2.1),.bool (l.getD i e0).2.2]) rfl rfl (by kernel_rfl) (by kernel_rfl) (X62 (by omega)) rfl (by decide) ?_
  refine OD.run 2 [3,5,11,12,13] (E':=[(3,.row 2 0 i i),(5,.loc 3 0),(11,.row 1 0 l.length (l.length+rest.length)),(12,.int .i64 ((l.length:Nat):Int)),(13,.int .i64 ((i:Nat):Int))]) (L':=[.box [.int .i64 room,.int .i64 ((nx:Nat):Int),.row 1 0 l.length (l.length+rest.length)],.row 3 (l.length+rest.length) ((l++rest).flatMap X0Z),.row 1 i (ns.map D.str),.box [.str ((l.getD i e0).1),.str ((l.getD i e0).2.1),.bool (l.getD i e0).2.2]]) (by kernel_rfl) ?_
  refine OD.nil ?_
  refine CD.region ?_
  refine OD.runE 3 [11,12,13,17,19] (E':=[(11,.row 1 0 l.length (l.length+rest.length)),(12,.int .i64 ((l.length:Nat):Int)),(13,.int .i64 ((i:Nat):Int)),(17,.row 2 0 i i),(19,.str ((l.getD i e0).1))]) (by kernel_rfl) ?_
  refine OD.bsl (e:=1) (cs:=[.str ((l.getD i e0).1)]) rfl (by kernel_rfl) ?_
  refine OD.runE 0 [11,12,13,17,20] (E':=[(11,.row 1 0 l.length (l.length+rest.length)),(12,.int .i64 ((l.length:Nat):Int)),(13,.int .i64 ((i:Nat):Int)),(17,.row 2 0 i i),(20,.sl 1 1 [.str ((l.getD i e0).1)])]) (by kernel_rfl) ?_
  refine OD.appV (f:=D.str) (xs:=ns) (vs:=[(l.getD i e0).1]) rfl (by kernel_rfl) rfl rfl rfl rfl hnl (by decide) (by omega) ?_
  refine OD.runE 1 [3,11,12,13] (E':=[(3,.row 2 0 (i+1) (i+1)),(11,.row 1 0 l.length (l.length+rest.length)),(12,.int .i64 ((l.length:Nat):Int)),(13,.int .i64 ((i:Nat):Int))]) (by kernel_rfl) ?_
  refine OD.nil ?_
  refine CD.region ?_
  refine OD.runE 1 [3,11,12,22] (E':=[(3,.row 2 0 (i+1) (i+1)),(11,.row 1 0 l.length (l.length+rest.length)),(12,.int .i64 ((l.length:Nat):Int)),(22,.int .i64 (X0k .i64 (((i:Nat):Int)+1)))]) (by kernel_rfl) ?_
  refine OD.is 22 rfl (wrn (m:=i+1) (by omega) (by omega)) ?_
  refine OD.runE 1 [3,11,12,13] (E':=[(3,.row 2 0 (i+1) (i+1)),(11,.row 1 0 l.length (l.length+rest.length)),(12,.int .i64 ((l.length:Nat):Int)),(13,.int .i64 ((i+1:Nat):Int))]) (by kernel_rfl) ?_
  refine OD.nilW [3,11,12,13] 3 (E':=[(3,.row 2 0 (i+1) (i+1)),(11,.row 1 0 l.length (l.length+rest.length)),(12,.int .i64 ((l.length:Nat):Int)),(13,.int .i64 ((i+1:Nat):Int))]) (by kernel_rfl) (by simp [hg0]) (by kernel_rfl) ?_
  exact⟨_,by omega,i+1,(ns++[(l.getD i e0).1]),(by kernel_rfl),by omega,by rw [List.length_append,hnl];rfl,X8F (by omega) hns,rfl⟩
 ·
  refine CD.exit ?_
  refine CD.seq ?_
  refine CD.region ?_
  refine OD.runE 2 [2] (E':=[(2,.row 2 0 i i)]) (by kernel_rfl) ?_
  refine OD.nil ?_
  refine CD.freeze 2 rfl rfl (Nat.le_refl _) ?_
  refine CD.ret ?_
  first | refine X1k ?_ | refine X1l ?_ | (dsimp only;first | refine X1k ?_ | refine X1l ?_)
  refine XBH 2 (r:=.sl 1 i (ns.map D.str)) (L':=[.box [.int .i64 room,.int .i64 ((nx:Nat):Int),.row 1 0 l.length (l.length+rest.length)],.row 3 (l.length+rest.length) ((l++rest).flatMap X0Z)]) (by kernel_rfl) ?_ ?_ (by kernel_rfl) (by kernel_rfl) ?_
  · exact Nat.le_of_ble_eq_true (by kernel_rfl)
  · exact Nat.le_of_ble_eq_true (by kernel_rfl)
  · exact(by(have hil:i=l.length:=(by omega));subst hil;rw [hns,List.take_length];exact⟨rfl,rfl⟩)
end
end Go.Proofs.YtmmmjbipgngamaaGreatDoor
set_option maxRecDepth 100000
set_option maxHeartbeats 4000000
namespace Go.Proofs.YtmmmjbipgngamaaGreatDoor
open Go.Vai Go.RowKit
noncomputable section
theorem X65 (room n:Int) (hr : -9223372036854775808≤room∧room<9223372036854775808) (hn : -9223372036854775808≤n∧n<9223372036854775808):X4n P ov 4 [.int .i64 room,.int .i64 n] (.bool true):=by
 refine FnD.intro (by kernel_rfl) (fn:=Tryz.f4) (by kernel_rfl) rfl (by kernel_rfl) fun M a0 g0 hg0=>?_
 refine CD.seq ?_
 refine CD.region ?_
 refine OD.runE 1 [0,1] (E':=[(0,.int .i64 room),(1,.int .i64 n)]) (by kernel_rfl) ?_
 refine OD.nil ?_
 refine CD.seq ?_
 refine CD.region ?_
 refine OD.callE (XAe) rfl (by kernel_rfl) (by kernel_rfl) (by kernel_rfl) ?_
 refine OD.runE 1 [0,1,5] (E':=[(0,.int .i64 room),(1,.int .i64 n),(5,.bool true)]) (by kernel_rfl) ?_
 refine OD.nil ?_
 refine CD.seq ?_
 refine CD.seq ?_
 refine CD.region ?_
 refine OD.runE 2 [0,1,12] (E':=[(0,.int .i64 room),(1,.int .i64 n),(12,.bool false)]) (by kernel_rfl) ?_
 refine OD.nil ?_
 refine CD.condF rfl ?_
 refine CD.skip ?_
 refine CD.seq ?_
 refine CD.region ?_
 refine OD.runE 1 [1,13] (E':=[(1,.int .i64 n),(13,.int .i64 room)]) (by kernel_rfl) ?_
 have hlr0:=Int.lt_tmod_of_pos room (b:=50) (by decide)
 have hur0:=Int.tmod_lt_of_pos room (b:=50) (by decide)
 refine OD.remZ (n:=50) rfl rfl (by decide) ?_
 refine OD.runE 1 [1,15] (E':=[(1,.int .i64 n),(15,.int .i64 (X0k .i64 ((room.tmod 50)+50)))]) (by kernel_rfl) ?_
 refine OD.is 15 rfl (wr64 (by omega) (by omega)) ?_
 refine OD.runE 0 [1,15] (E':=[(1,.int .i64 n),(15,.int .i64 ((room.tmod 50)+50))]) (by kernel_rfl) ?_
 obtain⟨r0,hdr0⟩:∃ d,d=(room % 50).toNat:=⟨_,rfl⟩
 have hbr0:r0<50:=by omega
 refine OD.remZ (n:=50) rfl rfl (by decide) ?_
 refine OD.is 16 rfl (congrArg (D.int .i64) ((X7d (z:=room) (n:=50) (by decide)).trans (congrArg Nat.cast hdr0.symm))) ?_
 refine OD.runE 1 [1,17] (E':=[(1,.int .i64 n),(17,.int .i64 (X0k .i64 (1+((r0:Nat):Int))))]) (by kernel_rfl) ?_
 refine OD.is 17 rfl (wrn (m:=1+r0) (by omega) (by omega)) ?_
 refine OD.runE 1 [17,18] (E':=[(17,.int .i64 ((1+r0:Nat):Int)),(18,.int .i64 n)]) (by kernel_rfl) ?_
 have hlmm:=Int.lt_tmod_of_pos n (b:=120) (by decide)
 have humm:=Int.tmod_lt_of_pos n (b:=120) (by decide)
 refine OD.remZ (n:=120) rfl rfl (by decide) ?_
 refine OD.runE 1 [17,20] (E':=[(17,.int .i64 ((1+r0:Nat):Int)),(20,.int .i64 (X0k .i64 ((n.tmod 120)+120)))]) (by kernel_rfl) ?_
 refine OD.is 20 rfl (wr64 (by omega) (by omega)) ?_
 refine OD.runE 0 [17,20] (E':=[(17,.int .i64 ((1+r0:Nat):Int)),(20,.int .i64 ((n.tmod 120)+120))]) (by kernel_rfl) ?_
 obtain⟨mm,hdmm⟩:∃ d,d=(n % 120).toNat:=⟨_,rfl⟩
 have hbmm:mm<120:=by omega
 refine OD.remZ (n:=120) rfl rfl (by decide) ?_
 refine OD.is 21 rfl (congrArg (D.int .i64) ((X7d (z:=n) (n:=120) (by decide)).trans (congrArg Nat.cast hdmm.symm))) ?_
 refine OD.runE 2 [0,1] (E':=[(0,.int .i64 ((1+r0:Nat):Int)),(1,.int .i64 ((mm:Nat):Int))]) (by kernel_rfl) ?_
 refine OD.nil ?_
 refine CD.seq ?_
 refine CD.region ?_
 refine OD.runE 1 [0,1,22] (E':=[(0,.int .i64 ((1+r0:Nat):Int)),(1,.int .i64 ((mm:Nat):Int)),(22,.int .i64 ((1+r0:Nat):Int))]) (by kernel_rfl) ?_
 have hnew:=X7L ((1+r0:Nat):Int)
 rw [show min (max ((1+r0:Nat):Int) 1) 50=((1+r0:Nat):Int)by omega]at hnew
 refine OD.callO [] (ds:=[.int .i64 ((1+r0:Nat):Int)]) (hnew) rfl (by kernel_rfl) (by kernel_rfl) (by kernel_rfl) (by kernel_rfl) (by kernel_rfl) (fun r L1 hr=>?_)
 obtain⟨rfl,rfl⟩:=hr
 refine OD.runE 1 [0,1,6] (E':=[(0,.int .i64 ((1+r0:Nat):Int)),(1,.int .i64 ((mm:Nat):Int)),(6,.loc 0 0)]) (by kernel_rfl) ?_
 refine OD.nil ?_
 refine CD.seq ?_
 refine CD.seq ?_
 refine CD.region ?_
 refine OD.runE 1 [0,1,6,7] (E':=[(0,.int .i64 ((1+r0:Nat):Int)),(1,.int .i64 ((mm:Nat):Int)),(6,.loc 0 0),(7,.int .i64 0)]) (by kernel_rfl) ?_
 refine OD.nil ?_
 refine CD.block ?_
 refine CD.weak [0,1,6,7] 2 (E':=[(0,.int .i64 ((1+r0:Nat):Int)),(1,.int .i64 ((mm:Nat):Int)),(6,.loc 0 0),(7,.int .i64 0)]) (by kernel_rfl) (by simp [hg0]) (by kernel_rfl) ?_
 refine CD.loop (fun m σ=>∃ (i:Nat) (l:List X0y) (rest:List X0y),σ=⟨[(0,.int .i64 ((1+r0:Nat):Int)),(1,.int .i64 ((mm:Nat):Int)),(6,.loc 0 0),(7,.int .i64 ((i:Nat):Int))],[.box [.int .i64 ((1+r0:Nat):Int),.int .i64 ((i:Nat):Int),.row 1 0 l.length (l.length+rest.length)],.row 3 (l.length+rest.length) ((l++rest).flatMap X0Z)]⟩∧(i≤mm)∧(l=stR (1+r0) i)∧(l.length+rest.length≤200)∧m=mm - i) (fun m σ hI=>?_) _ ⟨0,[],[],(by kernel_rfl),Nat.zero_le _,XAo _,by decide,rfl⟩
 obtain⟨i,l,rest,e,hi,hL,hlr,hm⟩:=hI
 subst e hm
 have hll:l.length=min (1+r0) i:=by rw [hL,X2L]
 refine CD.seq ?_
 refine CD.seq ?_
 refine CD.region ?_
 refine OD.runE 3 [0,1,6,7,26] (E':=[(0,.int .i64 ((1+r0:Nat):Int)),(1,.int .i64 ((mm:Nat):Int)),(6,.loc 0 0),(7,.int .i64 ((i:Nat):Int)),(26,.bool (decide ((((i:Nat):Int):Int)<((mm:Nat):Int))))]) (by kernel_rfl) ?_
 refine OD.nil ?_
 refine CD.condP rfl (fun h1=>?_) (fun h1=>?_)
 ·
  refine CD.skip ?_
  refine CD.seq ?_
  refine CD.block ?_
  refine CD.seq ?_
  refine CD.region ?_
  refine OD.runE 1 [0,1,6,7,29] (E':=[(0,.int .i64 ((1+r0:Nat):Int)),(1,.int .i64 ((mm:Nat):Int)),(6,.loc 0 0),(7,.int .i64 ((i:Nat):Int)),(29,.loc 0 0)]) (by kernel_rfl) ?_
  refine OD.callO [0,1] (ds:=[.loc 0 0,.str (⟨#[116]⟩:ByteArray)]) (XCQ ((1+r0:Nat):Int) i l rest (⟨#[116]⟩:ByteArray) tS_ne (by omega) (by omega) (by omega) (by omega) (by rw [hL,X63];omega)) rfl (by kernel_rfl) (by kernel_rfl) (by kernel_rfl) (by kernel_rfl) (by kernel_rfl) (fun r L1 hr=>?_)
  obtain⟨k,l2,r2,hk,he,hz,rfl,rfl⟩:=hr
  have hki:i=k:=(XAk (by rw [hL]at hk;exact hk)).symm
  subst hki
  have hl2:l2=stR (1+r0) (i+1):=XAn (by omega) (by rw [hL]at he;exact he)
  refine OD.runE 1 [0,1,6,7,30,31] (E':=[(0,.int .i64 ((1+r0:Nat):Int)),(1,.int .i64 ((mm:Nat):Int)),(6,.loc 0 0),(7,.int .i64 ((i:Nat):Int)),(30,.str (bn i)),(31,.int .i64 ((i:Nat):Int))]) (by kernel_rfl) ?_
  refine OD.callE (X64 (i) (by omega)) rfl (by kernel_rfl) (by kernel_rfl) (by kernel_rfl) ?_
  refine OD.runE 0 [0,1,6,7,30,32] (E':=[(0,.int .i64 ((1+r0:Nat):Int)),(1,.int .i64 ((mm:Nat):Int)),(6,.loc 0 0),(7,.int .i64 ((i:Nat):Int)),(30,.str (bn i)),(32,.str (X2K (i)))]) (by kernel_rfl) ?_
  refine OD.catS rfl rfl (XAc (by omega)) ?_
  refine OD.runE 0 [0,1,6,7,30,33] (E':=[(0,.int .i64 ((1+r0:Nat):Int)),(1,.int .i64 ((mm:Nat):Int)),(6,.loc 0 0),(7,.int .i64 ((i:Nat):Int)),(30,.str (bn i)),(33,.str ((⟨#[98]⟩:ByteArray)++(X2K (i))))]) (by kernel_rfl) ?_
  refine OD.neS rfl rfl ?_
  refine OD.runE 0 [0,1,6,7,34] (E':=[(0,.int .i64 ((1+r0:Nat):Int)),(1,.int .i64 ((mm:Nat):Int)),(6,.loc 0 0),(7,.int .i64 ((i:Nat):Int)),(34,.bool (decide (¬ (bn i)=((⟨#[98]⟩:ByteArray)++(X2K (i))))))]) (by kernel_rfl) ?_
  refine OD.nil ?_
  refine CD.condP rfl (fun h2=>?_) (fun h2=>?_)
  ·
   refine CD.seq ?_
   refine CD.region ?_
   refine OD.runE 1 [4] (E':=[(4,.bool false)]) (by kernel_rfl) ?_
   refine OD.nil ?_
   refine CD.ret ?_
   exact XAI (by kernel_rfl) (by kernel_rfl) (r:=.bool false) (by exfalso;first | omega | exact h2 rfl | (refine h2 ?_;have hge:i=mm:=(by omega);rw [hL,X4E (by omega),hge];rfl))
  ·
   refine CD.skip ?_
   refine CD.region ?_
   refine OD.runE 2 [0,1,6,28] (E':=[(0,.int .i64 ((1+r0:Nat):Int)),(1,.int .i64 ((mm:Nat):Int)),(6,.loc 0 0),(28,.int .i64 (X0k .i64 (((i:Nat):Int)+1)))]) (by kernel_rfl) ?_
   refine OD.is 28 rfl (wrn (m:=i+1) (by omega) (by omega)) ?_
   refine OD.runE 1 [0,1,6,7] (E':=[(0,.int .i64 ((1+r0:Nat):Int)),(1,.int .i64 ((mm:Nat):Int)),(6,.loc 0 0),(7,.int .i64 ((i+1:Nat):Int))]) (by kernel_rfl) ?_
   refine OD.nil ?_
   exact⟨_,by omega,i+1,l2,r2,(by kernel_rfl),by omega,hl2,by omega,rfl⟩
 ·
  refine CD.exit ?_
  refine CD.seq ?_
  refine CD.region ?_
  refine OD.runE 1 [0,1,35] (E':=[(0,.int .i64 ((1+r0:Nat):Int)),(1,.int .i64 ((mm:Nat):Int)),(35,.loc 0 0)]) (by kernel_rfl) ?_
  refine OD.callO [0,1] (ds:=[.loc 0 0]) (XAp ((1+r0:Nat):Int) i l rest (by omega)) rfl (by kernel_rfl) (by kernel_rfl) (by kernel_rfl) (by kernel_rfl) (by kernel_rfl) (fun r L1 hr=>?_)
  obtain⟨rfl,rfl⟩:=hr
  refine OD.runE 1 [0,1,8] (E':=[(0,.int .i64 ((1+r0:Nat):Int)),(1,.int .i64 ((mm:Nat):Int)),(8,.sl 1 l.length ((l.map Prod.fst).map D.str))]) (by kernel_rfl) ?_
  refine OD.nil ?_
  refine CD.seq ?_
  refine CD.seq ?_
  refine CD.region ?_
  refine OD.runE 5 [1,8,38,41] (E':=[(1,.int .i64 ((mm:Nat):Int)),(8,.sl 1 l.length ((l.map Prod.fst).map D.str)),(38,.int .i64 ((l.length:Nat):Int)),(41,.int .i64 (min (((1+r0:Nat):Int):Int) ((mm:Nat):Int)))]) (by kernel_rfl) ?_
  refine OD.is 41 rfl XC3 ?_
  refine OD.runE 1 [1,8,42] (E':=[(1,.int .i64 ((mm:Nat):Int)),(8,.sl 1 l.length ((l.map Prod.fst).map D.str)),(42,.bool (decide (¬ (((l.length:Nat):Int):Int)=((min (1+r0) mm:Nat):Int))))]) (by kernel_rfl) ?_
  refine OD.nil ?_
  refine CD.condP rfl (fun h3=>?_) (fun h3=>?_)
  ·
   refine CD.seq ?_
   refine CD.region ?_
   refine OD.runE 1 [4] (E':=[(4,.bool false)]) (by kernel_rfl) ?_
   refine OD.nil ?_
   refine CD.ret ?_
   exact XAI (by kernel_rfl) (by kernel_rfl) (r:=.bool false) (by exfalso;first | omega | exact h3 rfl | (refine h3 ?_;have hge:i=mm:=(by omega);rw [hL,X4E (by omega),hge];rfl))
  ·
   refine CD.skip ?_
   refine CD.seq ?_
   refine CD.seq ?_
   refine CD.region ?_
   refine OD.runE 1 [1,8,9] (E':=[(1,.int .i64 ((mm:Nat):Int)),(8,.sl 1 l.length ((l.map Prod.fst).map D.str)),(9,.int .i64 0)]) (by kernel_rfl) ?_
   refine OD.nil ?_
   refine CD.block ?_
   refine CD.weak [1,8,9] 2 (E':=[(1,.int .i64 ((mm:Nat):Int)),(8,.sl 1 l.length ((l.map Prod.fst).map D.str)),(9,.int .i64 0)]) (by kernel_rfl) (by simp [hg0]) (by kernel_rfl) ?_
   refine CD.loop (fun m σ=>∃ (jj:Nat),σ=⟨[(1,.int .i64 ((mm:Nat):Int)),(8,.sl 1 l.length ((l.map Prod.fst).map D.str)),(9,.int .i64 ((jj:Nat):Int))],[.box [.int .i64 ((1+r0:Nat):Int),.int .i64 ((i:Nat):Int),.row 1 0 l.length (l.length+rest.length)],.row 3 (l.length+rest.length) ((l++rest).flatMap X0Z)]⟩∧(jj≤l.length)∧m=l.length - jj) (fun m σ hI=>?_) _ ⟨0,(by kernel_rfl),Nat.zero_le _,rfl⟩
   obtain⟨jj,e,hjj,hm⟩:=hI
   subst e hm
   refine CD.seq ?_
   refine CD.seq ?_
   refine CD.region ?_
   refine OD.runE 4 [1,8,9,46] (E':=[(1,.int .i64 ((mm:Nat):Int)),(8,.sl 1 l.length ((l.map Prod.fst).map D.str)),(9,.int .i64 ((jj:Nat):Int)),(46,.bool (decide ((((jj:Nat):Int):Int)<((l.length:Nat):Int))))]) (by kernel_rfl) ?_
   refine OD.nil ?_
   refine CD.condP rfl (fun h4=>?_) (fun h4=>?_)
   ·
    refine CD.skip ?_
    refine CD.seq ?_
    refine CD.block ?_
    refine CD.seq ?_
    refine CD.drawnT [3] 8 rfl (by omega) (by kernel_rfl) (fun M1 a1 g1 bx1 b0 i0 c0 hsl hc0=>?_)
    refine OD.runE 2 [1,8,9,49,50] (E':=[(1,.int .i64 ((mm:Nat):Int)),(8,X54 b0 i0 l.length c0),(9,.int .i64 ((jj:Nat):Int)),(49,X54 b0 i0 l.length c0),(50,.int .i64 ((jj:Nat):Int))]) (by kernel_rfl) ?_
    refine OD.idxL (e:=1) rfl rfl (by kernel_rfl) (by omega) (by omega) ?_
    refine OD.runE 0 [1,8,9,49,50,51] (E':=[(1,.int .i64 ((mm:Nat):Int)),(8,X54 b0 i0 l.length c0),(9,.int .i64 ((jj:Nat):Int)),(49,X54 b0 i0 l.length c0),(50,.int .i64 ((jj:Nat):Int)),(51,X2G b0 (i0+(jj*1)))]) (by kernel_rfl) ?_
    refine OD.ldSL (o:=jj*1) (d:=.str ((l.map Prod.fst).getD jj ByteArray.empty)) hsl rfl (by kernel_rfl) (XAi (by rw [List.length_map];omega)) ?_
    refine OD.runE 2 [1,8,9,49,50,51,52,54] (E':=[(1,.int .i64 ((mm:Nat):Int)),(8,X54 b0 i0 l.length c0),(9,.int .i64 ((jj:Nat):Int)),(49,X54 b0 i0 l.length c0),(50,.int .i64 ((jj:Nat):Int)),(51,X2G b0 (i0+(jj*1))),(52,.str ((l.map Prod.fst).getD jj ByteArray.empty)),(54,.int .i64 (X0k .i64 (((mm:Nat):Int) - 1)))]) (by kernel_rfl) ?_
    refine OD.is 54 rfl (wrn (m:=mm - 1) (by omega) (by omega)) ?_
    refine OD.runE 2 [1,8,9,49,50,51,52,56] (E':=[(1,.int .i64 ((mm:Nat):Int)),(8,X54 b0 i0 l.length c0),(9,.int .i64 ((jj:Nat):Int)),(49,X54 b0 i0 l.length c0),(50,.int .i64 ((jj:Nat):Int)),(51,X2G b0 (i0+(jj*1))),(52,.str ((l.map Prod.fst).getD jj ByteArray.empty)),(56,.int .i64 (X0k .i64 (((mm - 1:Nat):Int) - ((jj:Nat):Int))))]) (by kernel_rfl) ?_
    refine OD.is 56 rfl (wrn (m:=(mm - 1) - jj) (by omega) (by omega)) ?_
    refine OD.runE 0 [1,8,9,49,50,51,52,56] (E':=[(1,.int .i64 ((mm:Nat):Int)),(8,X54 b0 i0 l.length c0),(9,.int .i64 ((jj:Nat):Int)),(49,X54 b0 i0 l.length c0),(50,.int .i64 ((jj:Nat):Int)),(51,X2G b0 (i0+(jj*1))),(52,.str ((l.map Prod.fst).getD jj ByteArray.empty)),(56,.int .i64 (((mm - 1) - jj:Nat):Int))]) (by kernel_rfl) ?_
    refine OD.callE (X64 (((mm - 1) - jj)) (by omega)) rfl (by kernel_rfl) (by kernel_rfl) (by kernel_rfl) ?_
    refine OD.runE 0 [1,8,9,49,50,51,52,57] (E':=[(1,.int .i64 ((mm:Nat):Int)),(8,X54 b0 i0 l.length c0),(9,.int .i64 ((jj:Nat):Int)),(49,X54 b0 i0 l.length c0),(50,.int .i64 ((jj:Nat):Int)),(51,X2G b0 (i0+(jj*1))),(52,.str ((l.map Prod.fst).getD jj ByteArray.empty)),(57,.str (X2K (((mm - 1) - jj))))]) (by kernel_rfl) ?_
    refine OD.catS rfl rfl (XAc (by omega)) ?_
    refine OD.runE 0 [1,8,9,49,50,51,52,58] (E':=[(1,.int .i64 ((mm:Nat):Int)),(8,X54 b0 i0 l.length c0),(9,.int .i64 ((jj:Nat):Int)),(49,X54 b0 i0 l.length c0),(50,.int .i64 ((jj:Nat):Int)),(51,X2G b0 (i0+(jj*1))),(52,.str ((l.map Prod.fst).getD jj ByteArray.empty)),(58,.str ((⟨#[98]⟩:ByteArray)++(X2K (((mm - 1) - jj)))))]) (by kernel_rfl) ?_
    refine OD.neS rfl rfl ?_
    refine OD.runE 0 [1,8,9,49,50,51,52,59] (E':=[(1,.int .i64 ((mm:Nat):Int)),(8,X54 b0 i0 l.length c0),(9,.int .i64 ((jj:Nat):Int)),(49,X54 b0 i0 l.length c0),(50,.int .i64 ((jj:Nat):Int)),(51,X2G b0 (i0+(jj*1))),(52,.str ((l.map Prod.fst).getD jj ByteArray.empty)),(59,.bool (decide (¬ ((l.map Prod.fst).getD jj ByteArray.empty)=((⟨#[98]⟩:ByteArray)++(X2K (((mm - 1) - jj)))))))]) (by kernel_rfl) ?_
    refine OD.nil ⟨by kernel_rfl,⟨⟨9,51,by kernel_rfl,.inr ⟨jj*1,rfl,.inr ⟨by kernel_rfl,by omega⟩⟩⟩,trivial⟩,rfl,?_⟩
    refine CD.condP rfl (fun h5=>?_) (fun h5=>?_)
    ·
     refine CD.seq ?_
     refine CD.region ?_
     refine OD.runE 1 [4] (E':=[(4,.bool false)]) (by kernel_rfl) ?_
     refine OD.nil ?_
     refine CD.ret ?_
     exact XAI (by kernel_rfl) (by kernel_rfl) (r:=.bool false) (by exfalso;first | omega | exact h5 rfl | (refine h5 ?_;have hge:i=mm:=(by omega);rw [hL,X4E (by omega),hge];rfl))
    ·
     refine CD.skip ?_
     refine CD.region ?_
     refine OD.runE 2 [1,8,48] (E':=[(1,.int .i64 ((mm:Nat):Int)),(8,.sl 1 l.length ((l.map Prod.fst).map D.str)),(48,.int .i64 (X0k .i64 (((jj:Nat):Int)+1)))]) (by kernel_rfl) ?_
     refine OD.is 48 rfl (wrn (m:=jj+1) (by omega) (by omega)) ?_
     refine OD.runE 1 [1,8,9] (E':=[(1,.int .i64 ((mm:Nat):Int)),(8,.sl 1 l.length ((l.map Prod.fst).map D.str)),(9,.int .i64 ((jj+1:Nat):Int))]) (by kernel_rfl) ?_
     refine OD.nil ?_
     exact⟨_,by omega,jj+1,(by kernel_rfl),by omega,rfl⟩
   ·
    refine CD.exit ?_
    refine CD.seq ?_
    refine CD.region ?_
    refine OD.runE 1 [4] (E':=[(4,.bool true)]) (by kernel_rfl) ?_
    refine OD.nil ?_
    refine CD.ret ?_
    exact XAI (by kernel_rfl) (by kernel_rfl) (r:=.bool true) (rfl)
end
end Go.Proofs.YtmmmjbipgngamaaGreatDoor
