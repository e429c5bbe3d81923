/-
  What is proved here: base 10; names in a row; what is there after some pushes. what functions of the stack come to (walks that a program of mine has printed). which names are there after some pushes, where one was set before. No conditions but those that the theorems state.
-/
import Derived.Test.YtmmmjbipgngamaaGreatDoorSKi
import Derived.Test.YtmmmjbipgngamaaGreatDoorRY
set_option linter.unusedVariables false
set_option linter.unusedSimpArgs false
namespace Go.Vai
open Go.RowKit
noncomputable section
theorem XCr {m n:Nat} (h:0<n) (hm:m<9223372036854775808):X70 .quo (.int .i64 (m:Int)) (.int .i64 (n:Int))=some (.int .i64 ((m / n:Nat):Int)):=by
 have e1:Nat.blt 0 n=true:=by simpa using h
 show(match kEq .i64 .i64 with | true=>XBn .quo .i64 (Int.ofNat m) (Int.ofNat n) | false=>none)=_
 have h2:m.div n≤m:=Nat.div_le_self m n
 have h3:X0h .i64 (Int.ofNat (m.div n))=((m.div n:Nat):Int):=Go.Vai.wrap64 (n:=((m.div n:Nat):Int)) (by omega) (by omega)
 simp only [show kEq .i64 .i64=true from rfl,XBn,XDI,e1,h3]
 rfl
theorem X5F {n:Nat} (h:n<10):strOfNums [((48+n:Nat):Int)]=X2l n:=by
 refine Go.WideShapes.bytes_inj ?_
 rw [X1z,strOfNums_data]
 unfold Lib.decDigits
 rw [dif_pos h]
 show[UInt8.ofNat (((48+n:Nat):Int)).toNat]=_
 rw [Int.toNat_natCast]
theorem X84 {n:Nat} (h:¬ n<10):X2l (n / 10)++X2l (n % 10)=X2l n:=by
 refine Go.WideShapes.bytes_inj ?_
 rw [ByteArray.data_append,Array.toList_append,X1z,X1z,X1z]
 conv=>rhs;unfold Lib.decDigits
 rw [dif_neg h]
 congr 1
 unfold Lib.decDigits
 rw [dif_pos (by omega)]
theorem XDu {a b:Nat} (ha:a≤1000000) (hb:b≤1000000):(X2l a).size+(X2l b).size≤1000000000:=by
 have:=X7G ha
 have:=X7G hb
 omega
end
end Go.Vai
set_option maxRecDepth 100000
set_option maxHeartbeats 4000000
namespace Go.Proofs.YtmmmjbipgngamaaGreatDoor
open Go.Vai Go.RowKit
noncomputable section
theorem X9q (n:Nat) (hn:n≤1000000):X2u P ov 19 [.int .i64 ((n:Nat):Int)] (.str (X2l n)):=by
 induction n using Nat.strongRecOn with
 | _ n ih =>
 refine FnD.intro (by kernel_rfl) (fn:=Tryz.f19) (by kernel_rfl) rfl (by kernel_rfl) fun M a0 g0 hg0=>?_
 refine CD.seq ?_
 refine CD.region ?_
 refine OD.runE 1 [0] (E':=[(0,.int .i64 ((n:Nat):Int))]) (by kernel_rfl) ?_
 refine OD.nil ?_
 refine CD.seq ?_
 refine CD.seq ?_
 refine CD.region ?_
 refine OD.runE 2 [0,4] (E':=[(0,.int .i64 ((n:Nat):Int)),(4,.bool (decide ((((n:Nat):Int):Int)<10)))]) (by kernel_rfl) ?_
 refine OD.nil ?_
 refine CD.condP rfl (fun h1=>?_) (fun h1=>?_)
 ·
  refine CD.seq ?_
  refine CD.region ?_
  refine OD.runE 2 [6] (E':=[(6,.int .i64 (X0h .i64 (48+((n:Nat):Int))))]) (by kernel_rfl) ?_
  refine OD.is 6 rfl (wrn (m:=48+n) (by omega) (by omega)) ?_
  refine OD.runE 1 [7] (E':=[(7,.int .u8 (X0h .u8 (((48+n:Nat):Int))))]) (by kernel_rfl) ?_
  refine OD.is 7 rfl (wr8 (by omega) (by omega)) ?_
  refine OD.runE 0 [7] (E':=[(7,.int .u8 ((48+n:Nat):Int))]) (by kernel_rfl) ?_
  refine OD.bsl (e:=1) (cs:=[.int .u8 ((48+n:Nat):Int)]) rfl (by kernel_rfl) ?_
  refine OD.runE 0 [8] (E':=[(8,.sl 1 1 [.int .u8 ((48+n:Nat):Int)])]) (by kernel_rfl) ?_
  refine OD.convBS (xs:=[((48+n:Nat):Int)]) rfl rfl (by decide) (by kernel_rfl) (by kernel_rfl) ?_
  refine OD.runE 1 [2] (E':=[(2,.str (strOfNums [((48+n:Nat):Int)]))]) (by kernel_rfl) ?_
  refine OD.nil ?_
  refine CD.ret ?_
  exact X2v (by kernel_rfl) (by kernel_rfl) (r:=.str (strOfNums [((48+n:Nat):Int)])) (by first | exact congrArg D.str (X5F (by omega)) | exact congrArg D.str (X84 (by omega)))
 ·
  refine CD.skip ?_
  refine CD.seq ?_
  refine CD.region ?_
  refine OD.runE 1 [0,10] (E':=[(0,.int .i64 ((n:Nat):Int)),(10,.int .i64 ((n:Nat):Int))]) (by kernel_rfl) ?_
  refine OD.bit rfl rfl (XCr (m:=n) (n:=10) (by decide) (by omega)) ?_
  refine OD.runE 0 [0,11] (E':=[(0,.int .i64 ((n:Nat):Int)),(11,.int .i64 ((n / 10:Nat):Int))]) (by kernel_rfl) ?_
  refine OD.callE (ih ((n / 10)) (by omega) (by omega)) rfl (by kernel_rfl) (by kernel_rfl) (by kernel_rfl) ?_
  refine OD.runE 2 [12,14] (E':=[(12,.str (X2l ((n / 10)))),(14,.int .i64 ((n % 10:Nat):Int))]) (by kernel_rfl) ?_
  refine OD.callE (ih ((n % 10)) (by omega) (by omega)) rfl (by kernel_rfl) (by kernel_rfl) (by kernel_rfl) ?_
  refine OD.runE 0 [12,15] (E':=[(12,.str (X2l ((n / 10)))),(15,.str (X2l ((n % 10))))]) (by kernel_rfl) ?_
  refine OD.catS rfl rfl (XDu (by omega) (by omega)) ?_
  refine OD.runE 1 [2] (E':=[(2,.str ((X2l ((n / 10)))++(X2l ((n % 10)))))]) (by kernel_rfl) ?_
  refine OD.nil ?_
  refine CD.ret ?_
  exact X2v (by kernel_rfl) (by kernel_rfl) (r:=.str ((X2l ((n / 10)))++(X2l ((n % 10))))) (by first | exact congrArg D.str (X5F (by omega)) | exact congrArg D.str (X84 (by omega)))
end
end Go.Proofs.YtmmmjbipgngamaaGreatDoor
namespace Go.Vai
open Go.RowKit
noncomputable section
def stX (tx:ByteArray) (room n:Nat):List X0g:=(List.range (min room n)).map fun j=>(bn (n - 1 - j),tx,true)
theorem X29 {tx:ByteArray} (room n:Nat):(stX tx room n).length=min room n:=by simp [stX]
theorem X3T {tx:ByteArray} {room n j:Nat} (h:j<min room n):(stX tx room n).getD j e0=(bn (n - 1 - j),tx,true):=by
 unfold stX
 rw [List.getD_eq_getElem?_getD,List.getElem?_map,List.getElem?_range h];rfl
theorem X6I {tx:ByteArray} (room n:Nat):X0O (stX tx room n) true=min room n:=by
 unfold X0O
 rw [List.filter_eq_self.2,X29]
 intro e he
 obtain⟨j,_,rfl⟩:=List.mem_map.1 he
 rfl
theorem XB9 {tx:ByteArray} {room n:Nat}:X0u (stX tx room n) (bn n)<0:=by
 rcases X28 (stX tx room n) (bn n)with h | ⟨i,h1,h2,h3,_⟩
 · exact h
 ·
  rw [X29]at h2
  rw [X3T h2]at h3
  have:=XBl h3
  omega
theorem XBA {tx:ByteArray} {room n k:Nat} (h:X7H (stX tx room n) n k):k=n:=by
 obtain⟨h1,_,h3⟩:=h
 by_cases e:k=n
 · exact e
 · exact absurd XB9 (h3 n (Nat.le_refl _) (by omega))
theorem XBB {tx:ByteArray} (room n:Nat) (hr:n<room):(bn n,tx,true)::stX tx room n=stX tx room (n+1):=by
 unfold stX
 rw [Nat.min_eq_right (by omega),Nat.min_eq_right (by omega),List.range_succ_eq_map,List.map_cons,List.map_map]
 congr 1
 refine List.map_congr_left fun j hj=>?_
 have:=List.mem_range.1 hj
 simp only [Function.comp,Prod.mk.injEq,and_true]
 congr 1;omega
theorem XBC {tx:ByteArray} {room n i:Nat} (h0:0<room) (hr:room≤n) (hi:XB4 ((bn n,tx,true)::stX tx room n) i):((bn n,tx,true)::stX tx room n).eraseIdx i=stX tx room (n+1):=by
 obtain⟨h1,h2,h3⟩:=hi
 have hl:((bn n,tx,true)::stX tx room n).length=room+1:=by rw [List.length_cons,X29,Nat.min_eq_left hr]
 have hi:i=room:=by
  by_cases e:i=room
  · exact e
  ·
   have:=h3 room (by omega) (by omega)
   obtain⟨r,rfl⟩:∃ r,room=r+1:=⟨room - 1,by omega⟩
   have g:((bn n,tx,true)::stX tx (r+1) n).getD (r+1) e0=(stX tx (r+1) n).getD r e0:=rfl
   rw [g,X3T (by omega)]at this
   cases this
 rw [hi]
 refine List.ext_getElem? fun j=>?_
 have eq:∀ j,j<room+1→((bn n,tx,true)::stX tx room n)[j]?=some (bn (n - j),tx,true):=by
  intro j hj
  cases j with
  | zero=>rfl
  | succ j =>
   rw [List.getElem?_cons_succ,X1C (by rw [X29];omega),X3T (by omega)]
   congr 3;omega
 rw [List.getElem?_eraseIdx]
 by_cases hj:j<room
 ·
  rw [if_pos hj,eq j (by omega),X1C (by rw [X29];omega),X3T (by omega)]
  congr 3
 · rw [if_neg hj,List.getElem?_eq_none (by omega),List.getElem?_eq_none (by rw [X29];omega)]
theorem XBD {tx:ByteArray} {room n:Nat} {l2:List X0g} (h0:0<room) (h:EvR ((room:Nat):Int) ((bn n,tx,true)::stX tx room n) l2):l2=stX tx room (n+1):=by
 have ha:X0O ((bn n,tx,true)::stX tx room n) true=min room n+1:=by rw [X1L,if_pos rfl,X6I]
 rcases h with⟨h1,rfl⟩ | ⟨h1,i,hi,rfl⟩
 · rw [ha]at h1;exact XBB room n (by omega)
 · rw [ha]at h1;exact XBC h0 (by omega) hi
theorem X7H.bound {l:List X0g} {n k:Nat} (h:X7H l n k):k≤n+l.length:=by
 obtain⟨h1,_,h3⟩:=h
 have:∀ d,n+d≤k→XB3 l (n+d)+d≤XB3 l n:=by
  intro d
  induction d with
  | zero=>intro _;simp
  | succ d ih =>
   intro hd
   have:=ih (by omega)
   have:=X9l (h3 (n+d) (by omega) (by omega))
   rw [show n+(d+1)=n+d+1 by omega]
   omega
 have:=this (k - n) (by omega)
 have:=X9j l n
 omega
def InvA (x y:ByteArray) (l:List X0g):Prop:=∃ A:List X0g,l=A++[(x,y,false)]∧(∀ e∈A,e.2.2=true∧¬ e.1=x)∧A.length≤2
theorem X8c (A B:List X0g) (b:Bool):X0O (A++B) b=X0O A b+X0O B b:=by
 unfold X0O;rw [List.filter_append,List.length_append]
theorem X8d {A:List X0g} (h:∀ e∈A,e.2.2=true):X0O A true=A.length:=by
 unfold X0O
 rw [List.filter_eq_self.2]
 intro e he;exact decide_eq_true (h e he)
theorem X5G {x y:ByteArray} {A:List X0g} (h:∀ e∈A,e.2.2=true∧¬ e.1=x):X0O (A++[(x,y,false)]) true=A.length:=by
 rw [X8c,X8d fun e he=>(h e he).1];rfl
theorem X6J {x y:ByteArray} {A:List X0g} (h:∀ e∈A,e.2.2=true∧¬ e.1=x):X0u (A++[(x,y,false)]) x=((A.length:Nat):Int):=by
 refine X6F (by simp) (fun j hj e=>?_) ?_
 ·
  rw [X9m hj]at e
  exact(h _ (List.mem_of_getElem? (X1C hj))).2 e
 · rw [List.getD_eq_getElem?_getD,List.getElem?_append_right (Nat.le_refl _),Nat.sub_self];rfl
theorem X85 {x y:ByteArray} {l:List X0g} (h:InvA x y l):X15 l x=(y,true):=by
 obtain⟨A,rfl,h1,_⟩:=h
 unfold X15
 rw [X6J h1,if_neg (by omega),Int.toNat_natCast,List.getD_eq_getElem?_getD,List.getElem?_append_right (Nat.le_refl _),Nat.sub_self];rfl
theorem X9r {x y tx:ByteArray} {l l2:List X0g} {n k:Nat} (h:InvA x y l) (hn:X7H l n k) (he:EvR 2 ((bn k,tx,true)::l) l2):InvA x y l2:=by
 obtain⟨A,rfl,h1,h2⟩:=h
 have hx:¬ bn k=x:=fun e=>by
  have:=hn.2.1
  rw [e,X6J h1]at this
  omega
 have h3:∀ e∈(bn k,tx,true)::A,e.2.2=true∧¬ e.1=x:=fun e he=>by
  rcases List.mem_cons.1 he with rfl | he
  · exact⟨rfl,hx⟩
  · exact h1 e he
 have ha:X0O ((bn k,tx,true)::(A++[(x,y,false)])) true=A.length+1:=by rw [X1L,if_pos rfl,X5G h1]
 rcases he with⟨h4,rfl⟩ | ⟨h4,i,hi,rfl⟩
 ·
  rw [ha]at h4
  exact⟨(bn k,tx,true)::A,rfl,h3,by rw [List.length_cons];omega⟩
 ·
  rw [ha]at h4
  have hl:i<((bn k,tx,true)::A).length:=by
   obtain⟨g1,g2,_⟩:=hi
   rcases Nat.lt_or_ge i ((bn k,tx,true)::A).length with h | h
   · exact h
   ·
    have e:(bn k,tx,true)::(A++[(x,y,false)])=((bn k,tx,true)::A)++[(x,y,false)]:=rfl
    rw [e]at g1 g2
    have hi':i=((bn k,tx,true)::A).length:=by rw [List.length_append]at g1;simp only [List.length_cons,List.length_nil]at g1 h ⊢;omega
    rw [hi',List.getD_eq_getElem?_getD,List.getElem?_append_right (Nat.le_refl _),Nat.sub_self]at g2
    cases g2
  refine⟨((bn k,tx,true)::A).eraseIdx i,?_,fun e he=>h3 e (List.mem_of_mem_eraseIdx he),by rw [List.length_eraseIdx_of_lt hl,List.length_cons];omega⟩
  have e:(bn k,tx,true)::(A++[(x,y,false)])=((bn k,tx,true)::A)++[(x,y,false)]:=rfl
  rw [e,List.eraseIdx_append_of_lt_length hl]
def StN (x y tx:ByteArray) (ok:Bool) (i:Nat) (l:List X0g) (nx:Nat):Prop:=(ok=true∧InvA x y l∧nx≤4*i)∨(ok=false∧l=stX tx 2 i∧nx=i)
theorem StN.init1 {x y tx:ByteArray}:StN x y tx true 0 [(x,y,false)] 0:=.inl ⟨rfl,⟨[],rfl,(fun e he=>by cases he),by simp⟩,by omega⟩
theorem StN.init0 {x y tx:ByteArray}:StN x y tx false 0 [] 0:=.inr ⟨rfl,by unfold stX;rfl,rfl⟩
theorem StN.len {x y tx:ByteArray} {ok:Bool} {i nx:Nat} {l:List X0g} (h:StN x y tx ok i l nx):l.length≤3∧nx≤4*i∧X0O l true≤2:=by
 rcases h with⟨_,⟨A,rfl,h1,h2⟩,h3⟩ | ⟨_,rfl,rfl⟩
 · rw [X5G h1,List.length_append];simp only [List.length_cons,List.length_nil];omega
 · rw [X6I,X29];omega
theorem StN.push {x y tx:ByteArray} {ok:Bool} {i nx k:Nat} {l l2:List X0g} (h:StN x y tx ok i l nx) (hn:X7H l nx k) (he:EvR 2 ((bn k,tx,true)::l) l2):StN x y tx ok (i+1) l2 (k+1):=by
 rcases h with⟨h0,h1,h3⟩ | ⟨h0,rfl,rfl⟩
 ·
  have:=hn.bound
  have hl:=(StN.len (tx:=tx) (i:=i) (.inl ⟨h0,h1,h3⟩)).1
  exact .inl ⟨h0,X9r h1 hn he,by omega⟩
 ·
  have hk:=XBA hn
  subst hk
  exact .inr ⟨h0,XBD (by omega) he,rfl⟩
theorem XBE {x tx:ByteArray} {n:Nat}:(X15 (stX tx 2 n) x).2=true↔∃ j,j<n∧x=bn j∧n≤j+2:=by
 unfold X15
 rcases X28 (stX tx 2 n) x with h | ⟨i,h1,h2,h3,_⟩
 ·
  rw [if_pos h]
  refine⟨(fun e=>by cases e),fun⟨j,a,b,c⟩=>?_⟩
  exfalso
  have hj:n - 1 - j<min 2 n:=by omega
  have hh:X0u (stX tx 2 n) x<0:=h
  unfold X0u at hh
  split at hh
  · omega
  ·
   rename_i hnone
   rw [List.findIdx?_eq_none_iff]at hnone
   have hm:=List.mem_of_getElem? (X1C (l:=stX tx 2 n) (i:=n - 1 - j) (by rw [X29];exact hj))
   have:=hnone _ hm
   rw [X3T hj]at this
   have e:n - 1 - (n - 1 - j)=j:=by omega
   rw [e]at this
   simp [b]at this
 ·
  rw [if_neg (by omega)]
  refine⟨fun _=>?_,fun _=>rfl⟩
  rw [X29]at h2
  rw [X3T h2]at h3
  exact⟨n - 1 - i,by omega,h3.symm,by omega⟩
end
end Go.Vai
