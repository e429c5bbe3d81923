/-
  What is proved here: what is known of a plain heap's blocks, as functions: reads, writes, new blocks and blocks that go o the operations of the plain interpreter, told of what is known of a heap (part QB). No conditions but those that the theorems state.
-/
import Derived.Test.YtmmmjbipgngamaaGreatDoorVO
set_option linter.unusedVariables false
set_option linter.unusedSimpArgs false
namespace Go.Vai
noncomputable section
structure AB where
 l:List Value
 k:Nat
 t:Bool
 e:Nat
structure AH where
 blk:Nat→Option AB
 itr:Nat→Option (ByteArray×Nat)
 next:Nat
structure X4A (h:Heap) (b:Nat) (B:AB):Prop where
 lt:b<h.next
 klt:B.k<h.next
 ex:∃ D C,h.blks.get b=some D∧h.cls.get B.k=some C∧D.cls=B.k∧D.size=B.l.length∧D.esz=B.e∧D.ro=false∧C.minv≤b∧(B.t=true→C.top=b)∧C.top<h.next∧∀ i,i<B.l.length→D.cells.get i=B.l[i]?
def wfH (h:Heap):Prop:=∀ b,h.next≤b→h.blks.get b=none∧h.cls.get b=none
structure Ab (h:Heap) (a:AH):Prop where
 wf:wfH h
 next:a.next=h.next
 blk:∀ b B,a.blk b=some B→X4A h b B
 itr:∀ b x,a.itr b=some x→h.objs.get b=some (.iter x.1 x.2)∧b<h.next
def AH.rd (a:AH) (b i:Nat):Option Value:=match a.blk b with
 | some B=>B.l[i]?
 | none=>none
def AH.rdL (a:AH) (b i n:Nat):Option (List Value):=match a.blk b with
 | some B=>if i+n≤B.l.length then some ((B.l.drop i).take n)else none
 | none=>none
def X14 (f:Nat→Option AB) (b:Nat) (B:AB) (X:Option Bool):Nat→Option AB:=fun x =>
 if x=b then some B else match f x with
  | some Y=>if Y.k=B.k then(match X with | some t=>some { Y with t:=t && Y.t } | none=>none)else some Y
  | none=>none
def over (l:List Value) (i:Nat) (vs:List Value):List Value:=l.take i++vs++l.drop (i+vs.length)
def AH.wrL (a:AH) (b i:Nat) (vs:List Value):Option AH:=match a.blk b with
 | some B=>if B.t=true∧i+vs.length≤B.l.length then some { a with blk:=X14 a.blk b { B with l:=over B.l i vs } none } else none
 | none=>none
def AH.new (a:AH) (l:List Value) (e:Nat):AH:={ blk:=fun x=>if x=a.next then some ⟨l,a.next,true,e⟩else a.blk x,itr:=a.itr,next:=a.next+1 }
def AH.grow (a:AH) (B:AB) (keep:Bool) (l:List Value) (e:Nat):AH :=
 { blk:=X14 a.blk a.next ⟨l,B.k,true,e⟩ (if keep then some false else none),itr:=a.itr,next:=a.next+1 }
theorem X4A.rd {h:Heap} {b:Nat} {B:AB} (H:X4A h b B) {i:Nat} (hi:i<B.l.length):h.rd b i=B.l[i]?:=by
 obtain⟨D,C,h1,h2,h3,h4,h5,h6,h7,h8,h9,h10⟩:=H.ex
 have e1:Nat.ble C.minv b=true:=by simpa using h7
 have e2:Nat.blt i D.size=true:=by simp [h4,hi]
 unfold Heap.rd
 rw [h1];simp only [h3,h2,e1,e2,Bool.and_self]
 exact h10 i hi
theorem rd_ok {h:Heap} {a:AH} (A:Ab h a) {b i:Nat} {v:Value} (e:a.rd b i=some v):h.rd b i=some v:=by
 unfold AH.rd at e
 split at e
 case h_2=>cases e
 rename_i B hB
 have hi:i<B.l.length:=by
  rcases Nat.lt_or_ge i B.l.length with h | h
  · exact h
  · rw [List.getElem?_eq_none h]at e;cases e
 rw [(A.blk b B hB).rd hi,e]
theorem X4A.rdL {h:Heap} {b:Nat} {B:AB} (H:X4A h b B):∀ (n i:Nat),i+n≤B.l.length→h.rdL b i n=some ((B.l.drop i).take n):=by
 intro n
 induction n with
 | zero=>intro i _;simp [Heap.rdL]
 | succ n ih =>
  intro i hi
  have hl:i<B.l.length:=by omega
  rw [Heap.rdL,H.rd hl,List.getElem?_eq_getElem hl]
  simp only
  rw [ih (i+1) (by omega)]
  simp only [Option.some.injEq]
  rw [List.drop_eq_getElem_cons hl,List.take_succ_cons]
theorem X6D {h:Heap} {a:AH} (A:Ab h a) {b i n:Nat} {l:List Value} (e:a.rdL b i n=some l):h.rdL b i n=some l:=by
 unfold AH.rdL at e
 split at e
 case h_2=>cases e
 rename_i B hB
 split at e
 case isFalse=>cases e
 rename_i hi
 rw [(A.blk b B hB).rdL n i hi,e]
theorem wr1 {h:Heap} {b:Nat} {B:AB} (H:X4A h b B) (ht:B.t=true) {i:Nat} (hi:i<B.l.length) (v:Value) :
  ∃ h',h.wr b i v=some h'∧X4A h' b { B with l:=B.l.set i v }∧(∀ x X,X4A h x X→X.k≠B.k→X4A h' x X)∧h'.next=h.next∧h'.objs=h.objs∧(wfH h→wfH h'):=by
 obtain⟨D,C,h1,h2,h3,h4,h5,h6,h7,h8,h9,h10⟩:=H.ex
 have htop:=h8 ht
 have c1:Nat.beq b C.top=true:=by rw [htop];exact Nat.beq_refl b
 have c2:Nat.ble C.minv b=true:=by simpa using h7
 have c3:Nat.blt i D.size=true:=by simp [h4,hi]
 have c4:Nat.ble 0 i=true:=by simp
 have key:h.wr b i v=some { blks:=h.blks.put b { D with cells:=D.cells.put i v },next:=h.next,cls:=h.cls.put B.k { C with minv:=b },objs:=h.objs }:=by
  unfold Heap.wr
  rw [h1];simp only [h3,h2,c1,c2,c3,c4,h6,Bool.and_self,Bool.not_false]
 refine⟨_,key,?_,?_,rfl,rfl,fun w x hx=>?_⟩
 case refine_3 =>
  have hx:h.next≤x:=hx
  have:=H.lt;have:=H.klt
  exact⟨(Tr.get_put_other (by omega)).trans (w x hx).1,(Tr.get_put_other (by omega)).trans (w x hx).2⟩
 ·
  refine⟨H.lt,H.klt,_,_,Tr.get_put_same (Nat.zero_le _),Tr.get_put_same (Nat.zero_le _),h3,by simpa using h4,h5,h6,Nat.le_refl _,fun _=>htop,h9,?_⟩
  intro j hj
  have hj':j<B.l.length:=by simpa using hj
  show(D.cells.put i v).get j=(B.l.set i v)[j]?
  by_cases e:j=i
  ·
   subst e
   rw [Tr.get_put_same (Nat.zero_le _),List.getElem?_set_self hi]
  · rw [Tr.get_put_other e,h10 j hj',List.getElem?_set_ne (fun q=>e q.symm)]
 ·
  intro x X K hk
  obtain⟨D',C',k1,k2,k3,k4,k5,k6,k7,k8,k9,k10⟩:=K.ex
  have hx:x≠b:=by
   rintro rfl
   rw [h1]at k1;cases k1
   exact hk (k3.symm.trans h3)
  exact⟨K.lt,K.klt,D',C',(Tr.get_put_other hx).trans k1,(Tr.get_put_other hk).trans k2,k3,k4,k5,k6,k7,k8,k9,k10⟩
theorem XCz (l:List Value) (i:Nat):over l i []=l:=by simp [over]
theorem XBB (l:List Value) (i:Nat) (v:Value) (vs:List Value) (h:i<l.length):over (l.set i v) (i+1) vs=over l i (v::vs):=by
 have e1:(l.set i v).take (i+1)=l.take i++[v]:=by
  rw [List.take_add_one,List.take_set_of_le (Nat.le_refl i),List.getElem?_set_self h];rfl
 have e2:(l.set i v).drop (i+1+vs.length)=l.drop (i+(vs.length+1)):=by
  rw [List.drop_set_of_lt (by omega),show i+1+vs.length=i+(vs.length+1)from by omega]
 unfold over
 rw [e1,e2]
 simp
theorem X55 (l:List Value) (i:Nat) (vs:List Value) (h:i+vs.length≤l.length):(over l i vs).length=l.length:=by
 simp [over];omega
theorem wrLB {b:Nat}:∀ (vs:List Value) (h:Heap) (B:AB) (i:Nat),X4A h b B→B.t=true→i+vs.length≤B.l.length →
  ∃ h',h.wrL b i vs=some h'∧X4A h' b { B with l:=over B.l i vs }∧(∀ x X,X4A h x X→X.k≠B.k→X4A h' x X)∧h'.next=h.next∧h'.objs=h.objs∧(wfH h→wfH h'):=by
 intro vs
 induction vs with
 | nil =>
  intro h B i H ht hi
  exact⟨h,rfl,by rw [XCz];exact H,fun _ _ k _=>k,rfl,rfl,id⟩
 | cons v vs ih =>
  intro h B i H ht hi
  simp only [List.length_cons]at hi
  obtain⟨h1,p1,p2,p3,p4,p5,p6⟩:=wr1 H ht (i:=i) (by omega) v
  obtain⟨h2,q1,q2,q3,q4,q5,q6⟩:=ih h1 _ (i+1) p2 ht (by simp;omega)
  refine⟨h2,by rw [Heap.wrL,p1];exact q1,?_,fun x X K hk=>q3 x X (p3 x X K hk) hk,q4.trans p4,q5.trans p5,fun w=>q6 (p6 w)⟩
  have:=XBB B.l i v vs (by omega)
  rw [← this];exact q2
theorem X56 {f:Nat→Option AB} {b:Nat} {B:AB} {x:Nat} {Y:AB} (e:X14 f b B none x=some Y):(x=b∧Y=B)∨(x≠b∧f x=some Y∧Y.k≠B.k):=by
 unfold X14 at e
 split at e
 · rename_i hx;cases e;exact .inl ⟨hx,rfl⟩
 ·
  rename_i hx
  split at e
  ·
   rename_i Z hZ
   split at e
   · cases e
   · rename_i hk;cases e;exact .inr ⟨hx,hZ,hk⟩
  · cases e
theorem X9R {h:Heap} {a a':AH} (A:Ab h a) {b i:Nat} {vs:List Value} (e:a.wrL b i vs=some a'):∃ h',h.wrL b i vs=some h'∧Ab h' a':=by
 unfold AH.wrL at e
 split at e
 case h_2=>cases e
 rename_i B hB
 split at e
 case isFalse=>cases e
 rename_i hc
 cases e
 obtain⟨h',p1,p2,p3,p4,p5,p6⟩:=wrLB vs h B i (A.blk b B hB) hc.1 hc.2
 refine⟨h',p1,p6 A.wf,A.next.trans p4.symm,?_,fun x y hy=>by rw [p5,p4];exact A.itr x y hy⟩
 intro x X hX
 rcases X56 hX with⟨rfl,rfl⟩ | ⟨_,h2,h3⟩
 · exact p2
 · exact p3 x X (A.blk x X h2) h3
theorem X9S {h:Heap} {a:AH} (A:Ab h a) (l:List Value) (e:Nat):∃ h',h.new (X2z 0 .leaf l) l.length e=some (a.next,h')∧Ab h' (a.new l e):=by
 have key:h.new (X2z 0 .leaf l) l.length e=some (h.next,{ blks:=h.blks.put h.next ⟨X2z 0 .leaf l,l.length,e,h.next,false⟩,next:=h.next+1,cls:=h.cls.put h.next ⟨h.next,h.next⟩,objs:=h.objs }):=by
  unfold Heap.new;rw [show Nat.ble 0 h.next=true by simp]
 refine⟨_,by rw [A.next];exact key,fun x hx=>?_,?_,?_,?_⟩
 ·
  have hx:h.next+1≤x:=hx
  exact⟨(Tr.get_put_other (by omega)).trans (A.wf x (by omega)).1,(Tr.get_put_other (by omega)).trans (A.wf x (by omega)).2⟩
 · show a.next+1=h.next+1;rw [A.next]
 ·
  intro b B hB
  simp only [AH.new]at hB
  split at hB
  ·
   rename_i hb
   cases hB
   subst hb
   rw [A.next]
   refine⟨Nat.lt_succ_self _,Nat.lt_succ_self _,_,_,Tr.get_put_same (Nat.zero_le _),Tr.get_put_same (Nat.zero_le _),rfl,rfl,rfl,rfl,Nat.le_refl _,fun _=>rfl,Nat.lt_succ_self _,?_⟩
   intro i hi
   show(X2z 0 .leaf l).get i=l[i]?
   rw [X2I l 0 .leaf i (Nat.zero_le _),if_pos ⟨Nat.zero_le _,by simpa using hi⟩,Nat.sub_zero]
  ·
   rename_i hb
   have K:=A.blk b B hB
   obtain⟨D,C,k1,k2,k3,k4,k5,k6,k7,k8,k9,k10⟩:=K.ex
   have:=K.lt;have:=K.klt
   exact⟨Nat.lt_succ_of_lt K.lt,Nat.lt_succ_of_lt K.klt,D,C,(Tr.get_put_other (by omega)).trans k1,(Tr.get_put_other (by omega)).trans k2,k3,k4,k5,k6,k7,k8,Nat.lt_succ_of_lt k9,k10⟩
 ·
  intro b x hx
  obtain⟨q1,q2⟩:=A.itr b x hx
  exact⟨q1,Nat.lt_succ_of_lt q2⟩
theorem XEw {h:Heap} {a:AH} (A:Ab h a) {b:Nat} {B:AB} (hB:a.blk b=some B) (atEnd:Bool) (l:List Value) (e:Nat) :
  ∃ h',h.grow b atEnd (X2z 0 .leaf l) l.length e=some (a.next,h')∧Ab h' (a.grow B (atEnd && B.t) l e):=by
 have K:=A.blk b B hB
 obtain⟨D,C,k1,k2,k3,k4,k5,k6,k7,k8,k9,k10⟩:=K.ex
 have hb:=K.lt
 have hk:=K.klt
 have key:h.grow b atEnd (X2z 0 .leaf l) l.length e=some (h.next,{ blks:=h.blks.put h.next ⟨X2z 0 .leaf l,l.length,e,B.k,false⟩,next:=h.next+1,cls:=h.cls.put B.k ⟨h.next,match atEnd && Nat.beq b C.top with | true=>C.minv | false=>h.next⟩,objs:=h.objs }):=by
  unfold Heap.grow;rw [k1];have c0:Nat.ble 0 h.next=true:=by simp
  simp only [k3,k2,k6,c0,Bool.not_false,Bool.and_true]
  rfl
 refine⟨_,by rw [A.next];exact key,fun x hx=>?_,?_,?_,?_⟩
 ·
  have hx:h.next+1≤x:=hx
  exact⟨(Tr.get_put_other (by omega)).trans (A.wf x (by omega)).1,(Tr.get_put_other (by omega)).trans (A.wf x (by omega)).2⟩
 · show a.next+1=h.next+1;rw [A.next]
 ·
  intro x X hX
  simp only [AH.grow,X14]at hX
  split at hX
  ·
   rename_i hx
   cases hX
   subst hx
   rw [A.next]
   refine⟨Nat.lt_succ_self _,Nat.lt_succ_of_lt hk,_,_,Tr.get_put_same (Nat.zero_le _),Tr.get_put_same (Nat.zero_le _),rfl,rfl,rfl,rfl,?_,fun _=>rfl,Nat.lt_succ_self _,?_⟩
   ·
    simp only
    split
    · exact Nat.le_of_lt (Nat.lt_of_le_of_lt k7 hb)
    · exact Nat.le_refl _
   ·
    intro i hi
    show(X2z 0 .leaf l).get i=l[i]?
    rw [X2I l 0 .leaf i (Nat.zero_le _),if_pos ⟨Nat.zero_le _,by simpa using hi⟩,Nat.sub_zero]
  ·
   rename_i hx
   split at hX
   case h_2=>cases hX
   rename_i Y hY
   have KY:=A.blk x Y hY
   obtain⟨D',C',q1,q2,q3,q4,q5,q6,q7,q8,q9,q10⟩:=KY.ex
   have:=KY.lt;have:=KY.klt
   split at hX
   ·
    rename_i hkk
    split at hX
    case h_2=>cases hX
    rename_i t ht
    split at ht
    case isFalse=>cases ht
    rename_i hkeep
    cases ht
    cases hX
    simp only [Bool.and_eq_true]at hkeep
    have htop:=k8 hkeep.2
    have cc:C'=C:=by
     have hh:Y.k=B.k:=hkk
     rw [hh,k2]at q2;exact(Option.some.inj q2).symm
    subst cc
    refine⟨Nat.lt_succ_of_lt KY.lt,Nat.lt_succ_of_lt KY.klt,D',⟨h.next,C'.minv⟩,(Tr.get_put_other (by omega)).trans q1,?_,q3,q4,q5,q6,?_,?_,Nat.lt_succ_self _,q10⟩
    ·
     show(h.cls.put B.k _).get Y.k=_
     have hh:Y.k=B.k:=hkk
     rw [hh,Tr.get_put_same (Nat.zero_le _)]
     have:Nat.beq b C'.top=true:=by rw [htop];exact Nat.beq_refl b
     rw [hkeep.1,this];rfl
    · exact q7
    · intro hf;simp at hf
   ·
    rename_i hkk
    have hkk:¬ Y.k=B.k:=hkk
    cases hX
    exact⟨Nat.lt_succ_of_lt KY.lt,Nat.lt_succ_of_lt KY.klt,D',C',(Tr.get_put_other (by omega)).trans q1,(Tr.get_put_other hkk).trans q2,q3,q4,q5,q6,q7,q8,Nat.lt_succ_of_lt q9,q10⟩
 ·
  intro b x hx
  obtain⟨q1,q2⟩:=A.itr b x hx
  exact⟨q1,Nat.lt_succ_of_lt q2⟩
end
end Go.Vai
namespace Go.Vai
noncomputable section
def Sim (r:Option (Value×Heap)) (z:Option (Value×AH)):Prop:=∀ v a',z=some (v,a')→∃ h',r=some (v,h')∧Ab h' a'
theorem Sim.none (r:Option (Value×Heap)):Sim r none:=fun _ _ e=>by cases e
def XBC (a:AH) (l:List Value) (e n c:Nat):Option (Value×AH):=some (.slice (some ⟨a.next,0,none⟩) n c,a.new l e)
theorem X6j {h:Heap} {a:AH} (A:Ab h a) {l:List Value} {e n c m:Nat} (hm:l.length=m):Sim (X0n n c (h.new (X2z 0 .leaf l) m e)) (XBC a l e n c):=by
 intro v a' hz
 cases hz
 subst hm
 obtain⟨h',h1,h2⟩:=X9S A l e
 exact⟨h',by rw [h1];rfl,h2⟩
def XGH (a:AH) (v:Value):Option (Value×AH):=match X1x v with
 | some l=>some (.pointer (some ⟨a.next,0,none⟩),a.new l 0)
 | none=>none
theorem XBD {h:Heap} {a:AH} (A:Ab h a) (v:Value):Sim (XEf h v) (XGH a v):=by
 intro u a' hz
 unfold XGH at hz
 split at hz
 case h_2=>cases hz
 rename_i l hl
 cases hz
 obtain⟨h',h1,h2⟩:=X9S A l 0
 refine⟨h',?_,h2⟩
 unfold XEf
 rw [hl]
 simp only [X3m,Nat.ble]
 have:Nat.ble 0 l.length=true:=by simp
 simp only [this,h1];rfl
def X9T (P:Program) (a:AH) (t:TypeId):Option (Value×AH):=match X1o P t with
 | some z=>XGH a z
 | none=>none
theorem XBE {P:Program} {h:Heap} {a:AH} (A:Ab h a) (t:TypeId):Sim (X6T P h t) (X9T P a t):=by
 unfold X6T X9T
 cases X1o P t with
 | none=>exact .none _
 | some z=>exact XBD A z
def X2A (P:Program) (a:AH) (t:TypeId) (len:Nat) (parts:List (Nat×Value)):Option (Value×AH) :=
 match P.underlying t with
 | some (.slice elem)=>match sz P elem,X1o P elem with
  | some size,some z =>
   match Nat.ble (len*size) 16777216 && Nat.beq z.cells.size size && Nat.blt 0 size with
   | true=>match X3l (fun i=>some (i*size,size)) (X02 z.cells (len*size)) parts with
    | some l=>match Nat.beq l.length (len*size)with
     | true=>XBC a l size len len
     | false=>none
    | none=>none
   | false=>none
  | _,_=>none
 | _=>none
theorem X5y {P:Program} {h:Heap} {a:AH} (A:Ab h a) (t:TypeId) (len:Nat) (parts:List (Nat×Value)):Sim (X1D P h t len parts) (X2A P a t len parts):=by
 intro v a' hz
 unfold X2A at hz
 unfold X1D
 split at hz
 case h_2=>cases hz
 rename_i elem hu
 rw [hu];simp only
 split at hz
 case h_2=>cases hz
 rename_i size z hs hz0
 rw [hs,hz0];simp only
 split at hz
 case h_2=>cases hz
 rename_i hc
 rw [hc];simp only
 split at hz
 case h_2=>cases hz
 rename_i l hl
 rw [hl];simp only
 split at hz
 case h_2=>cases hz
 rename_i hb
 exact X6j A (Nat.eq_of_beq_eq_true hb) v a' hz
def X3M (P:Program) (a:AH) (t:TypeId) (len cap:Value):Option (Value×AH) :=
 match P.underlying t with
 | some (.slice elem)=>match sz P elem,X1o P elem,P.info? elem with
  | some size,some z,some i=>match len,cap with
   | .int _ l,.int _ c =>
    match decide (0≤l) && decide (l≤c) && decide (c*i.bytes≤281474976710656) && Nat.ble (c.toNat*size) 100000000 && Nat.beq z.cells.size size && Nat.blt 0 size && decide (c≤1000000000)with
    | true=>XBC a (X02 z.cells (c.toNat*size)) size l.toNat c.toNat
    | false=>none
   | _,_=>none
  | _,_,_=>none
 | _=>none
theorem X0u (z:Array Value) (n:Nat):(X02 z n).length=n:=by simp [X02]
theorem X6k {P:Program} {h:Heap} {a:AH} (A:Ab h a) (t:TypeId) (len cap:Value):Sim (X1U P h t len cap) (X3M P a t len cap):=by
 intro v a' hz
 unfold X3M at hz
 unfold X1U
 split at hz
 case h_2=>cases hz
 rename_i elem hu
 rw [hu];simp only
 split at hz
 case h_2=>cases hz
 rename_i size z i hs hz0 hi
 rw [hs,hz0,hi];simp only
 split at hz
 case h_2=>cases hz
 rename_i l c
 simp only
 split at hz
 case h_2=>cases hz
 rename_i hc
 rw [hc];simp only
 exact X6j A (X0u ..) v a' hz
def X3t (P:Program) (a:AH) (t:TypeId) (p:Value):Option Value :=
 match p with
 | .pointer (some ⟨b,i,none⟩)=>match X2u P t with
  | some true=>match sz P t with
   | some n=>match a.rdL b i n with
    | some l=>some (.agg l.toArray)
    | none=>none
   | none=>none
  | some false=>a.rd b i
  | none=>none
 | _=>none
theorem X4o {P:Program} {h:Heap} {a:AH} (A:Ab h a) {t:TypeId} {p v:Value} (e:X3t P a t p=some v):X44 P h t p=some v:=by
 unfold X3t at e
 unfold X44
 split at e
 case h_2=>cases e
 rename_i b i
 simp only
 split at e
 ·
  rename_i ha
  rw [ha];simp only
  split at e
  case h_2=>cases e
  rename_i n hn
  rw [hn];simp only
  split at e
  case h_2=>cases e
  rename_i l hl
  rw [X6D A hl];exact e
 ·
  rename_i ha
  rw [ha];exact rd_ok A e
 · cases e
def X7T (P:Program) (a:AH) (t:TypeId) (p x:Value):Option AH :=
 match p with
 | .pointer (some ⟨b,i,none⟩)=>match X1x x,sz P t with
  | some l,some n=>match Nat.beq l.length n with
   | true=>a.wrL b i l
   | false=>none
  | _,_=>none
 | _=>none
theorem XBF {P:Program} {h:Heap} {a a':AH} (A:Ab h a) {t:TypeId} {p x:Value} (e:X7T P a t p x=some a'):∃ h',X7z P h t p x=some h'∧Ab h' a':=by
 unfold X7T at e
 unfold X7z
 split at e
 case h_2=>cases e
 rename_i b i
 simp only
 split at e
 case h_2=>cases e
 rename_i l n hl hn
 rw [hl,hn];simp only
 split at e
 case h_2=>cases e
 rename_i hb
 rw [hb];simp only
 exact X9R A e
def X2B (a:AH) (e:Nat):Value→Option (Nat×List Value)
 | .slice (some ⟨b,i,none⟩) n _=>match a.rdL b i (n*e)with
  | some l=>some (n,l)
  | none=>none
 | .slice none 0 0=>some (0,[])
 | .string s=>some (s.size,X3F s)
 | _=>none
theorem XAL {h:Heap} {a:AH} (A:Ab h a) {e:Nat} {x:Value} {r:Nat×List Value} (hx:X2B a e x=some r):X5c h e x=some r:=by
 unfold X2B at hx
 unfold X5c
 split at hx
 ·
  rename_i b i n c
  simp only
  split at hx
  case h_2=>cases hx
  rename_i l hl
  rw [X6D A hl];exact hx
 · exact hx
 · exact hx
 · cases hx
def X0S (a:AH) (s:Value) (e sLen sCap n:Nat) (new:List Value):Option (Value×AH) :=
 match Nat.ble (sLen+n) sCap with
 | true=>match s with
  | .slice none 0 0=>some (.slice none 0 0,a)
  | .slice (some ⟨b,i,none⟩) _ _=>match a.blk b with
   | some B=>match Nat.beq B.e e,a.wrL b (i+sLen*e) new with
    | true,some a'=>some (.slice (some ⟨b,i,none⟩) (sLen+n) sCap,a')
    | _,_=>none
   | none=>none
  | _=>none
 | false=>match s with
  | .slice none 0 0=>match Nat.beq sLen 0 with
   | true=>XBC a new e n n
   | false=>none
  | .slice (some ⟨b,i,none⟩) _ _=>match a.rdL b i (sLen*e),a.blk b with
   | some old,some B=>match Nat.beq B.e e with
    | true=>some (.slice (some ⟨a.next,0,none⟩) (sLen+n) (sLen+n),a.grow B (Nat.beq (i+sLen*e) B.l.length && B.t) (old++new) e)
    | false=>none
   | _,_=>none
  | _=>none
theorem XEx {a:AH} {b i n:Nat} {l:List Value} (e:a.rdL b i n=some l):l.length=n:=by
 unfold AH.rdL at e
 split at e
 case h_2=>cases e
 split at e
 case isFalse=>cases e
 rename_i hi
 cases e
 simp;omega
theorem X7U {h:Heap} {a:AH} (A:Ab h a) {s:Value} {e sLen sCap n:Nat} {new:List Value} (hn:new.length=n*e):Sim (X2d h s e sLen sCap n new) (X0S a s e sLen sCap n new):=by
 intro v a' hz
 unfold X0S at hz
 unfold X2d
 split at hz
 ·
  rename_i hb
  rw [hb];simp only
  split at hz
  · cases hz;exact⟨h,rfl,A⟩
  ·
   rename_i b i q1 q2
   simp only
   split at hz
   case h_2=>cases hz
   rename_i B hB
   obtain⟨D,C,k1,k2,k3,k4,k5,k6⟩:=(A.blk b B hB).ex
   rw [k1];simp only
   split at hz
   ·
    rename_i a'' he hw
    cases hz
    obtain⟨h',w1,w2⟩:=X9R A hw
    rw [k5,he,w1]
    exact⟨h',rfl,w2⟩
   · cases hz
  · cases hz
 ·
  rename_i hb
  rw [hb];simp only
  split at hz
  ·
   split at hz
   case h_2=>cases hz
   rename_i h0
   have h0:=Nat.eq_of_beq_eq_true h0
   subst h0
   rw [Nat.zero_add]
   exact X6j A hn v a' hz
  ·
   rename_i b i q1 q2
   simp only
   split at hz
   case h_2=>cases hz
   rename_i old B ho hB
   have K:=A.blk b B hB
   obtain⟨D,C,k1,k2,k3,k4,k5,k6⟩:=K.ex
   rw [X6D A ho,k1];simp only
   split at hz
   case h_2=>cases hz
   rename_i he
   cases hz
   have c2:Nat.blt D.cls h.next=true:=by rw [k3];simpa using K.klt
   rw [k5,he,c2]
   simp only [Bool.and_self]
   obtain⟨h',g1,g2⟩:=XEw A hB (Nat.beq (i+sLen*e) B.l.length) (old++new) e
   have hl:(old++new).length=(sLen+n)*e:=by rw [List.length_append,XEx ho,hn,Nat.add_mul]
   rw [hl]at g1
   rw [k4,g1]
   exact⟨h',rfl,g2⟩
  · cases hz
def X57 (P:Program) (a:AH) (argTypes:Array TypeId) (s x:Value):Option (Value×AH) :=
  match argTypes[0]?,argTypes[1]? with
  | some st,some xt=>match P.underlying st,P.underlying xt with
    | some (.slice elem),some d=>match sz P elem,X1o P elem,P.info? elem with
      | some e,some z,some i=>match X81 d with
       | true=>none
       | false=>match s with
        | .slice _ sLen sCap=>match X2B a e x with
          | some (n,new) =>
            match X82 d && Nat.ble ((sLen+n)*e) 100000000 && Nat.ble (sLen+n) 100000000 && Nat.ble i.bytes 10000 && Nat.beq z.cells.size e && Nat.blt 0 e && Nat.beq new.length (n*e)with
            | true=>X0S a s e sLen sCap n new
            | false=>none
          | none=>none
        | _=>none
      | _,_,_=>none
    | _,_=>none
  | _,_=>none
theorem XAM {P:Program} {h:Heap} {a:AH} (A:Ab h a) (ats:Array TypeId) (s x:Value):Sim (X5d P h ats s x) (X57 P a ats s x):=by
 intro v a' hz
 unfold X57 at hz
 unfold X5d
 split at hz
 case h_2=>cases hz
 rename_i st xt h0 h1
 rw [h0,h1];simp only
 split at hz
 case h_2=>cases hz
 rename_i elem d hu hd
 rw [hu,hd];simp only
 split at hz
 case h_2=>cases hz
 rename_i e z i he hz0 hi
 rw [he,hz0,hi];simp only
 split at hz
 case h_1=>cases hz
 rename_i hd2
 rw [hd2];simp only
 split at hz
 case h_2=>cases hz
 rename_i base sLen sCap
 simp only
 split at hz
 case h_2=>cases hz
 rename_i n new hx
 rw [XAL A hx];simp only
 split at hz
 case h_2=>cases hz
 rename_i hc
 rw [hc];simp only
 simp only [Bool.and_eq_true]at hc
 exact X7U A (Nat.eq_of_beq_eq_true hc.2) v a' hz
def XEN (a:AH) (e n:Nat):Value→Option (List Value)
 | .slice (some ⟨b,i,none⟩) _ _=>a.rdL b i (n*e)
 | .slice none 0 0=>some []
 | _=>none
def X9U (a:AH) (dst:Value) (l:List Value):Option AH :=
 match dst with
 | .slice (some ⟨b,i,none⟩) _ _=>a.wrL b i l
 | .slice none 0 0=>match l with
  | []=>some a
  | _=>none
 | _=>none
def XEy (P:Program) (a:AH) (argTypes:Array TypeId) (dst src:Value):Option (Value×AH) :=
 match argTypes[0]? with
 | some dt=>match P.underlying dt with
  | some (.slice elem)=>match sz P elem,X3e dst,X3e src with
   | some e,some dl,some sl=>match XEN a e (Nat.min sl dl) src with
    | some l=>match Nat.beq l.length (Nat.min sl dl*e),X9U a dst l with
     | true,some a'=>some (.int .i64 (Nat.min sl dl:Nat),a')
     | _,_=>none
    | none=>none
   | _,_,_=>none
  | _=>none
 | none=>none
theorem XD0 {P:Program} {h:Heap} {a:AH} (A:Ab h a) (ats:Array TypeId) (dst src:Value):Sim (XCM P h ats dst src) (XEy P a ats dst src):=by
 intro v a' hz
 unfold XEy at hz
 unfold XCM
 split at hz
 case h_2=>cases hz
 rename_i dt h0
 rw [h0];simp only
 split at hz
 case h_2=>cases hz
 rename_i elem hu
 rw [hu];simp only
 split at hz
 case h_2=>cases hz
 rename_i e dl sl he hdl hsl
 rw [he,hdl,hsl];simp only
 split at hz
 case h_2=>cases hz
 rename_i l hl
 have hl':X84 h e (Nat.min sl dl) src=some l:=by
  unfold XEN at hl
  unfold X84
  split at hl
  · exact X6D A hl
  · exact hl
  · cases hl
 rw [hl'];simp only
 split at hz
 case h_2=>cases hz
 rename_i a'' hb hw
 cases hz
 have:∃ h',X45 h dst l=some h'∧Ab h' a':=by
  unfold X9U at hw
  unfold X45
  split at hw
  · exact X9R A hw
  ·
   split at hw
   · cases hw;exact⟨h,rfl,A⟩
   · cases hw
  · cases hw
 obtain⟨h',w1,w2⟩:=this
 rw [hb,w1]
 exact⟨h',rfl,w2⟩
def X3u (P:Program) (a:AH) (src dst:TypeId) (x:Value):Option (Value×AH) :=
 match XAm P src dst x with
 | some v=>some (v,a)
 | none=>match x with
  | .slice (some ⟨b,i,none⟩) n _=>match P.underlying src,P.underlying dst with
   | some (.slice e),some .string=>match P.underlying e with
    | some (.int .i32)=>match a.rdL b i n with
     | some l=>match XG0 l with
      | some xs=>some (.string (runesBytes xs),a)
      | none=>none
     | none=>none
    | some (.int .u8)=>match a.rdL b i n with
     | some l=>match u8s l with
      | some xs=>some (.string (strOfNums xs),a)
      | none=>none
     | none=>none
    | _=>none
   | _,_=>none
  | .string s=>match P.underlying src,P.underlying dst with
   | some _,some (.slice e)=>match P.underlying e with
    | some (.int .u8)=>XBC a (X2J s) 1 s.size s.size
    | _=>none
   | some _,some _=>match X1B P (convert src dst (.string s))with
    | some v=>some (v,a)
    | none=>none
   | _,_=>none
  | x=>match X01 x with
   | true=>match X1B P (convert src dst x)with
    | some v=>some (v,a)
    | none=>none
   | false=>none
theorem X58 (s:ByteArray):(X2J s).length=s.size:=by simp [X2J]
theorem X8Z {P:Program} {h:Heap} {a:AH} (A:Ab h a) (src dst:TypeId) (x:Value):Sim (X46 P h src dst x) (X3u P a src dst x):=by
 intro v a' hz
 unfold X3u at hz
 unfold X46
 split at hz
 ·
  rename_i u hu
  cases hz
  rw [hu]
  exact⟨h,rfl,A⟩
 rename_i hq
 rw [hq];simp only
 split at hz
 ·
  rename_i b i n c
  unfold X5h X2e
  simp only
  split at hz
  case h_2=>cases hz
  rename_i e hs hd
  rw [hs,hd];simp only
  split at hz
  ·
   rename_i he
   rw [he];simp only
   split at hz
   case h_2=>cases hz
   rename_i l hl
   rw [X6D A hl];simp only
   split at hz
   case h_2=>cases hz
   rename_i xs hx
   rw [hx]
   cases hz
   exact⟨h,rfl,A⟩
  ·
   rename_i he
   rw [he];simp only
   split at hz
   case h_2=>cases hz
   rename_i l hl
   rw [X6D A hl];simp only
   split at hz
   case h_2=>cases hz
   rename_i xs hx
   rw [hx]
   cases hz
   exact⟨h,rfl,A⟩
  · cases hz
 ·
  rename_i s
  unfold X5h X2e
  simp only
  split at hz
  ·
   rename_i e _ hs hd
   rw [hs,hd];simp only
   split at hz
   ·
    rename_i he
    rw [he];simp only
    have:X3m (X2J s)=true:=by simp [X3m]
    rw [this];simp only
    exact X6j A (X58 s) v a' hz
   · cases hz
  ·
   rename_i hno hs hd
   rw [hs,hd]
   split at hz
   case h_2=>cases hz
   rename_i u hu
   cases hz
   simp only [hu]
   exact⟨h,rfl,A⟩
  · cases hz
 ·
  rename_i hn1 hn2
  have hr:X5h P h src dst x=none:=by
   unfold X5h
   split
   · rename_i b i n c;exact absurd rfl (hn1 b i n c)
   · rfl
  rw [hr];simp only
  split at hz
  case h_2=>cases hz
  rename_i hp
  split at hz
  case h_2=>cases hz
  rename_i u hu
  cases hz
  refine⟨h,?_,A⟩
  unfold X2e
  split
  · rename_i b i n c;exact absurd rfl (hn1 b i n c)
  · rename_i s;exact absurd rfl (hn2 s)
  · simp only [hp,hu]
def hE:Heap:=⟨.leaf,0,.leaf,.leaf⟩
def X33 (P:Program) (a:AH) (t:TypeId) (x:Value) (lo hi:Option Value):Option Value:=match x with
 | .string s=>X20 P hE t (.string s) lo hi none
 | .slice none 0 0=>X20 P hE t (.slice none 0 0) lo hi none
 | .slice (some ⟨b,i,none⟩) n c=>match P.underlying t with
  | some (.slice elem)=>match sz P elem,X0j lo 0,X0j hi n,a.blk b with
   | some e,some l,some u,some B=>match Nat.ble l u && Nat.ble u c && Nat.beq B.e e with
    | true=>some (.slice (some ⟨b,i+l*e,none⟩) (u - l) (c - l))
    | false=>none
   | _,_,_,_=>none
  | _=>none
 | _=>none
theorem X7V {P:Program} {h:Heap} {a:AH} (A:Ab h a) {t:TypeId} {x v:Value} {lo hi:Option Value} (e:X33 P a t x lo hi=some v):X20 P h t x lo hi none=some v:=by
 unfold X33 at e
 split at e
 · rw [← e];rfl
 · rw [← e];rfl
 ·
  rename_i b i n c
  unfold X20
  simp only
  split at e
  case h_2=>cases e
  rename_i elem hu
  rw [hu];simp only
  split at e
  case h_2=>cases e
  rename_i ez l u B h1 h2 h3 h4
  obtain⟨D,C,k1,k2,k3,k4,k5,k6⟩:=(A.blk b B h4).ex
  rw [h1,h2,h3,k1];simp only [k5]
  exact e
 · cases e
def X6l (P:Program) (a:AH) (t:TypeId) (x:Value) (lo:Option Value) (hv m:Value):Option Value:=match x with
 | .slice (some ⟨b,i,none⟩) _ c=>match P.underlying t with
  | some (.slice elem)=>match sz P elem,X0j lo 0,X0j (some hv) 0,X0j (some m) 0,a.blk b with
   | some e,some l,some u,some k,some B=>match Nat.ble l u && Nat.ble u k,Nat.ble k c && Nat.beq B.e e,Nat.beq k l with
    | true,true,false=>some (.slice (some ⟨b,i+l*e,none⟩) (u - l) (k - l))
    | _,_,_=>none
   | _,_,_,_,_=>none
  | _=>none
 | _=>none
theorem XAN {P:Program} {h:Heap} {a:AH} (A:Ab h a) {t:TypeId} {x v hv m:Value} {lo:Option Value} (e:X6l P a t x lo hv m=some v):X20 P h t x lo (some hv) (some m)=some v:=by
 unfold X6l at e
 split at e
 case h_2=>cases e
 rename_i b i n c
 show X5X P h t (.slice (some ⟨b,i,none⟩) n c) lo hv m=some v
 unfold X5X
 split at e
 case h_2=>cases e
 rename_i elem hu
 rw [hu];simp only
 split at e
 case h_2=>cases e
 rename_i ez l u k B h1 h2 h3 h4 h5
 obtain⟨D,C,k1,k2,k3,k4,k5,k6⟩:=(A.blk b B h5).ex
 rw [h1,h2,h3,h4];simp only
 split at e
 case h_2=>cases e
 rename_i g1 g2 g3
 rw [g1];simp only
 rw [k1];simp only [k5,g2,g3]
 exact e
def X9V (P:Program) (a:AH) (argTypes:Array TypeId) (x:Value):Option (Value×AH) :=
 match argTypes[0]? with
 | some t=>match P.underlying t with
  | some (.slice elem)=>match x with
   | .slice (some ⟨_,_,_⟩) 0 _=>some (.tuple #[],a)
   | .slice (some ⟨b,i,none⟩) n _=>match X1o P elem with
    | some z=>match Nat.blt 0 z.cells.size,a.wrL b i (X02 z.cells (n*z.cells.size))with
     | true,some a'=>some (.tuple #[],a')
     | _,_=>none
    | none=>none
   | _=>none
  | _=>none
 | none=>none
theorem XBG {P:Program} {h:Heap} {a:AH} (A:Ab h a) (ats:Array TypeId) (x:Value):Sim (X86 P h ats x) (X9V P a ats x):=by
 intro v a' hz
 unfold X9V at hz
 unfold X86
 split at hz
 case h_2=>cases hz
 rename_i t h0
 rw [h0];simp only
 split at hz
 case h_2=>cases hz
 rename_i elem hu
 rw [hu];simp only
 split at hz
 · cases hz;exact⟨h,rfl,A⟩
 ·
  rename_i b i n c hn
  split at hz
  case h_2=>cases hz
  rename_i z hzz
  split at hz
  case h_2=>cases hz
  rename_i a'' hb hw
  cases hz
  obtain⟨h',q1,q2⟩:=X9R A hw
  refine⟨h',?_,q2⟩
  split
  · rename_i e;cases e
  · rename_i e;cases e;exact(hn rfl).elim
  ·
   rename_i e;cases e
   rw [hzz];simp only [hb,q1]
  · rename_i e1 e2 e3;exact(e3 _ _ _ _ rfl).elim
 · cases hz
end
end Go.Vai
