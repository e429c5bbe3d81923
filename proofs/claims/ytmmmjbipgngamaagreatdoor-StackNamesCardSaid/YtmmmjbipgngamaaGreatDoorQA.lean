/-
  What is proved here: what is known of a plain heap's blocks, as functions: reads, writes, new blocks and blocks that go o the operations of the plain interpreter, told of what is known of a heap (part QB). No conditions but those that the theorems state.
-/
import Derived.Test.YtmmmjbipgngamaaGreatDoorVO
set_option linter.unusedVariables false
set_option linter.unusedSimpArgs false
namespace Go.Vai
noncomputable section
structure AB where
 l:List Value
 k:Nat
 t:Bool
 e:Nat
structure AH where
 blk:Nat→Option AB
 itr:Nat→Option (ByteArray×Nat)
 next:Nat
structure X3O (h:X04) (b:Nat) (B:AB):Prop where
 lt:b<h.next
 klt:B.k<h.next
 ex:∃ D C,h.blks.get b=some D∧h.cls.get B.k=some C∧D.cls=B.k∧D.size=B.l.length∧D.esz=B.e∧D.ro=false∧C.minv≤b∧(B.t=true→C.top=b)∧C.top<h.next∧∀ i,i<B.l.length→D.cells.get i=B.l[i]?
def wfH (h:X04):Prop:=∀ b,h.next≤b→h.blks.get b=none∧h.cls.get b=none
structure Ab (h:X04) (a:AH):Prop where
 wf:wfH h
 next:a.next=h.next
 blk:∀ b B,a.blk b=some B→X3O h b B
 itr:∀ b x,a.itr b=some x→h.objs.get b=some (.iter x.1 x.2)∧b<h.next
def AH.rd (a:AH) (b i:Nat):Option Value:=match a.blk b with
 | some B=>B.l[i]?
 | none=>none
def AH.rdL (a:AH) (b i n:Nat):Option (List Value):=match a.blk b with
 | some B=>if i+n≤B.l.length then some ((B.l.drop i).take n)else none
 | none=>none
def X0t (f:Nat→Option AB) (b:Nat) (B:AB) (X:Option Bool):Nat→Option AB:=fun x =>
 if x=b then some B else match f x with
  | some Y=>if Y.k=B.k then(match X with | some t=>some { Y with t:=t && Y.t } | none=>none)else some Y
  | none=>none
def over (l:List Value) (i:Nat) (vs:List Value):List Value:=l.take i++vs++l.drop (i+vs.length)
def AH.wrL (a:AH) (b i:Nat) (vs:List Value):Option AH:=match a.blk b with
 | some B=>if B.t=true∧i+vs.length≤B.l.length then some { a with blk:=X0t a.blk b { B with l:=over B.l i vs } none } else none
 | none=>none
def AH.new (a:AH) (l:List Value) (e:Nat):AH:={ blk:=fun x=>if x=a.next then some ⟨l,a.next,true,e⟩else a.blk x,itr:=a.itr,next:=a.next+1 }
def AH.grow (a:AH) (B:AB) (keep:Bool) (l:List Value) (e:Nat):AH :=
 { blk:=X0t a.blk a.next ⟨l,B.k,true,e⟩ (if keep then some false else none),itr:=a.itr,next:=a.next+1 }
theorem X3O.rd {h:X04} {b:Nat} {B:AB} (H:X3O h b B) {i:Nat} (hi:i<B.l.length):h.rd b i=B.l[i]?:=by
 obtain⟨D,C,h1,h2,h3,h4,h5,h6,h7,h8,h9,h10⟩:=H.ex
 have e1:Nat.ble C.minv b=true:=by simpa using h7
 have e2:Nat.blt i D.size=true:=by simp [h4,hi]
 unfold X04.rd
 rw [h1];simp only [h3,h2,e1,e2,Bool.and_self]
 exact h10 i hi
theorem rd_ok {h:X04} {a:AH} (A:Ab h a) {b i:Nat} {v:Value} (e:a.rd b i=some v):h.rd b i=some v:=by
 unfold AH.rd at e
 split at e
 case h_2=>cases e
 rename_i B hB
 have hi:i<B.l.length:=by
  rcases Nat.lt_or_ge i B.l.length with h | h
  · exact h
  · rw [List.getElem?_eq_none h]at e;cases e
 rw [(A.blk b B hB).rd hi,e]
theorem X3O.rdL {h:X04} {b:Nat} {B:AB} (H:X3O h b B):∀ (n i:Nat),i+n≤B.l.length→h.rdL b i n=some ((B.l.drop i).take n):=by
 intro n
 induction n with
 | zero=>intro i _;simp [X04.rdL]
 | succ n ih =>
  intro i hi
  have hl:i<B.l.length:=by omega
  rw [X04.rdL,H.rd hl,List.getElem?_eq_getElem hl]
  simp only
  rw [ih (i+1) (by omega)]
  simp only [Option.some.injEq]
  rw [List.drop_eq_getElem_cons hl,List.take_succ_cons]
theorem X5B {h:X04} {a:AH} (A:Ab h a) {b i n:Nat} {l:List Value} (e:a.rdL b i n=some l):h.rdL b i n=some l:=by
 unfold AH.rdL at e
 split at e
 case h_2=>cases e
 rename_i B hB
 split at e
 case isFalse=>cases e
 rename_i hi
 rw [(A.blk b B hB).rdL n i hi,e]
theorem wr1 {h:X04} {b:Nat} {B:AB} (H:X3O h b B) (ht:B.t=true) {i:Nat} (hi:i<B.l.length) (v:Value) :
  ∃ h',h.wr b i v=some h'∧X3O h' b { B with l:=B.l.set i v }∧(∀ x X,X3O h x X→X.k≠B.k→X3O h' x X)∧h'.next=h.next∧h'.objs=h.objs∧(wfH h→wfH h'):=by
 obtain⟨D,C,h1,h2,h3,h4,h5,h6,h7,h8,h9,h10⟩:=H.ex
 have htop:=h8 ht
 have c1:Nat.beq b C.top=true:=by rw [htop];exact Nat.beq_refl b
 have c2:Nat.ble C.minv b=true:=by simpa using h7
 have c3:Nat.blt i D.size=true:=by simp [h4,hi]
 have c4:Nat.ble 0 i=true:=by simp
 have key:h.wr b i v=some { blks:=h.blks.put b { D with cells:=D.cells.put i v },next:=h.next,cls:=h.cls.put B.k { C with minv:=b },objs:=h.objs }:=by
  unfold X04.wr
  rw [h1];simp only [h3,h2,c1,c2,c3,c4,h6,Bool.and_self,Bool.not_false]
 refine⟨_,key,?_,?_,rfl,rfl,fun w x hx=>?_⟩
 case refine_3 =>
  have hx:h.next≤x:=hx
  have:=H.lt;have:=H.klt
  exact⟨(Tr.get_put_other (by omega)).trans (w x hx).1,(Tr.get_put_other (by omega)).trans (w x hx).2⟩
 ·
  refine⟨H.lt,H.klt,_,_,Tr.get_put_same (Nat.zero_le _),Tr.get_put_same (Nat.zero_le _),h3,by simpa using h4,h5,h6,Nat.le_refl _,fun _=>htop,h9,?_⟩
  intro j hj
  have hj':j<B.l.length:=by simpa using hj
  show(D.cells.put i v).get j=(B.l.set i v)[j]?
  by_cases e:j=i
  ·
   subst e
   rw [Tr.get_put_same (Nat.zero_le _),List.getElem?_set_self hi]
  · rw [Tr.get_put_other e,h10 j hj',List.getElem?_set_ne (fun q=>e q.symm)]
 ·
  intro x X K hk
  obtain⟨D',C',k1,k2,k3,k4,k5,k6,k7,k8,k9,k10⟩:=K.ex
  have hx:x≠b:=by
   rintro rfl
   rw [h1]at k1;cases k1
   exact hk (k3.symm.trans h3)
  exact⟨K.lt,K.klt,D',C',(Tr.get_put_other hx).trans k1,(Tr.get_put_other hk).trans k2,k3,k4,k5,k6,k7,k8,k9,k10⟩
theorem XAR (l:List Value) (i:Nat):over l i []=l:=by simp [over]
theorem X94 (l:List Value) (i:Nat) (v:Value) (vs:List Value) (h:i<l.length):over (l.set i v) (i+1) vs=over l i (v::vs):=by
 have e1:(l.set i v).take (i+1)=l.take i++[v]:=by
  rw [List.take_add_one,List.take_set_of_le (Nat.le_refl i),List.getElem?_set_self h];rfl
 have e2:(l.set i v).drop (i+1+vs.length)=l.drop (i+(vs.length+1)):=by
  rw [List.drop_set_of_lt (by omega),show i+1+vs.length=i+(vs.length+1)from by omega]
 unfold over
 rw [e1,e2]
 simp
theorem X71 (l:List Value) (i:Nat) (vs:List Value) (h:i+vs.length≤l.length):(over l i vs).length=l.length:=by
 simp [over];omega
theorem wrLB {b:Nat}:∀ (vs:List Value) (h:X04) (B:AB) (i:Nat),X3O h b B→B.t=true→i+vs.length≤B.l.length →
  ∃ h',h.wrL b i vs=some h'∧X3O h' b { B with l:=over B.l i vs }∧(∀ x X,X3O h x X→X.k≠B.k→X3O h' x X)∧h'.next=h.next∧h'.objs=h.objs∧(wfH h→wfH h'):=by
 intro vs
 induction vs with
 | nil =>
  intro h B i H ht hi
  exact⟨h,rfl,by rw [XAR];exact H,fun _ _ k _=>k,rfl,rfl,id⟩
 | cons v vs ih =>
  intro h B i H ht hi
  simp only [List.length_cons]at hi
  obtain⟨h1,p1,p2,p3,p4,p5,p6⟩:=wr1 H ht (i:=i) (by omega) v
  obtain⟨h2,q1,q2,q3,q4,q5,q6⟩:=ih h1 _ (i+1) p2 ht (by simp;omega)
  refine⟨h2,by rw [X04.wrL,p1];exact q1,?_,fun x X K hk=>q3 x X (p3 x X K hk) hk,q4.trans p4,q5.trans p5,fun w=>q6 (p6 w)⟩
  have:=X94 B.l i v vs (by omega)
  rw [← this];exact q2
theorem X47 {f:Nat→Option AB} {b:Nat} {B:AB} {x:Nat} {Y:AB} (e:X0t f b B none x=some Y):(x=b∧Y=B)∨(x≠b∧f x=some Y∧Y.k≠B.k):=by
 unfold X0t at e
 split at e
 · rename_i hx;cases e;exact .inl ⟨hx,rfl⟩
 ·
  rename_i hx
  split at e
  ·
   rename_i Z hZ
   split at e
   · cases e
   · rename_i hk;cases e;exact .inr ⟨hx,hZ,hk⟩
  · cases e
theorem X7d {h:X04} {a a':AH} (A:Ab h a) {b i:Nat} {vs:List Value} (e:a.wrL b i vs=some a'):∃ h',h.wrL b i vs=some h'∧Ab h' a':=by
 unfold AH.wrL at e
 split at e
 case h_2=>cases e
 rename_i B hB
 split at e
 case isFalse=>cases e
 rename_i hc
 cases e
 obtain⟨h',p1,p2,p3,p4,p5,p6⟩:=wrLB vs h B i (A.blk b B hB) hc.1 hc.2
 refine⟨h',p1,p6 A.wf,A.next.trans p4.symm,?_,fun x y hy=>by rw [p5,p4];exact A.itr x y hy⟩
 intro x X hX
 rcases X47 hX with⟨rfl,rfl⟩ | ⟨_,h2,h3⟩
 · exact p2
 · exact p3 x X (A.blk x X h2) h3
theorem X7e {h:X04} {a:AH} (A:Ab h a) (l:List Value) (e:Nat):∃ h',h.new (X2m 0 .leaf l) l.length e=some (a.next,h')∧Ab h' (a.new l e):=by
 have key:h.new (X2m 0 .leaf l) l.length e=some (h.next,{ blks:=h.blks.put h.next ⟨X2m 0 .leaf l,l.length,e,h.next,false⟩,next:=h.next+1,cls:=h.cls.put h.next ⟨h.next,h.next⟩,objs:=h.objs }):=by
  unfold X04.new;rw [show Nat.ble 0 h.next=true by simp]
 refine⟨_,by rw [A.next];exact key,fun x hx=>?_,?_,?_,?_⟩
 ·
  have hx:h.next+1≤x:=hx
  exact⟨(Tr.get_put_other (by omega)).trans (A.wf x (by omega)).1,(Tr.get_put_other (by omega)).trans (A.wf x (by omega)).2⟩
 · show a.next+1=h.next+1;rw [A.next]
 ·
  intro b B hB
  simp only [AH.new]at hB
  split at hB
  ·
   rename_i hb
   cases hB
   subst hb
   rw [A.next]
   refine⟨Nat.lt_succ_self _,Nat.lt_succ_self _,_,_,Tr.get_put_same (Nat.zero_le _),Tr.get_put_same (Nat.zero_le _),rfl,rfl,rfl,rfl,Nat.le_refl _,fun _=>rfl,Nat.lt_succ_self _,?_⟩
   intro i hi
   show(X2m 0 .leaf l).get i=l[i]?
   rw [X2d l 0 .leaf i (Nat.zero_le _),if_pos ⟨Nat.zero_le _,by simpa using hi⟩,Nat.sub_zero]
  ·
   rename_i hb
   have K:=A.blk b B hB
   obtain⟨D,C,k1,k2,k3,k4,k5,k6,k7,k8,k9,k10⟩:=K.ex
   have:=K.lt;have:=K.klt
   exact⟨Nat.lt_succ_of_lt K.lt,Nat.lt_succ_of_lt K.klt,D,C,(Tr.get_put_other (by omega)).trans k1,(Tr.get_put_other (by omega)).trans k2,k3,k4,k5,k6,k7,k8,Nat.lt_succ_of_lt k9,k10⟩
 ·
  intro b x hx
  obtain⟨q1,q2⟩:=A.itr b x hx
  exact⟨q1,Nat.lt_succ_of_lt q2⟩
theorem XC0 {h:X04} {a:AH} (A:Ab h a) {b:Nat} {B:AB} (hB:a.blk b=some B) (atEnd:Bool) (l:List Value) (e:Nat) :
  ∃ h',h.grow b atEnd (X2m 0 .leaf l) l.length e=some (a.next,h')∧Ab h' (a.grow B (atEnd && B.t) l e):=by
 have K:=A.blk b B hB
 obtain⟨D,C,k1,k2,k3,k4,k5,k6,k7,k8,k9,k10⟩:=K.ex
 have hb:=K.lt
 have hk:=K.klt
 have key:h.grow b atEnd (X2m 0 .leaf l) l.length e=some (h.next,{ blks:=h.blks.put h.next ⟨X2m 0 .leaf l,l.length,e,B.k,false⟩,next:=h.next+1,cls:=h.cls.put B.k ⟨h.next,match atEnd && Nat.beq b C.top with | true=>C.minv | false=>h.next⟩,objs:=h.objs }):=by
  unfold X04.grow;rw [k1];have c0:Nat.ble 0 h.next=true:=by simp
  simp only [k3,k2,k6,c0,Bool.not_false,Bool.and_true]
  rfl
 refine⟨_,by rw [A.next];exact key,fun x hx=>?_,?_,?_,?_⟩
 ·
  have hx:h.next+1≤x:=hx
  exact⟨(Tr.get_put_other (by omega)).trans (A.wf x (by omega)).1,(Tr.get_put_other (by omega)).trans (A.wf x (by omega)).2⟩
 · show a.next+1=h.next+1;rw [A.next]
 ·
  intro x X hX
  simp only [AH.grow,X0t]at hX
  split at hX
  ·
   rename_i hx
   cases hX
   subst hx
   rw [A.next]
   refine⟨Nat.lt_succ_self _,Nat.lt_succ_of_lt hk,_,_,Tr.get_put_same (Nat.zero_le _),Tr.get_put_same (Nat.zero_le _),rfl,rfl,rfl,rfl,?_,fun _=>rfl,Nat.lt_succ_self _,?_⟩
   ·
    simp only
    split
    · exact Nat.le_of_lt (Nat.lt_of_le_of_lt k7 hb)
    · exact Nat.le_refl _
   ·
    intro i hi
    show(X2m 0 .leaf l).get i=l[i]?
    rw [X2d l 0 .leaf i (Nat.zero_le _),if_pos ⟨Nat.zero_le _,by simpa using hi⟩,Nat.sub_zero]
  ·
   rename_i hx
   split at hX
   case h_2=>cases hX
   rename_i Y hY
   have KY:=A.blk x Y hY
   obtain⟨D',C',q1,q2,q3,q4,q5,q6,q7,q8,q9,q10⟩:=KY.ex
   have:=KY.lt;have:=KY.klt
   split at hX
   ·
    rename_i hkk
    split at hX
    case h_2=>cases hX
    rename_i t ht
    split at ht
    case isFalse=>cases ht
    rename_i hkeep
    cases ht
    cases hX
    simp only [Bool.and_eq_true]at hkeep
    have htop:=k8 hkeep.2
    have cc:C'=C:=by
     have hh:Y.k=B.k:=hkk
     rw [hh,k2]at q2;exact(Option.some.inj q2).symm
    subst cc
    refine⟨Nat.lt_succ_of_lt KY.lt,Nat.lt_succ_of_lt KY.klt,D',⟨h.next,C'.minv⟩,(Tr.get_put_other (by omega)).trans q1,?_,q3,q4,q5,q6,?_,?_,Nat.lt_succ_self _,q10⟩
    ·
     show(h.cls.put B.k _).get Y.k=_
     have hh:Y.k=B.k:=hkk
     rw [hh,Tr.get_put_same (Nat.zero_le _)]
     have:Nat.beq b C'.top=true:=by rw [htop];exact Nat.beq_refl b
     rw [hkeep.1,this];rfl
    · exact q7
    · intro hf;simp at hf
   ·
    rename_i hkk
    have hkk:¬ Y.k=B.k:=hkk
    cases hX
    exact⟨Nat.lt_succ_of_lt KY.lt,Nat.lt_succ_of_lt KY.klt,D',C',(Tr.get_put_other (by omega)).trans q1,(Tr.get_put_other hkk).trans q2,q3,q4,q5,q6,q7,q8,Nat.lt_succ_of_lt q9,q10⟩
 ·
  intro b x hx
  obtain⟨q1,q2⟩:=A.itr b x hx
  exact⟨q1,Nat.lt_succ_of_lt q2⟩
end
end Go.Vai
namespace Go.Vai
noncomputable section
def Sim (r:Option (Value×X04)) (z:Option (Value×AH)):Prop:=∀ v a',z=some (v,a')→∃ h',r=some (v,h')∧Ab h' a'
theorem Sim.none (r:Option (Value×X04)):Sim r none:=fun _ _ e=>by cases e
def XAS (a:AH) (l:List Value) (e n c:Nat):Option (Value×AH):=some (.slice (some ⟨a.next,0,none⟩) n c,a.new l e)
theorem X5Z {h:X04} {a:AH} (A:Ab h a) {l:List Value} {e n c m:Nat} (hm:l.length=m):Sim (X0l n c (h.new (X2m 0 .leaf l) m e)) (XAS a l e n c):=by
 intro v a' hz
 cases hz
 subst hm
 obtain⟨h',h1,h2⟩:=X7e A l e
 exact⟨h',by rw [h1];rfl,h2⟩
def XDE (a:AH) (v:Value):Option (Value×AH):=match X1V v with
 | some l=>some (.pointer (some ⟨a.next,0,none⟩),a.new l 0)
 | none=>none
theorem X95 {h:X04} {a:AH} (A:Ab h a) (v:Value):Sim (XBo h v) (XDE a v):=by
 intro u a' hz
 unfold XDE at hz
 split at hz
 case h_2=>cases hz
 rename_i l hl
 cases hz
 obtain⟨h',h1,h2⟩:=X7e A l 0
 refine⟨h',?_,h2⟩
 unfold XBo
 rw [hl]
 simp only [X30,Nat.ble]
 have:Nat.ble 0 l.length=true:=by simp
 simp only [this,h1];rfl
def X7f (P:Program) (a:AH) (t:TypeId):Option (Value×AH):=match X1O P t with
 | some z=>XDE a z
 | none=>none
theorem X96 {P:Program} {h:X04} {a:AH} (A:Ab h a) (t:TypeId):Sim (X5L P h t) (X7f P a t):=by
 unfold X5L X7f
 cases X1O P t with
 | none=>exact .none _
 | some z=>exact X95 A z
def X1j (P:Program) (a:AH) (t:TypeId) (len:Nat) (parts:List (Nat×Value)):Option (Value×AH) :=
 match P.underlying t with
 | some (.slice elem)=>match sz P elem,X1O P elem with
  | some size,some z =>
   match Nat.ble (len*size) 16777216 && Nat.beq z.cells.size size && Nat.blt 0 size with
   | true=>match X2z (fun i=>some (i*size,size)) (X02 z.cells (len*size)) parts with
    | some l=>match Nat.beq l.length (len*size)with
     | true=>XAS a l size len len
     | false=>none
    | none=>none
   | false=>none
  | _,_=>none
 | _=>none
theorem X4w {P:Program} {h:X04} {a:AH} (A:Ab h a) (t:TypeId) (len:Nat) (parts:List (Nat×Value)):Sim (X0v P h t len parts) (X1j P a t len parts):=by
 intro v a' hz
 unfold X1j at hz
 unfold X0v
 split at hz
 case h_2=>cases hz
 rename_i elem hu
 rw [hu];simp only
 split at hz
 case h_2=>cases hz
 rename_i size z hs hz0
 rw [hs,hz0];simp only
 split at hz
 case h_2=>cases hz
 rename_i hc
 rw [hc];simp only
 split at hz
 case h_2=>cases hz
 rename_i l hl
 rw [hl];simp only
 split at hz
 case h_2=>cases hz
 rename_i hb
 exact X5Z A (Nat.eq_of_beq_eq_true hb) v a' hz
def X2W (P:Program) (a:AH) (t:TypeId) (len cap:Value):Option (Value×AH) :=
 match P.underlying t with
 | some (.slice elem)=>match sz P elem,X1O P elem,P.info? elem with
  | some size,some z,some i=>match len,cap with
   | .int _ l,.int _ c =>
    match decide (0≤l) && decide (l≤c) && decide (c*i.bytes≤281474976710656) && Nat.ble (c.toNat*size) 100000000 && Nat.beq z.cells.size size && Nat.blt 0 size && decide (c≤1000000000)with
    | true=>XAS a (X02 z.cells (c.toNat*size)) size l.toNat c.toNat
    | false=>none
   | _,_=>none
  | _,_,_=>none
 | _=>none
theorem X0i (z:Array Value) (n:Nat):(X02 z n).length=n:=by simp [X02]
theorem X5a {P:Program} {h:X04} {a:AH} (A:Ab h a) (t:TypeId) (len cap:Value):Sim (X18 P h t len cap) (X2W P a t len cap):=by
 intro v a' hz
 unfold X2W at hz
 unfold X18
 split at hz
 case h_2=>cases hz
 rename_i elem hu
 rw [hu];simp only
 split at hz
 case h_2=>cases hz
 rename_i size z i hs hz0 hi
 rw [hs,hz0,hi];simp only
 split at hz
 case h_2=>cases hz
 rename_i l c
 simp only
 split at hz
 case h_2=>cases hz
 rename_i hc
 rw [hc];simp only
 exact X5Z A (X0i ..) v a' hz
def X3l (P:Program) (a:AH) (t:TypeId) (p:Value):Option Value :=
 match p with
 | .pointer (some ⟨b,i,none⟩)=>match X2o P t with
  | some true=>match sz P t with
   | some n=>match a.rdL b i n with
    | some l=>some (.agg l.toArray)
    | none=>none
   | none=>none
  | some false=>a.rd b i
  | none=>none
 | _=>none
theorem X3v {P:Program} {h:X04} {a:AH} (A:Ab h a) {t:TypeId} {p v:Value} (e:X3l P a t p=some v):X3G P h t p=some v:=by
 unfold X3l at e
 unfold X3G
 split at e
 case h_2=>cases e
 rename_i b i
 simp only
 split at e
 ·
  rename_i ha
  rw [ha];simp only
  split at e
  case h_2=>cases e
  rename_i n hn
  rw [hn];simp only
  split at e
  case h_2=>cases e
  rename_i l hl
  rw [X5B A hl];exact e
 ·
  rename_i ha
  rw [ha];exact rd_ok A e
 · cases e
def X7g (P:Program) (a:AH) (t:TypeId) (p x:Value):Option AH :=
 match p with
 | .pointer (some ⟨b,i,none⟩)=>match X1V x,sz P t with
  | some l,some n=>match Nat.beq l.length n with
   | true=>a.wrL b i l
   | false=>none
  | _,_=>none
 | _=>none
theorem X97 {P:Program} {h:X04} {a a':AH} (A:Ab h a) {t:TypeId} {p x:Value} (e:X7g P a t p x=some a'):∃ h',X6W P h t p x=some h'∧Ab h' a':=by
 unfold X7g at e
 unfold X6W
 split at e
 case h_2=>cases e
 rename_i b i
 simp only
 split at e
 case h_2=>cases e
 rename_i l n hl hn
 rw [hl,hn];simp only
 split at e
 case h_2=>cases e
 rename_i hb
 rw [hb];simp only
 exact X7d A e
def X1k (a:AH) (e:Nat):Value→Option (Nat×List Value)
 | .slice (some ⟨b,i,none⟩) n _=>match a.rdL b i (n*e)with
  | some l=>some (n,l)
  | none=>none
 | .slice none 0 0=>some (0,[])
 | .string s=>some (s.size,X2Q s)
 | _=>none
theorem X8L {h:X04} {a:AH} (A:Ab h a) {e:Nat} {x:Value} {r:Nat×List Value} (hx:X1k a e x=some r):X4b h e x=some r:=by
 unfold X1k at hx
 unfold X4b
 split at hx
 ·
  rename_i b i n c
  simp only
  split at hx
  case h_2=>cases hx
  rename_i l hl
  rw [X5B A hl];exact hx
 · exact hx
 · exact hx
 · cases hx
def X11 (a:AH) (s:Value) (e sLen sCap n:Nat) (new:List Value):Option (Value×AH) :=
 match Nat.ble (sLen+n) sCap with
 | true=>match s with
  | .slice none 0 0=>some (.slice none 0 0,a)
  | .slice (some ⟨b,i,none⟩) _ _=>match a.blk b with
   | some B=>match Nat.beq B.e e,a.wrL b (i+sLen*e) new with
    | true,some a'=>some (.slice (some ⟨b,i,none⟩) (sLen+n) sCap,a')
    | _,_=>none
   | none=>none
  | _=>none
 | false=>match s with
  | .slice none 0 0=>match Nat.beq sLen 0 with
   | true=>XAS a new e n n
   | false=>none
  | .slice (some ⟨b,i,none⟩) _ _=>match a.rdL b i (sLen*e),a.blk b with
   | some old,some B=>match Nat.beq B.e e with
    | true=>some (.slice (some ⟨a.next,0,none⟩) (sLen+n) (sLen+n),a.grow B (Nat.beq (i+sLen*e) B.l.length && B.t) (old++new) e)
    | false=>none
   | _,_=>none
  | _=>none
theorem XC1 {a:AH} {b i n:Nat} {l:List Value} (e:a.rdL b i n=some l):l.length=n:=by
 unfold AH.rdL at e
 split at e
 case h_2=>cases e
 split at e
 case isFalse=>cases e
 rename_i hi
 cases e
 simp;omega
theorem X66 {h:X04} {a:AH} (A:Ab h a) {s:Value} {e sLen sCap n:Nat} {new:List Value} (hn:new.length=n*e):Sim (X22 h s e sLen sCap n new) (X11 a s e sLen sCap n new):=by
 intro v a' hz
 unfold X11 at hz
 unfold X22
 split at hz
 ·
  rename_i hb
  rw [hb];simp only
  split at hz
  · cases hz;exact⟨h,rfl,A⟩
  ·
   rename_i b i q1 q2
   simp only
   split at hz
   case h_2=>cases hz
   rename_i B hB
   obtain⟨D,C,k1,k2,k3,k4,k5,k6⟩:=(A.blk b B hB).ex
   rw [k1];simp only
   split at hz
   ·
    rename_i a'' he hw
    cases hz
    obtain⟨h',w1,w2⟩:=X7d A hw
    rw [k5,he,w1]
    exact⟨h',rfl,w2⟩
   · cases hz
  · cases hz
 ·
  rename_i hb
  rw [hb];simp only
  split at hz
  ·
   split at hz
   case h_2=>cases hz
   rename_i h0
   have h0:=Nat.eq_of_beq_eq_true h0
   subst h0
   rw [Nat.zero_add]
   exact X5Z A hn v a' hz
  ·
   rename_i b i q1 q2
   simp only
   split at hz
   case h_2=>cases hz
   rename_i old B ho hB
   have K:=A.blk b B hB
   obtain⟨D,C,k1,k2,k3,k4,k5,k6⟩:=K.ex
   rw [X5B A ho,k1];simp only
   split at hz
   case h_2=>cases hz
   rename_i he
   cases hz
   have c2:Nat.blt D.cls h.next=true:=by rw [k3];simpa using K.klt
   rw [k5,he,c2]
   simp only [Bool.and_self]
   obtain⟨h',g1,g2⟩:=XC0 A hB (Nat.beq (i+sLen*e) B.l.length) (old++new) e
   have hl:(old++new).length=(sLen+n)*e:=by rw [List.length_append,XC1 ho,hn,Nat.add_mul]
   rw [hl]at g1
   rw [k4,g1]
   exact⟨h',rfl,g2⟩
  · cases hz
def X48 (P:Program) (a:AH) (argTypes:Array TypeId) (s x:Value):Option (Value×AH) :=
  match argTypes[0]?,argTypes[1]? with
  | some st,some xt=>match P.underlying st,P.underlying xt with
    | some (.slice elem),some d=>match sz P elem,X1O P elem,P.info? elem with
      | some e,some z,some i=>match X6Y d with
       | true=>none
       | false=>match s with
        | .slice _ sLen sCap=>match X1k a e x with
          | some (n,new) =>
            match X6Z d && Nat.ble ((sLen+n)*e) 100000000 && Nat.ble (sLen+n) 100000000 && Nat.ble i.bytes 10000 && Nat.beq z.cells.size e && Nat.blt 0 e && Nat.beq new.length (n*e)with
            | true=>X11 a s e sLen sCap n new
            | false=>none
          | none=>none
        | _=>none
      | _,_,_=>none
    | _,_=>none
  | _,_=>none
theorem X8M {P:Program} {h:X04} {a:AH} (A:Ab h a) (ats:Array TypeId) (s x:Value):Sim (X4c P h ats s x) (X48 P a ats s x):=by
 intro v a' hz
 unfold X48 at hz
 unfold X4c
 split at hz
 case h_2=>cases hz
 rename_i st xt h0 h1
 rw [h0,h1];simp only
 split at hz
 case h_2=>cases hz
 rename_i elem d hu hd
 rw [hu,hd];simp only
 split at hz
 case h_2=>cases hz
 rename_i e z i he hz0 hi
 rw [he,hz0,hi];simp only
 split at hz
 case h_1=>cases hz
 rename_i hd2
 rw [hd2];simp only
 split at hz
 case h_2=>cases hz
 rename_i base sLen sCap
 simp only
 split at hz
 case h_2=>cases hz
 rename_i n new hx
 rw [X8L A hx];simp only
 split at hz
 case h_2=>cases hz
 rename_i hc
 rw [hc];simp only
 simp only [Bool.and_eq_true]at hc
 exact X66 A (Nat.eq_of_beq_eq_true hc.2) v a' hz
def XBd (a:AH) (e n:Nat):Value→Option (List Value)
 | .slice (some ⟨b,i,none⟩) _ _=>a.rdL b i (n*e)
 | .slice none 0 0=>some []
 | _=>none
def X7h (a:AH) (dst:Value) (l:List Value):Option AH :=
 match dst with
 | .slice (some ⟨b,i,none⟩) _ _=>a.wrL b i l
 | .slice none 0 0=>match l with
  | []=>some a
  | _=>none
 | _=>none
def XC2 (P:Program) (a:AH) (argTypes:Array TypeId) (dst src:Value):Option (Value×AH) :=
 match argTypes[0]? with
 | some dt=>match P.underlying dt with
  | some (.slice elem)=>match sz P elem,X2p dst,X2p src with
   | some e,some dl,some sl=>match XBd a e (Nat.min sl dl) src with
    | some l=>match Nat.beq l.length (Nat.min sl dl*e),X7h a dst l with
     | true,some a'=>some (.int .i64 (Nat.min sl dl:Nat),a')
     | _,_=>none
    | none=>none
   | _,_,_=>none
  | _=>none
 | none=>none
theorem XAT {P:Program} {h:X04} {a:AH} (A:Ab h a) (ats:Array TypeId) (dst src:Value):Sim (XA1 P h ats dst src) (XC2 P a ats dst src):=by
 intro v a' hz
 unfold XC2 at hz
 unfold XA1
 split at hz
 case h_2=>cases hz
 rename_i dt h0
 rw [h0];simp only
 split at hz
 case h_2=>cases hz
 rename_i elem hu
 rw [hu];simp only
 split at hz
 case h_2=>cases hz
 rename_i e dl sl he hdl hsl
 rw [he,hdl,hsl];simp only
 split at hz
 case h_2=>cases hz
 rename_i l hl
 have hl':X6b h e (Nat.min sl dl) src=some l:=by
  unfold XBd at hl
  unfold X6b
  split at hl
  · exact X5B A hl
  · exact hl
  · cases hl
 rw [hl'];simp only
 split at hz
 case h_2=>cases hz
 rename_i a'' hb hw
 cases hz
 have:∃ h',X3H h dst l=some h'∧Ab h' a':=by
  unfold X7h at hw
  unfold X3H
  split at hw
  · exact X7d A hw
  ·
   split at hw
   · cases hw;exact⟨h,rfl,A⟩
   · cases hw
  · cases hw
 obtain⟨h',w1,w2⟩:=this
 rw [hb,w1]
 exact⟨h',rfl,w2⟩
def X36 (P:Program) (a:AH) (src dst:TypeId) (x:Value):Option (Value×AH) :=
 match X8l P src dst x with
 | some v=>some (v,a)
 | none=>match x with
  | .slice (some ⟨b,i,none⟩) n _=>match P.underlying src,P.underlying dst with
   | some (.slice e),some .string=>match P.underlying e with
    | some (.int .i32)=>match a.rdL b i n with
     | some l=>match XCz l with
      | some xs=>some (.string (runesBytes xs),a)
      | none=>none
     | none=>none
    | some (.int .u8)=>match a.rdL b i n with
     | some l=>match u8s l with
      | some xs=>some (.string (strOfNums xs),a)
      | none=>none
     | none=>none
    | _=>none
   | _,_=>none
  | .string s=>match P.underlying src,P.underlying dst with
   | some _,some (.slice e)=>match P.underlying e with
    | some (.int .u8)=>XAS a (X1r s) 1 s.size s.size
    | _=>none
   | some _,some _=>match X0p P (convert src dst (.string s))with
    | some v=>some (v,a)
    | none=>none
   | _,_=>none
  | x=>match X01 x with
   | true=>match X0p P (convert src dst x)with
    | some v=>some (v,a)
    | none=>none
   | false=>none
theorem X49 (s:ByteArray):(X1r s).length=s.size:=by simp [X1r]
theorem X72 {P:Program} {h:X04} {a:AH} (A:Ab h a) (src dst:TypeId) (x:Value):Sim (X3I P h src dst x) (X36 P a src dst x):=by
 intro v a' hz
 unfold X36 at hz
 unfold X3I
 split at hz
 ·
  rename_i u hu
  cases hz
  rw [hu]
  exact⟨h,rfl,A⟩
 rename_i hq
 rw [hq];simp only
 split at hz
 ·
  rename_i b i n c
  unfold X4g X23
  simp only
  split at hz
  case h_2=>cases hz
  rename_i e hs hd
  rw [hs,hd];simp only
  split at hz
  ·
   rename_i he
   rw [he];simp only
   split at hz
   case h_2=>cases hz
   rename_i l hl
   rw [X5B A hl];simp only
   split at hz
   case h_2=>cases hz
   rename_i xs hx
   rw [hx]
   cases hz
   exact⟨h,rfl,A⟩
  ·
   rename_i he
   rw [he];simp only
   split at hz
   case h_2=>cases hz
   rename_i l hl
   rw [X5B A hl];simp only
   split at hz
   case h_2=>cases hz
   rename_i xs hx
   rw [hx]
   cases hz
   exact⟨h,rfl,A⟩
  · cases hz
 ·
  rename_i s
  unfold X4g X23
  simp only
  split at hz
  ·
   rename_i e _ hs hd
   rw [hs,hd];simp only
   split at hz
   ·
    rename_i he
    rw [he];simp only
    have:X30 (X1r s)=true:=by simp [X30]
    rw [this];simp only
    exact X5Z A (X49 s) v a' hz
   · cases hz
  ·
   rename_i hno hs hd
   rw [hs,hd]
   split at hz
   case h_2=>cases hz
   rename_i u hu
   cases hz
   simp only [hu]
   exact⟨h,rfl,A⟩
  · cases hz
 ·
  rename_i hn1 hn2
  have hr:X4g P h src dst x=none:=by
   unfold X4g
   split
   · rename_i b i n c;exact absurd rfl (hn1 b i n c)
   · rfl
  rw [hr];simp only
  split at hz
  case h_2=>cases hz
  rename_i hp
  split at hz
  case h_2=>cases hz
  rename_i u hu
  cases hz
  refine⟨h,?_,A⟩
  unfold X23
  split
  · rename_i b i n c;exact absurd rfl (hn1 b i n c)
  · rename_i s;exact absurd rfl (hn2 s)
  · simp only [hp,hu]
def hE:X04:=⟨.leaf,0,.leaf,.leaf⟩
def X3e (P:Program) (a:AH) (t:TypeId) (x:Value) (lo hi:Option Value):Option Value:=match x with
 | .string s=>X1Z P hE t (.string s) lo hi none
 | .slice none 0 0=>X1Z P hE t (.slice none 0 0) lo hi none
 | .slice (some ⟨b,i,none⟩) n c=>match P.underlying t with
  | some (.slice elem)=>match sz P elem,X0f lo 0,X0f hi n,a.blk b with
   | some e,some l,some u,some B=>match Nat.ble l u && Nat.ble u c && Nat.beq B.e e with
    | true=>some (.slice (some ⟨b,i+l*e,none⟩) (u - l) (c - l))
    | false=>none
   | _,_,_,_=>none
  | _=>none
 | _=>none
theorem X98 {P:Program} {h:X04} {a:AH} (A:Ab h a) {t:TypeId} {x v:Value} {lo hi:Option Value} (e:X3e P a t x lo hi=some v):X1Z P h t x lo hi none=some v:=by
 unfold X3e at e
 split at e
 · rw [← e];rfl
 · rw [← e];rfl
 ·
  rename_i b i n c
  unfold X1Z
  simp only
  split at e
  case h_2=>cases e
  rename_i elem hu
  rw [hu];simp only
  split at e
  case h_2=>cases e
  rename_i ez l u B h1 h2 h3 h4
  obtain⟨D,C,k1,k2,k3,k4,k5,k6⟩:=(A.blk b B h4).ex
  rw [h1,h2,h3,k1];simp only [k5]
  exact e
 · cases e
def X5b (P:Program) (a:AH) (t:TypeId) (x:Value) (lo:Option Value) (hv m:Value):Option Value:=match x with
 | .slice (some ⟨b,i,none⟩) _ c=>match P.underlying t with
  | some (.slice elem)=>match sz P elem,X0f lo 0,X0f (some hv) 0,X0f (some m) 0,a.blk b with
   | some e,some l,some u,some k,some B=>match Nat.ble l u && Nat.ble u k,Nat.ble k c && Nat.beq B.e e,Nat.beq k l with
    | true,true,false=>some (.slice (some ⟨b,i+l*e,none⟩) (u - l) (k - l))
    | _,_,_=>none
   | _,_,_,_,_=>none
  | _=>none
 | _=>none
theorem X8N {P:Program} {h:X04} {a:AH} (A:Ab h a) {t:TypeId} {x v hv m:Value} {lo:Option Value} (e:X5b P a t x lo hv m=some v):X1Z P h t x lo (some hv) (some m)=some v:=by
 unfold X5b at e
 split at e
 case h_2=>cases e
 rename_i b i n c
 show X4X P h t (.slice (some ⟨b,i,none⟩) n c) lo hv m=some v
 unfold X4X
 split at e
 case h_2=>cases e
 rename_i elem hu
 rw [hu];simp only
 split at e
 case h_2=>cases e
 rename_i ez l u k B h1 h2 h3 h4 h5
 obtain⟨D,C,k1,k2,k3,k4,k5,k6⟩:=(A.blk b B h5).ex
 rw [h1,h2,h3,h4];simp only
 split at e
 case h_2=>cases e
 rename_i g1 g2 g3
 rw [g1];simp only
 rw [k1];simp only [k5,g2,g3]
 exact e
def X7i (P:Program) (a:AH) (argTypes:Array TypeId) (x:Value):Option (Value×AH) :=
 match argTypes[0]? with
 | some t=>match P.underlying t with
  | some (.slice elem)=>match x with
   | .slice (some ⟨_,_,_⟩) 0 _=>some (.tuple #[],a)
   | .slice (some ⟨b,i,none⟩) n _=>match X1O P elem with
    | some z=>match Nat.blt 0 z.cells.size,a.wrL b i (X02 z.cells (n*z.cells.size))with
     | true,some a'=>some (.tuple #[],a')
     | _,_=>none
    | none=>none
   | _=>none
  | _=>none
 | none=>none
theorem X99 {P:Program} {h:X04} {a:AH} (A:Ab h a) (ats:Array TypeId) (x:Value):Sim (X6d P h ats x) (X7i P a ats x):=by
 intro v a' hz
 unfold X7i at hz
 unfold X6d
 split at hz
 case h_2=>cases hz
 rename_i t h0
 rw [h0];simp only
 split at hz
 case h_2=>cases hz
 rename_i elem hu
 rw [hu];simp only
 split at hz
 · cases hz;exact⟨h,rfl,A⟩
 ·
  rename_i b i n c hn
  split at hz
  case h_2=>cases hz
  rename_i z hzz
  split at hz
  case h_2=>cases hz
  rename_i a'' hb hw
  cases hz
  obtain⟨h',q1,q2⟩:=X7d A hw
  refine⟨h',?_,q2⟩
  split
  · rename_i e;cases e
  · rename_i e;cases e;exact(hn rfl).elim
  ·
   rename_i e;cases e
   rw [hzz];simp only [hb,q1]
  · rename_i e1 e2 e3;exact(e3 _ _ _ _ rfl).elim
 · cases hz
end
end Go.Vai
