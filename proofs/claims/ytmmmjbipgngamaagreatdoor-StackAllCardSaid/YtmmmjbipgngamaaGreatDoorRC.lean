/-
  What is proved here: single operations over plain data and a table of objects, as a function that the kernel can carry out, are what the machine's operations are (part RC). No conditions.
-/
import Derived.Test.YtmmmjbipgngamaaGreatDoorRA
set_option linter.unusedVariables false
set_option linter.unusedSimpArgs false
namespace Go.Vai
noncomputable section
def X5C (v:Value):D:=match v with
 | .int k z=>.int k z
 | .bool b=>.bool b
 | .string s=>.str s
 | v=>.lit v
def dOf (v:Value):D:=match v with
 | .agg cs=>.agg (cs.toList.map X5C)
 | v=>X5C v
def X4F:D→Option (List D)
 | .agg cs=>some cs
 | .tup _=>none
 | .clo _ _=>none
 | .any=>none
 | .cmp=>none
 | d=>some [d]
def tval:D→Option Value
 | .bool b=>some (.bool b)
 | .int k z=>some (.int k z)
 | .str s=>some (.string s)
 | .lit v=>some v
 | _=>none
theorem XAQ {v:Value} (h:X03 v=true):oneV v=true:=by
 cases v<;>first | rfl | cases h
section
variable {M:Nat→Prop} {g:Gh} {a:AH}
theorem X9f {v:Value} (h:X03 v=true):DL M g a (X5C v) v:=by
 cases v<;>first | exact CR.int | exact CR.bool | exact CR.str | exact CR.lit (XAQ h)
theorem X9g {v:Value} (h:X03 v=true):DR M g a (X5C v) v:=(X9f h).dr
theorem XBP:∀ {l:List Value},l.all X03=true→F2 (DL M g a) (l.map X5C) l:=by
 intro l
 induction l with
 | nil=>intro _;exact .nil
 | cons v l ih =>
  intro h
  simp only [List.all_cons,Bool.and_eq_true]at h
  exact .cons (X9f h.1) (ih h.2)
theorem XBQ {v:Value} (h:X01 v=true):DR M g a (dOf v) v:=by
 have key:(∃ cs,v=.agg cs)∨(dOf v=X5C v∧X01 v=X03 v):=by
  cases v<;>first | exact .inl ⟨_,rfl⟩ | exact .inr ⟨rfl,rfl⟩
 rcases key with⟨cs,rfl⟩ | ⟨e1,e2⟩
 · exact⟨cs.toList,by simp,XBP h⟩
 · rw [e1];rw [e2]at h;exact X9g h
theorem X8k {d:D} {ds:List D} (h:X4F d=some ds):d=.agg ds∨(ds=[d]∧X4F d=some [d]∧∀ (M:Nat→Prop) g a v,DR M g a d v=DL M g a d v):=by
 cases d<;>first | (cases h;done) | (cases h;exact .inl rfl) | (cases h;exact .inr ⟨rfl,rfl,fun _ _ _ _=>rfl⟩)
theorem DL.one {d:D} {v:Value} (h:DL M g a d v) (hd:X4F d=some [d]):oneV v=true:=by
 cases d with
 | any=>cases hd
 | cmp=>cases hd
 | loc i o=>obtain⟨b,k,h1,rfl⟩:=h;rfl
 | row j o n c =>
  rcases h with⟨_,_,_,rfl⟩ | ⟨b,k,_,rfl⟩<;>rfl
 | ep e n cs o=>obtain⟨b,i,rfl,_⟩:=h;rfl
 | bx cs o=>obtain⟨b,rfl,_⟩:=h;rfl
 | _=>cases h<;>first | rfl | assumption
theorem XAR {v:Value} (h:oneV v=true):X1x v=some [v]:=by
 cases v<;>first | rfl | cases h
theorem X3O {d:D} {v:Value} {ds:List D} (h:DR M g a d v) (hd:X4F d=some ds):∃ vs,X1x v=some vs∧F2 (DL M g a) ds vs:=by
 rcases X8k hd with rfl | ⟨rfl,h2,e⟩
 ·
  obtain⟨vs,rfl,h2⟩:=h
  exact⟨vs,by simp [X1x],h2⟩
 ·
  rw [e]at h
  exact⟨[v],XAR (h.one h2),.cons h .nil⟩
theorem X8l {d:D} {v u:Value} (h:DR M g a d v) (e:tval d=some u):v=u:=by
 cases d<;>first | (cases e;done) | (cases e;cases h;rfl)
end
def zd (E:X0m):Operand→Option D
 | .tmp t=>lk E t
 | .const v=>match X01 v with
  | true=>some (dOf v)
  | false=>none
 | .global _=>none
 | .func f=>some (.fn f)
def zdP (E:X0m):List (Nat×Operand)→Option (List (Nat×D))
 | []=>some []
 | (i,x)::xs=>match zd E x,zdP E xs with
  | some v,some vs=>some ((i,v)::vs)
  | _,_=>none
section
variable {C:Cx0} {σ:SD} {g:Gh} {s:Env} {a:AH}
theorem X0C (S:SR C σ g s a) {x:Operand} {d:D} (e:zd σ.E x=some d):∃ v,zev s x=some v∧DR (MM C.M g) g a d v:=by
 cases x with
 | tmp t=>exact⟨s t,rfl,S.env t d e⟩
 | const v =>
  simp only [zd]at e
  split at e
  · rename_i h;cases e;exact⟨v,by simp only [zev,h],XBQ h⟩
  · cases e
 | global g=>cases e
 | func f=>cases e;exact⟨_,rfl,CR.fn⟩
theorem XBR (S:SR C σ g s a):∀ {xs:List (Nat×Operand)} {ds:List (Nat×D)},zdP σ.E xs=some ds→∃ vs,XF0 s xs=some vs∧F2 (fun p q=>p.1=q.1∧DR (MM C.M g) g a p.2 q.2) ds vs:=by
 intro xs
 induction xs with
 | nil=>intro ds e;cases e;exact⟨[],rfl,.nil⟩
 | cons p xs ih =>
  obtain⟨i,x⟩:=p
  intro ds e
  simp only [zdP]at e
  split at e
  ·
   rename_i v us h1 h2
   cases e
   obtain⟨v',q1,q2⟩:=X0C S h1
   obtain⟨vs,q3,q4⟩:=ih h2
   exact⟨(i,v')::vs,by simp only [XF0,q1,q3],.cons ⟨rfl,q2⟩ q4⟩
  · cases e
end
def dInt (op:BinOp) (k:IntKind) (a b:Int):Option D:=match op with
 | .add=>some (.int k (X0X k (a+b)))
 | .sub=>some (.int k (X0X k (a - b)))
 | .mul=>some (.int k (X0X k (a*b)))
 | .eql=>some (.bool (decide (a=b)))
 | .neq=>some (.bool (decide (¬ a=b)))
 | .lss=>some (.bool (decide (a<b)))
 | .leq=>some (.bool (decide (a≤b)))
 | .gtr=>some (.bool (decide (b<a)))
 | .geq=>some (.bool (decide (b≤a)))
 | op=>match XA3 op (.int k a) (.int k b)with
  | some v=>some (X5C v)
  | none=>none
def X34 (o:Option Value):Option D:=match o with
 | some v=>match X03 v with
  | true=>some (X5C v)
  | false=>none
 | none=>none
def dBin (P:Program) (op:BinOp) (t:TypeId) (ox oy:Operand) (x y:D):Option D :=
 match x,y with
 | .int k a,.int k' b=>match kEq k k' with
  | true=>match dInt op k a b with
   | some (.int k z)=>some (.int k z)
   | some (.bool b)=>some (.bool b)
   | _=>none
  | false=>X34 (XA3 op (.int k a) (.int k' b))
 | .bool p,.bool q=>match X34 (X2b P op t ox oy (.bool true) (.bool true)),X34 (X2b P op t ox oy (.bool true) (.bool false)),X34 (X2b P op t ox oy (.bool false) (.bool true)),X34 (X2b P op t ox oy (.bool false) (.bool false))with
  | some (.bool a),some (.bool b),some (.bool c),some (.bool d)=>some (.bool (bif p then(bif q then a else b)else(bif q then c else d)))
  | _,_,_,_=>none
 | .loc _ _,.lit (.pointer none)=>match X5Z P t (.pointer (some ⟨0,0,none⟩)) (.pointer none)with
  | true=>match op with
   | .eql=>some (.bool false)
   | .neq=>some (.bool true)
   | _=>none
  | false=>none
 | .bx _ _,.lit (.pointer none)=>match X5Z P t (.pointer (some ⟨0,0,none⟩)) (.pointer none)with
  | true=>match op with
   | .eql=>some (.bool false)
   | .neq=>some (.bool true)
   | _=>none
  | false=>none
 | x,y=>match tval x,tval y with
  | some vx,some vy=>X34 (X2b P op t ox oy vx vy)
  | _,_=>none
theorem X35 {M:Nat→Prop} {g:Gh} {a:AH} {o:Option Value} {d:D} (h:X34 o=some d):∃ v,o=some v∧DR M g a d v:=by
 unfold X34 at h
 split at h
 case h_2=>cases h
 rename_i v
 split at h
 case h_2=>cases h
 rename_i hp
 cases h
 exact⟨v,rfl,X9g hp⟩
theorem XBS {P:Program} {op:BinOp} {t:TypeId} {ox oy:Operand} {k:IntKind} {x y:Int} {M:Nat→Prop} {g:Gh} {a:AH} {d:D} (h:dInt op k x y=some d) (hd:(∃ k z,d=.int k z)∨∃ b,d=.bool b) :
  ∃ v,X2b P op t ox oy (.int k x) (.int k y)=some v∧DR M g a d v:=by
 have gen:∀ op,(match XA3 op (.int k x) (.int k y)with | some v=>some (X5C v) | none=>none)=some d→∃ v,X2b P op t ox oy (.int k x) (.int k y)=some v∧DR M g a d v:=by
  intro op h
  split at h
  case h_2=>cases h
  rename_i v hv
  cases h
  refine⟨v,by unfold X2b;rw [hv],?_⟩
  rcases hd with⟨k,z,e⟩ | ⟨b,e⟩
  · cases v<;>simp [X5C]at e<;>(obtain⟨rfl,rfl⟩:=e;exact CR.int)
  · cases v<;>simp [X5C]at e<;>(subst e;exact CR.bool)
 cases op with
 | add=>cases h;exact⟨_,XF7 ..,CR.int⟩
 | sub=>cases h;exact⟨_,XF8 ..,CR.int⟩
 | mul=>cases h;exact⟨_,XF9 ..,CR.int⟩
 | eql=>cases h;exact⟨_,XFA ..,CR.bool⟩
 | neq=>cases h;exact⟨_,XFB ..,by rw [← decide_not];exact CR.bool⟩
 | lss=>cases h;exact⟨_,XFC ..,CR.bool⟩
 | leq=>cases h;exact⟨_,XFE ..,CR.bool⟩
 | gtr=>cases h;exact⟨_,XFD ..,CR.bool⟩
 | geq=>cases h;exact⟨_,XFF ..,CR.bool⟩
 | _=>exact gen _ h
theorem XFM {P:Program} {op:BinOp} {t:TypeId} {ox oy:Operand} {M:Nat→Prop} {g:Gh} {a:AH} {x y d:D} {vx vy:Value} (h:dBin P op t ox oy x y=some d) (rx:DR M g a x vx) (ry:DR M g a y vy) :
  ∃ v,X2b P op t ox oy vx vy=some v∧DR M g a d v:=by
 unfold dBin at h
 split at h
 ·
  rename_i k p k' q
  cases rx;cases ry
  split at h
  ·
   rename_i hk
   have:=XCH hk;subst this
   split at h
   · rename_i k' z hd;cases h;exact XBS hd (.inl ⟨_,_,rfl⟩)
   · rename_i b hd;cases h;exact XBS hd (.inr ⟨_,rfl⟩)
   · cases h
  ·
   obtain⟨v,h1,h2⟩:=X35 (M:=M) (g:=g) (a:=a) h
   exact⟨v,by unfold X2b;rw [h1],h2⟩
 ·
  rename_i p q
  cases rx;cases ry
  split at h
  ·
   rename_i a b c d h1 h2 h3 h4
   cases h
   have pb:∀ {o:Option Value} {x:Bool},X34 o=some (.bool x)→o=some (.bool x):=by
    intro o x e
    obtain⟨v,e1,e2⟩:=X35 (M:=fun _=>False) (g:=[]) (a:=⟨fun _=>none,fun _=>none,0⟩) e
    rw [e1];cases e2;rfl
   cases p<;>cases q
   · exact⟨_,pb h4,CR.bool⟩
   · exact⟨_,pb h3,CR.bool⟩
   · exact⟨_,pb h2,CR.bool⟩
   · exact⟨_,pb h1,CR.bool⟩
  · cases h
 ·
  obtain⟨b,k,_,rfl⟩:=rx
  cases ry
  split at h
  case h_2=>cases h
  rename_i hn
  have hn':∀ ad:Addr,X5Z P t (.pointer (some ad)) (.pointer none)=true:=fun ad=>hn
  split at h
  · cases h;exact⟨.bool false,by unfold X2b X4K;simp only [XA3,XFy,X01,X03,Bool.false_and,hn'],CR.bool⟩
  · cases h;exact⟨.bool true,by unfold X2b X4K;simp only [XA3,XFy,X01,X03,Bool.false_and,hn'],CR.bool⟩
  · cases h
 ·
  obtain⟨b,rfl,_⟩:=rx
  cases ry
  split at h
  case h_2=>cases h
  rename_i hn
  have hn':∀ ad:Addr,X5Z P t (.pointer (some ad)) (.pointer none)=true:=fun ad=>hn
  split at h
  · cases h;exact⟨.bool false,by unfold X2b X4K;simp only [XA3,XFy,X01,X03,Bool.false_and,hn'],CR.bool⟩
  · cases h;exact⟨.bool true,by unfold X2b X4K;simp only [XA3,XFy,X01,X03,Bool.false_and,hn'],CR.bool⟩
  · cases h
 ·
  split at h
  case h_2=>cases h
  rename_i ux uy h1 h2
  have:=X8l rx h1;subst this
  have:=X8l ry h2;subst this
  exact X35 h
def X4g (P:Program) (t:TypeId) (cs:List D) (o:Nat):Option D:=match X2u P t with
 | some true=>match sz P t with
  | some n=>match Nat.ble (o+n) cs.length with
   | true=>some (.agg ((cs.drop o).take n))
   | false=>none
  | none=>none
 | some false=>match cs[o]? with
  | some d=>match X4F d with
   | some [_]=>some d
   | _=>none
  | none=>none
 | none=>none
def dlay (l:List D):Nat→List D→List D
 | _,[]=>l
 | i,v::vs=>dlay (l.set i v) (i+1) vs
def XAS (place:Nat→Option (Nat×Nat)) (cells:List D):List (Nat×D)→Option (List D)
 | []=>some cells
 | (i,v)::rest =>
  match place i,X4F v with
  | some (off,size),some l=>match Nat.beq l.length size && Nat.ble (off+size) cells.length with
   | true=>XAS place (dlay cells off l) rest
   | false=>none
  | _,_=>none
def XBT (P:Program) (t:TypeId) (parts:List (Nat×D)):Option D :=
 match X1o P t with
 | some z=>match P.underlying t,X4F (dOf z)with
  | some (.struct fields),some zs=>match fields.toList.mapM (fun f=>(sz P f.type).map fun n=>(f.offset,n))with
   | some places=>match XAS (places.toArray[·]?) zs parts with
    | some l=>some (.agg l)
    | none=>none
   | none=>none
  | some (.array _ elem),some zs=>match sz P elem with
   | some size=>match XAS (fun i=>some (i*size,size)) zs parts with
    | some l=>some (.agg l)
    | none=>none
   | none=>none
  | _,_=>none
 | none=>none
section
variable {M:Nat→Prop} {g:Gh} {a:AH}
theorem XFN {ds:List D} {vs:List Value} (h:F2 (DL M g a) ds vs):∀ {l:List D} {l':List Value} (i:Nat),F2 (DL M g a) l l'→F2 (DL M g a) (dlay l i ds) (lay l' i vs):=by
 induction h with
 | nil=>intro l l' i k;exact k
 | cons h t ih=>intro l l' i k;exact ih (i+1) (k.set i _ _ h)
theorem X4r {place:Nat→Option (Nat×Nat)}:∀ {parts:List (Nat×D)} {parts':List (Nat×Value)} {cells l:List D} {cells':List Value},XAS place cells parts=some l →
  F2 (fun p q=>p.1=q.1∧DR M g a p.2 q.2) parts parts'→F2 (DL M g a) cells cells'→∃ l',X3l place cells' parts'=some l'∧F2 (DL M g a) l l':=by
 intro parts
 induction parts with
 | nil=>intro parts' cells l cells' h hp hc;cases h;cases hp;exact⟨cells',rfl,hc⟩
 | cons p parts ih =>
  intro parts' cells l cells' h hp hc
  cases hp with
  | cons h1 ht =>
   rename_i q m
   obtain⟨i,d⟩:=p
   obtain⟨i',v⟩:=q
   obtain⟨rfl,hr⟩:=h1
   simp only [XAS]at h
   split at h
   case h_2=>cases h
   rename_i off size ds hpl hds
   split at h
   case h_2=>cases h
   rename_i hb
   obtain⟨vs,q1,q2⟩:=X3O hr hds
   obtain⟨l',q3,q4⟩:=ih h ht (XFN q2 off hc)
   refine⟨l',?_,q4⟩
   simp only [X3l,hpl,q1]
   rw [← q2.length,← hc.length,hb]
   exact q3
theorem XDE {P:Program} {t:TypeId} {cs:List D} {vs:List Value} {o:Nat} {d:D} (h:X4g P t cs o=some d) (r:F2 (DL M g a) cs vs):∃ v,XAf P t vs.toArray o=some v∧DR M g a d v:=by
 unfold X4g at h
 unfold XAf
 split at h
 ·
  rename_i ha
  rw [ha];simp only
  split at h
  case h_2=>cases h
  rename_i n hn
  rw [hn];simp only
  split at h
  case h_2=>cases h
  cases h
  refine⟨_,rfl,(vs.drop o).take n,?_,(r.drop o).take n⟩
  simp [List.extract_eq_take_drop]
 ·
  rename_i ha
  rw [ha];simp only
  split at h
  case h_2=>cases h
  rename_i d' hd
  split at h
  case h_2=>cases h
  rename_i x hx
  cases h
  obtain⟨v,h1,h2⟩:=r.get o d hd
  exact⟨v,by simpa using h1,h2.dr⟩
 · cases h
theorem X1h {P:Program} {t:TypeId} {cs:List D} {b k e:Nat} {tt:Bool} {vs:List Value} {o:Nat} {d:D} (h:X4g P t cs o=some d) (hB:a.blk b=some ⟨vs,k,tt,e⟩) (r:F2 (DL M g a) cs vs) :
  ∃ v,X3t P a t (.pointer (some ⟨b,o,none⟩))=some v∧DR M g a d v:=by
 unfold X4g at h
 unfold X3t
 split at h
 ·
  rename_i ha
  simp only [ha]
  split at h
  case h_2=>cases h
  rename_i n hn
  rw [hn];simp only
  split at h
  case h_2=>cases h
  rename_i hb
  cases h
  have hb':o+n≤vs.length:=by rw [← r.length];simpa using hb
  rw [X6E hB hb']
  exact⟨_,rfl,_,rfl,(r.drop o).take n⟩
 ·
  rename_i ha
  simp only [ha]
  split at h
  case h_2=>cases h
  rename_i d' hd
  split at h
  case h_2=>cases h
  cases h
  obtain⟨v,h1,h2⟩:=r.get o d hd
  exact⟨v,by rw [XFI hB];exact h1,h2.dr⟩
 · cases h
theorem X6F {z:Value} {zs:List D} (h:X01 z=true) (hz:X4F (dOf z)=some zs):F2 (DL M g a) zs z.cells.toList:=by
 obtain⟨vs,h1,h2⟩:=X3O (XBQ h) hz
 have:vs=z.cells.toList:=by
  cases z<;>simp [X1x,Value.cells]at h1 ⊢<;>first | exact h1.symm | skip
 rw [← this];exact h2
theorem XBU {P:Program} {t:TypeId} {parts:List (Nat×D)} {parts':List (Nat×Value)} {d:D} (h:XBT P t parts=some d) (r:F2 (fun p q=>p.1=q.1∧DR M g a p.2 q.2) parts parts') :
  ∃ v,X6W P t parts'=some v∧DR M g a d v:=by
 unfold XBT at h
 unfold X6W
 split at h
 case h_2=>cases h
 rename_i z hz
 rw [hz];simp only
 have hp:=X0W hz
 split at h
 ·
  rename_i fields zs hu hzs
  rw [hu];simp only
  split at h
  case h_2=>cases h
  rename_i places hpl
  rw [hpl];simp only
  split at h
  case h_2=>cases h
  rename_i l hl
  cases h
  obtain⟨l',q1,q2⟩:=X4r hl r (X6F hp hzs)
  rw [q1]
  exact⟨_,rfl,l',rfl,q2⟩
 ·
  rename_i n elem zs hu hzs
  rw [hu];simp only
  split at h
  case h_2=>cases h
  rename_i size hs
  rw [hs];simp only
  split at h
  case h_2=>cases h
  rename_i l hl
  cases h
  obtain⟨l',q1,q2⟩:=X4r hl r (X6F hp hzs)
  rw [q1]
  exact⟨_,rfl,l',rfl,q2⟩
 · cases h
theorem X3x {P:Program} {t:TypeId} {b o b' o' f:Nat} {x:Option Nat} (h:X0Z P t (.pointer (some ⟨0,o,none⟩)) f=some (.pointer (some ⟨b',o',x⟩))):X0Z P t (.pointer (some ⟨b,o,none⟩)) f=some (.pointer (some ⟨b,o',none⟩)):=by
 unfold X0Z at h ⊢
 split at h
 case h_2=>cases h
 rename_i fields hu
 (try rw [hu]);(try simp only)
 split at h
 case h_2=>cases h
 rename_i fd hf
 (try rw [hf]);simp only at h ⊢
 split at h
 case h_2=>cases h
 rename_i hs
 (try rw [hs]);(try simp only)
 cases h;rfl
theorem X3d {P:Program} {t:TypeId} {b o b' o' f i:Nat} {x:Option Nat} (h:X0Z P t (.pointer (some ⟨0,o,none⟩)) f=some (.pointer (some ⟨b',o',x⟩))):X0Z P t (.pointer (some ⟨b,i+o,none⟩)) f=some (.pointer (some ⟨b,i+o',none⟩)):=by
 unfold X0Z at h ⊢
 split at h
 case h_2=>cases h
 rename_i fields hu
 (try rw [hu]);(try simp only)
 split at h
 case h_2=>cases h
 rename_i fd hf
 (try rw [hf]);simp only at h ⊢
 split at h
 case h_2=>cases h
 rename_i hs
 (try rw [hs]);(try simp only)
 cases h;rw [Nat.add_assoc]
end
def dLen (P:Program) (ats:Array TypeId) (d:D):Option D:=match ats[0]? with
 | some t=>match P.underlying t,d with
  | some (.slice _),.sl _ n _=>some (.int .i64 n)
  | some (.slice _),.row _ _ n _=>some (.int .i64 n)
  | some (.slice _),.lit (.slice _ n _)=>some (.int .i64 n)
  | some .string,.str s=>some (.int .i64 s.size)
  | some (.array n _),_=>some (.int .i64 n)
  | _,_=>none
 | none=>none
theorem XFO {P:Program} {ats:Array TypeId} {ty:TypeId} {d d':D} {v:Value} {M:Nat→Prop} {g:Gh} {a:AH} (h:dLen P ats d=some d') (r:DR M g a d v):∃ u,XGL P ats ty v=some u∧DR M g a d' u:=by
 unfold dLen at h
 unfold XGL
 split at h
 case h_2=>cases h
 rename_i t ht
 rw [ht];simp only
 split at h
 ·
  rename_i e e' n cs hu
  rw [hu];cases h
  rcases CR.sl_inv r with⟨rfl,_,rfl⟩ | ⟨b,i,c,rfl,_⟩<;>exact⟨_,rfl,CR.int⟩
 ·
  rename_i e j o n c hu
  rw [hu];cases h
  rcases r with⟨_,rfl,rfl,rfl⟩ | ⟨b,k,_,rfl⟩<;>exact⟨_,rfl,CR.int⟩
 ·
  rename_i e a n c hu
  rw [hu];cases h
  cases r
  exact⟨_,rfl,CR.int⟩
 ·
  rename_i s hu
  rw [hu];cases h
  cases r
  exact⟨_,rfl,CR.int⟩
 ·
  rename_i n e hu
  rw [hu];cases h
  exact⟨_,rfl,CR.int⟩
 · cases h
def X3y (L:List Ob):Option D→Option (D×List Ob)
 | some d=>some (d,L)
 | none=>none
theorem X0v {L L':List Ob} {o:Option D} {d:D} (h:X3y L o=some (d,L')):o=some d∧L'=L:=by
 cases o with
 | none=>cases h
 | some u=>cases h;exact⟨rfl,rfl⟩
def XAT (P:Program) (op:Op) (E:X0m) (L:List Ob):Option (D×List Ob) :=
 match op with
 | .move x=>X3y L (zd E x)
 | .assign x=>X3y L (zd E x)
 | .pick c x y=>match zd E c with
  | some (.bool true)=>X3y L (zd E x)
  | some (.bool false)=>X3y L (zd E y)
  | _=>none
 | .alloc t=>match X1o P t with
  | some z=>match X4F (dOf z)with
   | some ds=>some (.loc L.length 0,L++[.box ds])
   | none=>none
  | none=>none
 | .box _ x=>match zd E x with
  | some d=>match X4F d with
   | some ds=>some (.loc L.length 0,L++[.box ds])
   | none=>none
  | none=>none
 | .build t parts=>match zdP E parts.toList with
  | some ps=>X3y L (XBT P t ps)
  | none=>none
 | .load t x=>match zd E x with
  | some (.loc i o)=>match L[i]? with
   | some (.box cs)=>X3y L (X4g P t cs o)
   | some (.row _ _ cs)=>X3y L (X4g P t cs o)
   | _=>none
  | some (.bx cs o)=>X3y L (X4g P t cs o)
  | _=>none
 | .store t x y=>match zd E x,zd E y with
  | some (.loc i o),some d=>match L[i]?,X4F d,sz P t with
   | some (.box cs),some ds,some n=>match Nat.beq ds.length n && Nat.ble (o+n) cs.length with
    | true=>some (.any,L.set i (.box (cs.take o++ds++cs.drop (o+ds.length))))
    | false=>none
   | _,_,_=>none
  | _,_=>none
 | .nilCheck x=>match zd E x with
  | some (.loc i o)=>some (.loc i o,L)
  | some (.fn f)=>some (.fn f,L)
  | some (.bx cs o)=>some (.bx cs o,L)
  | _=>none
 | .fieldAddr t x f=>match zd E x with
  | some (.loc i o)=>match X0Z P t (.pointer (some ⟨0,o,none⟩)) f with
   | some (.pointer (some ⟨_,o',_⟩))=>some (.loc i o',L)
   | _=>none
  | some (.ep e n cs o)=>match X0Z P t (.pointer (some ⟨0,o,none⟩)) f with
   | some (.pointer (some ⟨_,o',_⟩))=>some (.ep e n cs o',L)
   | _=>none
  | some (.bx cs o)=>match X0Z P t (.pointer (some ⟨0,o,none⟩)) f with
   | some (.pointer (some ⟨_,o',_⟩))=>some (.bx cs o',L)
   | _=>none
  | _=>none
 | .field t x f=>match zd E x with
  | some (.agg cs)=>match P.underlying t with
   | some (.struct fields)=>match fields[f]? with
    | some fd=>X3y L (X4g P fd.type cs fd.offset)
    | none=>none
   | _=>none
  | _=>none
 | .binOp op t x y _=>match zd E x,zd E y with
  | some dx,some dy=>X3y L (dBin P op t x y dx dy)
  | _,_=>none
 | .unOp .not _ x=>match zd E x with
  | some (.bool b)=>some (.bool (!b),L)
  | _=>none
 | .unOp op _ x=>match zd E x with
  | some d=>match tval d with
   | some v=>match X01 v with
    | true=>X3y L (X34 (X1B P (Op.unary op v)))
    | false=>none
   | none=>none
  | none=>none
 | .makeFunc fn fi ca=>match fn,fi.toList,ca.toList with
  | .func f,[],[]=>some (.fn f,L)
  | _,_,_=>none
 | .convert src dst x=>match zd E x with
  | some (.int k n)=>X3y L (X34 (XAm P src dst (.int k n)))
  | _=>none
 | .extract x i=>match zd E x with
  | some (.tup ds)=>match ds[i]? with
   | some (.tup _)=>none
   | some d=>some (d,L)
   | none=>none
  | _=>none
 | .call ⟨.builtin .len,args,ats⟩=>match args.toList with
  | [x]=>match zd E x with
   | some d=>X3y L (dLen P ats d)
   | none=>none
  | _=>none
 | .call ⟨.builtin .min,args,_⟩=>match args.toList with
  | [x,y]=>match zd E x,zd E y with
   | some (.int k a),some (.int _ b)=>some (.int k (min a b),L)
   | _,_=>none
  | _=>none
 | .call ⟨.builtin .max,args,_⟩=>match args.toList with
  | [x,y]=>match zd E x,zd E y with
   | some (.int k a),some (.int _ b)=>some (.int k (max a b),L)
   | _,_=>none
  | _=>none
 | _=>none
theorem XGa {P:Program} {ats:Array TypeId} {ty:TypeId} {k k':IntKind} {a b:Int}:X1B P (Builtin.min_ ats ty #[.int k a,.int k' b])=some (.int k (min a b)):=by
 have:(if b<a then b else a)=min a b:=by rw [Int.min_def];split<;>split<;>omega
 rw [← this];rfl
theorem XGb {P:Program} {ats:Array TypeId} {ty:TypeId} {k k':IntKind} {a b:Int}:X1B P (Builtin.max_ ats ty #[.int k a,.int k' b])=some (.int k (max a b)):=by
 have:(if b>a then b else a)=max a b:=by rw [Int.max_def];split<;>split<;>omega
 rw [← this];rfl
def XBV (P:Program) (C:Cx0) (op:Op) (ty:TypeId) (σ:SD) (d:D) (L':List Ob):Prop :=
 ∀ g s a,SR C σ g s a→∃ v a' g',X0P P op ty s a=some (v,a')∧SR C ⟨σ.E,L'⟩ g' s a'∧DR (MM C.M g') g' a' d v
theorem XBV.plain {P:Program} {C:Cx0} {op:Op} {ty:TypeId} {σ:SD} {d:D} (h:∀ g s a,SR C σ g s a→∃ v,X0P P op ty s a=some (v,a)∧DR (MM C.M g) g a d v):XBV P C op ty σ d σ.L:=by
 intro g s a S
 obtain⟨v,h1,h2⟩:=h g s a S
 exact⟨v,a,g,h1,S,h2⟩
theorem X0E {a:AH} {o:Option Value} {v:Value} (h:o=some v):X2N a o=some (v,a):=by rw [h];rfl
theorem SR.box {C:Cx0} {σ:SD} {g:Gh} {s:Env} {a:AH} (S:SR C σ g s a) {ds:List D} {vs:List Value} (h:F2 (DL (MM C.M g) g a) ds vs) :
  SR C ⟨σ.E,σ.L++[.box ds]⟩ (g++[some (a.next,a.next)]) s (a.new vs 0)∧DR (MM C.M (g++[some (a.next,a.next)])) (g++[some (a.next,a.next)]) (a.new vs 0) (.loc σ.L.length 0) (.pointer (some ⟨a.next,0,none⟩)):=by
 have hlast:(g++[some (a.next,a.next)])[σ.L.length]?=some (some (a.next,a.next)):=by rw [← S.len];simp
 refine⟨S.newObj ⟨a.next,a.next,vs,rfl,X4q ..,?_⟩,⟨a.next,a.next,hlast,rfl⟩⟩
 refine h.mono fun x y r=>DL.mono (X1C.new S.ok vs 0) (fun _ f=>f.elim) (S.mm (g':=g++[some (a.next,a.next)]) (a':=a.new vs 0) ?_) (Gh.On.app _ _) r
 intro k hk
 rw [X6q]at hk
 rcases List.mem_append.1 hk with h | h
 · exact .inl h
 · simp at h;subst h;exact .inr ⟨Nat.le_refl _,Nat.lt_succ_self _⟩
theorem F2.over {M:Nat→Prop} {g:Gh} {a:AH} {cs ds:List D} {vs us:List Value} (h:F2 (DL M g a) cs vs) (k:F2 (DL M g a) ds us) (o:Nat):F2 (DL M g a) (cs.take o++ds++cs.drop (o+ds.length)) (over vs o us):=by
 unfold Vai.over
 rw [k.length]
 exact((h.take o).append k).append (h.drop _)
theorem XDF {P:Program} {C:Cx0} {op:Op} {ty:TypeId} {σ:SD} {d:D} {L':List Ob} (h:XAT P op σ.E σ.L=some (d,L')):XBV P C op ty σ d L':=by
 unfold XAT at h
 split at h
 ·
  replace h:=X0v h;obtain⟨h,rfl⟩:=h
  exact .plain fun g s a S=>by obtain⟨v,q1,q2⟩:=X0C S h;exact⟨v,by simp only [X0P];exact X0E q1,q2⟩
 ·
  replace h:=X0v h;obtain⟨h,rfl⟩:=h
  exact .plain fun g s a S=>by obtain⟨v,q1,q2⟩:=X0C S h;exact⟨v,by simp only [X0P];exact X0E q1,q2⟩
 ·
  split at h
  ·
   rename_i hc
   replace h:=X0v h;obtain⟨h,rfl⟩:=h
   refine .plain fun g s a S=>?_
   obtain⟨v,q1,q2⟩:=X0C S h
   obtain⟨u,p1,p2⟩:=X0C S hc
   cases p2
   exact⟨v,by simp only [X0P,p1];exact X0E q1,q2⟩
  ·
   rename_i hc
   replace h:=X0v h;obtain⟨h,rfl⟩:=h
   refine .plain fun g s a S=>?_
   obtain⟨v,q1,q2⟩:=X0C S h
   obtain⟨u,p1,p2⟩:=X0C S hc
   cases p2
   exact⟨v,by simp only [X0P,p1];exact X0E q1,q2⟩
  · cases h
 ·
  split at h
  case h_2=>cases h
  rename_i z hz
  split at h
  case h_2=>cases h
  rename_i ds hds
  cases h
  intro g s a S
  obtain⟨vs,q1,q2⟩:=X3O (M:=MM C.M g) (g:=g) (a:=a) (XBQ (X0W hz)) hds
  obtain⟨r1,r2⟩:=S.box q2
  exact⟨_,_,_,by simp only [X0P,X9T,hz,XGH,q1],r1,r2⟩
 ·
  split at h
  case h_2=>cases h
  rename_i d' hd
  split at h
  case h_2=>cases h
  rename_i ds hds
  cases h
  intro g s a S
  obtain⟨v,p1,p2⟩:=X0C S hd
  obtain⟨vs,q1,q2⟩:=X3O p2 hds
  obtain⟨r1,r2⟩:=S.box q2
  exact⟨_,_,_,by simp only [X0P,p1,XGH,q1],r1,r2⟩
 ·
  split at h
  case h_2=>cases h
  rename_i ps hps
  replace h:=X0v h;obtain⟨h,rfl⟩:=h
  refine .plain fun g s a S=>?_
  obtain⟨vs,q1,q2⟩:=XBR S hps
  obtain⟨v,r1,r2⟩:=XBU h q2
  exact⟨v,by simp only [X0P,q1];exact X0E r1,r2⟩
 ·
  split at h
  rotate_left
  ·
   rename_i cs o hx
   replace h:=X0v h;obtain⟨h,rfl⟩:=h
   refine .plain fun g s a S=>?_
   obtain⟨v,q1,b,rfl,q2⟩:=X0C S hx
   obtain⟨vs,k,r1,_,_,r2⟩:=q2.ex
   obtain⟨v,t1,t2⟩:=X1h (g:=g) h r1 (r2.mono fun _ _ r=>r.dl)
   exact⟨v,by simp only [X0P,q1];exact X0E t1,t2⟩
  · cases h
  rename_i i o hx
  split at h
  ·
   rename_i cs hL
   replace h:=X0v h;obtain⟨h,rfl⟩:=h
   refine .plain fun g s a S=>?_
   obtain⟨v,q1,b,k,q2,rfl⟩:=X0C S hx
   obtain⟨b',k',vs,e,r2,r3⟩:=S.obj i _ _ q2 hL
   cases e
   obtain⟨v,t1,t2⟩:=X1h h r2 r3
   exact⟨v,by simp only [X0P,q1];exact X0E t1,t2⟩
  ·
   rename_i e' n' cs hL
   replace h:=X0v h;obtain⟨h,rfl⟩:=h
   refine .plain fun g s a S=>?_
   obtain⟨v,q1,b,k,q2,rfl⟩:=X0C S hx
   obtain⟨_,⟨e,_⟩ | ⟨b',k',vs,e,r2,r3⟩⟩:=S.obj i _ _ q2 hL
   · cases e
   cases e
   obtain⟨v,t1,t2⟩:=X1h (g:=g) h r2 (r3.mono fun _ _ r=>r.dl)
   exact⟨v,by simp only [X0P,q1];exact X0E t1,t2⟩
  · cases h
 ·
  split at h
  case h_2=>cases h
  rename_i i o dy hx hy
  split at h
  case h_2=>cases h
  rename_i cs ds n hL hds hs
  split at h
  case h_2=>cases h
  rename_i hb
  cases h
  simp only [Bool.and_eq_true,Nat.beq_eq,Nat.ble_eq]at hb
  intro g s a S
  obtain⟨v,q1,b,k,q2,rfl⟩:=X0C S hx
  obtain⟨u,p1,p2⟩:=X0C S hy
  obtain⟨us,p3,p4⟩:=X3O p2 hds
  obtain⟨b',k',vs,e,r2,r3⟩:=S.obj i _ _ q2 hL
  cases e
  have hlen:us.length=n:=by rw [← p4.length];exact hb.1
  have hle:o+us.length≤vs.length:=by rw [hlen,← r3.length];exact hb.2
  refine⟨undef,_,g,?_,S.write q2 hL r2 (vs':=over vs o us) ⟨b,k,_,rfl,X2V,?_⟩ (fun _ _=>⟨_,rfl⟩),trivial⟩
  ·
   simp only [X0P,q1,p1,X7T,p3,hs,hlen,Nat.beq_refl]
   unfold AH.wrL
   rw [r2]
   simp only [hle,and_self,if_true]
  ·
   have K:=X25 (B':=⟨over vs o us,k,true,0⟩) r2 rfl
   refine(F2.over r3 p4 o).mono fun x y r=>DL.mono K (fun x q=>?_) (fun _ _ m=>m) (Gh.On.refl _) r
   subst q
   exact .inr (Gh.mem_cls.2 ⟨i,b,q2⟩)
 ·
  split at h
  ·
   rename_i i o hx
   cases h
   refine .plain fun g s a S=>?_
   obtain⟨v,q1,b,k,q2,rfl⟩:=X0C S hx
   exact⟨_,by simp only [X0P,q1],b,k,q2,rfl⟩
  ·
   rename_i f hx
   cases h
   refine .plain fun g s a S=>?_
   obtain⟨v,q1,q2⟩:=X0C S hx
   cases q2
   exact⟨_,by simp only [X0P,q1],CR.fn⟩
  ·
   rename_i cs o hx
   cases h
   refine .plain fun g s a S=>?_
   obtain⟨v,q1,b,rfl,q2⟩:=X0C S hx
   exact⟨_,by simp only [X0P,q1],b,rfl,q2⟩
  · cases h
 ·
  split at h
  ·
   rename_i i o hx
   split at h
   case h_2=>cases h
   rename_i b' o' x' ha
   cases h
   refine .plain fun g s a S=>?_
   obtain⟨v,q1,b,k,q2,rfl⟩:=X0C S hx
   exact⟨_,by simp only [X0P,q1];exact X0E (X3x ha),b,k,q2,rfl⟩
  ·
   rename_i e n cs o hx
   split at h
   case h_2=>cases h
   rename_i b' o' x' ha
   cases h
   refine .plain fun g s a S=>?_
   obtain⟨v,q1,b,i,rfl,q3⟩:=X0C S hx
   exact⟨_,by simp only [X0P,q1];exact X0E (X3d ha),b,i,rfl,q3⟩
  ·
   rename_i cs o hx
   split at h
   case h_2=>cases h
   rename_i b' o' x' ha
   cases h
   refine .plain fun g s a S=>?_
   obtain⟨v,q1,b,rfl,q3⟩:=X0C S hx
   exact⟨_,by simp only [X0P,q1];exact X0E (X3x ha),b,rfl,q3⟩
  · cases h
 ·
  split at h
  case h_2=>cases h
  rename_i cs hx
  split at h
  case h_2=>cases h
  rename_i fields hu
  split at h
  case h_2=>cases h
  rename_i fd hf
  replace h:=X0v h;obtain⟨h,rfl⟩:=h
  refine .plain fun g s a S=>?_
  obtain⟨v,q1,vs,rfl,q2⟩:=X0C S hx
  obtain⟨u,r1,r2⟩:=XDE h q2
  exact⟨u,by simp only [X0P,q1,X6P,hu,hf];exact X0E r1,r2⟩
 ·
  split at h
  case h_2=>cases h
  rename_i dx dy hx hy
  replace h:=X0v h;obtain⟨h,rfl⟩:=h
  refine .plain fun g s a S=>?_
  obtain⟨vx,q1,q2⟩:=X0C S hx
  obtain⟨vy,p1,p2⟩:=X0C S hy
  obtain⟨v,r1,r2⟩:=XFM h q2 p2
  exact⟨v,by simp only [X0P,q1,p1];exact X0E r1,r2⟩
 ·
  split at h
  case h_2=>cases h
  rename_i b hx
  cases h
  refine .plain fun g s a S=>?_
  obtain⟨v,q1,q2⟩:=X0C S hx
  cases q2
  exact⟨.bool (!b),by simp only [X0P,q1,X01,X03];exact X0E (XGY b),CR.bool⟩
 ·
  split at h
  case h_2=>cases h
  rename_i dx hx
  split at h
  case h_2=>cases h
  rename_i v0 hv
  split at h
  case h_2=>cases h
  rename_i hp
  replace h:=X0v h;obtain⟨h,rfl⟩:=h
  refine .plain fun g s a S=>?_
  obtain⟨v,q1,q2⟩:=X0C S hx
  have:=X8l q2 hv;subst this
  obtain⟨u,r1,r2⟩:=X35 (M:=MM C.M g) (g:=g) (a:=a) h
  exact⟨u,by simp only [X0P,q1,hp];exact X0E r1,r2⟩
 ·
  split at h
  case h_2=>cases h
  rename_i f h1 h2
  cases h
  refine .plain fun g s a S=>⟨_,?_,CR.fn⟩
  simp only [X0P,h1,h2,X3i,List.all_nil,isFn,Bool.and_self]
 ·
  split at h
  case h_2=>cases h
  rename_i k n hx
  replace h:=X0v h;obtain⟨h,rfl⟩:=h
  refine .plain fun g s a S=>?_
  obtain⟨v,q1,q2⟩:=X0C S hx
  cases q2
  obtain⟨u,r1,r2⟩:=X35 (M:=MM C.M g) (g:=g) (a:=a) h
  exact⟨u,by simp only [X0P,q1,X3u,r1],r2⟩
 ·
  split at h
  case h_2=>cases h
  rename_i ds hx
  split at h
  · cases h
  ·
   rename_i d' hnt hd
   cases h
   refine .plain fun g s a S=>?_
   obtain⟨v,q1,vs,rfl,q2⟩:=X0C S hx
   obtain⟨u,r1,r2⟩:=q2.get _ _ hd
   exact⟨u,by simp only [X0P,q1,X43];exact X0E (by simpa using r1),r2.dr⟩
  · cases h
 ·
  split at h
  case h_2=>cases h
  rename_i x hx
  split at h
  case h_2=>cases h
  rename_i dx hd
  replace h:=X0v h;obtain⟨h,rfl⟩:=h
  refine .plain fun g s a S=>?_
  obtain⟨v,q1,q2⟩:=X0C S hd
  obtain⟨u,r1,r2⟩:=XFO (ty:=ty) h q2
  exact⟨u,by simp only [X0P,hx,X3i,q1];exact X0E r1,r2⟩
 ·
  split at h
  case h_2=>cases h
  rename_i x y hx
  split at h
  case h_2=>cases h
  rename_i k a k' b h1 h2
  cases h
  refine .plain fun g s a S=>?_
  obtain⟨v,q1,q2⟩:=X0C S h1
  obtain⟨u,p1,p2⟩:=X0C S h2
  cases q2;cases p2
  exact⟨_,by simp only [X0P,hx,X3i,q1,p1,List.all_cons,List.all_nil,X01,X03,Bool.and_self];exact X0E XGa,CR.int⟩
 ·
  split at h
  case h_2=>cases h
  rename_i x y hx
  split at h
  case h_2=>cases h
  rename_i k a k' b h1 h2
  cases h
  refine .plain fun g s a S=>?_
  obtain⟨v,q1,q2⟩:=X0C S h1
  obtain⟨u,p1,p2⟩:=X0C S h2
  cases q2;cases p2
  exact⟨_,by simp only [X0P,hx,X3i,q1,p1,List.all_cons,List.all_nil,X01,X03,Bool.and_self];exact X0E XGb,CR.int⟩
 · cases h
end
end Go.Vai
