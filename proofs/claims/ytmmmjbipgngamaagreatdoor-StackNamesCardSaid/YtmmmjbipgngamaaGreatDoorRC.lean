/-
  What is proved here: single operations over plain data and a table of objects, as a function that the kernel can carry out, are what the machine's operations are (part RC). No conditions.
-/
import Derived.Test.YtmmmjbipgngamaaGreatDoorRA
set_option linter.unusedVariables false
set_option linter.unusedSimpArgs false
namespace Go.Vai
noncomputable section
def X4E (v:Value):D:=match v with
 | .int k z=>.int k z
 | .bool b=>.bool b
 | .string s=>.str s
 | v=>.lit v
def dOf (v:Value):D:=match v with
 | .agg cs=>.agg (cs.toList.map X4E)
 | v=>X4E v
def X3n:D→Option (List D)
 | .agg cs=>some cs
 | .tup _=>none
 | .clo _ _=>none
 | .any=>none
 | .cmp=>none
 | d=>some [d]
def tval:D→Option Value
 | .bool b=>some (.bool b)
 | .int k z=>some (.int k z)
 | .str s=>some (.string s)
 | .lit v=>some v
 | _=>none
theorem X8P {v:Value} (h:X03 v=true):oneV v=true:=by
 cases v<;>first | rfl | cases h
section
variable {M:Nat→Prop} {g:Gh} {a:AH}
theorem X7p {v:Value} (h:X03 v=true):DL M g a (X4E v) v:=by
 cases v<;>first | exact CR.int | exact CR.bool | exact CR.str | exact CR.lit (X8P h)
theorem X7q {v:Value} (h:X03 v=true):DR M g a (X4E v) v:=(X7p h).dr
theorem X9G:∀ {l:List Value},l.all X03=true→F2 (DL M g a) (l.map X4E) l:=by
 intro l
 induction l with
 | nil=>intro _;exact .nil
 | cons v l ih =>
  intro h
  simp only [List.all_cons,Bool.and_eq_true]at h
  exact .cons (X7p h.1) (ih h.2)
theorem X9H {v:Value} (h:X01 v=true):DR M g a (dOf v) v:=by
 have key:(∃ cs,v=.agg cs)∨(dOf v=X4E v∧X01 v=X03 v):=by
  cases v<;>first | exact .inl ⟨_,rfl⟩ | exact .inr ⟨rfl,rfl⟩
 rcases key with⟨cs,rfl⟩ | ⟨e1,e2⟩
 · exact⟨cs.toList,by simp,X9G h⟩
 · rw [e1];rw [e2]at h;exact X7q h
theorem X79 {d:D} {ds:List D} (h:X3n d=some ds):d=.agg ds∨(ds=[d]∧X3n d=some [d]∧∀ (M:Nat→Prop) g a v,DR M g a d v=DL M g a d v):=by
 cases d<;>first | (cases h;done) | (cases h;exact .inl rfl) | (cases h;exact .inr ⟨rfl,rfl,fun _ _ _ _=>rfl⟩)
theorem DL.one {d:D} {v:Value} (h:DL M g a d v) (hd:X3n d=some [d]):oneV v=true:=by
 cases d with
 | any=>cases hd
 | cmp=>cases hd
 | loc i o=>obtain⟨b,k,h1,rfl⟩:=h;rfl
 | row j o n c =>
  rcases h with⟨_,_,_,rfl⟩ | ⟨b,k,_,rfl⟩<;>rfl
 | ep e n cs o=>obtain⟨b,i,rfl,_⟩:=h;rfl
 | bx cs o=>obtain⟨b,rfl,_⟩:=h;rfl
 | _=>cases h<;>first | rfl | assumption
theorem X8Q {v:Value} (h:oneV v=true):X1V v=some [v]:=by
 cases v<;>first | rfl | cases h
theorem X39 {d:D} {v:Value} {ds:List D} (h:DR M g a d v) (hd:X3n d=some ds):∃ vs,X1V v=some vs∧F2 (DL M g a) ds vs:=by
 rcases X79 hd with rfl | ⟨rfl,h2,e⟩
 ·
  obtain⟨vs,rfl,h2⟩:=h
  exact⟨vs,by simp [X1V],h2⟩
 ·
  rw [e]at h
  exact⟨[v],X8Q (h.one h2),.cons h .nil⟩
theorem X7A {d:D} {v u:Value} (h:DR M g a d v) (e:tval d=some u):v=u:=by
 cases d<;>first | (cases e;done) | (cases e;cases h;rfl)
end
def zd (E:X0j):Operand→Option D
 | .tmp t=>lk E t
 | .const v=>match X01 v with
  | true=>some (dOf v)
  | false=>none
 | .global _=>none
 | .func f=>some (.fn f)
def zdP (E:X0j):List (Nat×Operand)→Option (List (Nat×D))
 | []=>some []
 | (i,x)::xs=>match zd E x,zdP E xs with
  | some v,some vs=>some ((i,v)::vs)
  | _,_=>none
section
variable {C:Cx0} {σ:SD} {g:Gh} {s:Env} {a:AH}
theorem X09 (S:SR C σ g s a) {x:Operand} {d:D} (e:zd σ.E x=some d):∃ v,zev s x=some v∧DR (MM C.M g) g a d v:=by
 cases x with
 | tmp t=>exact⟨s t,rfl,S.env t d e⟩
 | const v =>
  simp only [zd]at e
  split at e
  · rename_i h;cases e;exact⟨v,by simp only [zev,h],X9H h⟩
  · cases e
 | global g=>cases e
 | func f=>cases e;exact⟨_,rfl,CR.fn⟩
theorem X9I (S:SR C σ g s a):∀ {xs:List (Nat×Operand)} {ds:List (Nat×D)},zdP σ.E xs=some ds→∃ vs,XC4 s xs=some vs∧F2 (fun p q=>p.1=q.1∧DR (MM C.M g) g a p.2 q.2) ds vs:=by
 intro xs
 induction xs with
 | nil=>intro ds e;cases e;exact⟨[],rfl,.nil⟩
 | cons p xs ih =>
  obtain⟨i,x⟩:=p
  intro ds e
  simp only [zdP]at e
  split at e
  ·
   rename_i v us h1 h2
   cases e
   obtain⟨v',q1,q2⟩:=X09 S h1
   obtain⟨vs,q3,q4⟩:=ih h2
   exact⟨(i,v')::vs,by simp only [XC4,q1,q3],.cons ⟨rfl,q2⟩ q4⟩
  · cases e
end
def dInt (op:BinOp) (k:IntKind) (a b:Int):Option D:=match op with
 | .add=>some (.int k (X0h k (a+b)))
 | .sub=>some (.int k (X0h k (a - b)))
 | .mul=>some (.int k (X0h k (a*b)))
 | .eql=>some (.bool (decide (a=b)))
 | .neq=>some (.bool (decide (¬ a=b)))
 | .lss=>some (.bool (decide (a<b)))
 | .leq=>some (.bool (decide (a≤b)))
 | .gtr=>some (.bool (decide (b<a)))
 | .geq=>some (.bool (decide (b≤a)))
 | op=>match X70 op (.int k a) (.int k b)with
  | some v=>some (X4E v)
  | none=>none
def X2L (o:Option Value):Option D:=match o with
 | some v=>match X03 v with
  | true=>some (X4E v)
  | false=>none
 | none=>none
def dBin (P:Program) (op:BinOp) (t:TypeId) (ox oy:Operand) (x y:D):Option D :=
 match x,y with
 | .int k a,.int k' b=>match kEq k k' with
  | true=>match dInt op k a b with
   | some (.int k z)=>some (.int k z)
   | some (.bool b)=>some (.bool b)
   | _=>none
  | false=>X2L (X70 op (.int k a) (.int k' b))
 | .bool p,.bool q=>match X2L (X1q P op t ox oy (.bool true) (.bool true)),X2L (X1q P op t ox oy (.bool true) (.bool false)),X2L (X1q P op t ox oy (.bool false) (.bool true)),X2L (X1q P op t ox oy (.bool false) (.bool false))with
  | some (.bool a),some (.bool b),some (.bool c),some (.bool d)=>some (.bool (bif p then(bif q then a else b)else(bif q then c else d)))
  | _,_,_,_=>none
 | .loc _ _,.lit (.pointer none)=>match X4Z P t (.pointer (some ⟨0,0,none⟩)) (.pointer none)with
  | true=>match op with
   | .eql=>some (.bool false)
   | .neq=>some (.bool true)
   | _=>none
  | false=>none
 | .bx _ _,.lit (.pointer none)=>match X4Z P t (.pointer (some ⟨0,0,none⟩)) (.pointer none)with
  | true=>match op with
   | .eql=>some (.bool false)
   | .neq=>some (.bool true)
   | _=>none
  | false=>none
 | x,y=>match tval x,tval y with
  | some vx,some vy=>X2L (X1q P op t ox oy vx vy)
  | _,_=>none
theorem X2M {M:Nat→Prop} {g:Gh} {a:AH} {o:Option Value} {d:D} (h:X2L o=some d):∃ v,o=some v∧DR M g a d v:=by
 unfold X2L at h
 split at h
 case h_2=>cases h
 rename_i v
 split at h
 case h_2=>cases h
 rename_i hp
 cases h
 exact⟨v,rfl,X7q hp⟩
theorem X9J {P:Program} {op:BinOp} {t:TypeId} {ox oy:Operand} {k:IntKind} {x y:Int} {M:Nat→Prop} {g:Gh} {a:AH} {d:D} (h:dInt op k x y=some d) (hd:(∃ k z,d=.int k z)∨∃ b,d=.bool b) :
  ∃ v,X1q P op t ox oy (.int k x) (.int k y)=some v∧DR M g a d v:=by
 have gen:∀ op,(match X70 op (.int k x) (.int k y)with | some v=>some (X4E v) | none=>none)=some d→∃ v,X1q P op t ox oy (.int k x) (.int k y)=some v∧DR M g a d v:=by
  intro op h
  split at h
  case h_2=>cases h
  rename_i v hv
  cases h
  refine⟨v,by unfold X1q;rw [hv],?_⟩
  rcases hd with⟨k,z,e⟩ | ⟨b,e⟩
  · cases v<;>simp [X4E]at e<;>(obtain⟨rfl,rfl⟩:=e;exact CR.int)
  · cases v<;>simp [X4E]at e<;>(subst e;exact CR.bool)
 cases op with
 | add=>cases h;exact⟨_,XCD ..,CR.int⟩
 | sub=>cases h;exact⟨_,XCE ..,CR.int⟩
 | mul=>cases h;exact⟨_,XCF ..,CR.int⟩
 | eql=>cases h;exact⟨_,XCG ..,CR.bool⟩
 | neq=>cases h;exact⟨_,XCH ..,by rw [← decide_not];exact CR.bool⟩
 | lss=>cases h;exact⟨_,XCI ..,CR.bool⟩
 | leq=>cases h;exact⟨_,XCK ..,CR.bool⟩
 | gtr=>cases h;exact⟨_,XCJ ..,CR.bool⟩
 | geq=>cases h;exact⟨_,XCL ..,CR.bool⟩
 | _=>exact gen _ h
theorem XCP {P:Program} {op:BinOp} {t:TypeId} {ox oy:Operand} {M:Nat→Prop} {g:Gh} {a:AH} {x y d:D} {vx vy:Value} (h:dBin P op t ox oy x y=some d) (rx:DR M g a x vx) (ry:DR M g a y vy) :
  ∃ v,X1q P op t ox oy vx vy=some v∧DR M g a d v:=by
 unfold dBin at h
 split at h
 ·
  rename_i k p k' q
  cases rx;cases ry
  split at h
  ·
   rename_i hk
   have:=X9w hk;subst this
   split at h
   · rename_i k' z hd;cases h;exact X9J hd (.inl ⟨_,_,rfl⟩)
   · rename_i b hd;cases h;exact X9J hd (.inr ⟨_,rfl⟩)
   · cases h
  ·
   obtain⟨v,h1,h2⟩:=X2M (M:=M) (g:=g) (a:=a) h
   exact⟨v,by unfold X1q;rw [h1],h2⟩
 ·
  rename_i p q
  cases rx;cases ry
  split at h
  ·
   rename_i a b c d h1 h2 h3 h4
   cases h
   have pb:∀ {o:Option Value} {x:Bool},X2L o=some (.bool x)→o=some (.bool x):=by
    intro o x e
    obtain⟨v,e1,e2⟩:=X2M (M:=fun _=>False) (g:=[]) (a:=⟨fun _=>none,fun _=>none,0⟩) e
    rw [e1];cases e2;rfl
   cases p<;>cases q
   · exact⟨_,pb h4,CR.bool⟩
   · exact⟨_,pb h3,CR.bool⟩
   · exact⟨_,pb h2,CR.bool⟩
   · exact⟨_,pb h1,CR.bool⟩
  · cases h
 ·
  obtain⟨b,k,_,rfl⟩:=rx
  cases ry
  split at h
  case h_2=>cases h
  rename_i hn
  have hn':∀ ad:Addr,X4Z P t (.pointer (some ad)) (.pointer none)=true:=fun ad=>hn
  split at h
  · cases h;exact⟨.bool false,by unfold X1q X2y;simp only [X70,XCx,X01,X03,Bool.false_and,hn'],CR.bool⟩
  · cases h;exact⟨.bool true,by unfold X1q X2y;simp only [X70,XCx,X01,X03,Bool.false_and,hn'],CR.bool⟩
  · cases h
 ·
  obtain⟨b,rfl,_⟩:=rx
  cases ry
  split at h
  case h_2=>cases h
  rename_i hn
  have hn':∀ ad:Addr,X4Z P t (.pointer (some ad)) (.pointer none)=true:=fun ad=>hn
  split at h
  · cases h;exact⟨.bool false,by unfold X1q X2y;simp only [X70,XCx,X01,X03,Bool.false_and,hn'],CR.bool⟩
  · cases h;exact⟨.bool true,by unfold X1q X2y;simp only [X70,XCx,X01,X03,Bool.false_and,hn'],CR.bool⟩
  · cases h
 ·
  split at h
  case h_2=>cases h
  rename_i ux uy h1 h2
  have:=X7A rx h1;subst this
  have:=X7A ry h2;subst this
  exact X2M h
def X4F (P:Program) (t:TypeId) (cs:List D) (o:Nat):Option D:=match X2o P t with
 | some true=>match sz P t with
  | some n=>match Nat.ble (o+n) cs.length with
   | true=>some (.agg ((cs.drop o).take n))
   | false=>none
  | none=>none
 | some false=>match cs[o]? with
  | some d=>match X3n d with
   | some [_]=>some d
   | _=>none
  | none=>none
 | none=>none
def dlay (l:List D):Nat→List D→List D
 | _,[]=>l
 | i,v::vs=>dlay (l.set i v) (i+1) vs
def X8R (place:Nat→Option (Nat×Nat)) (cells:List D):List (Nat×D)→Option (List D)
 | []=>some cells
 | (i,v)::rest =>
  match place i,X3n v with
  | some (off,size),some l=>match Nat.beq l.length size && Nat.ble (off+size) cells.length with
   | true=>X8R place (dlay cells off l) rest
   | false=>none
  | _,_=>none
def X9K (P:Program) (t:TypeId) (parts:List (Nat×D)):Option D :=
 match X1O P t with
 | some z=>match P.underlying t,X3n (dOf z)with
  | some (.struct fields),some zs=>match fields.toList.mapM (fun f=>(sz P f.type).map fun n=>(f.offset,n))with
   | some places=>match X8R (places.toArray[·]?) zs parts with
    | some l=>some (.agg l)
    | none=>none
   | none=>none
  | some (.array _ elem),some zs=>match sz P elem with
   | some size=>match X8R (fun i=>some (i*size,size)) zs parts with
    | some l=>some (.agg l)
    | none=>none
   | none=>none
  | _,_=>none
 | none=>none
section
variable {M:Nat→Prop} {g:Gh} {a:AH}
theorem XCQ {ds:List D} {vs:List Value} (h:F2 (DL M g a) ds vs):∀ {l:List D} {l':List Value} (i:Nat),F2 (DL M g a) l l'→F2 (DL M g a) (dlay l i ds) (lay l' i vs):=by
 induction h with
 | nil=>intro l l' i k;exact k
 | cons h t ih=>intro l l' i k;exact ih (i+1) (k.set i _ _ h)
theorem X3y {place:Nat→Option (Nat×Nat)}:∀ {parts:List (Nat×D)} {parts':List (Nat×Value)} {cells l:List D} {cells':List Value},X8R place cells parts=some l →
  F2 (fun p q=>p.1=q.1∧DR M g a p.2 q.2) parts parts'→F2 (DL M g a) cells cells'→∃ l',X2z place cells' parts'=some l'∧F2 (DL M g a) l l':=by
 intro parts
 induction parts with
 | nil=>intro parts' cells l cells' h hp hc;cases h;cases hp;exact⟨cells',rfl,hc⟩
 | cons p parts ih =>
  intro parts' cells l cells' h hp hc
  cases hp with
  | cons h1 ht =>
   rename_i q m
   obtain⟨i,d⟩:=p
   obtain⟨i',v⟩:=q
   obtain⟨rfl,hr⟩:=h1
   simp only [X8R]at h
   split at h
   case h_2=>cases h
   rename_i off size ds hpl hds
   split at h
   case h_2=>cases h
   rename_i hb
   obtain⟨vs,q1,q2⟩:=X39 hr hds
   obtain⟨l',q3,q4⟩:=ih h ht (XCQ q2 off hc)
   refine⟨l',?_,q4⟩
   simp only [X2z,hpl,q1]
   rw [← q2.length,← hc.length,hb]
   exact q3
theorem XAd {P:Program} {t:TypeId} {cs:List D} {vs:List Value} {o:Nat} {d:D} (h:X4F P t cs o=some d) (r:F2 (DL M g a) cs vs):∃ v,X8e P t vs.toArray o=some v∧DR M g a d v:=by
 unfold X4F at h
 unfold X8e
 split at h
 ·
  rename_i ha
  rw [ha];simp only
  split at h
  case h_2=>cases h
  rename_i n hn
  rw [hn];simp only
  split at h
  case h_2=>cases h
  cases h
  refine⟨_,rfl,(vs.drop o).take n,?_,(r.drop o).take n⟩
  simp [List.extract_eq_take_drop]
 ·
  rename_i ha
  rw [ha];simp only
  split at h
  case h_2=>cases h
  rename_i d' hd
  split at h
  case h_2=>cases h
  rename_i x hx
  cases h
  obtain⟨v,h1,h2⟩:=r.get o d hd
  exact⟨v,by simpa using h1,h2.dr⟩
 · cases h
theorem X1f {P:Program} {t:TypeId} {cs:List D} {b k e:Nat} {tt:Bool} {vs:List Value} {o:Nat} {d:D} (h:X4F P t cs o=some d) (hB:a.blk b=some ⟨vs,k,tt,e⟩) (r:F2 (DL M g a) cs vs) :
  ∃ v,X3l P a t (.pointer (some ⟨b,o,none⟩))=some v∧DR M g a d v:=by
 unfold X4F at h
 unfold X3l
 split at h
 ·
  rename_i ha
  simp only [ha]
  split at h
  case h_2=>cases h
  rename_i n hn
  rw [hn];simp only
  split at h
  case h_2=>cases h
  rename_i hb
  cases h
  have hb':o+n≤vs.length:=by rw [← r.length];simpa using hb
  rw [X6B hB hb']
  exact⟨_,rfl,_,rfl,(r.drop o).take n⟩
 ·
  rename_i ha
  simp only [ha]
  split at h
  case h_2=>cases h
  rename_i d' hd
  split at h
  case h_2=>cases h
  cases h
  obtain⟨v,h1,h2⟩:=r.get o d hd
  exact⟨v,by rw [XCO hB];exact h1,h2.dr⟩
 · cases h
theorem X5C {z:Value} {zs:List D} (h:X01 z=true) (hz:X3n (dOf z)=some zs):F2 (DL M g a) zs z.cells.toList:=by
 obtain⟨vs,h1,h2⟩:=X39 (X9H h) hz
 have:vs=z.cells.toList:=by
  cases z<;>simp [X1V,Value.cells]at h1 ⊢<;>first | exact h1.symm | skip
 rw [← this];exact h2
theorem X9L {P:Program} {t:TypeId} {parts:List (Nat×D)} {parts':List (Nat×Value)} {d:D} (h:X9K P t parts=some d) (r:F2 (fun p q=>p.1=q.1∧DR M g a p.2 q.2) parts parts') :
  ∃ v,X5O P t parts'=some v∧DR M g a d v:=by
 unfold X9K at h
 unfold X5O
 split at h
 case h_2=>cases h
 rename_i z hz
 rw [hz];simp only
 have hp:=X0M hz
 split at h
 ·
  rename_i fields zs hu hzs
  rw [hu];simp only
  split at h
  case h_2=>cases h
  rename_i places hpl
  rw [hpl];simp only
  split at h
  case h_2=>cases h
  rename_i l hl
  cases h
  obtain⟨l',q1,q2⟩:=X3y hl r (X5C hp hzs)
  rw [q1]
  exact⟨_,rfl,l',rfl,q2⟩
 ·
  rename_i n elem zs hu hzs
  rw [hu];simp only
  split at h
  case h_2=>cases h
  rename_i size hs
  rw [hs];simp only
  split at h
  case h_2=>cases h
  rename_i l hl
  cases h
  obtain⟨l',q1,q2⟩:=X3y hl r (X5C hp hzs)
  rw [q1]
  exact⟨_,rfl,l',rfl,q2⟩
 · cases h
theorem X3A {P:Program} {t:TypeId} {b o b' o' f:Nat} {x:Option Nat} (h:X0R P t (.pointer (some ⟨0,o,none⟩)) f=some (.pointer (some ⟨b',o',x⟩))):X0R P t (.pointer (some ⟨b,o,none⟩)) f=some (.pointer (some ⟨b,o',none⟩)):=by
 unfold X0R at h ⊢
 split at h
 case h_2=>cases h
 rename_i fields hu
 (try rw [hu]);(try simp only)
 split at h
 case h_2=>cases h
 rename_i fd hf
 (try rw [hf]);simp only at h ⊢
 split at h
 case h_2=>cases h
 rename_i hs
 (try rw [hs]);(try simp only)
 cases h;rfl
theorem X2n {P:Program} {t:TypeId} {b o b' o' f i:Nat} {x:Option Nat} (h:X0R P t (.pointer (some ⟨0,o,none⟩)) f=some (.pointer (some ⟨b',o',x⟩))):X0R P t (.pointer (some ⟨b,i+o,none⟩)) f=some (.pointer (some ⟨b,i+o',none⟩)):=by
 unfold X0R at h ⊢
 split at h
 case h_2=>cases h
 rename_i fields hu
 (try rw [hu]);(try simp only)
 split at h
 case h_2=>cases h
 rename_i fd hf
 (try rw [hf]);simp only at h ⊢
 split at h
 case h_2=>cases h
 rename_i hs
 (try rw [hs]);(try simp only)
 cases h;rw [Nat.add_assoc]
end
def dLen (P:Program) (ats:Array TypeId) (d:D):Option D:=match ats[0]? with
 | some t=>match P.underlying t,d with
  | some (.slice _),.sl _ n _=>some (.int .i64 n)
  | some (.slice _),.row _ _ n _=>some (.int .i64 n)
  | some (.slice _),.lit (.slice _ n _)=>some (.int .i64 n)
  | some .string,.str s=>some (.int .i64 s.size)
  | some (.array n _),_=>some (.int .i64 n)
  | _,_=>none
 | none=>none
theorem XCR {P:Program} {ats:Array TypeId} {ty:TypeId} {d d':D} {v:Value} {M:Nat→Prop} {g:Gh} {a:AH} (h:dLen P ats d=some d') (r:DR M g a d v):∃ u,XDJ P ats ty v=some u∧DR M g a d' u:=by
 unfold dLen at h
 unfold XDJ
 split at h
 case h_2=>cases h
 rename_i t ht
 rw [ht];simp only
 split at h
 ·
  rename_i e e' n cs hu
  rw [hu];cases h
  rcases CR.sl_inv r with⟨rfl,_,rfl⟩ | ⟨b,i,c,rfl,_⟩<;>exact⟨_,rfl,CR.int⟩
 ·
  rename_i e j o n c hu
  rw [hu];cases h
  rcases r with⟨_,rfl,rfl,rfl⟩ | ⟨b,k,_,rfl⟩<;>exact⟨_,rfl,CR.int⟩
 ·
  rename_i e a n c hu
  rw [hu];cases h
  cases r
  exact⟨_,rfl,CR.int⟩
 ·
  rename_i s hu
  rw [hu];cases h
  cases r
  exact⟨_,rfl,CR.int⟩
 ·
  rename_i n e hu
  rw [hu];cases h
  exact⟨_,rfl,CR.int⟩
 · cases h
def X3B (L:List Ob):Option D→Option (D×List Ob)
 | some d=>some (d,L)
 | none=>none
theorem X0k {L L':List Ob} {o:Option D} {d:D} (h:X3B L o=some (d,L')):o=some d∧L'=L:=by
 cases o with
 | none=>cases h
 | some u=>cases h;exact⟨rfl,rfl⟩
def X8S (P:Program) (op:Op) (E:X0j) (L:List Ob):Option (D×List Ob) :=
 match op with
 | .move x=>X3B L (zd E x)
 | .assign x=>X3B L (zd E x)
 | .pick c x y=>match zd E c with
  | some (.bool true)=>X3B L (zd E x)
  | some (.bool false)=>X3B L (zd E y)
  | _=>none
 | .alloc t=>match X1O P t with
  | some z=>match X3n (dOf z)with
   | some ds=>some (.loc L.length 0,L++[.box ds])
   | none=>none
  | none=>none
 | .box _ x=>match zd E x with
  | some d=>match X3n d with
   | some ds=>some (.loc L.length 0,L++[.box ds])
   | none=>none
  | none=>none
 | .build t parts=>match zdP E parts.toList with
  | some ps=>X3B L (X9K P t ps)
  | none=>none
 | .load t x=>match zd E x with
  | some (.loc i o)=>match L[i]? with
   | some (.box cs)=>X3B L (X4F P t cs o)
   | some (.row _ _ cs)=>X3B L (X4F P t cs o)
   | _=>none
  | some (.bx cs o)=>X3B L (X4F P t cs o)
  | _=>none
 | .store t x y=>match zd E x,zd E y with
  | some (.loc i o),some d=>match L[i]?,X3n d,sz P t with
   | some (.box cs),some ds,some n=>match Nat.beq ds.length n && Nat.ble (o+n) cs.length with
    | true=>some (.any,L.set i (.box (cs.take o++ds++cs.drop (o+ds.length))))
    | false=>none
   | _,_,_=>none
  | _,_=>none
 | .nilCheck x=>match zd E x with
  | some (.loc i o)=>some (.loc i o,L)
  | some (.fn f)=>some (.fn f,L)
  | some (.bx cs o)=>some (.bx cs o,L)
  | _=>none
 | .fieldAddr t x f=>match zd E x with
  | some (.loc i o)=>match X0R P t (.pointer (some ⟨0,o,none⟩)) f with
   | some (.pointer (some ⟨_,o',_⟩))=>some (.loc i o',L)
   | _=>none
  | some (.ep e n cs o)=>match X0R P t (.pointer (some ⟨0,o,none⟩)) f with
   | some (.pointer (some ⟨_,o',_⟩))=>some (.ep e n cs o',L)
   | _=>none
  | some (.bx cs o)=>match X0R P t (.pointer (some ⟨0,o,none⟩)) f with
   | some (.pointer (some ⟨_,o',_⟩))=>some (.bx cs o',L)
   | _=>none
  | _=>none
 | .field t x f=>match zd E x with
  | some (.agg cs)=>match P.underlying t with
   | some (.struct fields)=>match fields[f]? with
    | some fd=>X3B L (X4F P fd.type cs fd.offset)
    | none=>none
   | _=>none
  | _=>none
 | .binOp op t x y _=>match zd E x,zd E y with
  | some dx,some dy=>X3B L (dBin P op t x y dx dy)
  | _,_=>none
 | .unOp .not _ x=>match zd E x with
  | some (.bool b)=>some (.bool (!b),L)
  | _=>none
 | .unOp op _ x=>match zd E x with
  | some d=>match tval d with
   | some v=>match X01 v with
    | true=>X3B L (X2L (X0p P (Op.unary op v)))
    | false=>none
   | none=>none
  | none=>none
 | .makeFunc fn fi ca=>match fn,fi.toList,ca.toList with
  | .func f,[],[]=>some (.fn f,L)
  | _,_,_=>none
 | .convert src dst x=>match zd E x with
  | some (.int k n)=>X3B L (X2L (X8l P src dst (.int k n)))
  | _=>none
 | .extract x i=>match zd E x with
  | some (.tup ds)=>match ds[i]? with
   | some (.tup _)=>none
   | some d=>some (d,L)
   | none=>none
  | _=>none
 | .call ⟨.builtin .len,args,ats⟩=>match args.toList with
  | [x]=>match zd E x with
   | some d=>X3B L (dLen P ats d)
   | none=>none
  | _=>none
 | .call ⟨.builtin .min,args,_⟩=>match args.toList with
  | [x,y]=>match zd E x,zd E y with
   | some (.int k a),some (.int _ b)=>some (.int k (min a b),L)
   | _,_=>none
  | _=>none
 | .call ⟨.builtin .max,args,_⟩=>match args.toList with
  | [x,y]=>match zd E x,zd E y with
   | some (.int k a),some (.int _ b)=>some (.int k (max a b),L)
   | _,_=>none
  | _=>none
 | _=>none
theorem XDR {P:Program} {ats:Array TypeId} {ty:TypeId} {k k':IntKind} {a b:Int}:X0p P (Builtin.min_ ats ty #[.int k a,.int k' b])=some (.int k (min a b)):=by
 have:(if b<a then b else a)=min a b:=by rw [Int.min_def];split<;>split<;>omega
 rw [← this];rfl
theorem XDS {P:Program} {ats:Array TypeId} {ty:TypeId} {k k':IntKind} {a b:Int}:X0p P (Builtin.max_ ats ty #[.int k a,.int k' b])=some (.int k (max a b)):=by
 have:(if b>a then b else a)=max a b:=by rw [Int.max_def];split<;>split<;>omega
 rw [← this];rfl
def X9M (P:Program) (C:Cx0) (op:Op) (ty:TypeId) (σ:SD) (d:D) (L':List Ob):Prop :=
 ∀ g s a,SR C σ g s a→∃ v a' g',X0K P op ty s a=some (v,a')∧SR C ⟨σ.E,L'⟩ g' s a'∧DR (MM C.M g') g' a' d v
theorem X9M.plain {P:Program} {C:Cx0} {op:Op} {ty:TypeId} {σ:SD} {d:D} (h:∀ g s a,SR C σ g s a→∃ v,X0K P op ty s a=some (v,a)∧DR (MM C.M g) g a d v):X9M P C op ty σ d σ.L:=by
 intro g s a S
 obtain⟨v,h1,h2⟩:=h g s a S
 exact⟨v,a,g,h1,S,h2⟩
theorem X08 {a:AH} {o:Option Value} {v:Value} (h:o=some v):X1u a o=some (v,a):=by rw [h];rfl
theorem SR.box {C:Cx0} {σ:SD} {g:Gh} {s:Env} {a:AH} (S:SR C σ g s a) {ds:List D} {vs:List Value} (h:F2 (DL (MM C.M g) g a) ds vs) :
  SR C ⟨σ.E,σ.L++[.box ds]⟩ (g++[some (a.next,a.next)]) s (a.new vs 0)∧DR (MM C.M (g++[some (a.next,a.next)])) (g++[some (a.next,a.next)]) (a.new vs 0) (.loc σ.L.length 0) (.pointer (some ⟨a.next,0,none⟩)):=by
 have hlast:(g++[some (a.next,a.next)])[σ.L.length]?=some (some (a.next,a.next)):=by rw [← S.len];simp
 refine⟨S.newObj ⟨a.next,a.next,vs,rfl,X3x ..,?_⟩,⟨a.next,a.next,hlast,rfl⟩⟩
 refine h.mono fun x y r=>DL.mono (X1A.new S.ok vs 0) (fun _ f=>f.elim) (S.mm (g':=g++[some (a.next,a.next)]) (a':=a.new vs 0) ?_) (Gh.On.app _ _) r
 intro k hk
 rw [X5d]at hk
 rcases List.mem_append.1 hk with h | h
 · exact .inl h
 · simp at h;subst h;exact .inr ⟨Nat.le_refl _,Nat.lt_succ_self _⟩
theorem F2.over {M:Nat→Prop} {g:Gh} {a:AH} {cs ds:List D} {vs us:List Value} (h:F2 (DL M g a) cs vs) (k:F2 (DL M g a) ds us) (o:Nat):F2 (DL M g a) (cs.take o++ds++cs.drop (o+ds.length)) (over vs o us):=by
 unfold Vai.over
 rw [k.length]
 exact((h.take o).append k).append (h.drop _)
theorem XAe {P:Program} {C:Cx0} {op:Op} {ty:TypeId} {σ:SD} {d:D} {L':List Ob} (h:X8S P op σ.E σ.L=some (d,L')):X9M P C op ty σ d L':=by
 unfold X8S at h
 split at h
 ·
  replace h:=X0k h;obtain⟨h,rfl⟩:=h
  exact .plain fun g s a S=>by obtain⟨v,q1,q2⟩:=X09 S h;exact⟨v,by simp only [X0K];exact X08 q1,q2⟩
 ·
  replace h:=X0k h;obtain⟨h,rfl⟩:=h
  exact .plain fun g s a S=>by obtain⟨v,q1,q2⟩:=X09 S h;exact⟨v,by simp only [X0K];exact X08 q1,q2⟩
 ·
  split at h
  ·
   rename_i hc
   replace h:=X0k h;obtain⟨h,rfl⟩:=h
   refine .plain fun g s a S=>?_
   obtain⟨v,q1,q2⟩:=X09 S h
   obtain⟨u,p1,p2⟩:=X09 S hc
   cases p2
   exact⟨v,by simp only [X0K,p1];exact X08 q1,q2⟩
  ·
   rename_i hc
   replace h:=X0k h;obtain⟨h,rfl⟩:=h
   refine .plain fun g s a S=>?_
   obtain⟨v,q1,q2⟩:=X09 S h
   obtain⟨u,p1,p2⟩:=X09 S hc
   cases p2
   exact⟨v,by simp only [X0K,p1];exact X08 q1,q2⟩
  · cases h
 ·
  split at h
  case h_2=>cases h
  rename_i z hz
  split at h
  case h_2=>cases h
  rename_i ds hds
  cases h
  intro g s a S
  obtain⟨vs,q1,q2⟩:=X39 (M:=MM C.M g) (g:=g) (a:=a) (X9H (X0M hz)) hds
  obtain⟨r1,r2⟩:=S.box q2
  exact⟨_,_,_,by simp only [X0K,X7f,hz,XDE,q1],r1,r2⟩
 ·
  split at h
  case h_2=>cases h
  rename_i d' hd
  split at h
  case h_2=>cases h
  rename_i ds hds
  cases h
  intro g s a S
  obtain⟨v,p1,p2⟩:=X09 S hd
  obtain⟨vs,q1,q2⟩:=X39 p2 hds
  obtain⟨r1,r2⟩:=S.box q2
  exact⟨_,_,_,by simp only [X0K,p1,XDE,q1],r1,r2⟩
 ·
  split at h
  case h_2=>cases h
  rename_i ps hps
  replace h:=X0k h;obtain⟨h,rfl⟩:=h
  refine .plain fun g s a S=>?_
  obtain⟨vs,q1,q2⟩:=X9I S hps
  obtain⟨v,r1,r2⟩:=X9L h q2
  exact⟨v,by simp only [X0K,q1];exact X08 r1,r2⟩
 ·
  split at h
  rotate_left
  ·
   rename_i cs o hx
   replace h:=X0k h;obtain⟨h,rfl⟩:=h
   refine .plain fun g s a S=>?_
   obtain⟨v,q1,b,rfl,q2⟩:=X09 S hx
   obtain⟨vs,k,r1,_,_,r2⟩:=q2.ex
   obtain⟨v,t1,t2⟩:=X1f (g:=g) h r1 (r2.mono fun _ _ r=>r.dl)
   exact⟨v,by simp only [X0K,q1];exact X08 t1,t2⟩
  · cases h
  rename_i i o hx
  split at h
  ·
   rename_i cs hL
   replace h:=X0k h;obtain⟨h,rfl⟩:=h
   refine .plain fun g s a S=>?_
   obtain⟨v,q1,b,k,q2,rfl⟩:=X09 S hx
   obtain⟨b',k',vs,e,r2,r3⟩:=S.obj i _ _ q2 hL
   cases e
   obtain⟨v,t1,t2⟩:=X1f h r2 r3
   exact⟨v,by simp only [X0K,q1];exact X08 t1,t2⟩
  ·
   rename_i e' n' cs hL
   replace h:=X0k h;obtain⟨h,rfl⟩:=h
   refine .plain fun g s a S=>?_
   obtain⟨v,q1,b,k,q2,rfl⟩:=X09 S hx
   obtain⟨_,⟨e,_⟩ | ⟨b',k',vs,e,r2,r3⟩⟩:=S.obj i _ _ q2 hL
   · cases e
   cases e
   obtain⟨v,t1,t2⟩:=X1f (g:=g) h r2 (r3.mono fun _ _ r=>r.dl)
   exact⟨v,by simp only [X0K,q1];exact X08 t1,t2⟩
  · cases h
 ·
  split at h
  case h_2=>cases h
  rename_i i o dy hx hy
  split at h
  case h_2=>cases h
  rename_i cs ds n hL hds hs
  split at h
  case h_2=>cases h
  rename_i hb
  cases h
  simp only [Bool.and_eq_true,Nat.beq_eq,Nat.ble_eq]at hb
  intro g s a S
  obtain⟨v,q1,b,k,q2,rfl⟩:=X09 S hx
  obtain⟨u,p1,p2⟩:=X09 S hy
  obtain⟨us,p3,p4⟩:=X39 p2 hds
  obtain⟨b',k',vs,e,r2,r3⟩:=S.obj i _ _ q2 hL
  cases e
  have hlen:us.length=n:=by rw [← p4.length];exact hb.1
  have hle:o+us.length≤vs.length:=by rw [hlen,← r3.length];exact hb.2
  refine⟨undef,_,g,?_,S.write q2 hL r2 (vs':=over vs o us) ⟨b,k,_,rfl,X3R,?_⟩ (fun _ _=>⟨_,rfl⟩),trivial⟩
  ·
   simp only [X0K,q1,p1,X7g,p3,hs,hlen,Nat.beq_refl]
   unfold AH.wrL
   rw [r2]
   simp only [hle,and_self,if_true]
  ·
   have K:=X2Y (B':=⟨over vs o us,k,true,0⟩) r2 rfl
   refine(F2.over r3 p4 o).mono fun x y r=>DL.mono K (fun x q=>?_) (fun _ _ m=>m) (Gh.On.refl _) r
   subst q
   exact .inr (Gh.mem_cls.2 ⟨i,b,q2⟩)
 ·
  split at h
  ·
   rename_i i o hx
   cases h
   refine .plain fun g s a S=>?_
   obtain⟨v,q1,b,k,q2,rfl⟩:=X09 S hx
   exact⟨_,by simp only [X0K,q1],b,k,q2,rfl⟩
  ·
   rename_i f hx
   cases h
   refine .plain fun g s a S=>?_
   obtain⟨v,q1,q2⟩:=X09 S hx
   cases q2
   exact⟨_,by simp only [X0K,q1],CR.fn⟩
  ·
   rename_i cs o hx
   cases h
   refine .plain fun g s a S=>?_
   obtain⟨v,q1,b,rfl,q2⟩:=X09 S hx
   exact⟨_,by simp only [X0K,q1],b,rfl,q2⟩
  · cases h
 ·
  split at h
  ·
   rename_i i o hx
   split at h
   case h_2=>cases h
   rename_i b' o' x' ha
   cases h
   refine .plain fun g s a S=>?_
   obtain⟨v,q1,b,k,q2,rfl⟩:=X09 S hx
   exact⟨_,by simp only [X0K,q1];exact X08 (X3A ha),b,k,q2,rfl⟩
  ·
   rename_i e n cs o hx
   split at h
   case h_2=>cases h
   rename_i b' o' x' ha
   cases h
   refine .plain fun g s a S=>?_
   obtain⟨v,q1,b,i,rfl,q3⟩:=X09 S hx
   exact⟨_,by simp only [X0K,q1];exact X08 (X2n ha),b,i,rfl,q3⟩
  ·
   rename_i cs o hx
   split at h
   case h_2=>cases h
   rename_i b' o' x' ha
   cases h
   refine .plain fun g s a S=>?_
   obtain⟨v,q1,b,rfl,q3⟩:=X09 S hx
   exact⟨_,by simp only [X0K,q1];exact X08 (X3A ha),b,rfl,q3⟩
  · cases h
 ·
  split at h
  case h_2=>cases h
  rename_i cs hx
  split at h
  case h_2=>cases h
  rename_i fields hu
  split at h
  case h_2=>cases h
  rename_i fd hf
  replace h:=X0k h;obtain⟨h,rfl⟩:=h
  refine .plain fun g s a S=>?_
  obtain⟨v,q1,vs,rfl,q2⟩:=X09 S hx
  obtain⟨u,r1,r2⟩:=XAd h q2
  exact⟨u,by simp only [X0K,q1,X5H,hu,hf];exact X08 r1,r2⟩
 ·
  split at h
  case h_2=>cases h
  rename_i dx dy hx hy
  replace h:=X0k h;obtain⟨h,rfl⟩:=h
  refine .plain fun g s a S=>?_
  obtain⟨vx,q1,q2⟩:=X09 S hx
  obtain⟨vy,p1,p2⟩:=X09 S hy
  obtain⟨v,r1,r2⟩:=XCP h q2 p2
  exact⟨v,by simp only [X0K,q1,p1];exact X08 r1,r2⟩
 ·
  split at h
  case h_2=>cases h
  rename_i b hx
  cases h
  refine .plain fun g s a S=>?_
  obtain⟨v,q1,q2⟩:=X09 S hx
  cases q2
  exact⟨.bool (!b),by simp only [X0K,q1,X01,X03];exact X08 (XDQ b),CR.bool⟩
 ·
  split at h
  case h_2=>cases h
  rename_i dx hx
  split at h
  case h_2=>cases h
  rename_i v0 hv
  split at h
  case h_2=>cases h
  rename_i hp
  replace h:=X0k h;obtain⟨h,rfl⟩:=h
  refine .plain fun g s a S=>?_
  obtain⟨v,q1,q2⟩:=X09 S hx
  have:=X7A q2 hv;subst this
  obtain⟨u,r1,r2⟩:=X2M (M:=MM C.M g) (g:=g) (a:=a) h
  exact⟨u,by simp only [X0K,q1,hp];exact X08 r1,r2⟩
 ·
  split at h
  case h_2=>cases h
  rename_i f h1 h2
  cases h
  refine .plain fun g s a S=>⟨_,?_,CR.fn⟩
  simp only [X0K,h1,h2,X3m,List.all_nil,isFn,Bool.and_self]
 ·
  split at h
  case h_2=>cases h
  rename_i k n hx
  replace h:=X0k h;obtain⟨h,rfl⟩:=h
  refine .plain fun g s a S=>?_
  obtain⟨v,q1,q2⟩:=X09 S hx
  cases q2
  obtain⟨u,r1,r2⟩:=X2M (M:=MM C.M g) (g:=g) (a:=a) h
  exact⟨u,by simp only [X0K,q1,X36,r1],r2⟩
 ·
  split at h
  case h_2=>cases h
  rename_i ds hx
  split at h
  · cases h
  ·
   rename_i d' hnt hd
   cases h
   refine .plain fun g s a S=>?_
   obtain⟨v,q1,vs,rfl,q2⟩:=X09 S hx
   obtain⟨u,r1,r2⟩:=q2.get _ _ hd
   exact⟨u,by simp only [X0K,q1,X3F];exact X08 (by simpa using r1),r2.dr⟩
  · cases h
 ·
  split at h
  case h_2=>cases h
  rename_i x hx
  split at h
  case h_2=>cases h
  rename_i dx hd
  replace h:=X0k h;obtain⟨h,rfl⟩:=h
  refine .plain fun g s a S=>?_
  obtain⟨v,q1,q2⟩:=X09 S hd
  obtain⟨u,r1,r2⟩:=XCR (ty:=ty) h q2
  exact⟨u,by simp only [X0K,hx,X3m,q1];exact X08 r1,r2⟩
 ·
  split at h
  case h_2=>cases h
  rename_i x y hx
  split at h
  case h_2=>cases h
  rename_i k a k' b h1 h2
  cases h
  refine .plain fun g s a S=>?_
  obtain⟨v,q1,q2⟩:=X09 S h1
  obtain⟨u,p1,p2⟩:=X09 S h2
  cases q2;cases p2
  exact⟨_,by simp only [X0K,hx,X3m,q1,p1,List.all_cons,List.all_nil,X01,X03,Bool.and_self];exact X08 XDR,CR.int⟩
 ·
  split at h
  case h_2=>cases h
  rename_i x y hx
  split at h
  case h_2=>cases h
  rename_i k a k' b h1 h2
  cases h
  refine .plain fun g s a S=>?_
  obtain⟨v,q1,q2⟩:=X09 S h1
  obtain⟨u,p1,p2⟩:=X09 S h2
  cases q2;cases p2
  exact⟨_,by simp only [X0K,hx,X3m,q1,p1,List.all_cons,List.all_nil,X01,X03,Bool.and_self];exact X08 XDS,CR.int⟩
 · cases h
end
end Go.Vai
