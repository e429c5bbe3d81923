/-
  What is proved here: what a plain interpreter of Go code comes to, in the text's order, in a region that leaves its order a region that leaves its order open, if the plain interpreter's looks at it pass: whatever order the the plain interpreter of Go code is sound: what it comes to in a call, the machine comes to, in what a region that leaves its order open and lays down one row of plain values at any time (the arguments No conditions but those that the theorems state.
-/
import Derived.Test.YtmmmjbipgngamaaGreatDoorVJ
set_option linter.unusedVariables false
set_option linter.unusedSimpArgs false
namespace Go.Vai
noncomputable section
theorem XCR {h:Heap} {tm tm':Tr Value} {x:Operand} (e:∀ t,x=.tmp t→(tm.get t).getD undef=(tm'.get t).getD undef):aev h tm x=aev h tm' x:=by
 cases x with
 | tmp t=>simp only [aev,e t rfl]
 | _=>rfl
theorem X4R {h:Heap} {tm tm':Tr Value}:∀ {xs:List Operand},(∀ x∈xs,aev h tm x=aev h tm' x)→X3s h tm xs=X3s h tm' xs:=by
 intro xs
 induction xs with
 | nil=>intro _;rfl
 | cons x xs ih=>intro e;simp only [X3s,e x (by simp),ih fun y hy=>e y (by simp [hy])]
theorem X6d {h:Heap} {tm tm':Tr Value}:∀ {xs:List (Nat×Operand)},(∀ x∈xs,aev h tm x.2=aev h tm' x.2)→X6V h tm xs=X6V h tm' xs:=by
 intro xs
 induction xs with
 | nil=>intro _;rfl
 | cons x xs ih =>
  obtain⟨i,x⟩:=x
  intro e
  simp only [X6V,e (i,x) (by simp),ih fun y hy=>e y (by simp [hy])]
theorem X4S {h:Heap} {tm tm':Tr Value} {o:Option Operand} (e:∀ x,o=some x→aev h tm x=aev h tm' x):X4x h tm o=X4x h tm' o:=by
 cases o with
 | none=>rfl
 | some x=>simp only [X4x,e x rfl]
theorem X8G {P:Program} {call:X0D} {o:Oper} {tm tm':Tr Value} {h:Heap} (e:∀ x∈o.op.operands,aev h tm x=aev h tm' x):X05 P call o tm h=X05 P call o tm' h:=by
 obtain⟨dst,op,ty,pos,after,guard⟩:=o
 cases op with
 | move x=>simp only [X05,e x (by simp [Op.operands])]
 | assign x=>simp only [X05,e x (by simp [Op.operands])]
 | pick c x y=>simp only [X05,e c (by simp [Op.operands]),e x (by simp [Op.operands]),e y (by simp [Op.operands])]
 | box t x=>simp only [X05,e x (by simp [Op.operands])]
 | build t ps=>simp only [X05,X6d (h:=h) (tm:=tm) (tm':=tm') (xs:=ps.toList) fun x hx=>e x.2 (by simp [Op.operands];exact⟨x.1,by simpa using hx⟩)]
 | buildSlice t n ps=>simp only [X05,X6d (h:=h) (tm:=tm) (tm':=tm') (xs:=ps.toList) fun x hx=>e x.2 (by simp [Op.operands];exact⟨x.1,by simpa using hx⟩)]
 | load t x=>simp only [X05,e x (by simp [Op.operands])]
 | store t x y=>simp only [X05,e x (by simp [Op.operands]),e y (by simp [Op.operands])]
 | nilCheck x=>simp only [X05,e x (by simp [Op.operands])]
 | binOp op t x y yt=>simp only [X05,e x (by simp [Op.operands]),e y (by simp [Op.operands])]
 | unOp op t x=>simp only [X05,e x (by simp [Op.operands])]
 | convert s d x=>simp only [X05,e x (by simp [Op.operands])]
 | makeInterface t x=>simp only [X05,e x (by simp [Op.operands])]
 | makeFunc fn fi ca =>
  simp only [X05,X4R (h:=h) (tm:=tm) (tm':=tm') (xs:=fi.toList) fun x hx=>e x (by simp [Op.operands];exact .inl (by simpa using hx)),
   X4R (h:=h) (tm:=tm) (tm':=tm') (xs:=ca.toList) fun x hx=>e x (by simp [Op.operands];exact .inr (by simpa using hx))]
 | makeSlice t x y=>simp only [X05,e x (by simp [Op.operands]),e y (by simp [Op.operands])]
 | slice t x lo hi mx =>
  simp only [X05,e x (by simp [Op.operands]),X4S (h:=h) (tm:=tm) (tm':=tm') (o:=lo) fun y hy=>e y (by simp [Op.operands,hy]),
   X4S (h:=h) (tm:=tm) (tm':=tm') (o:=hi) fun y hy=>e y (by simp [Op.operands,hy]),X4S (h:=h) (tm:=tm) (tm':=tm') (o:=mx) fun y hy=>e y (by simp [Op.operands,hy])]
 | fieldAddr t x f=>simp only [X05,e x (by simp [Op.operands])]
 | field t x f=>simp only [X05,e x (by simp [Op.operands])]
 | indexAddr t x y=>simp only [X05,e x (by simp [Op.operands]),e y (by simp [Op.operands])]
 | index t x y=>simp only [X05,e x (by simp [Op.operands]),e y (by simp [Op.operands])]
 | range t x=>simp only [X05,e x (by simp [Op.operands])]
 | next x b=>simp only [X05,e x (by simp [Op.operands])]
 | extract x i=>simp only [X05,e x (by simp [Op.operands])]
 | call c =>
  have hargs:X3s h tm c.args.toList=X3s h tm' c.args.toList:=X4R fun x hx=>e x (by simp [Op.operands,Call.operands];exact .inr (by simpa using hx))
  simp only [X05,hargs]
  cases hc:c.callee with
  | value f=>simp only [e f (by simp [Op.operands,Call.operands,hc])]
  | builtin b=>cases b<;>rfl
  | _=>rfl
 | _=>rfl
def X0F:Op→Bool
 | .move _ | .assign _ | .pick .. | .build .. | .load .. | .nilCheck _ | .binOp .. | .unOp .. | .makeInterface .. | .makeFunc .. | .slice .. | .fieldAddr .. | .field .. | .indexAddr .. | .index .. | .extract ..=>true
 | .call ⟨.builtin .len,_,_⟩=>true
 | .call ⟨.builtin .cap,_,_⟩=>true
 | .call ⟨.builtin .min,_,_⟩=>true
 | .call ⟨.builtin .max,_,_⟩=>true
 | _=>false
theorem X3H {P:Program} {call:X0D} {o:Oper} {tm:Tr Value} {h h':Heap} {v:Value} (hr:X0F o.op=true) (e:X05 P call o tm h=some (v,h')):h'=h:=by
 obtain⟨dst,op,ty,pos,after,guard⟩:=o
 cases op<;>first | (cases hr;done) | skip
 all_goals simp only [X05]at e
 case call c =>
  obtain⟨callee,args,ats⟩:=c
  simp only at e
  split at e
  · cases hr
  · cases hr
  · cases hr
  · split at e<;>first | exact(X0J e).2 | cases e
  · split at e<;>first | exact(X0J e).2 | cases e
  ·
   split at e
   · split at e<;>first | exact(X0J e).2 | cases e
   · cases e
  ·
   split at e
   · split at e<;>first | exact(X0J e).2 | cases e
   · cases e
  · cases hr
  · cases e
 all_goals first
  | exact(X0J e).2
  | (split at e<;>first | exact(X0J e).2 | (cases e;rfl) | cases e | (split at e<;>first | exact(X0J e).2 | (cases e;rfl) | cases e))
def XCS (acc:List Nat) (o:Oper):Nat:=o.after.toList.foldl (fun s e=>match Region.binds .any e with
 | true=>s ||| 2 ^ e.on ||| acc.getD e.on 0
 | false=>s) 0
def X1M (acc:List Nat):List Oper→List Nat
 | []=>acc
 | o::rest=>X1M (acc++[XCS acc o]) rest
def XCl (ops:Array Oper) (S:Nat→Prop):Prop:=∀ i o,ops[i]?=some o→S i→∀ e∈o.after.toList,Region.binds .any e=true→S e.on
theorem XAu {S:Nat→Prop} {acc:List Nat} (hacc:∀ i,S i→∀ j,(acc.getD i 0).testBit j=true→S j):∀ (es:List Edge) (s:Nat),(∀ j,s.testBit j=true→S j)→(∀ e∈es,Region.binds .any e=true→S e.on) →
  ∀ j,(es.foldl (fun s e=>match Region.binds .any e with
   | true=>s ||| 2 ^ e.on ||| acc.getD e.on 0
   | false=>s) s).testBit j=true→S j:=by
 intro es
 induction es with
 | nil=>intro s hs _ j hj;exact hs j hj
 | cons e es ih =>
  intro s hs he j hj
  simp only [List.foldl_cons]at hj
  refine ih _ ?_ (fun x hx=>he x (by simp [hx])) j hj
  intro k hk
  split at hk
  ·
   rename_i hb
   have hS:=he e (by simp) hb
   simp only [Nat.testBit_or,Bool.or_eq_true]at hk
   rcases hk with(hk | hk) | hk
   · exact hs k hk
   ·
    rw [Nat.testBit_two_pow]at hk
    have:e.on=k:=by simpa using hk
    subst this;exact hS
   · exact hacc _ hS k hk
  · exact hs k hk
theorem XAv {ops:Array Oper} {S:Nat→Prop} (D:XCl ops S):∀ (rest:List Oper) (acc:List Nat),acc.length+rest.length=ops.size→(∀ k,rest[k]?=ops[acc.length+k]?) →
  (∀ i,S i→∀ j,(acc.getD i 0).testBit j=true→S j)→∀ i,S i→∀ j,((X1M acc rest).getD i 0).testBit j=true→S j:=by
 intro rest
 induction rest with
 | nil=>intro acc _ _ hacc i hi j hj;exact hacc i hi j hj
 | cons o rest ih =>
  intro acc hl hk hacc i hi j hj
  rw [X1M]at hj
  refine ih (acc++[XCS acc o]) (by simp at hl ⊢;omega) (fun k=>?_) ?_ i hi j hj
  ·
   have:=hk (k+1)
   simp only [List.getElem?_cons_succ]at this
   rw [this];congr 1;simp;omega
  ·
   intro i' hi' j' hj'
   by_cases h1:i'<acc.length
   ·
    refine hacc i' hi' j' ?_
    rw [List.getD_eq_getElem?_getD,List.getElem?_append_left h1]at hj'
    rw [List.getD_eq_getElem?_getD];exact hj'
   ·
    by_cases h2:i'=acc.length
    ·
     subst h2
     have ho:ops[acc.length]?=some o:=by have:=hk 0;simpa using this.symm
     rw [List.getD_eq_getElem?_getD,List.getElem?_append_right (Nat.le_refl _)]at hj'
     simp only [Nat.sub_self,List.getElem?_cons_zero,Option.getD_some]at hj'
     exact XAu hacc o.after.toList 0 (by simp) (D acc.length o ho hi') j' hj'
    ·
     rw [List.getD_eq_getElem?_getD,List.getElem?_eq_none (by simp;omega)]at hj'
     simp at hj'
def X0R (ops:Array Oper):List Nat:=X1M [] ops.toList
theorem X0c {ops:Array Oper} {S:Nat→Prop} (D:XCl ops S) {i j:Nat} (hi:S i) (hj:((X0R ops).getD i 0).testBit j=true):S j :=
 XAv D ops.toList [] (by simp) (fun k=>by simp) (by simp) i hi j hj
structure Ent where
 st:St
 v:Value
 want:Bool
 mut_:Bool
def X1w (P:Program) (call:X0D) (nt:Nat) (ops:Array Oper):List Oper→St→Option (List Ent×St)
 | [],st=>some ([],st)
 | o::rest,st=>match Region.wanted o (X0b ops st.tm)with
  | true=>match X05 P call o st.tm st.h with
   | some (v,h')=>match X1w P call nt ops rest ⟨X3U nt st.tm o.dst v,h'⟩with
    | some (es,fin)=>some (⟨st,v,true,!X0F o.op⟩::es,fin)
    | none=>none
   | none=>none
  | false=>match X1w P call nt ops rest ⟨X3U nt st.tm o.dst undef,st.h⟩with
   | some (es,fin)=>some (⟨st,undef,false,false⟩::es,fin)
   | none=>none
def XAw (P:Program) (call:X0D) (nt:Nat) (ops:Array Oper) (l:List Oper):St→Option (List Ent×St) :=
 List.rec (motive:=fun _=>St→Option (List Ent×St)) (fun st=>some ([],st))
  (fun o _ ih st=>Bool.rec (motive:=fun _=>Option (List Ent×St))
   (Option.rec (motive:=fun _=>Option (List Ent×St)) none (fun r=>some (⟨st,undef,false,false⟩::r.1,r.2)) (ih ⟨X9A nt st.tm o.dst undef,st.h⟩))
   (Option.rec (motive:=fun _=>Option (List Ent×St)) none (fun q=>Option.rec (motive:=fun _=>Option (List Ent×St)) none (fun r=>some (⟨st,q.1,true,!X0F o.op⟩::r.1,r.2)) (ih ⟨X9A nt st.tm o.dst q.1,q.2⟩)) (XCO P call o st.tm st.h))
   (X5j o (X0b ops st.tm))) l
theorem X2L (P:Program) (call:X0D) (nt:Nat) (ops:Array Oper):∀ (l:List Oper) (st:St),XAw P call nt ops l st=X1w P call nt ops l st:=by
 intro l
 induction l with
 | nil=>intro st;rfl
 | cons o l ih =>
  intro st
  show(Bool.rec (motive:=fun _=>Option (List Ent×St))
   (Option.rec (motive:=fun _=>Option (List Ent×St)) none (fun r=>some (⟨st,undef,false,false⟩::r.1,r.2)) (XAw P call nt ops l ⟨X9A nt st.tm o.dst undef,st.h⟩))
   (Option.rec (motive:=fun _=>Option (List Ent×St)) none (fun q=>Option.rec (motive:=fun _=>Option (List Ent×St)) none (fun r=>some (⟨st,q.1,true,!X0F o.op⟩::r.1,r.2)) (XAw P call nt ops l ⟨X9A nt st.tm o.dst q.1,q.2⟩)) (XCO P call o st.tm st.h))
   (X5j o (X0b ops st.tm)):Option (List Ent×St))=_
  simp only [X1w,ih,XA7,XA6,X6X]
  cases Region.wanted o (X0b ops st.tm)with
  | false =>
   simp only
   cases X1w P call nt ops l ⟨X3U nt st.tm o.dst undef,st.h⟩<;>rfl
  | true =>
   simp only
   cases X05 P call o st.tm st.h with
   | none=>rfl
   | some q =>
    simp only
    cases X1w P call nt ops l ⟨X3U nt st.tm o.dst q.1,q.2⟩<;>rfl
def X0o:List Ent→St→List Heap
 | [],fin=>[fin.h]
 | e::es,fin=>match e.mut_ with
  | true=>e.st.h::X0o es fin
  | false=>X0o es fin
def cnt:List Ent→Nat→Nat
 | _,0=>0
 | [],_+1=>0
 | e::es,i+1=>(match e.mut_ with | true=>1 | false=>0)+cnt es i
section
variable {P:Program} {call:X0D} {nt:Nat} {ops:Array Oper}
theorem X1E:∀ (l:List Oper) (st:St) (es:List Ent) (fin:St),X1w P call nt ops l st=some (es,fin)→es.length=l.length:=by
 intro l
 induction l with
 | nil=>intro st es fin h;simp only [X1w,Option.some.injEq,Prod.mk.injEq]at h;obtain⟨rfl,rfl⟩:=h;rfl
 | cons o l ih =>
  intro st es fin h
  simp only [X1w]at h
  split at h
  ·
   split at h
   ·
    split at h
    · rename_i es' fin' he;cases h;simp [ih _ _ _ he]
    · cases h
   · cases h
  ·
   split at h
   · rename_i es' fin' he;cases h;simp [ih _ _ _ he]
   · cases h
theorem X1r:∀ (l:List Oper) (st:St) (es:List Ent) (fin:St),X1w P call nt ops l st=some (es,fin)→(X0o es fin)[0]?=some st.h:=by
 intro l
 induction l with
 | nil=>intro st es fin h;simp only [X1w,Option.some.injEq,Prod.mk.injEq]at h;obtain⟨rfl,rfl⟩:=h;rfl
 | cons o l ih =>
  intro st es fin h
  simp only [X1w]at h
  split at h
  ·
   split at h
   ·
    rename_i v h' hs
    split at h
    ·
     rename_i es' fin' he
     cases h
     simp only [X0o]
     cases hr:X0F o.op with
     | false=>rfl
     | true=>simp only [Bool.not_true];rw [ih _ _ _ he,X3H hr hs]
    · cases h
   · cases h
  ·
   split at h
   · rename_i es' fin' he;cases h;simp only [X0o];have hx:=ih _ _ _ he;exact hx
   · cases h
theorem X2R:∀ (l:List Oper) (st:St) (es:List Ent) (fin:St),X1w P call nt ops l st=some (es,fin)→∀ i o,l[i]?=some o→∃ en,es[i]?=some en∧(X0o es fin)[cnt es i]?=some en.st.h ∧
  en.want=Region.wanted o (X0b ops en.st.tm)∧en.mut_=(en.want && !X0F o.op)∧(en.want=false→en.v=undef) ∧
  (en.want=true→∃ h',X05 P call o en.st.tm en.st.h=some (en.v,h')∧(X0o es fin)[cnt es i+(match en.mut_ with | true=>1 | false=>0)]?=some h'):=by
 intro l
 induction l with
 | nil=>intro st es fin h i o ho;simp at ho
 | cons o l ih =>
  intro st es fin h i oi ho
  simp only [X1w]at h
  split at h
  ·
   rename_i hw
   split at h
   ·
    rename_i v h' hs
    split at h
    ·
     rename_i es' fin' he
     cases h
     cases i with
     | zero =>
      simp only [List.getElem?_cons_zero,Option.some.injEq]at ho
      subst ho
      refine⟨_,rfl,?_,hw.symm,by simp,by simp,fun _=>⟨h',hs,?_⟩⟩
      ·
       simp only [cnt,X0o]
       cases hr:X0F o.op with
       | false=>rfl
       | true=>simp only [Bool.not_true];rw [X1r _ _ _ _ he,X3H hr hs]
      ·
       simp only [cnt,X0o]
       cases hr:X0F o.op with
       | false=>simp only [Bool.not_false];exact X1r _ _ _ _ he
       | true=>simp only [Bool.not_true];exact X1r _ _ _ _ he
     | succ i =>
      simp only [List.getElem?_cons_succ]at ho
      obtain⟨en,q1,q2,q3,q4,q5,q6⟩:=ih _ _ _ he i oi ho
      refine⟨en,by simpa using q1,?_,q3,q4,q5,fun hx=>?_⟩
      ·
       simp only [cnt,X0o]
       cases hr:X0F o.op with
       | false=>simp only [Bool.not_false];rw [Nat.add_comm,List.getElem?_cons_succ];exact q2
       | true=>simp only [Bool.not_true,Nat.zero_add];exact q2
      ·
       obtain⟨h2,p1,p2⟩:=q6 hx
       refine⟨h2,p1,?_⟩
       simp only [cnt,X0o]
       cases hr:X0F o.op with
       | false=>simp only [Bool.not_false];rw [Nat.add_comm 1,Nat.add_right_comm,List.getElem?_cons_succ];exact p2
       | true=>simp only [Bool.not_true,Nat.zero_add];exact p2
    · cases h
   · cases h
  ·
   rename_i hw
   split at h
   ·
    rename_i es' fin' he
    cases h
    cases i with
    | zero =>
     simp only [List.getElem?_cons_zero,Option.some.injEq]at ho
     subst ho
     exact⟨_,rfl,by simp only [cnt,X0o];have hx:=X1r _ _ _ _ he;exact hx,hw.symm,by simp,by simp,by simp⟩
    | succ i =>
     simp only [List.getElem?_cons_succ]at ho
     obtain⟨en,q1,q2,q3,q4,q5,q6⟩:=ih _ _ _ he i oi ho
     refine⟨en,by simpa using q1,?_,q3,q4,q5,fun hx=>?_⟩
     · simp only [cnt,X0o,Nat.zero_add];exact q2
     · simp only [cnt,X0o,Nat.zero_add];exact q6 hx
   · cases h
end
end
end Go.Vai
namespace Go.Vai
noncomputable section
def X1V:Value→Value→Bool
  | .bool a,.bool b=>match a,b with
    | true,true=>true
    | false,false=>true
    | _,_=>false
  | .int k n,.int k' n'=>decide (k=k') && decide (n=n')
  | .string a,.string b=>decide (a.data.toList=b.data.toList)
  | .pointer none,.pointer none=>true
  | .pointer (some ⟨b,i,none⟩),.pointer (some ⟨b',i',none⟩)=>Nat.beq b b' && Nat.beq i i'
  | .slice none 0 0,.slice none 0 0=>true
  | .slice (some ⟨b,i,none⟩) n c,.slice (some ⟨b',i',none⟩) n' c'=>Nat.beq b b' && Nat.beq i i' && Nat.beq n n' && Nat.beq c c'
  | .nilIface,.nilIface=>true
  | .nilFunc,.nilFunc=>true
  | _,_=>false
theorem X8H {a b:Value} (h:X1V a b=true):a=b:=by
  unfold X1V at h
  split at h
  · split at h<;>first | rfl | cases h
  · simp only [Bool.and_eq_true,decide_eq_true_eq]at h;rw [h.1,h.2]
  · rename_i a b
    simp only [decide_eq_true_eq]at h
    have:a=b:=by
      cases a;cases b
      simp only at h
      congr 1
      exact Array.toList_inj.1 h
    rw [this]
  · rfl
  · simp only [Bool.and_eq_true,Nat.beq_eq]at h;rw [h.1,h.2]
  · rfl
  · simp only [Bool.and_eq_true,Nat.beq_eq]at h;rw [h.1.1.1,h.1.1.2,h.1.2,h.2]
  · rfl
  · rfl
  · cases h
def X5q:List Value→List Value→Bool
  | [],[]=>true
  | a::l,b::m=>X1V a b && X5q l m
  | _,_=>false
theorem X8I:∀ {l m:List Value},X5q l m=true→l=m:=by
  intro l
  induction l with
  | nil=>intro m h;cases m with
    | nil=>rfl
    | cons b m=>cases h
  | cons a l ih=>intro m h;cases m with
    | nil=>cases h
    | cons b m =>
      simp only [X5q,Bool.and_eq_true]at h
      rw [X8H h.1,ih h.2]
def veq:Value→Value→Bool
  | .agg cs,.agg cs'=>X5q cs.toList cs'.toList
  | .tuple cs,.tuple cs'=>X5q cs.toList cs'.toList
  | a,b=>X1V a b
theorem XCT {a b:Value} (h:veq a b=true):a=b:=by
  unfold veq at h
  split at h
  · rw [Array.toList_inj.1 (X8I h)]
  · rw [Array.toList_inj.1 (X8I h)]
  · exact X8H h
def allTo (f:Nat→Bool):Nat→Bool
  | 0=>true
  | n+1=>match f n with
    | true=>allTo f n
    | false=>false
theorem X09 {f:Nat→Bool}:∀ {n:Nat},allTo f n=true→∀ i,i<n→f i=true:=by
  intro n
  induction n with
  | zero=>intro _ i hi;omega
  | succ n ih =>
    intro h i hi
    simp only [allTo]at h
    split at h
    · rename_i hn
      by_cases e:i=n
      · subst e;exact hn
      · exact ih h i (by omega)
    · cases h
def X9D (o:Oper) (t:Nat):Bool:=match o.dst with
  | some d=>Nat.beq d t
  | none=>false
theorem X47 {o:Oper} {t:Nat}:X9D o t=true↔o.dst=some t:=by
  unfold X9D
  split
  · rename_i d hd;rw [hd];simp
  · rename_i hd;rw [hd];simp
def X0r (ops:Array Oper):Bool :=
  allTo (fun i=>match ops[i]? with
    | none=>false
    | some o => (match o.dst with
        | some d=>allTo (fun k=>match ops[k]? with
          | some p=>!X9D p d
          | none=>true) i
        | none=>true) &&
      o.after.toList.all (fun e=>!Region.binds .any e || Nat.blt e.on i) &&
      (o.looksAt ops).all fun t=>allTo (fun k=>match ops[k]? with
        | some p=>match X9D p t with
          | true=>match Nat.blt k i with
            | true=>((X0R ops).getD i 0).testBit k
            | false=>match Nat.beq k i with
              | true=>true
              | false=>((X0R ops).getD k 0).testBit i
          | false=>true
        | none=>true) ops.size) ops.size
def X0K (es:List Ent) (i:Nat):Bool:=match es[i]? with
  | some e=>e.mut_
  | none=>false
def X3c (P:Program) (call:X0D) (ops:Array Oper) (es:List Ent) (fin:St):Bool :=
  match es.any (·.mut_)with
  | false=>true
  | true =>
    allTo (fun i=>match es[i]?,ops[i]? with
      | some e,some o=>match e.mut_ with
        | true=>allTo (fun k=>!X0K es k || ((X0R ops).getD i 0).testBit k) i
        | false=>match e.want with
          | false=>true
          | true => allTo (fun j => Nat.beq j (cnt es i) ||
              !allTo (fun k=>!X0K es k || ((!((X0R ops).getD i 0).testBit k || Nat.blt (cnt es k) j) && (!((X0R ops).getD k 0).testBit i || Nat.ble j (cnt es k)))) ops.size ||
              (match(X0o es fin)[j]? with
                | some h=>match X05 P call o e.st.tm h with
                  | some (v,_)=>veq v e.v
                  | none=>false
                | none=>true)) ((X0o es fin).length)
      | _,_=>false) ops.size
def X2w (P:Program) (call:X0D) (ops:Array Oper) (es:List Ent) (fin:St):Bool :=
  match es.any (·.mut_)with
  | false=>true
  | true =>
    allTo (fun i=>match es[i]?,ops[i]? with
      | some e,some o=>match e.mut_ with
        | true=>true
        | false=>match e.want with
          | false=>true
          | true => allTo (fun j => Nat.beq j (cnt es i) ||
              !allTo (fun k=>!X0K es k || ((!((X0R ops).getD i 0).testBit k || Nat.blt (cnt es k) j) && (!((X0R ops).getD k 0).testBit i || Nat.ble j (cnt es k)))) ops.size ||
              (match(X0o es fin)[j]? with
                | some h=>match X05 P call o e.st.tm h with
                  | some (v,_)=>veq v e.v
                  | none=>false
                | none=>true)) ((X0o es fin).length)
      | _,_=>false) ops.size
theorem X1c {f:Nat→Bool}:∀ {n:Nat},(∀ i,i<n→f i=true)→allTo f n=true:=by
  intro n
  induction n with
  | zero=>intro _;rfl
  | succ n ih =>
    intro h
    simp only [allTo,h n (Nat.lt_succ_self n)]
    exact ih fun i hi=>h i (by omega)
theorem XHC {P:Program} {call:X0D} {ops:Array Oper} {es:List Ent} {fin:St} (h:X3c P call ops es fin=true):X2w P call ops es fin=true:=by
  unfold X3c at h
  unfold X2w
  cases hany:es.any (·.mut_)with
  | false=>rfl
  | true =>
    rw [hany]at h
    refine X1c fun i hi=>?_
    have h1:=X09 h i hi
    cases he:es[i]? with
    | none=>rw [he]at h1;simp at h1
    | some e =>
      cases ho:ops[i]? with
      | none=>rw [he,ho]at h1;simp at h1
      | some o =>
        rw [he,ho]at h1
        cases hm:e.mut_ with
        | true=>simp [hm]
        | false=>simp only [hm]at h1 ⊢;exact h1
def X19 (nt:Nat) (ops:Array Oper):Bool:=ops.toList.all fun o=>match o.dst with
  | some d=>Nat.blt d nt
  | none=>true
def X9E (P:Program):X0D→Nat→Array Oper→St→Option St:=fun call nt ops st =>
  match X0r ops && X19 nt ops with
  | true=>match XAw P call nt ops ops.toList st with
    | some (es,fin)=>match X3c P call ops es fin with
      | true=>some fin
      | false=>none
    | none=>none
  | false=>none
def gd (tm:Tr Value) (t:Nat):Value:=(tm.get t).getD undef
theorem X5r {nt:Nat} {tm:Tr Value} {d:Nat} {v:Value} (hd:d<nt) (hs:nt<1000000):gd (X3U nt tm (some d) v) d=v:=by
  unfold gd X3U
  have:Nat.blt d nt=true:=by simpa using hd
  simp only [this]
  rw [Tr.get_put_same (by omega)];rfl
theorem X3I {nt:Nat} {tm:Tr Value} {dst:Option Nat} {t:Nat} {v:Value} (h:dst≠some t):gd (X3U nt tm dst v) t=gd tm t:=by
  unfold gd X3U
  cases dst with
  | none=>rfl
  | some d =>
    simp only
    split
    · rw [Tr.get_put_other (fun e=>h (by rw [e]))]
    · rfl
def X5x (es:List Ent) (fin:St) (i:Nat):St:=match es[i]? with
  | some e=>e.st
  | none=>fin
section
variable {P:Program} {call:X0D} {nt:Nat} {ops:Array Oper}
theorem X8J {o:Oper} {l:List Oper} {st:St} {es:List Ent} {fin:St} (h:X1w P call nt ops (o::l) st=some (es,fin)):∃ e es' h',es=e::es'∧e.st=st∧X1w P call nt ops l ⟨X3U nt st.tm o.dst e.v,h'⟩=some (es',fin):=by
  simp only [X1w]at h
  split at h
  · split at h
    · split at h
      · rename_i es' fin' he;cases h;exact⟨_,es',_,rfl,rfl,he⟩
      · cases h
    · cases h
  · split at h
    · rename_i es' fin' he;cases h;exact⟨_,es',_,rfl,rfl,he⟩
    · cases h
theorem X1y (t:Nat):∀ (l:List Oper) (st:St) (es:List Ent) (fin:St),X1w P call nt ops l st=some (es,fin)→∀ i,i≤l.length→(∀ k o,k<i→l[k]?=some o→o.dst≠some t)→gd (X5x es fin i).tm t=gd st.tm t:=by
  intro l
  induction l with
  | nil=>intro st es fin h i hi _;simp only [X1w,Option.some.injEq,Prod.mk.injEq]at h;obtain⟨rfl,rfl⟩:=h;simp at hi;subst hi;rfl
  | cons o l ih =>
    intro st es fin h i hi hk
    obtain⟨e,es',h',rfl,hst,he⟩:=X8J h
    cases i with
    | zero=>simp only [X5x,List.getElem?_cons_zero];rw [hst]
    | succ i =>
      have:=ih _ _ _ he i (by simpa using hi) (fun k o' hki ho=>hk (k+1) o' (by omega) (by simpa using ho))
      have e1:X5x (e::es') fin (i+1)=X5x es' fin i:=by simp [X5x]
      rw [e1,this]
      exact X3I (hk 0 o (by omega) rfl)
theorem X3Y (hs:nt<1000000) (t:Nat) (ht:t<nt):∀ (l:List Oper) (st:St) (es:List Ent) (fin:St),X1w P call nt ops l st=some (es,fin)→∀ i,i≤l.length→∀ k o e,k<i→l[k]?=some o→o.dst=some t→es[k]?=some e →
    (∀ k' o',k<k'→k'<i→l[k']?=some o'→o'.dst≠some t)→gd (X5x es fin i).tm t=e.v:=by
  intro l
  induction l with
  | nil=>intro st es fin h i hi k o e _ ho;simp at ho
  | cons o l ih =>
    intro st es fin h i hi k ok ek hki hok hd hek hno
    obtain⟨e,es',h',rfl,hst,he⟩:=X8J h
    cases i with
    | zero=>omega
    | succ i =>
      have e1:X5x (e::es') fin (i+1)=X5x es' fin i:=by simp [X5x]
      rw [e1]
      cases k with
      | zero =>
        simp only [List.getElem?_cons_zero,Option.some.injEq]at hok hek
        subst hok hek
        rw [X1y t l _ es' fin he i (by simpa using hi) (fun k' o' hk' ho'=>hno (k'+1) o' (by omega) (by omega) (by simpa using ho'))]
        simp only [hd]
        exact X5r ht hs
      | succ k=>exact ih _ _ _ he i (by simpa using hi) k ok ek (by omega) (by simpa using hok) hd (by simpa using hek) (fun k' o' h1 h2 ho'=>hno (k'+1) o' (by omega) (by omega) (by simpa using ho'))
end
theorem X4z:∀ (es:List Ent) (i:Nat),i<es.length→cnt es (i+1)=cnt es i+(match X0K es i with | true=>1 | false=>0):=by
  intro es
  induction es with
  | nil=>intro i hi;simp at hi
  | cons e es ih =>
    intro i hi
    cases i with
    | zero=>cases hm:e.mut_<;>simp [cnt,X0K,hm]
    | succ i =>
      have:=ih i (by simpa using hi)
      simp only [cnt]at this ⊢
      rw [this]
      have:X0K (e::es) (i+1)=X0K es i:=by simp [X0K]
      rw [this];omega
theorem X2M {es:List Ent} {i:Nat} (h:X0K es i=true):i<es.length:=by
  unfold X0K at h
  split at h
  · rename_i e he
    rcases Nat.lt_or_ge i es.length with hh | hh
    · exact hh
    · rw [List.getElem?_eq_none hh]at he;cases he
  · cases h
theorem XA8 (es:List Ent) {i k:Nat} (hik:i≤k) (hk:k≤es.length):cnt es i≤cnt es k:=by
  induction k with
  | zero => have : i = 0 := by omega
            subst this;exact Nat.le_refl _
  | succ k ih =>
    by_cases e:i=k+1
    · subst e;exact Nat.le_refl _
    · have:=ih (by omega) (by omega)
      have h2:=X4z es k (by omega)
      omega
theorem XA9 {es:List Ent} {i k:Nat} (hm:X0K es i=true) (hik:i<k) (hk:k≤es.length):cnt es i<cnt es k:=by
  have h1:=X4z es i (X2M hm)
  rw [hm]at h1
  have h2:=XA8 es (i:=i+1) (k:=k) (by omega) hk
  simp only at h1
  omega
theorem XG4 {es:List Ent} {i k:Nat} (h1:X0K es i=true) (h2:X0K es k=true) (e:cnt es i=cnt es k):i=k:=by
  have l1:=X2M h1
  have l2:=X2M h2
  rcases Nat.lt_trichotomy i k with h | h | h
  · have:=XA9 h1 h (by omega);omega
  · exact h
  · have:=XA9 h2 h (by omega);omega
theorem X6e:∀ (es:List Ent) (i:Nat),i≤es.length→0<cnt es i→∃ k,k<i∧X0K es k=true∧cnt es k+1=cnt es i:=by
  intro es i
  induction i with
  | zero=>intro _ h;simp [cnt]at h
  | succ i ih =>
    intro hi h
    have h1:=X4z es i (by omega)
    cases hm:X0K es i with
    | true=>rw [hm]at h1;exact⟨i,by omega,hm,h1.symm⟩
    | false =>
      rw [hm]at h1
      simp only [Nat.add_zero]at h1
      obtain⟨k,q1,q2,q3⟩:=ih (by omega) (by omega)
      exact⟨k,by omega,q2,by omega⟩
theorem X29:∀ (es:List Ent) (fin:St),(X0o es fin).length=cnt es es.length+1∧(X0o es fin)[cnt es es.length]?=some fin.h:=by
  intro es
  induction es with
  | nil=>intro fin;exact⟨rfl,rfl⟩
  | cons e es ih =>
    intro fin
    obtain⟨h1,h2⟩:=ih fin
    simp only [List.length_cons,cnt,X0o]
    cases e.mut_ with
    | true=>simp only [List.length_cons];exact⟨by omega,by rw [Nat.add_comm 1,List.getElem?_cons_succ];exact h2⟩
    | false=>simp only [Nat.zero_add];exact⟨h1,h2⟩
end
end Go.Vai
namespace Go.Vai
noncomputable section
section
variable {P:Program} {call:X0D} {nt:Nat} {ops:Array Oper}
def Lst (listed:Array Bool) (i:Nat):Prop:=listed.getD i false=true
structure XE7 (ops:Array Oper) (es:List Ent) (fin st:St) (listed:Array Bool) (j:Nat) (cur:St):Prop where
  sz:listed.size=ops.size
  dc:XCl ops (Lst listed)
  mu:∀ i,X0K es i=true→(Lst listed i↔cnt es i<j)
  hp:(X0o es fin)[j]?=some cur.h
  t1:∀ k o e,ops[k]?=some o→es[k]?=some e→Lst listed k→∀ t,o.dst=some t→gd cur.tm t=e.v
  t2:∀ t,(∀ k o,ops[k]?=some o→Lst listed k→o.dst≠some t)→gd cur.tm t=gd st.tm t
theorem X0H {listed:Array Bool} {i k:Nat} (hi:i<listed.size):Lst (listed.setIfInBounds i true) k↔(k=i∨Lst listed k):=by
  unfold Lst
  by_cases e:k=i
  · subst e;simp [hi]
  · have:(listed.setIfInBounds i true).getD k false=listed.getD k false:=getD_set_ne false (fun x=>e x.symm)
    rw [this];simp [e]
theorem X0L (h : X0r ops = true) {i : Nat} {o : Oper} (ho : ops[i]? = some o) :
    (∀ d,o.dst=some d→∀ k p,k<i→ops[k]?=some p→p.dst≠some d)∧(∀ e∈o.after.toList,Region.binds .any e=true→e.on<i) ∧
    (∀ t∈o.looksAt ops,∀ k p,ops[k]?=some p→p.dst=some t→k≠i→(k<i→((X0R ops).getD i 0).testBit k=true)∧(i<k→((X0R ops).getD k 0).testBit i=true)):=by
  have hi:i<ops.size:=(Array.getElem?_eq_some_iff.1 ho).1
  have h1:=X09 h i hi
  rw [ho]at h1
  simp only [Bool.and_eq_true]at h1
  obtain⟨⟨ha,hb⟩,hc⟩:=h1
  refine⟨?_,?_,?_⟩
  · intro d hd k p hk hp hpd
    rw [hd]at ha
    have:=X09 ha k hk
    rw [hp]at this
    simp only [Bool.not_eq_true']at this
    rw [X47.2 hpd]at this;cases this
  · intro e he hbn
    have:=List.all_eq_true.1 hb e he
    rw [hbn]at this
    simpa using this
  · intro t ht k p hp hpd hki
    have h2:=List.all_eq_true.1 hc t ht
    have hk:k<ops.size:=(Array.getElem?_eq_some_iff.1 hp).1
    have h3:=X09 h2 k hk
    rw [hp]at h3
    simp only [X47.2 hpd]at h3
    have e2:Nat.beq k i=false:=by
      cases hh:Nat.beq k i with
      | false=>rfl
      | true=>exact absurd (Nat.eq_of_beq_eq_true hh) hki
    constructor
    · intro hlt
      have e1:Nat.blt k i=true:=by simpa using hlt
      rw [e1]at h3;exact h3
    · intro hlt
      have e1:Nat.blt k i=false:=by
        cases hh:Nat.blt k i with
        | false=>rfl
        | true => have : k < i := by simpa using hh
                  omega
      rw [e1,e2]at h3;exact h3
theorem X1W (h:X19 nt ops=true) {i:Nat} {o:Oper} (ho:ops[i]?=some o) {d:Nat} (hd:o.dst=some d):d<nt:=by
  have hm:o∈ops.toList:=by
    have:=Array.getElem?_eq_some_iff.1 ho
    obtain⟨hi,rfl⟩:=this
    simp
  have:=List.all_eq_true.1 h o hm
  rw [hd]at this
  simpa using this
theorem X9F {es:List Ent} {fin:St} (h:X3c P call ops es fin=true) {i k:Nat} (hn:i<ops.size) (hi:X0K es i=true) (hk:X0K es k=true) (hki:k<i):((X0R ops).getD i 0).testBit k=true:=by
  have hany:es.any (·.mut_)=true:=by
    unfold X0K at hi
    split at hi
    · rename_i e he
      exact List.any_eq_true.2 ⟨e,List.mem_of_getElem? he,hi⟩
    · cases hi
  unfold X3c at h
  rw [hany]at h
  have h1:=X09 h i hn
  unfold X0K at hi
  split at hi
  · rename_i e he
    rw [he]at h1
    obtain⟨o,ho⟩:∃ o,ops[i]?=some o:=⟨ops[i],Array.getElem?_eq_getElem hn⟩
    rw [ho]at h1
    simp only [hi]at h1
    have h2:=X09 h1 k hki
    rw [hk]at h2
    simpa using h2
  · cases hi
theorem XE8 {es : List Ent} {fin : St} (h : X2w P call ops es fin = true) {i j : Nat} {e : Ent} {o : Oper} (he : es[i]? = some e) (ho : ops[i]? = some o) (hm : e.mut_ = false) (hw : e.want = true) (hlen : es.length = ops.size)
    (hj:j≠cnt es i) {hh:Heap} (hhj:(X0o es fin)[j]?=some hh)
    (f1:∀ k,X0K es k=true→((X0R ops).getD i 0).testBit k=true→cnt es k<j) (f2:∀ k,X0K es k=true→((X0R ops).getD k 0).testBit i=true→j≤cnt es k) :
    ∃ h',X05 P call o e.st.tm hh=some (e.v,h'):=by
  have hjl:j<(X0o es fin).length:=by
    rcases Nat.lt_or_ge j (X0o es fin).length with x | x
    · exact x
    · rw [List.getElem?_eq_none x]at hhj;cases hhj
  have hn:i<ops.size:=(Array.getElem?_eq_some_iff.1 ho).1
  unfold X2w at h
  cases hany:es.any (·.mut_)with
  | false =>
    exfalso
    have hz:∀ (es:List Ent),es.any (·.mut_)=false→∀ i,cnt es i=0:=by
      intro es
      induction es with
      | nil=>intro _ i;cases i<;>rfl
      | cons a es ih =>
        intro ha i
        simp only [List.any_cons,Bool.or_eq_false_iff]at ha
        cases i with
        | zero=>rfl
        | succ i=>simp only [cnt,ha.1];rw [ih ha.2]
    have h1:=(X29 es fin).1
    rw [hz es hany]at h1
    rw [hz es hany]at hj
    omega
  | true =>
    rw [hany]at h
    have h1:=X09 h i hn
    rw [he,ho]at h1
    simp only [hm,hw]at h1
    have h2:=X09 h1 j hjl
    simp only [Bool.or_eq_true]at h2
    rcases h2 with(h2 | h2) | h2
    · exact absurd (Nat.eq_of_beq_eq_true h2) hj
    · exfalso
      have:allTo (fun k=>!X0K es k || ((!((X0R ops).getD i 0).testBit k || Nat.blt (cnt es k) j) && (!((X0R ops).getD k 0).testBit i || Nat.ble j (cnt es k)))) ops.size=true:=by
        have key:∀ n,allTo (fun k=>!X0K es k || ((!((X0R ops).getD i 0).testBit k || Nat.blt (cnt es k) j) && (!((X0R ops).getD k 0).testBit i || Nat.ble j (cnt es k)))) n=true:=by
          intro n
          induction n with
          | zero=>rfl
          | succ n ih =>
            have hf:(!X0K es n || ((!((X0R ops).getD i 0).testBit n || Nat.blt (cnt es n) j) && (!((X0R ops).getD n 0).testBit i || Nat.ble j (cnt es n))))=true:=by
              cases hmn:X0K es n with
              | false=>rfl
              | true =>
                simp only [Bool.not_true,Bool.false_or,Bool.and_eq_true]
                constructor
                · cases hb:((X0R ops).getD i 0).testBit n with
                  | false=>rfl
                  | true=>have:=f1 n hmn hb;simp only [Bool.not_true,Bool.false_or];simpa using this
                · cases hb:((X0R ops).getD n 0).testBit i with
                  | false=>rfl
                  | true=>have:=f2 n hmn hb;simp only [Bool.not_true,Bool.false_or];simpa using this
            simp only [allTo,hf];exact ih
        exact key _
      rw [this]at h2;cases h2
    · rw [hhj]at h2
      simp only at h2
      split at h2
      · rename_i v h' hs
        exact⟨h',by rw [hs,XCT h2]⟩
      · cases h2
theorem X48 {listed:Array Bool} {i:Nat} {o:Oper} (hls:i<listed.size) (D:XCl ops (Lst listed)) (ho:ops[i]?=some o) (hpred:∀ e∈o.after.toList,Region.binds .any e=true→Lst listed e.on):XCl ops (Lst (listed.setIfInBounds i true)):=by
  intro k p hp hk e he hb
  rcases(X0H hls).1 hk with rfl | hk
  · rw [ho]at hp;cases hp
    exact(X0H hls).2 (.inr (hpred e he hb))
  · exact(X0H hls).2 (.inr (D k p hp hk e he hb))
theorem X8K {es : List Ent} {fin st : St} {listed : Array Bool} {j : Nat} {cur : St} (hst : X0r ops = true) (hbe : X19 nt ops = true) (hnt : nt < 1000000) (hps : X1w P call nt ops ops.toList st = some (es, fin))
    (I:XE7 ops es fin st listed j cur) {i:Nat} {o:Oper} (ho:ops[i]?=some o) (hni:¬ Lst listed i) (hpred:∀ e∈o.after.toList,Region.binds .any e=true→Lst listed e.on) :
    ∃ en,es[i]?=some en∧(∀ t∈o.looksAt ops,gd cur.tm t=gd en.st.tm t)∧Region.wanted o (X0b ops cur.tm)=Region.wanted o (X0b ops en.st.tm):=by
  have hn:i<ops.size:=(Array.getElem?_eq_some_iff.1 ho).1
  have hlen:es.length=ops.size:=by have:=X1E _ _ _ _ hps;simpa using this
  have hls:i<listed.size:=by rw [I.sz];exact hn
  have D':XCl ops (Lst (listed.setIfInBounds i true)):=by
    intro k p hp hk e he hb
    rcases(X0H hls).1 hk with rfl | hk
    · rw [ho]at hp;cases hp
      exact(X0H hls).2 (.inr (hpred e he hb))
    · exact(X0H hls).2 (.inr (I.dc k p hp hk e he hb))
  have li:Lst (listed.setIfInBounds i true) i:=(X0H hls).2 (.inl rfl)
  obtain⟨en,hen,hhe,hwant,hmut,hnw,hyes⟩:=X2R _ _ _ _ hps i o (by simpa using ho)
  have hstat:X5x es fin i=en.st:=by simp [X5x,hen]
  have slot:∀ t∈o.looksAt ops,gd cur.tm t=gd en.st.tm t:=by
    intro t ht
    obtain⟨s1,s2,s3⟩:=X0L hst ho
    by_cases hex:∃ k p,ops[k]?=some p∧p.dst=some t∧k≠i
    · obtain⟨k,p,hp,hpd,hki⟩:=hex
      obtain⟨q1,q2⟩:=s3 t ht k p hp hpd hki
      have hkn:k<ops.size:=(Array.getElem?_eq_some_iff.1 hp).1
      obtain⟨ek,hek⟩:∃ ek,es[k]?=some ek:=⟨es[k],List.getElem?_eq_getElem (by omega)⟩
      have uniq:∀ k' p',ops[k']?=some p'→p'.dst=some t→k'=k:=by
        intro k' p' hp' hpd'
        rcases Nat.lt_trichotomy k' k with x | x | x
        · exact absurd hpd' ((X0L hst hp).1 t hpd k' p' x hp')
        · exact x
        · exact absurd hpd ((X0L hst hp').1 t hpd' k p x hp)
      rcases Nat.lt_or_gt_of_ne hki with hlt | hgt
      · have hk:=X0c D' li (q1 hlt)
        have hk:Lst listed k:=((X0H hls).1 hk).resolve_left hki
        rw [I.t1 k p ek hp hek hk t hpd]
        have:=X3Y (P:=P) (call:=call) (ops:=ops) hnt t (X1W hbe hp hpd) ops.toList st es fin hps i (by simp;omega) k p ek hlt (by simpa using hp) hpd hek (fun k' o' h1 h2 ho' hd'=>by
          have:=uniq k' o' (by simpa using ho') hd';omega)
        rw [hstat]at this
        exact this.symm
      · have hnk : ¬ Lst listed k := by
          intro hk
          exact hni (X0c I.dc hk (q2 hgt))
        rw [I.t2 t (fun k' p' hp' hk' hd'=>by have:=uniq k' p' hp' hd';subst this;exact hnk hk')]
        have:=X1y (P:=P) (call:=call) (nt:=nt) (ops:=ops) t ops.toList st es fin hps i (by simp;omega) (fun k' o' h1 ho' hd'=>by
          have:=uniq k' o' (by simpa using ho') hd';omega)
        rw [hstat]at this
        exact this.symm
    · have none_ : ∀ k p, ops[k]? = some p → p.dst = some t → k = i := by
        intro k p hp hpd
        by_cases e:k=i
        · exact e
        · exact absurd ⟨k,p,hp,hpd,e⟩ hex
      rw [I.t2 t (fun k' p' hp' hk' hd'=>by have:=none_ k' p' hp' hd';subst this;exact hni hk')]
      have:=X1y (P:=P) (call:=call) (nt:=nt) (ops:=ops) t ops.toList st es fin hps i (by simp;omega) (fun k' o' h1 ho' hd'=>by
        have:=none_ k' o' (by simpa using ho') hd';omega)
      rw [hstat]at this
      exact this.symm
  have hwe:Region.wanted o (X0b ops cur.tm)=Region.wanted o (X0b ops en.st.tm):=by
    unfold Region.wanted
    cases hg:o.guard with
    | none=>rfl
    | some g =>
      obtain⟨g,want⟩:=g
      simp only
      have:X0b ops cur.tm g=X0b ops en.st.tm g:=by
        unfold X0b
        cases hd:(ops[g]?).bind (·.dst)with
        | none=>rfl
        | some d =>
          have:=slot d (by simp [Oper.looksAt,hg,hd])
          unfold gd at this
          simp only [this]
      rw [this]
  exact⟨en,hen,slot,hwe⟩
theorem X3J {es : List Ent} {fin st : St} {listed : Array Bool} {j : Nat} {cur : St} (hst : X0r ops = true) (hbe : X19 nt ops = true) (hnt : nt < 1000000) (hps : X1w P call nt ops ops.toList st = some (es, fin)) (hR : X2w P call ops es fin = true)
    (I:XE7 ops es fin st listed j cur) {i:Nat} {o:Oper} (ho:ops[i]?=some o) (hni:¬ Lst listed i) (hpred:∀ e∈o.after.toList,Region.binds .any e=true→Lst listed e.on) (hM:X0K es i=true→∀ k,X0K es k=true→k<i→Lst listed k) :
    ∃ cur' j',X1d P call nt ops o cur=some cur'∧XE7 ops es fin st (listed.setIfInBounds i true) j' cur':=by
  have hn:i<ops.size:=(Array.getElem?_eq_some_iff.1 ho).1
  have hlen:es.length=ops.size:=by have:=X1E _ _ _ _ hps;simpa using this
  have hls:i<listed.size:=by rw [I.sz];exact hn
  have D':XCl ops (Lst (listed.setIfInBounds i true)):=by
    intro k p hp hk e he hb
    rcases(X0H hls).1 hk with rfl | hk
    · rw [ho]at hp;cases hp
      exact(X0H hls).2 (.inr (hpred e he hb))
    · exact(X0H hls).2 (.inr (I.dc k p hp hk e he hb))
  have li:Lst (listed.setIfInBounds i true) i:=(X0H hls).2 (.inl rfl)
  obtain⟨en,hen,hhe,hwant,hmut,hnw,hyes⟩:=X2R _ _ _ _ hps i o (by simpa using ho)
  have hstat:X5x es fin i=en.st:=by simp [X5x,hen]
  have slot:∀ t∈o.looksAt ops,gd cur.tm t=gd en.st.tm t:=by
    intro t ht
    obtain⟨s1,s2,s3⟩:=X0L hst ho
    by_cases hex:∃ k p,ops[k]?=some p∧p.dst=some t∧k≠i
    · obtain⟨k,p,hp,hpd,hki⟩:=hex
      obtain⟨q1,q2⟩:=s3 t ht k p hp hpd hki
      have hkn:k<ops.size:=(Array.getElem?_eq_some_iff.1 hp).1
      obtain⟨ek,hek⟩:∃ ek,es[k]?=some ek:=⟨es[k],List.getElem?_eq_getElem (by omega)⟩
      have uniq:∀ k' p',ops[k']?=some p'→p'.dst=some t→k'=k:=by
        intro k' p' hp' hpd'
        rcases Nat.lt_trichotomy k' k with x | x | x
        · exact absurd hpd' ((X0L hst hp).1 t hpd k' p' x hp')
        · exact x
        · exact absurd hpd ((X0L hst hp').1 t hpd' k p x hp)
      rcases Nat.lt_or_gt_of_ne hki with hlt | hgt
      · have hk:=X0c D' li (q1 hlt)
        have hk:Lst listed k:=((X0H hls).1 hk).resolve_left hki
        rw [I.t1 k p ek hp hek hk t hpd]
        have:=X3Y (P:=P) (call:=call) (ops:=ops) hnt t (X1W hbe hp hpd) ops.toList st es fin hps i (by simp;omega) k p ek hlt (by simpa using hp) hpd hek (fun k' o' h1 h2 ho' hd'=>by
          have:=uniq k' o' (by simpa using ho') hd';omega)
        rw [hstat]at this
        exact this.symm
      · have hnk : ¬ Lst listed k := by
          intro hk
          exact hni (X0c I.dc hk (q2 hgt))
        rw [I.t2 t (fun k' p' hp' hk' hd'=>by have:=uniq k' p' hp' hd';subst this;exact hnk hk')]
        have:=X1y (P:=P) (call:=call) (nt:=nt) (ops:=ops) t ops.toList st es fin hps i (by simp;omega) (fun k' o' h1 ho' hd'=>by
          have:=uniq k' o' (by simpa using ho') hd';omega)
        rw [hstat]at this
        exact this.symm
    · have none_ : ∀ k p, ops[k]? = some p → p.dst = some t → k = i := by
        intro k p hp hpd
        by_cases e:k=i
        · exact e
        · exact absurd ⟨k,p,hp,hpd,e⟩ hex
      rw [I.t2 t (fun k' p' hp' hk' hd'=>by have:=none_ k' p' hp' hd';subst this;exact hni hk')]
      have:=X1y (P:=P) (call:=call) (nt:=nt) (ops:=ops) t ops.toList st es fin hps i (by simp;omega) (fun k' o' h1 ho' hd'=>by
        have:=none_ k' o' (by simpa using ho') hd';omega)
      rw [hstat]at this
      exact this.symm
  have hwe:Region.wanted o (X0b ops cur.tm)=Region.wanted o (X0b ops en.st.tm):=by
    unfold Region.wanted
    cases hg:o.guard with
    | none=>rfl
    | some g =>
      obtain⟨g,want⟩:=g
      simp only
      have:X0b ops cur.tm g=X0b ops en.st.tm g:=by
        unfold X0b
        cases hd:(ops[g]?).bind (·.dst)with
        | none=>rfl
        | some d =>
          have:=slot d (by simp [Oper.looksAt,hg,hd])
          unfold gd at this
          simp only [this]
      rw [this]
  have slots':∀ (v:Value) (h':Heap),v=en.v→(∀ k o' e',ops[k]?=some o'→es[k]?=some e'→Lst (listed.setIfInBounds i true) k→∀ t,o'.dst=some t→gd (⟨X3U nt cur.tm o.dst v,h'⟩:St).tm t=e'.v) ∧
      (∀ t,(∀ k o',ops[k]?=some o'→Lst (listed.setIfInBounds i true) k→o'.dst≠some t)→gd (⟨X3U nt cur.tm o.dst v,h'⟩:St).tm t=gd st.tm t):=by
    intro v h' hv
    subst hv
    constructor
    · intro k o' e' hk hek hl t hd
      by_cases hki:k=i
      · subst hki
        rw [ho]at hk;cases hk
        rw [hen]at hek;cases hek
        simp only [hd]
        exact X5r (X1W hbe ho hd) hnt
      · have hl:Lst listed k:=((X0H hls).1 hl).resolve_left hki
        have hne:o.dst≠some t:=by
          intro hx
          rcases Nat.lt_or_gt_of_ne hki with hlt | hgt
          · exact(X0L hst ho).1 t hx k o' hlt hk hd
          · exact(X0L hst hk).1 t hd i o hgt ho hx
        simp only
        rw [X3I hne]
        exact I.t1 k o' e' hk hek hl t hd
    · intro t ht
      simp only
      rw [X3I (ht i o ho li)]
      exact I.t2 t fun k o' hk hl=>ht k o' hk ((X0H hls).2 (.inr hl))
  have szs:(listed.setIfInBounds i true).size=ops.size:=by simp [I.sz]
  cases hw:en.want with
  | false =>
    refine⟨⟨X3U nt cur.tm o.dst undef,cur.h⟩,j,?_,szs,D',?_,I.hp,?_,?_⟩
    · unfold X1d
      rw [hwe,← hwant,hw]
    · intro k hk
      have hki:k≠i:=by
        rintro rfl
        simp only [X0K,hen]at hk
        rw [hmut,hw]at hk;cases hk
      rw [X0H hls,← I.mu k hk]
      simp [hki]
    · exact(slots' undef cur.h (hnw hw).symm).1
    · exact(slots' undef cur.h (hnw hw).symm).2
  | true =>
    obtain⟨h',hs,hh'⟩:=hyes hw
    have hcongr:∀ hp,X05 P call o cur.tm hp=X05 P call o en.st.tm hp:=by
      intro hp
      refine X8G fun x hx=>XCR fun t ht=>?_
      subst ht
      exact slot t (by
        unfold Oper.looksAt
        refine List.mem_append_left _ ?_
        rw [List.mem_filterMap]
        exact⟨.tmp t,by simpa using hx,rfl⟩)
    cases hm:en.mut_ with
    | true =>
      have hmi:X0K es i=true:=by simp [X0K,hen,hm]
      have hj1:j≤cnt es i:=by
        rcases Nat.lt_or_ge (cnt es i) j with x | x
        · exact absurd ((I.mu i hmi).2 x) hni
        · exact x
      have hj2:cnt es i≤j:=by
        rcases Nat.eq_zero_or_pos (cnt es i)with x | x
        · omega
        · obtain⟨k,k1,k2,k3⟩:=X6e es i (by omega) x
          have hk:=hM hmi k k2 k1
          have:=(I.mu k k2).1 hk
          omega
      have hje:j=cnt es i:=by omega
      have hheap:cur.h=en.st.h:=by
        have:=I.hp
        rw [hje,hhe]at this
        exact(Option.some.inj this).symm
      rw [hm]at hh'
      refine⟨⟨X3U nt cur.tm o.dst en.v,h'⟩,cnt es i+1,?_,szs,D',?_,hh',?_,?_⟩
      · unfold X1d
        rw [hwe,← hwant,hw]
        simp only
        rw [hcongr,hheap,hs]
      · intro k hk
        rw [X0H hls,I.mu k hk]
        constructor
        · rintro(rfl | x)
          · omega
          · omega
        · intro x
          by_cases e:cnt es k=cnt es i
          · exact .inl (XG4 hk hmi e)
          · exact .inr (by omega)
      · exact(slots' en.v h' rfl).1
      · exact(slots' en.v h' rfl).2
    | false =>
      have hro:X0F o.op=true:=by
        rw [hm,hw]at hmut
        simpa using hmut.symm
      have hstep:∃ h2,X05 P call o en.st.tm cur.h=some (en.v,h2):=by
        by_cases hje:j=cnt es i
        · have hheap : cur.h = en.st.h := by
            have:=I.hp
            rw [hje,hhe]at this
            exact(Option.some.inj this).symm
          rw [hheap];exact⟨h',hs⟩
        · refine XE8 hR hen ho hm hw hlen hje I.hp ?_ ?_
          · intro k hk hb
            have hl:=X0c D' li hb
            have hki:k≠i:=by
              rintro rfl
              simp only [X0K,hen]at hk
              rw [hm]at hk;cases hk
            exact(I.mu k hk).1 (((X0H hls).1 hl).resolve_left hki)
          · intro k hk hb
            rcases Nat.lt_or_ge (cnt es k) j with x | x
            · exact absurd (X0c I.dc ((I.mu k hk).2 x) hb) hni
            · exact x
      obtain⟨h2,hs2⟩:=hstep
      have hh2:=X3H hro hs2
      subst hh2
      refine⟨⟨X3U nt cur.tm o.dst en.v,cur.h⟩,j,?_,szs,D',?_,I.hp,?_,?_⟩
      · unfold X1d
        rw [hwe,← hwant,hw]
        simp only
        rw [hcongr,hs2]
      · intro k hk
        have hki:k≠i:=by
          rintro rfl
          simp only [X0K,hen]at hk
          rw [hm]at hk;cases hk
        rw [X0H hls,← I.mu k hk]
        simp [hki]
      · exact(slots' en.v cur.h rfl).1
      · exact(slots' en.v cur.h rfl).2
theorem X50 {es : List Ent} {fin st : St} {listed : Array Bool} {j : Nat} {cur : St} (hst : X0r ops = true) (hbe : X19 nt ops = true) (hnt : nt < 1000000) (hps : X1w P call nt ops ops.toList st = some (es, fin))
    (I:XE7 ops es fin st listed j cur) (hr:Region.ready .any ops listed=[]):cur.h=fin.h∧∀ t,gd cur.tm t=gd fin.tm t:=by
  have hlen:es.length=ops.size:=by have:=X1E _ _ _ _ hps;simpa using this
  have all:∀ i,i<ops.size→Lst listed i:=by
    intro i
    induction i using Nat.strongRecOn with
    | _ i ih =>
      intro hi
      obtain⟨o,ho⟩:∃ o,ops[i]?=some o:=⟨ops[i],Array.getElem?_eq_getElem hi⟩
      cases hl:listed.getD i false with
      | true=>exact hl
      | false =>
        exfalso
        have:i∈Region.ready .any ops listed:=mem_ready.2 ⟨by
          have hlt:i<listed.size:=by rw [I.sz];exact hi
          simp only [Array.getD,hlt,dif_pos]at hl ⊢;exact hl,o,ho,fun e he hb=>by
            have hlt:=(X0L hst ho).2.1 e (by simpa using he) hb
            exact ih e.on hlt (by omega)⟩
        rw [hr]at this;cases this
  obtain⟨hl1,hl2⟩:=X29 es fin
  constructor
  · have hj : j = cnt es es.length := by
      have hjl:j<(X0o es fin).length:=by
        rcases Nat.lt_or_ge j (X0o es fin).length with x | x
        · exact x
        · have:=I.hp;rw [List.getElem?_eq_none x]at this;cases this
      rcases Nat.eq_zero_or_pos (cnt es es.length)with x | x
      · omega
      · obtain⟨k,k1,k2,k3⟩:=X6e es es.length (Nat.le_refl _) x
        have:=(I.mu k k2).1 (all k (by omega))
        omega
    have:=I.hp
    rw [hj,hl2]at this
    exact(Option.some.inj this).symm
  · intro t
    have hfin:X5x es fin ops.size=fin:=by simp [X5x,hlen]
    by_cases hex:∃ (k:Nat) (p:Oper),ops[k]?=some p∧p.dst=some t
    · obtain⟨k,p,hp,hpd⟩:=hex
      have hkn:k<ops.size:=(Array.getElem?_eq_some_iff.1 hp).1
      obtain⟨ek,hek⟩:∃ ek,es[k]?=some ek:=⟨es[k],List.getElem?_eq_getElem (by omega)⟩
      rw [I.t1 k p ek hp hek (all k hkn) t hpd]
      have:=X3Y (P:=P) (call:=call) (ops:=ops) hnt t (X1W hbe hp hpd) ops.toList st es fin hps ops.size (by simp) k p ek hkn (by simpa using hp) hpd hek (fun k' o' h1 h2 ho' hd'=>by
        exact(X0L hst (by simpa using ho')).1 t hd' k p h1 hp hpd)
      rw [hfin]at this
      exact this.symm
    · rw [I.t2 t (fun k p hp _ hd=>hex ⟨k,p,hp,hd⟩)]
      have:=X1y (P:=P) (call:=call) (nt:=nt) (ops:=ops) t ops.toList st es fin hps ops.size (by simp) (fun k o h1 ho hd=>hex ⟨k,o,by simpa using ho,hd⟩)
      rw [hfin]at this
      exact this.symm
end
def left (listed:Array Bool) (n:Nat):Nat:=((List.range n).filter fun i=>!listed.getD i false).length
theorem X7F {listed:Array Bool} {n i:Nat} (hi:i<n) (hs:n=listed.size) (hl:listed.getD i false=false):left (listed.setIfInBounds i true) n+1=left listed n:=by
  unfold left
  have key:∀ m,m≤n→((List.range m).filter fun k=>!(listed.setIfInBounds i true).getD k false).length+(if i<m then 1 else 0)=((List.range m).filter fun k=>!listed.getD k false).length:=by
    intro m
    induction m with
    | zero=>intro _;simp
    | succ m ih =>
      intro hm
      have:=ih (by omega)
      rw [List.range_succ,List.filter_append,List.filter_append,List.length_append,List.length_append]
      by_cases e:m=i
      · subst e
        have e1:(listed.setIfInBounds m true).getD m false=true:=by simp [show m<listed.size by omega]
        rw [if_neg (by omega)]at this
        rw [if_pos (by omega)]
        simp only [List.filter_cons,e1,hl,Bool.not_true,Bool.not_false,List.filter_nil,if_true,Bool.false_eq_true,if_false,List.length_nil,List.length_cons]
        omega
      · have e1:(listed.setIfInBounds i true).getD m false=listed.getD m false:=getD_set_ne false (fun x=>e x.symm)
        rw [show(List.filter (fun k=>!(listed.setIfInBounds i true).getD k false) [m])=List.filter (fun k=>!listed.getD k false) [m]from by simp only [List.filter_cons,e1,List.filter_nil]]
        by_cases hlt:i<m
        · rw [if_pos hlt]at this;rw [if_pos (by omega)];omega
        · rw [if_neg hlt]at this;rw [if_neg (by omega)];omega
  have:=key n (Nat.le_refl n)
  rw [if_pos hi]at this
  exact this
theorem XE9 {P:Program} (hf:P.follows .mixedOrders=true):XHB P (X9E P):=by
  intro call hcall id nt ops st st' e F hF n n0 ρ a w S
  unfold X9E at e
  split at e
  case h_2=>cases e
  rename_i hck
  simp only [Bool.and_eq_true]at hck
  obtain⟨hst,hbe⟩:=hck
  split at e
  case h_2=>cases e
  rename_i es fin hps
  rw [X2L]at hps
  split at e
  case h_2=>cases e
  rename_i hdy
  cases e
  refine wpIn_region_any hf ?_
  have main:∀ (fuel:Nat) (listed:Array Bool) (j:Nat) (cur:St) (ρ₁:Rho) (a₁:Act) (w₁:World),left listed ops.size=fuel→XE7 ops es st' st listed j cur→X6Z n0 ρ₁ nt cur a₁ w₁→X2H ρ ρ₁ w→Fr ρ w w₁ →
      wpAnyIn F n P .any ops (X4n n0 ρ w nt .normal st') fuel listed a₁ w₁:=by
    intro fuel
    induction fuel with
    | zero =>
      intro listed j cur ρ₁ a₁ w₁ hl I S₁ g f
      have hr:Region.ready .any ops listed=[]:=by
        rw [List.eq_nil_iff_forall_not_mem]
        intro i hi
        obtain⟨h1,o,ho,_⟩:=mem_ready.1 hi
        have hn:i<ops.size:=(Array.getElem?_eq_some_iff.1 ho).1
        have hlt:i<listed.size:=by rw [I.sz];exact hn
        have h1':listed.getD i false=false:=by
          simp only [Array.getD,hlt,dif_pos]at h1 ⊢;exact h1
        have hmem:i∈(List.range ops.size).filter fun i=>!listed.getD i false:=by
          rw [List.mem_filter];exact⟨List.mem_range.2 hn,by rw [h1'];rfl⟩
        have:(List.range ops.size).filter (fun i=>!listed.getD i false)=[]:=List.length_eq_zero_iff.1 hl
        rw [this]at hmem;cases hmem
      obtain⟨q1,q2⟩:=X50 hst hbe S.s hps I hr
      refine⟨hr,rfl,ρ₁,g,f,?_,?_,S₁.d,S₁.n,S₁.s,S₁.z⟩
      · rw [← q1];exact S₁.h
      · intro t;have:=S₁.t t;have e2:=q2 t;unfold gd at e2;rw [← e2];exact this
    | succ fuel ih =>
      intro listed j cur ρ₁ a₁ w₁ hl I S₁ g f
      refine⟨fun hr=>?_,fun i hi=>?_⟩
      · obtain⟨q1,q2⟩:=X50 hst hbe S.s hps I hr
        refine⟨rfl,ρ₁,g,f,?_,?_,S₁.d,S₁.n,S₁.s,S₁.z⟩
        · rw [← q1];exact S₁.h
        · intro t;have:=S₁.t t;have e2:=q2 t;unfold gd at e2;rw [← e2];exact this
      · obtain⟨h1,o,ho,hpred⟩:=mem_ready.1 hi
        have hn:i<ops.size:=(Array.getElem?_eq_some_iff.1 ho).1
        have hlt:i<listed.size:=by rw [I.sz];exact hn
        have h1':listed.getD i false=false:=by
          simp only [Array.getD,hlt,dif_pos]at h1 ⊢;exact h1
        obtain ⟨cur', j', q1, q2⟩ := X3J hst hbe S.s hps (XHC hdy) I ho (by unfold Lst; rw [h1']; simp) (fun e he hb => hpred e (by simpa using he) hb) (fun hmi k k2 k1 => by
            have hb:=X9F hdy hn hmi k2 k1
            have hk:=X0c (X48 hlt I.dc ho (fun e he hb=>hpred e (by simpa using he) hb)) ((X0H hlt).2 (.inl rfl)) hb
            exact((X0H hlt).1 hk).resolve_left (by omega))
        unfold wpOpIn
        rw [ho]
        refine X2F hF hcall S₁ q1 _ ?_ _
        rintro a' w' ⟨ρ₂,g2,f2,S₂⟩
        exact ih _ j' cur' ρ₂ a' w' (by have:=X7F hn I.sz.symm h1';omega) q2 S₂ (g.trans f.size g2) (f.trans g f2)
  have h0:∀ n,left (Array.replicate n false) n=n:=by
    intro n
    unfold left
    rw [List.filter_eq_self.2]
    · simp
    · intro k hk
      have:k<n:=by simpa using hk
      simp [this]
  have nl:∀ k,¬ Lst (Array.replicate ops.size false) k:=by
    intro k hk
    unfold Lst at hk
    by_cases hkn:k<ops.size
    · simp [hkn]at hk
    · simp [hkn]at hk
  refine main ops.size (Array.replicate ops.size false) 0 st ρ a _ (h0 ops.size) ?_ ⟨S.h.drew,S.t,S.d.go (.refl _ _) (Fr.refl ρ w).drew,S.n,S.s,S.z⟩ (.refl _ _) (Fr.refl ρ w).drew
  exact⟨by simp,fun i o _ hi=>absurd hi (nl i),fun i _=>⟨fun hi=>absurd hi (nl i),fun x=>absurd x (Nat.not_lt_zero _)⟩,X1r _ _ _ _ hps,fun k o e _ _ hk=>absurd hk (nl k),fun t _=>rfl⟩
end
end Go.Vai
namespace Go.Vai
noncomputable section
def X3o (P:Program) (t:TypeId) (len:Nat) (parts:List (Nat×Value)):Option (List Value×Nat) :=
 match P.underlying t with
 | some (.slice elem)=>match sz P elem,X1o P elem with
  | some size,some z =>
   match Nat.ble (len*size) 16777216 && Nat.beq z.cells.size size && Nat.blt 0 size with
   | true=>match X3l (fun i=>some (i*size,size)) (X02 z.cells (len*size)) parts with
    | some l=>some (l,size)
    | none=>none
   | false=>none
  | _,_=>none
 | _=>none
theorem X6B {P:Program} {h:Heap} {t:TypeId} {len:Nat} {parts:List (Nat×Value)}:X1D P h t len parts=(match X3o P t len parts with
  | some (l,size)=>X0n len len (h.new (X2z 0 .leaf l) (len*size) size)
  | none=>none):=by
 unfold X1D X3o
 cases P.underlying t with
 | none=>rfl
 | some d =>
  cases d<;>try rfl
  rename_i elem
  simp only
  cases sz P elem with
  | none=>rfl
  | some size=>cases X1o P elem with
   | none=>rfl
   | some z =>
    simp only
    cases (Nat.ble (len*size) 16777216 && Nat.beq z.cells.size size && Nat.blt 0 size)with
    | false=>rfl
    | true =>
     simp only
     cases X3l (fun i=>some (i*size,size)) (X02 z.cells (len*size)) parts<;>rfl
theorem X8L {place:Nat→Option (Nat×Nat)}:∀ (parts:List (Nat×Value)) (cells l:List Value),X3l place cells parts=some l→l.length=cells.length:=by
 intro parts
 induction parts with
 | nil=>intro cells l h;simp only [X3l,Option.some.injEq]at h;subst h;rfl
 | cons p parts ih =>
  intro cells l h
  obtain⟨i,v⟩:=p
  simp only [X3l]at h
  split at h
  case h_2=>cases h
  split at h
  case h_2=>cases h
  rw [ih _ _ h,X6R]
theorem X9G {P:Program} {t:TypeId} {len size:Nat} {parts:List (Nat×Value)} {l:List Value} (e:X3o P t len parts=some (l,size)):l.length=len*size∧len*size≤16777216:=by
 unfold X3o at e
 split at e
 case h_2=>cases e
 split at e
 case h_2=>cases e
 split at e
 case h_2=>cases e
 rename_i hck
 simp only [Bool.and_eq_true,Nat.ble_eq,Nat.blt_eq]at hck
 split at e
 case h_2=>cases e
 rename_i hf
 cases e
 exact⟨by rw [X8L _ _ _ hf];simp [X02],hck.1.1⟩
theorem XEA {P:Program} {ρ:Rho} {t:TypeId} {len size:Nat} {parts:List (Nat×Value)} {parts':Array (Nat×Value)} {l:List Value} (e:X3o P t len parts=some (l,size)) (r:F2 (fun p p'=>p.1=p'.1∧X0N ρ p.2 p'.2) parts parts'.toList) :
  ∃ elem,∃ arr:Array Value,(∀ w,(Instr.buildSlice t len parts').run P w=.ok (.slice (some ⟨w.heap.size,0,none⟩) len len) (w.alloc (.cells arr elem)))∧F2 (X13 ρ) l arr.toList∧l.length=len*size∧len*size≤16777216:=by
 unfold X3o at e
 split at e
 case h_2=>cases e
 rename_i elem hu
 split at e
 case h_2=>cases e
 rename_i size' z hs hz
 split at e
 case h_2=>cases e
 rename_i hck
 simp only [Bool.and_eq_true,Nat.ble_eq,Nat.blt_eq]at hck
 obtain⟨⟨hk1,hk2⟩,hk3⟩:=hck
 have hk2:z.cells.size=size':=Nat.eq_of_beq_eq_true hk2
 split at e
 case h_2=>cases e
 rename_i l₁ hf
 cases e
 have hzc:=X0p (ρ:=ρ) (X1S (X0W hz)) (n:=len*size) (.inr (by omega))
 rw [← X17]at hzc
 obtain⟨l',q1,q2,q3⟩:=X2n parts parts'.toList _ l ((Array.range (len*size)).map (z.cells[· % z.cells.size]!)) hf r (by
  have:=hzc;rw [X17]at this ⊢;exact this)
 have hll:l.length=len*size:=by rw [q3];simp [X02]
 refine⟨elem,l',fun w=>?_,q2,hll,hk1⟩
 simp only [Instr.buildSlice,Sem.run_bind,X00 hu,X0g hs,Result.andThen_ok]
 rw [if_neg (by omega)]
 by_cases h0:len*size=0
 ·
  simp only [h0,if_true,Sem.run_pure,Result.andThen_ok,Sem.run_bind]
  have q1':Instr.fill (fun i=>some (i*size,size)) ((Array.range 0).map ((#[]:Array Value)[· % (#[]:Array Value).size]!)) parts'.toList=some l':=by
   have ea:∀ f:Nat→Value,(Array.range 0).map f=#[]:=fun f=>Array.toList_inj.1 (by simp)
   rw [← q1,h0,ea,ea]
  rw [q1']
  simp [newRow]
 ·
  simp only [h0,if_false,Sem.run_bind,X1a hz,Sem.run_pure,Result.andThen_ok]
  rw [q1]
  simp [newRow]
def X6f (P:Program) (t:TypeId) (len cap:Value):Option (List Value×Nat×Nat×Nat) :=
 match P.underlying t with
 | some (.slice elem)=>match sz P elem,X1o P elem,P.info? elem with
  | some size,some z,some i=>match len,cap with
   | .int _ l,.int _ c =>
    match decide (0≤l) && decide (l≤c) && decide (c*i.bytes≤281474976710656) && Nat.ble (c.toNat*size) 100000000 && Nat.beq z.cells.size size && Nat.blt 0 size && decide (c≤1000000000)with
    | true=>some (X02 z.cells (c.toNat*size),size,l.toNat,c.toNat)
    | false=>none
   | _,_=>none
  | _,_,_=>none
 | _=>none
theorem X7G {P:Program} {h:Heap} {t:TypeId} {len cap:Value}:X1U P h t len cap=(match X6f P t len cap with
  | some (l,size,n,c)=>X0n n c (h.new (X2z 0 .leaf l) (c*size) size)
  | none=>none):=by
 unfold X1U X6f
 cases P.underlying t with
 | none=>rfl
 | some d =>
  cases d<;>try rfl
  rename_i elem
  simp only
  cases sz P elem with
  | none=>rfl
  | some size=>cases X1o P elem with
   | none=>rfl
   | some z=>cases P.info? elem with
    | none=>rfl
    | some i =>
     simp only
     cases len<;>cases cap<;>try rfl
     rename_i k l k2 c
     simp only
     cases (decide (0≤l) && decide (l≤c) && decide (c*i.bytes≤281474976710656) && Nat.ble (c.toNat*size) 100000000 && Nat.beq z.cells.size size && Nat.blt 0 size && decide (c≤1000000000))<;>rfl
theorem XCU {P:Program} {ρ:Rho} {t:TypeId} {len cap len' cap':Value} {l:List Value} {size n c:Nat} (e:X6f P t len cap=some (l,size,n,c)) (rl:X0N ρ len len') (rc:X0N ρ cap cap') :
  ∃ elem,∃ arr:Array Value,(∀ w,(Instr.makeSlice t len' cap').run P w=.ok (.slice (some ⟨w.heap.size,0,none⟩) n c) (w.alloc (.cells arr elem)))∧F2 (X13 ρ) l arr.toList∧l.length=c*size∧c*size≤100000000∧n≤c:=by
 unfold X6f at e
 split at e
 case h_2=>cases e
 rename_i elem hu
 split at e
 case h_2=>cases e
 rename_i size z i hs hz hi
 split at e
 case h_2=>cases e
 rename_i k l0 k' c0
 split at e
 case h_2=>cases e
 rename_i hck
 simp only [Bool.and_eq_true,Nat.ble_eq,Nat.blt_eq,decide_eq_true_eq]at hck
 obtain⟨⟨⟨⟨⟨⟨k1,k2⟩,k3⟩,k4⟩,k5⟩,k6⟩,k7⟩:=hck
 have k5:z.cells.size=size:=Nat.eq_of_beq_eq_true k5
 cases e
 have:=rl.eq_of_plain rfl;subst this
 have:=rc.eq_of_plain rfl;subst this
 have hzc:=X0p (ρ:=ρ) (X1S (X0W hz)) (n:=c0.toNat*size) (.inr (by omega))
 have wl:IntKind.i64.wrap l0=l0:=X4N k1 (by omega)
 have wc:IntKind.i64.wrap c0=c0:=X4N (by omega) k7
 have hbm:¬ (281474976710656<(i.bytes:Int)*c0):=by rw [Int.mul_comm];omega
 have hll:(X02 z.cells (c0.toNat*size)).length=c0.toNat*size:=by simp [X02]
 by_cases h0:c0.toNat*size=0
 ·
  refine⟨elem,(Array.range (c0.toNat*size)).map ((#[]:Array Value)[· % (#[]:Array Value).size]!),fun w=>?_,by rw [h0];simp [X02];exact .nil,hll,k4,by omega⟩
  simp only [Instr.makeSlice,Sem.run_bind,X00 hu,X0g hs,Result.andThen_ok,asInt,asIntOf,Sem.run_pure,X0Q hi,wl,wc]
  rw [if_neg (by simp;omega)]
  simp only [Sem.run_bind,run_askRoom,Result.andThen_ok,X0g hs,if_pos h0,Sem.run_pure]
  simp [newRow]
 ·
  refine⟨elem,(Array.range (c0.toNat*size)).map (z.cells[· % z.cells.size]!),fun w=>?_,by rw [X17];exact hzc,hll,k4,by omega⟩
  simp only [Instr.makeSlice,Sem.run_bind,X00 hu,X0g hs,Result.andThen_ok,asInt,asIntOf,Sem.run_pure,X0Q hi,wl,wc]
  rw [if_neg (by simp;omega)]
  simp only [Sem.run_bind,run_askRoom,Result.andThen_ok,X0g hs,if_neg h0,X1a hz,Sem.run_pure]
  simp [newRow]
structure XGM (ρ:Rho) (w:World) (W:Nat) (arr:Array Value) (elem:TypeId):Prop where
 at_:w.heap[W]?=some (.cells arr elem (0,0))
 un:∀ b I,ρ b=some I→I.g≠W
 tg:¬ TG W
theorem XGM.go {ρ ρ':Rho} {w w':World} {W:Nat} {arr:Array Value} {elem:TypeId} (h:XGM ρ w W arr elem) (g:X2H ρ ρ' w) (f:Fr ρ w w'):XGM ρ' w' W arr elem:=by
 have hlt:W<w.heap.size:=(Array.getElem?_eq_some_iff.1 h.at_).1
 refine⟨?_,?_,h.tg⟩
 · rw [f.keep W hlt h.un];exact h.at_
 ·
  intro b I e
  rcases g.new b I e with hb | ⟨b₀,I₀,e₀,eg⟩
  · omega
  · rw [← eg];exact h.un b₀ I₀ e₀
theorem X0f.allocU {ρ:Rho} {h:Heap} {w:World} (H:X0f ρ h w) (o:Obj):X0f ρ h (w.alloc o):=by
 refine H.world (by simp) ?_ ?_ (fun g r _ hh=>X2c hh) (fun _ _ _ _ _ hh=>X2c hh) (fun k _ hk=>by
  show(w.heap.push _)[k]?=_
  rw [Array.getElem?_push,if_neg (by omega)])
 · intro b I e j _;exact World.cell?_alloc_lt w _ _ (X0V H e)
 · intro b I e j _ _ hf;rw [World.frozen?_alloc_old w _ _ (Nat.ne_of_lt (X0V H e))];exact hf
theorem X0f.late {ρ:Rho} {h h':Heap} {w:World} (H:X0f ρ h w) {W:Nat} {arr:Array Value} {elem:TypeId} (p:XGM ρ w W arr elem) {size esz b:Nat} (e:h.new (X2z 0 .leaf arr.toList) size esz=some (b,h')) (hs:arr.size=size) (hsh:size<1000000000)
  (hpl:arr.toList.all X03=true):X0f (upd ρ h.next ⟨W,0,arr.size,esz,none⟩) h' w∧b=h.next:=by
 unfold Heap.new at e
 split at e
 case h_2=>cases e
 rename_i hn
 have hn:True:=trivial
 simp only [Option.some.injEq,Prod.mk.injEq]at e
 obtain⟨rfl,rfl⟩:=e
 have hlt:W<w.heap.size:=(Array.getElem?_eq_some_iff.1 p.at_).1
 have hc:∀ j,w.cell? ⟨W,j,none⟩=arr[j]?:=by intro j;simp [World.cell?,p.at_]
 refine⟨?_,rfl⟩
 refine H.add _ size esz h.next h.next w ⟨W,0,arr.size,esz,none⟩ ⟨fun _ _ _=>rfl,p.tg⟩ (Nat.le_refl _) (Nat.le_refl _) hlt ?_ ?_ rfl (by simp [hs]) ?_ ?_ ?_ ?_ ?_ ?_ (fun g r _ hh=>hh) rfl (fun _ _ _ _ _ _ _ hh=>hh)
 · intro j _ hj;exact⟨arr[j],by rw [hc];exact Array.getElem?_eq_getElem hj⟩
 · intro j _ _;simp [World.frozen?,p.at_]
 ·
  intro i v hi hv
  have h1:arr.toList[i]?=some v:=X1n (by simp [X3m]) hv
  have h2:arr[i]?=some v:=by simpa using h1
  refine⟨v,by rw [hc,Nat.zero_add];exact h2,.plain ?_⟩
  exact List.all_eq_true.1 hpl v (List.mem_of_getElem? h1)
 · intro c J e j hj;exact⟨id,id⟩
 · intro c J B C e _ _ _ _ i _;rfl
 · intro c J B e _ hg;exact absurd hg (p.un c J e)
 ·
  intro c J B C e hB hc' _ hm
  obtain⟨_,_,_,_,d3,_⟩:=H.dom c J e
  omega
 · intro c J B e _ _ hm;obtain⟨_,_,_,_,d3,_⟩:=H.dom c J e;omega
def X8M:Operand→Bool
 | .tmp _=>true
 | .const _=>true
 | _=>false
def XG5:Op→Bool
 | .defer _=>false
 | .select _ _=>false
 | _=>true
def X3p:Op→Bool
 | .buildSlice _ _ parts=>parts.toList.all fun p=>X8M p.2
 | .makeSlice _ x y=>X8M x && X8M y
 | _=>false
def X12 (P:Program) (h:Heap) (tm:Tr Value):Op→Option (List Value×Nat×Nat×Nat)
 | .buildSlice t len parts=>match X6V h tm parts.toList with
  | some ps=>match X3o P t len ps with
   | some (l,size)=>some (l,size,len,len)
   | none=>none
  | none=>none
 | .makeSlice t x y=>match aev h tm x,aev h tm y with
  | some u,some v=>X6f P t u v
  | _,_=>none
 | _=>none
def XEh (P:Program) (ops:Array Oper) (es:List Ent) (i0:Nat):Bool :=
 match es[i0]?,ops[i0]? with
 | some e,some o=>match o.dst with
  | some _=>match e.mut_ && X3p o.op with
   | true=>match X12 P e.st.h e.st.tm o.op with
    | some (l,_,_,_)=>l.all X03
    | none=>false
   | false=>false
  | none=>false
 | _,_=>false
def XCV (ops:Array Oper) (es:List Ent) (i0:Nat):Bool:=allTo (fun i =>
  (!X0K es i || Nat.beq i i0 || (allTo (fun k=>Nat.beq k i0 || !X0K es k || ((X0R ops).getD i 0).testBit k) i && (!Nat.blt i0 i || ((X0R ops).getD i 0).testBit i0))) &&
  (!((X0R ops).getD i 0).testBit i0 || allTo (fun m=>!X0K es m || (!Nat.beq m i && ((X0R ops).getD i 0).testBit m)) i0) &&
  (match ops[i]? with
   | some o=>o.after.toList.all (fun e=>!Region.binds .any e || !Nat.beq e.on i0 || ((X0R ops).getD i 0).testBit i0) && XG5 o.op
   | none=>false)) ops.size
def X8N (P:Program):X0D→Nat→Array Oper→St→Option St:=fun call nt ops st =>
 match X0r ops && X19 nt ops with
 | true=>match XAw P call nt ops ops.toList st with
  | some (es,fin)=>match X2w P call ops es fin && (List.range ops.size).any (fun i0=>XEh P ops es i0 && XCV ops es i0)with
   | true=>some fin
   | false=>none
  | none=>none
 | false=>none
theorem X3K {a b:Nat} (h:a≠b):Nat.beq a b=false:=by
 cases e:Nat.beq a b with
 | false=>rfl
 | true=>exact absurd (Nat.eq_of_beq_eq_true e) h
theorem X9H {h h':Heap} {tm tm':Tr Value} {x:Operand} (hx:X8M x=true) (e:∀ t,x=.tmp t→(tm.get t).getD undef=(tm'.get t).getD undef):aev h tm x=aev h' tm' x:=by
 cases x with
 | tmp t=>simp only [aev,e t rfl]
 | const v=>rfl
 | _=>cases hx
theorem XEB {h h':Heap} {tm tm':Tr Value}:∀ {xs:List (Nat×Operand)},xs.all (fun p=>X8M p.2)=true→(∀ x∈xs,∀ t,x.2=.tmp t→(tm.get t).getD undef=(tm'.get t).getD undef)→X6V h tm xs=X6V h' tm' xs:=by
 intro xs
 induction xs with
 | nil=>intro _ _;rfl
 | cons x xs ih =>
  obtain⟨i,x⟩:=x
  intro ha e
  simp only [List.all_cons,Bool.and_eq_true]at ha
  simp only [X6V,X9H (h:=h) (h':=h') ha.1 (e (i,x) (by simp)),ih ha.2 fun y hy=>e y (by simp [hy])]
theorem X3q {P:Program} {h h':Heap} {tm tm':Tr Value} {op:Op} (ht:X3p op=true) (e:∀ x∈op.operands.toList,∀ t,x=.tmp t→(tm.get t).getD undef=(tm'.get t).getD undef):X12 P h tm op=X12 P h' tm' op:=by
 cases op<;>first | (cases ht;done) | skip
 case buildSlice t len parts =>
  simp only [X12]
  rw [XEB (h':=h') ht fun x hx t ht=>e x.2 (by simp only [Op.operands,Array.toList_map,List.mem_map];exact⟨x,hx,rfl⟩) t ht]
 case makeSlice t x y =>
  simp only [X3p,Bool.and_eq_true]at ht
  simp only [X12]
  rw [X9H (h':=h') ht.1 (e x (by simp [Op.operands])),X9H (h':=h') ht.2 (e y (by simp [Op.operands]))]
theorem X5s {P:Program} {ρ:Rho} {h:Heap} {w:World} {tm:Tr Value} {a:Act} {o:Oper} {l:List Value} {size n c:Nat} (H:X0f ρ h w) (T:X5Q ρ tm a.tmps) (ht:X3p o.op=true) (e:X12 P h tm o.op=some (l,size,n,c)) :
  ∃ elem,∃ arr:Array Value,(∀ w,(execOp a.eval o).run P w=.ok (.value (.slice (some ⟨w.heap.size,0,none⟩) n c)) (w.alloc (.cells arr elem)))∧F2 (X13 ρ) l arr.toList:=by
 obtain⟨dst,op,ty,pos,after,guard⟩:=o
 cases op<;>first | (cases ht;done) | skip
 case buildSlice t len parts =>
  simp only [X12]at e
  split at e
  case h_2=>cases e
  rename_i ps hps
  split at e
  case h_2=>cases e
  rename_i l1 size1 hb
  cases e
  have hF2:F2 (fun p p'=>p.1=p'.1∧X0N ρ p.2 p'.2) ps (parts.map fun(i,x)=>(i,a.eval x)).toList:=by
   have:=X4Q H T hps;simpa using this
  obtain⟨elem,arr,hrun,harr,_,_⟩:=XEA hb hF2
  refine⟨elem,arr,fun w=>?_,harr⟩
  have:execOp a.eval ⟨dst,.buildSlice t n parts,ty,pos,after,guard⟩=(do pure (.value (← Instr.buildSlice t n (parts.map fun(i,x)=>(i,a.eval x))))):=by unfold execOp;rfl
  rw [this,Sem.run_bind,hrun];rfl
 case makeSlice t x y =>
  simp only [X12]at e
  split at e
  case h_2=>cases e
  rename_i u v hu hv
  obtain⟨elem,arr,hrun,harr,_,_⟩:=XCU e (X08 H T hu) (X08 H T hv)
  refine⟨elem,arr,fun w=>?_,harr⟩
  have:execOp a.eval ⟨dst,.makeSlice t x y,ty,pos,after,guard⟩=(do pure (.value (← Instr.makeSlice t (a.eval x) (a.eval y)))):=by unfold execOp;rfl
  rw [this,Sem.run_bind,hrun];rfl
theorem X5t {P:Program} {h:Heap} {tm:Tr Value} {op:Op} {l:List Value} {size n c:Nat} (e:X12 P h tm op=some (l,size,n,c)):l.length=c*size∧c*size≤100000000∧n≤c:=by
 cases op<;>first | (cases e;done) | skip
 case buildSlice t len parts =>
  simp only [X12]at e
  split at e
  case h_2=>cases e
  split at e
  case h_2=>cases e
  rename_i hb
  cases e
  obtain⟨q1,q2⟩:=X9G hb
  exact⟨q1,by omega,Nat.le_refl _⟩
 case makeSlice t x y =>
  simp only [X12]at e
  split at e
  case h_2=>cases e
  rename_i u v hu hv
  unfold X6f at e
  split at e
  case h_2=>cases e
  split at e
  case h_2=>cases e
  split at e
  case h_2=>cases e
  split at e
  case h_2=>cases e
  rename_i hck
  simp only [Bool.and_eq_true,Nat.ble_eq,Nat.blt_eq,decide_eq_true_eq]at hck
  cases e
  exact⟨by simp [X02],hck.1.1.1.2,by omega⟩
theorem X4a {P:Program} {call:X0D} {h:Heap} {tm:Tr Value} {o:Oper} {l:List Value} {size n c:Nat} (e:X12 P h tm o.op=some (l,size,n,c)):X05 P call o tm h=X0n n c (h.new (X2z 0 .leaf l) (c*size) size):=by
 obtain⟨dst,op,ty,pos,after,guard⟩:=o
 cases op<;>first | (cases e;done) | skip
 case buildSlice t len parts =>
  simp only [X12]at e
  split at e
  case h_2=>cases e
  rename_i ps hps
  split at e
  case h_2=>cases e
  rename_i l1 size1 hb
  cases e
  simp only [X05,hps,X6B,hb]
 case makeSlice t x y =>
  simp only [X12]at e
  split at e
  case h_2=>cases e
  rename_i u v hu hv
  simp only [X05,hu,hv,X7G,e]
theorem X5u {F:Fence} {n:Nat} {P:Program} {ops:Array Oper} {i:Nat} {o:Oper} {d:Nat} {v:Value} (ho:ops[i]?=some o) (hl:d ∉ o.looksAt ops) (hd:o.dst≠some d) (hds:XG5 o.op=true)
  {K:Act→World→Prop} {Q:Exit→Act→World→Prop} {a:Act} {w:World} (h:wpOpIn F n P ops (fun _ _ _=>False) i (fun a2 w2=>K (a2.put (some d) v) w2) a w):wpOpIn F n P ops Q i K (a.put (some d) v) w:=by
 have h1:∀ d',some d=some d'→d' ∉ o.looksAt ops:=by rintro _ ⟨⟩;exact hl
 have h2:∀ d',some d=some d'→o.dst≠some d':=by rintro _ ⟨⟩;exact hd
 have hnd:∀ c,o.op≠.defer c:=by intro c e;rw [e]at hds;cases hds
 have hns:∀ cs b,o.op≠.select cs b:=by intro c b e;rw [e]at hds;cases hds
 unfold wpOpIn at *
 simp only [ho]at *
 rw [wanted_put o a (some d) v h1,about_put o w a (some d) v h1]
 split
 ·
  rename_i hw
  simp only [hw,if_true]at h
  unfold Oper.wpIn at *
  rw [about_put o w a (some d) v h1]
  refine⟨h.1,?_⟩
  have h:=h.2
  rw [Oper.semAt_eq _ _ _ hnd]at h ⊢
  rw [execOp_put o hns a (some d) v h1]
  generalize (execOp a.eval o).run P w=r at *
  cases r with
  | ok x w' =>
   cases x<;>simp only [Oper.uponIn]at h ⊢
   case value u=>rw [Act.put_comm a v u h2];exact h
   case skip=>rw [Act.put_comm a v undef h2];exact h
   case defer q =>
    have e:({ (a.put (some d) v)with defers:=q::(a.put (some d) v).defers }:Act)=({ a with defers:=q::a.defers }:Act).put (some d) v:=rfl
    rw [e,Act.put_comm _ v undef h2]
    exact h
   case enter f args =>
    refine⟨h.1,CallsIn.mono h.2 fun e w'' he=>?_⟩
    cases e with
    | returned u=>show K ((a.put (some d) v).put o.dst u) w'';rw [Act.put_comm a v u h2];exact he
    | panicked c=>exact he.elim
    | outgrown=>obtain⟨_,_,hx⟩:=he;exact hx.elim
   case row row args=>exact⟨h.1,RowsIn.mono h.2 fun u w'' he=>by rw [Act.put_comm a v u h2];exact he⟩
   case round l f tmps assign body =>
    refine⟨h.1,RoundIn.mono h.2 fun e w'' he=>?_⟩
    cases e with
    | returned u=>show K ((a.put (some d) v).put o.dst u) w'';rw [Act.put_comm a v u h2];exact he
    | panicked c=>exact he.elim
    | outgrown=>obtain⟨_,_,hx⟩:=he;exact hx.elim
  | halt x w'=>cases x<;>simp only [Oper.uponIn]at h ⊢
 ·
  rename_i hw
  simp only [hw]at h
  refine⟨h.1,?_⟩
  rw [Act.put_comm a v undef h2];exact h.2
section
variable {P:Program} {call:X0D} {nt:Nat} {ops:Array Oper} {es:List Ent} {fin st:St}
structure XG6 (ops:Array Oper) (es:List Ent) (i0:Nat):Prop where
 m:∀ i,i<ops.size→X0K es i=true→i≠i0→∀ k,k<i→k≠i0→X0K es k=true→((X0R ops).getD i 0).testBit k=true
 m0:∀ i,i<ops.size→X0K es i=true→i0<i→((X0R ops).getD i 0).testBit i0=true
 d:∀ i,i<ops.size→((X0R ops).getD i 0).testBit i0=true→∀ m,m<i0→X0K es m=true→m≠i∧((X0R ops).getD i 0).testBit m=true
 e:∀ i o,ops[i]?=some o→∀ e∈o.after.toList,Region.binds .any e=true→e.on=i0→((X0R ops).getD i 0).testBit i0=true
 n:∀ (i:Nat) (o:Oper),ops[i]?=some o→XG5 o.op=true
theorem X4b {i0:Nat} (h:XCV ops es i0=true):XG6 ops es i0:=by
 have key:∀ i,i<ops.size→_:=fun i hi=>X09 h i hi
 refine⟨?_,?_,?_,?_,?_⟩
 ·
  intro i hi hm hne k hk hk0 hmk
  have h1:=key i hi
  simp only [Bool.and_eq_true]at h1
  have h2:=h1.1.1
  rw [hm,X3K hne]at h2
  simp only [Bool.not_true,Bool.false_or,Bool.and_eq_true]at h2
  have h3:=X09 h2.1 k hk
  rw [X3K hk0,hmk]at h3
  simpa using h3
 ·
  intro i hi hm hlt
  have h1:=key i hi
  simp only [Bool.and_eq_true]at h1
  have h2:=h1.1.1
  rw [hm,X3K (by omega)]at h2
  simp only [Bool.not_true,Bool.false_or,Bool.and_eq_true]at h2
  have h3:=h2.2
  have:Nat.blt i0 i=true:=by simpa using hlt
  rw [this]at h3
  simpa using h3
 ·
  intro i hi hb m hm hmm
  have h1:=key i hi
  simp only [Bool.and_eq_true]at h1
  have h2:=h1.1.2
  rw [hb]at h2
  simp only [Bool.not_true,Bool.false_or]at h2
  have h3:=X09 h2 m hm
  rw [hmm]at h3
  simp only [Bool.not_true,Bool.false_or,Bool.and_eq_true,Bool.not_eq_true']at h3
  refine⟨?_,h3.2⟩
  rintro rfl
  simp at h3
 ·
  intro i o ho e he hb hon
  have h1:=key i (Array.getElem?_eq_some_iff.1 ho).1
  simp only [Bool.and_eq_true,ho]at h1
  have h2:=List.all_eq_true.1 h1.2.1 e he
  rw [hb,hon]at h2
  simpa using h2
 ·
  intro i o ho
  have h1:=key i (Array.getElem?_eq_some_iff.1 ho).1
  simp only [Bool.and_eq_true,ho]at h1
  exact h1.2.2
def XEi (ops:Array Oper) (es:List Ent) (fin st:St) (n0 nt i0 d0 len cp:Nat) (l:List Value) (wst:World) (listed:Array Bool) (cur:St) (ρ:Rho) (a:Act) (w:World):Prop :=
 (∃ j,XE7 ops es fin st listed j cur∧X6Z n0 ρ nt cur a w) ∨
 ∃ j listed' a' W arr elem,listed=listed'.setIfInBounds i0 true∧¬ Lst listed' i0∧XCl ops (Lst listed)∧XE7 ops es fin st listed' j cur∧X6Z n0 ρ nt cur a' w∧a=a'.put (some d0) (.slice (some ⟨W,0,none⟩) len cp)∧XGM ρ w W arr elem ∧
  wst.heap.size≤W∧arr.toList=l∧∃ m,m<i0∧X0K es m=true∧¬ Lst listed' m
end
theorem XCW {P:Program} (hf:P.follows .mixedOrders=true):XHB P (X8N P):=by
 intro call hcall id nt ops st st' e F hF n n0 ρ a w S
 unfold X8N at e
 split at e
 case h_2=>cases e
 rename_i hck
 simp only [Bool.and_eq_true]at hck
 obtain⟨hst,hbe⟩:=hck
 split at e
 case h_2=>cases e
 rename_i es fin hps
 rw [X2L]at hps
 split at e
 case h_2=>cases e
 rename_i hdy
 cases e
 simp only [Bool.and_eq_true,List.any_eq_true,List.mem_range]at hdy
 obtain⟨hR,i0,hi0,hla,hlo⟩:=hdy
 have L:=X4b hlo
 have hlen:es.length=ops.size:=by have:=X1E _ _ _ _ hps;simpa using this
 unfold XEh at hla
 split at hla
 case h_2=>cases hla
 rename_i en0 o0 hen0 ho0
 split at hla
 case h_2=>cases hla
 rename_i d0 hdst
 split at hla
 case h_2=>cases hla
 rename_i hmt
 simp only [Bool.and_eq_true]at hmt
 obtain⟨hmut0,htc⟩:=hmt
 split at hla
 case h_2=>cases hla
 rename_i l size len cp hrow0
 have hm0:X0K es i0=true:=by simp [X0K,hen0,hmut0]
 have hd0:d0<nt:=X1W hbe ho0 hdst
 refine wpIn_region_any hf ?_
 obtain⟨en0',hen0',hhe0,hwant0,hmutd0,_,hyes0⟩:=X2R _ _ _ _ hps i0 o0 (by simpa using ho0)
 rw [hen0]at hen0';cases hen0'
 have hw0:en0.want=true:=by
  cases hx:en0.want with
  | true=>rfl
  | false=>rw [hx]at hmutd0;rw [hmut0]at hmutd0;simp at hmutd0
 have main:∀ (fuel:Nat) (listed:Array Bool) (cur:St) (ρ₁:Rho) (a₁:Act) (w₁:World),left listed ops.size=fuel→listed.size=ops.size→XEi ops es st' st n0 nt i0 d0 len cp l w listed cur ρ₁ a₁ w₁→X2H ρ ρ₁ w→Fr ρ w w₁ →
   wpAnyIn F n P .any ops (X4n n0 ρ w nt .normal st') fuel listed a₁ w₁:=by
  intro fuel
  have theEnd:∀ (listed:Array Bool) (cur:St) (ρ₁:Rho) (a₁:Act) (w₁:World),XEi ops es st' st n0 nt i0 d0 len cp l w listed cur ρ₁ a₁ w₁→X2H ρ ρ₁ w→Fr ρ w w₁→Region.ready .any ops listed=[]→X4n n0 ρ w nt .normal st' .normal a₁ w₁:=by
   intro listed cur ρ₁ a₁ w₁ LS g f hr
   rcases LS with⟨j,I,S₁⟩ | ⟨j,listed',a',W,arr,elem,hl,hni,hdc,I,S₁,ha,hp,hW,harr,m,hm,hmm,hnm⟩
   ·
    obtain⟨q1,q2⟩:=X50 hst hbe S.s hps I hr
    refine⟨rfl,ρ₁,g,f,?_,?_,S₁.d,S₁.n,S₁.s,S₁.z⟩
    · rw [← q1];exact S₁.h
    · intro t;have:=S₁.t t;have e2:=q2 t;unfold gd at e2;rw [← e2];exact this
   ·
    exfalso
    have hlt0:i0<listed'.size:=by rw [I.sz];exact hi0
    have all:∀ i,i<ops.size→Lst listed i:=by
     intro i
     induction i using Nat.strongRecOn with
     | _ i ih =>
      intro hi
      obtain⟨o,ho⟩:∃ o,ops[i]?=some o:=⟨ops[i],Array.getElem?_eq_getElem hi⟩
      cases hl2:listed.getD i false with
      | true=>exact hl2
      | false =>
       exfalso
       have:i∈Region.ready .any ops listed:=mem_ready.2 ⟨by
        have hlt:i<listed.size:=by rw [hl];simp [I.sz];exact hi
        simp only [Array.getD,hlt,dif_pos]at hl2 ⊢;exact hl2,o,ho,fun e he hb=>by
         have hlt:=(X0L hst ho).2.1 e (by simpa using he) hb
         exact ih e.on hlt (by omega)⟩
       rw [hr]at this;cases this
    have hmn:m<ops.size:=by omega
    have:=all m hmn
    rw [hl]at this
    exact hnm (((X0H hlt0).1 this).resolve_left (by omega))
  induction fuel with
  | zero =>
   intro listed cur ρ₁ a₁ w₁ hleft hsz LS g f
   have hr:Region.ready .any ops listed=[]:=by
    rw [List.eq_nil_iff_forall_not_mem]
    intro i hi
    obtain⟨h1,o,ho,_⟩:=mem_ready.1 hi
    have hn:i<ops.size:=(Array.getElem?_eq_some_iff.1 ho).1
    have hlt:i<listed.size:=by rw [hsz];exact hn
    have h1':listed.getD i false=false:=by
     simp only [Array.getD,hlt,dif_pos]at h1 ⊢;exact h1
    have hmem:i∈(List.range ops.size).filter fun i=>!listed.getD i false:=by
     rw [List.mem_filter];exact⟨List.mem_range.2 hn,by rw [h1'];rfl⟩
    have:(List.range ops.size).filter (fun i=>!listed.getD i false)=[]:=List.length_eq_zero_iff.1 hleft
    rw [this]at hmem;cases hmem
   exact⟨hr,theEnd listed cur ρ₁ a₁ w₁ LS g f hr⟩
  | succ fuel ih =>
   intro listed cur ρ₁ a₁ w₁ hleft hsz LS g f
   refine⟨fun hr=>theEnd listed cur ρ₁ a₁ w₁ LS g f hr,fun i hi=>?_⟩
   obtain⟨h1,o,ho,hpred⟩:=mem_ready.1 hi
   have hn:i<ops.size:=(Array.getElem?_eq_some_iff.1 ho).1
   have hlt:i<listed.size:=by rw [hsz];exact hn
   have h1':listed.getD i false=false:=by
    simp only [Array.getD,hlt,dif_pos]at h1 ⊢;exact h1
   have hni:¬ Lst listed i:=by unfold Lst;rw [h1'];simp
   have hpred:∀ e∈o.after.toList,Region.binds .any e=true→Lst listed e.on:=fun e he hb=>hpred e (by simpa using he) hb
   have hleft':left (listed.setIfInBounds i true) ops.size=fuel:=by have:=X7F hn hsz.symm h1';omega
   have hsz':(listed.setIfInBounds i true).size=ops.size:=by simp [hsz]
   rcases LS with⟨j,I,S₁⟩ | ⟨j,listed',a',W,arr,elem,hl,hni0,hdc,I,S₁,ha,hp,hW,harr,m,hm,hmm,hnm⟩
   ·
    have hdown:=X48 hlt I.dc ho hpred
    have li:Lst (listed.setIfInBounds i true) i:=(X0H hlt).2 (.inl rfl)
    by_cases hearly:i=i0∧∃ m,m<i0∧X0K es m=true∧¬ Lst listed m
    ·
     obtain⟨rfl,m,hm,hmm,hnm⟩:=hearly
     rw [ho0]at ho;cases ho
     obtain⟨en,hen,slot,hwe⟩:=X8K hst hbe S.s hps I ho0 hni hpred
     rw [hen0]at hen;cases hen
     have hslotp:∀ x∈o0.op.operands.toList,∀ t,x=.tmp t→(cur.tm.get t).getD undef=(en0.st.tm.get t).getD undef:=by
      intro x hx t ht
      refine slot t ?_
      unfold Oper.looksAt
      refine List.mem_append_left _ ?_
      rw [List.mem_filterMap]
      exact⟨x,hx,by rw [ht]⟩
     have hev:X12 P cur.h cur.tm o0.op=some (l,size,len,cp):=by rw [X3q (h':=en0.st.h) htc hslotp];exact hrow0
     obtain⟨elem,arr,hrun,harr⟩:=X5s S₁.h S₁.t htc hev
     have hal:arr.toList=l:=harr.eq_of_plain hla
     unfold wpOpIn
     rw [ho0]
     simp only
     have hwant:Region.wanted o0 (yielded ops a₁.tmps)=true:=by
      rw [← X8D S₁.t,hwe,← hwant0,hw0]
     rw [hwant]
     simp only [if_true]
     refine⟨fun f _=>hF.fn f,?_⟩
     rw [Oper.semAt_eq _ _ _ (by intro c hc;rw [hc]at htc;cases htc)]
     rw [hrun w₁]
     show wpAnyIn F n P .any ops _ fuel _ (a₁.put o0.dst _) _
     rw [hdst]
     have f':Fr ρ₁ w₁ (w₁.alloc (.cells arr elem)):=Fr.alloc ρ₁ w₁ _
     refine ih _ cur ρ₁ _ _ hleft' hsz' (.inr ⟨j,listed,a₁,w₁.heap.size,arr,elem,rfl,hni,hdown,I,⟨S₁.h.allocU _,S₁.t,S₁.d.go (.refl _ _) f',S₁.n,S₁.s,Nat.le_trans S₁.z f'.size⟩,rfl,⟨?_,?_,fun t=>Nat.lt_irrefl _ (S₁.h.nx.1.lt t)⟩,f.size,hal,m,hm,hmm,hnm⟩) g (f.trans g f')
     · exact World.alloc_heap_new w₁ _
     · intro b J e;have:=X0V S₁.h e;omega
    ·
     have hM:X0K es i=true→∀ k,X0K es k=true→k<i→Lst listed k:=by
      intro hmi k hk hki
      by_cases e0:i=i0
      ·
       subst e0
       by_cases hx:Lst listed k
       · exact hx
       · exact absurd ⟨rfl,k,hki,hk,hx⟩ hearly
      ·
       have hb:((X0R ops).getD i 0).testBit k=true:=by
        by_cases ek:k=i0
        · subst ek;exact L.m0 i hn hmi hki
        · exact L.m i hn hmi e0 k hki ek hk
       exact((X0H hlt).1 (X0c hdown li hb)).resolve_left (by omega)
     obtain⟨cur',j',q1,q2⟩:=X3J hst hbe S.s hps hR I ho hni hpred hM
     unfold wpOpIn
     rw [ho]
     refine X2F hF hcall S₁ q1 _ ?_ _
     rintro a2 w2 ⟨ρ₂,g2,f2,S₂⟩
     exact ih _ cur' ρ₂ a2 w2 hleft' hsz' (.inl ⟨j',q2,S₂⟩) (g.trans f.size g2) (f.trans g f2)
   ·
    have hlt0:i0<listed'.size:=by rw [I.sz];exact hi0
    have hlt':i<listed'.size:=by rw [I.sz];exact hn
    have hne:i≠i0:=by
     rintro rfl
     exact hni (by rw [hl];exact(X0H hlt0).2 (.inl rfl))
    have hni':¬ Lst listed' i:=fun x=>hni (by rw [hl];exact(X0H hlt0).2 (.inr x))
    have hdown:=X48 hlt hdc ho hpred
    have li:Lst (listed.setIfInBounds i true) i:=(X0H hlt).2 (.inl rfl)
    have hnb:((X0R ops).getD i 0).testBit i0=false:=by
     cases hb:((X0R ops).getD i 0).testBit i0 with
     | false=>rfl
     | true =>
      exfalso
      obtain⟨q1,q2⟩:=L.d i hn hb m hm hmm
      have hx:=X0c hdown li q2
      have hx:=((X0H hlt).1 hx).resolve_left q1
      rw [hl]at hx
      exact hnm (((X0H hlt0).1 hx).resolve_left (by omega))
    have hpred':∀ e∈o.after.toList,Region.binds .any e=true→Lst listed' e.on:=by
     intro e he hb
     have hx:=hpred e he hb
     rw [hl]at hx
     refine((X0H hlt0).1 hx).resolve_left fun h0=>?_
     have:=L.e i o ho e he hb h0
     rw [hnb]at this;cases this
    have hdown':=X48 hlt' I.dc ho hpred'
    have li':Lst (listed'.setIfInBounds i true) i:=(X0H hlt').2 (.inl rfl)
    have hM:X0K es i=true→∀ k,X0K es k=true→k<i→Lst listed' k:=by
     intro hmi k hk hki
     by_cases ek:k=i0
     ·
      subst ek
      have:=L.m0 i hn hmi hki
      rw [hnb]at this;cases this
     ·
      have hb:=L.m i hn hmi hne k hki ek hk
      exact((X0H hlt').1 (X0c hdown' li' hb)).resolve_left (by omega)
    obtain⟨cur',j',q1,q2⟩:=X3J hst hbe S.s hps hR I ho hni' hpred' hM
    have hdd:o.dst≠some d0:=by
     intro hx
     rcases Nat.lt_or_gt_of_ne hne with x | x
     · exact(X0L hst ho0).1 d0 hdst i o x ho hx
     · exact(X0L hst ho).1 d0 hx i0 o0 x ho0 hdst
    have hll:d0 ∉ o.looksAt ops:=by
     intro hx
     obtain⟨s1,s2⟩:=(X0L hst ho).2.2 d0 hx i0 o0 ho0 hdst (fun x=>hne x.symm)
     rcases Nat.lt_or_gt_of_ne hne with x | x
     ·
      have h0:Lst listed i0:=by rw [hl];exact(X0H hlt0).2 (.inl rfl)
      exact hni (X0c hdc h0 (s2 x))
     ·
      have:=s1 x
      rw [hnb]at this;cases this
    rw [ha]
    refine X5u ho hll hdd (L.n i o ho) ?_
    unfold wpOpIn
    rw [ho]
    refine X2F hF hcall S₁ q1 _ ?_ _
    rintro a2 w2 ⟨ρ₂,g2,f2,S₂⟩
    have hp2:=hp.go g2 f2
    have harrs:arr.size=l.length:=by rw [← harr];simp
    have hcomm:listed.setIfInBounds i true=(listed'.setIfInBounds i true).setIfInBounds i0 true:=by
     rw [hl];exact Array.setIfInBounds_comm _ _ (fun x=>hne x.symm)
    by_cases hstill:∃ m,m<i0∧X0K es m=true∧¬ Lst (listed'.setIfInBounds i true) m
    ·
     refine ih _ cur' ρ₂ _ w2 hleft' hsz' (.inr ⟨j',listed'.setIfInBounds i true,a2,W,arr,elem,hcomm,?_,hdown,q2,S₂,rfl,hp2,hW,harr,hstill⟩) (g.trans f.size g2) (f.trans g f2)
     intro hx
     exact hni0 (((X0H hlt').1 hx).resolve_left (fun x=>hne x.symm))
    ·
     have hni2:¬ Lst (listed'.setIfInBounds i true) i0:=fun hx=>hni0 (((X0H hlt').1 hx).resolve_left (fun x=>hne x.symm))
     have hpred0:∀ e∈o0.after.toList,Region.binds .any e=true→Lst (listed'.setIfInBounds i true) e.on:=by
      intro e he hb
      have h0:Lst listed i0:=by rw [hl];exact(X0H hlt0).2 (.inl rfl)
      have hx:=hdc i0 o0 ho0 h0 e he hb
      have hlt2:=(X0L hst ho0).2.1 e he hb
      rw [hl]at hx
      exact(X0H hlt').2 (.inr (((X0H hlt0).1 hx).resolve_left (by omega)))
     have hM0:X0K es i0=true→∀ k,X0K es k=true→k<i0→Lst (listed'.setIfInBounds i true) k:=by
      intro _ k hk hki
      by_cases hx:Lst (listed'.setIfInBounds i true) k
      · exact hx
      · exact absurd ⟨k,hki,hk,hx⟩ hstill
     obtain⟨en,hen,slot,hwe⟩:=X8K hst hbe S.s hps q2 ho0 hni2 hpred0
     rw [hen0]at hen;cases hen
     obtain⟨cur2,j2,r1,r2⟩:=X3J hst hbe S.s hps hR q2 ho0 hni2 hpred0 hM0
     have hslotp:∀ x∈o0.op.operands.toList,∀ t,x=.tmp t→(cur'.tm.get t).getD undef=(en0.st.tm.get t).getD undef:=by
      intro x hx t ht
      refine slot t ?_
      unfold Oper.looksAt
      refine List.mem_append_left _ ?_
      rw [List.mem_filterMap]
      exact⟨x,hx,by rw [ht]⟩
     have hev:X12 P cur'.h cur'.tm o0.op=some (l,size,len,cp):=by rw [X3q (h':=en0.st.h) htc hslotp];exact hrow0
     unfold X1d at r1
     rw [hwe,← hwant0,hw0]at r1
     simp only at r1
     have hstep:X05 P call o0 cur'.tm cur'.h=X0n len cp (cur'.h.new (X2z 0 .leaf l) (cp*size) size):=X4a hev
     rw [hstep]at r1
     split at r1
     case h_2=>cases r1
     rename_i v h' hv
     cases r1
     unfold X0n at hv
     split at hv
     case h_2=>cases hv
     rename_i b h₁ hnw
     cases hv
     obtain⟨hll2,hsm,hle⟩:=X5t hrow0
     have has:arr.size=cp*size:=by rw [harrs,hll2]
     obtain⟨H3,hb⟩:=S₂.h.late hp2 (size:=cp*size) (esz:=size) (by rw [harr];exact hnw) has (by omega) (by rw [harr];exact hla)
     subst hb
     have hext:=S₂.h.ext_upd ⟨W,0,arr.size,size,none⟩
     have g12:=g.trans f.size g2
     have f12:=f.trans g f2
     have G3:X2H ρ (upd ρ₂ cur'.h.next ⟨W,0,arr.size,size,none⟩) w:=⟨g12.ext.trans hext,fun c J e=>by
      by_cases hc:c=cur'.h.next
      · subst hc;rw [X0M]at e;cases e;exact .inl hW
      · rw [X0U _ _ _ hc]at e;exact g12.new c J e,fun c J e n=>by
      by_cases hc:c=cur'.h.next
      · subst hc;rw [X0M]at e;cases e;exact absurd rfl n
      · rw [X0U _ _ _ hc]at e;exact g12.zn c J e n⟩
     have hv:X0N (upd ρ₂ cur'.h.next ⟨W,0,arr.size,size,none⟩) (.slice (some ⟨cur'.h.next,0,none⟩) len cp) (.slice (some ⟨W,0,none⟩) len cp):=by
      have hx:X13 (upd ρ₂ cur'.h.next ⟨W,0,arr.size,size,none⟩) (.slice (some ⟨cur'.h.next,0,none⟩) len cp) (.slice (some ⟨W,0+0,none⟩) len cp):=by
       refine X13.slice (X0M _ _ _) hle (Nat.le_refl _) ?_
       show 0+0+cp*size≤arr.size
       omega
      exact .one (.one hx)
     have D3:XE5 n0 (upd ρ₂ cur'.h.next ⟨W,0,arr.size,size,none⟩) w2 a2.defers:=by
      obtain⟨Ds,d1,d2,d3⟩:=S₂.d
      refine⟨Ds,d1,d2,fun D hD=>⟨(d3 D hD).lo,(d3 D hD).at_,fun c J e=>?_⟩⟩
      by_cases hc:c=cur'.h.next
      ·
       subst hc
       rw [X0M]at e;cases e
       rintro rfl
       have q:=(d3 _ hD).at_
       have q':=hp2.at_
       simp only at q
       rw [q']at q;cases q
      · rw [X0U _ _ _ hc]at e;exact(d3 D hD).un c J e
     rw [hdst]at r2
     rw [hcomm]
     refine ih _ _ _ _ w2 (by rw [← hcomm];exact hleft') (by rw [← hcomm];exact hsz') (.inl ⟨j2,r2,⟨H3,?_,?_,?_,S₂.s,S₂.z⟩⟩) G3 f12
     · exact X5Q.put (a:=a2) (fun t=>(S₂.t t).ext hext) S₂.n S₂.s hv (some d0)
     · rw [X2g];exact D3
     · rw [X3X];exact S₂.n
 have h0:∀ n,left (Array.replicate n false) n=n:=by
  intro n
  unfold left
  rw [List.filter_eq_self.2]
  · simp
  ·
   intro k hk
   have:k<n:=by simpa using hk
   simp [this]
 have nl:∀ k,¬ Lst (Array.replicate ops.size false) k:=by
  intro k hk
  unfold Lst at hk
  by_cases hkn:k<ops.size
  · simp [hkn]at hk
  · simp [hkn]at hk
 refine main ops.size (Array.replicate ops.size false) st ρ a _ (h0 ops.size) (by simp) (.inl ⟨0,?_,⟨S.h.drew,S.t,S.d.go (.refl _ _) (Fr.refl ρ w).drew,S.n,S.s,S.z⟩⟩) (.refl _ _) (Fr.refl ρ w).drew
 exact⟨by simp,fun i o _ hi=>absurd hi (nl i),fun i _=>⟨fun hi=>absurd hi (nl i),fun x=>absurd x (Nat.not_lt_zero _)⟩,X1r _ _ _ _ hps,fun k o e _ _ hk=>absurd hk (nl k),fun t _=>rfl⟩
structure X6g where
 i:Nat
 d:Nat
 l:List Value
 size:Nat
 n:Nat
 o:Oper
def XAA:Operand→Bool
 | .const _=>true
 | _=>false
def X7H:Op→Bool
 | .buildSlice _ _ parts=>parts.toList.all fun p=>XAA p.2
 | _=>false
def X6C (P:Program) (i:Nat) (o:Oper):Option X6g :=
 match X7H o.op && o.guard.isNone with
 | true=>match o.dst with
  | some d=>match X12 P ⟨.leaf,1000,.leaf,.leaf⟩ .leaf o.op with
   | some (l,size,n,c)=>match Nat.beq n c && l.all X03 with
    | true=>some ⟨i,d,l,size,n,o⟩
    | false=>none
   | none=>none
  | none=>none
 | false=>none
def X1H (P:Program):Nat→List Oper→List X6g
 | _,[]=>[]
 | i,o::l=>match X6C P i o with
  | some r=>r::X1H P (i+1) l
  | none=>X1H P (i+1) l
def X7I:List X6g→Nat→Option X6g
 | [],_=>none
 | r::rs,t=>match Nat.beq r.d t with
  | true=>some r
  | false=>X7I rs t
def XG7 (P:Program) (rs:List X6g) (m:Nat) (o:Oper):Option ByteArray :=
 match o.op with
 | .convert src dst (.tmp t)=>match X7I rs t with
  | some r=>match m.testBit r.i && o.guard.isNone with
   | true=>match P.underlying src,P.underlying dst with
    | some (.slice e),some .string=>match P.underlying e with
     | some (.int .u8)=>match u8s r.l with
      | some xs=>match Nat.beq xs.length r.n with
       | true=>some (strOfNums xs)
       | false=>none
      | none=>none
     | _=>none
    | _,_=>none
   | false=>none
  | none=>none
 | _=>none
def X7J (P:Program) (rs:List X6g) (i m:Nat) (o:Oper):Oper :=
 match X6C P i o with
 | some _=>⟨none,.move (.const (.int .i64 0)),o.type,o.pos,o.after,none⟩
 | none=>match XG7 P rs m o with
  | some s=>⟨o.dst,.move (.const (.string s)),o.type,o.pos,o.after,none⟩
  | none=>o
def XEj (P:Program) (rs:List X6g) (ms:List Nat):Nat→List Oper→List Oper
 | _,[]=>[]
 | i,o::l=>X7J P rs i (ms.getD i 0) o::XEj P rs ms (i+1) l
def X0l (P:Program) (ops:Array Oper):Array Oper:=⟨XEj P (X1H P 0 ops.toList) (X0R ops) 0 ops.toList⟩
def XAB:List Nat→Bool
 | []=>true
 | a::l=>!l.any (Nat.beq a) && XAB l
def X7K (P:Program) (ops:Array Oper):Bool :=
 XAB ((X1H P 0 ops.toList).map (·.d)) && ops.toList.all (fun o=>o.guard.isNone && XG5 o.op) &&
 (X0l P ops).toList.all (fun o=>(X1H P 0 ops.toList).all fun r=>!X9D o r.d && !(o.looksAt (X0l P ops)).any (Nat.beq r.d)) && !(X1H P 0 ops.toList).isEmpty &&
 X0r (X0l P ops)
def XCX (P:Program):X0D→Nat→Array Oper→St→Option St:=fun call nt ops st =>
 match X7K P ops && X19 nt (X0l P ops) && X19 nt ops with
 | true=>match XAw P call nt (X0l P ops) (X0l P ops).toList st with
  | some (es,fin)=>match X3c P call (X0l P ops) es fin with
   | true=>X11 P call nt (X0l P ops) ((X1H P 0 ops.toList).map (·.o)) fin
   | false=>none
  | none=>none
 | false=>none
structure XG8 (P:Program) (ops:Array Oper) (r:X6g):Prop where
 at_:ops[r.i]?=some r.o
 dst:r.o.dst=some r.d
 gd:r.o.guard=none
 late:X3p r.o.op=true
 row:∀ h tm,X12 P h tm r.o.op=some (r.l,r.size,r.n,r.n)
 pl:r.l.all X03=true
 own:X6C P r.i r.o=some r
 no:∀ ops,r.o.looksAt ops=[]
theorem X4T {P:Program} {i:Nat} {o:Oper} {r:X6g} (h:X6C P i o=some r):r.i=i∧r.o=o∧o.dst=some r.d∧o.guard=none∧X3p o.op=true∧(∀ h tm,X12 P h tm o.op=some (r.l,r.size,r.n,r.n))∧r.l.all X03=true∧(∀ ops,o.looksAt ops=[]):=by
 have h':=h
 unfold X6C at h
 split at h
 case h_2=>cases h
 rename_i hc
 simp only [Bool.and_eq_true,Option.isNone_iff_eq_none]at hc
 split at h
 case h_2=>cases h
 rename_i d hd
 split at h
 case h_2=>cases h
 rename_i l size n c hl
 split at h
 case h_2=>cases h
 rename_i hnc
 simp only [Bool.and_eq_true,Nat.beq_eq]at hnc
 obtain⟨rfl,hpl⟩:=hnc
 cases h
 have hlt:X3p o.op=true:=by
  have h1:=hc.1
  unfold X7H at h1
  split at h1
  case h_2=>cases h1
  rename_i t len parts hop
  rw [hop]
  refine List.all_eq_true.2 fun p hp=>?_
  have:=List.all_eq_true.1 h1 p hp
  cases hx:p.2<;>rw [hx]at this<;>first | rfl | cases this
 have hops:∀ ops,o.looksAt ops=[]:=fun ops=>by
  have h1:=hc.1
  unfold X7H at h1
  split at h1
  case h_2=>cases h1
  rename_i tt len parts hop
  unfold Oper.looksAt
  rw [hc.2,hop]
  simp only [List.append_nil]
  rw [List.eq_nil_iff_forall_not_mem]
  intro t ht
  rw [List.mem_filterMap]at ht
  obtain⟨x,hx,hxt⟩:=ht
  simp only [Op.operands,Array.toList_map,List.mem_map]at hx
  obtain⟨p,hp,rfl⟩:=hx
  have:=List.all_eq_true.1 h1 p hp
  revert this hxt
  cases p.2<;>simp [XAA]
 refine⟨rfl,rfl,hd,hc.2,hlt,fun h tm=>?_,hpl,hops⟩
 rw [← hl]
 refine X3q hlt fun x hx t ht=>?_
 exfalso
 have h1:=hc.1
 unfold X7H at h1
 split at h1
 case h_2=>cases h1
 rename_i tt len parts hop
 rw [hop]at hx
 simp only [Op.operands,Array.toList_map,List.mem_map]at hx
 obtain⟨p,hp,rfl⟩:=hx
 have:=List.all_eq_true.1 h1 p hp
 rw [ht]at this;cases this
theorem XAx {P:Program}:∀ (l:List Oper) (i:Nat) (r:X6g),r∈X1H P i l→i≤r.i∧l[r.i - i]?=some r.o∧X6C P r.i r.o=some r:=by
 intro l
 induction l with
 | nil=>intro i r h;cases h
 | cons o l ih =>
  intro i r h
  have tail:r∈X1H P (i+1) l→i≤r.i∧(o::l)[r.i - i]?=some r.o∧X6C P r.i r.o=some r:=fun h=>by
   obtain⟨h1,h2,h3⟩:=ih (i+1) r h
   refine⟨by omega,?_,h3⟩
   rw [show r.i - i=(r.i - (i+1))+1 by omega,List.getElem?_cons_succ];exact h2
  simp only [X1H]at h
  split at h
  ·
   rename_i r0 hr0
   rcases List.mem_cons.1 h with rfl | h
   ·
    obtain⟨e1,e2,_⟩:=X4T hr0
    refine⟨by omega,?_,by rw [e1,e2];exact hr0⟩
    rw [e1,Nat.sub_self,List.getElem?_cons_zero,e2]
   · exact tail h
  · exact tail h
theorem XAy {P:Program}:∀ (l:List Oper) (i k:Nat) (o:Oper) (r:X6g),l[k]?=some o→X6C P (i+k) o=some r→r∈X1H P i l:=by
 intro l
 induction l with
 | nil=>intro i k o r h;simp at h
 | cons o l ih =>
  intro i k o' r h hr
  simp only [X1H]
  cases k with
  | zero =>
   simp only [List.getElem?_cons_zero,Option.some.injEq]at h
   subst h
   rw [show X6C P i o=some r from hr]
   exact List.mem_cons_self ..
  | succ k =>
   have:=ih (i+1) k o' r (by simpa using h) (by rw [← hr];congr 1;omega)
   split
   · exact List.mem_cons_of_mem _ this
   · exact this
theorem XHD {P:Program} {ops:Array Oper} {r:X6g} (h:r∈X1H P 0 ops.toList):XG8 P ops r:=by
 obtain⟨_,h2,h3⟩:=XAx _ _ _ h
 obtain⟨_,_,e3,e4,e5,e6,e7,e8⟩:=X4T h3
 exact⟨by simpa using h2,e3,e4,e5,e6,e7,h3,e8⟩
theorem XEC {P:Program} {rs:List X6g} {ms:List Nat}:∀ (l:List Oper) (i k:Nat),(XEj P rs ms i l)[k]?=(l[k]?).map fun o=>X7J P rs (i+k) (ms.getD (i+k) 0) o:=by
 intro l
 induction l with
 | nil=>intro i k;simp [XEj]
 | cons o l ih =>
  intro i k
  simp only [XEj]
  cases k with
  | zero=>rfl
  | succ k =>
   rw [List.getElem?_cons_succ,List.getElem?_cons_succ,ih]
   rw [show i+1+k=i+(k+1)by omega]
theorem X9I {P:Program} {rs:List X6g} {ms:List Nat}:∀ (l:List Oper) (i:Nat),(XEj P rs ms i l).length=l.length:=by
 intro l
 induction l with
 | nil=>intro i;rfl
 | cons o l ih=>intro i;simp only [XEj,List.length_cons,ih]
theorem X5v (P:Program) (ops:Array Oper):(X0l P ops).size=ops.size:=by
 show(XEj P _ _ 0 ops.toList).length=_
 rw [X9I];simp
theorem X3Z {P:Program} {ops:Array Oper} {i:Nat} {o:Oper} (h:ops[i]?=some o):(X0l P ops)[i]?=some (X7J P (X1H P 0 ops.toList) i ((X0R ops).getD i 0) o):=by
 have:(X0l P ops).toList[i]?=_:=XEC (P:=P) (rs:=X1H P 0 ops.toList) (ms:=X0R ops) ops.toList 0 i
 rw [Array.getElem?_toList,Array.getElem?_toList,h,Nat.zero_add]at this
 exact this
theorem X2r {P:Program} {rs:List X6g} {i m:Nat} {o:Oper}:(X7J P rs i m o).after=o.after:=by
 unfold X7J
 split
 · rfl
 · split<;>rfl
theorem XCY {P:Program} {ops:Array Oper} {listed:Array Bool} {i:Nat}:i∈Region.ready .any (X0l P ops) listed↔i∈Region.ready .any ops listed:=by
 rw [mem_ready,mem_ready]
 refine and_congr Iff.rfl ⟨?_,?_⟩
 ·
  rintro⟨o,h1,h2⟩
  have hlt:i<(X0l P ops).size:=(Array.getElem?_eq_some_iff.1 h1).1
  rw [X5v]at hlt
  have h3:=X3Z (P:=P) (Array.getElem?_eq_getElem hlt)
  rw [h1]at h3;cases h3
  exact⟨ops[i],Array.getElem?_eq_getElem hlt,fun e he=>h2 e (by rw [X2r];exact he)⟩
 ·
  rintro⟨o,h1,h2⟩
  exact⟨_,X3Z h1,fun e he=>h2 e (by rw [X2r]at he;exact he)⟩
theorem X8O:∀ {rs:List X6g} {t:Nat} {r:X6g},X7I rs t=some r→r∈rs∧r.d=t:=by
 intro rs
 induction rs with
 | nil=>intro t r h;cases h
 | cons x rs ih =>
  intro t r h
  simp only [X7I]at h
  split at h
  ·
   rename_i hb
   cases h
   exact⟨List.mem_cons_self ..,Nat.eq_of_beq_eq_true hb⟩
  ·
   obtain⟨h1,h2⟩:=ih h
   exact⟨List.mem_cons_of_mem _ h1,h2⟩
theorem X9J:∀ {l:List Nat},XAB l=true→l.Nodup:=by
 intro l
 induction l with
 | nil=>intro _;exact .nil
 | cons a l ih =>
  intro h
  simp only [XAB,Bool.and_eq_true,Bool.not_eq_true']at h
  refine List.nodup_cons.2 ⟨fun ha=>?_,ih h.2⟩
  have:l.any (Nat.beq a)=true:=List.any_eq_true.2 ⟨a,ha,Nat.beq_refl a⟩
  rw [h.1]at this;cases this
def X3r (a:Act):List (Nat×Value)→Act
 | []=>a
 | p::ps=>X3r (a.put (some p.1) p.2) ps
theorem XAC {dst:Option Nat} {v:Value}:∀ (ps:List (Nat×Value)) (a:Act),(∀ p∈ps,dst≠some p.1)→X3r (a.put dst v) ps=(X3r a ps).put dst v:=by
 intro ps
 induction ps with
 | nil=>intro a _;rfl
 | cons p ps ih =>
  intro a h
  simp only [X3r]
  rw [← ih _ fun q hq=>h q (List.mem_cons_of_mem _ hq),Act.put_comm a v p.2 (fun d hd e=>h p (List.mem_cons_self ..) (by rw [hd,← e]))]
theorem XG9 (a:Act) (d:Nat) (u v:Value):(a.put (some d) u).put (some d) v=a.put (some d) v:=by
 simp [Act.put]
theorem XAD {d:Nat} {u v:Value}:∀ (q1 q2:List (Nat×Value)) (a:Act),(∀ p∈q2,d≠p.1)→(X3r a (q1++(d,u)::q2)).put (some d) v=X3r a (q1++(d,v)::q2):=by
 intro q1
 induction q1 with
 | nil =>
  intro q2 a h
  simp only [List.nil_append,X3r]
  rw [← XAC q2 _ fun p hp e=>h p hp (by simpa using e),XG9]
 | cons p q1 ih =>
  intro q2 a h
  simp only [List.cons_append,X3r]
  exact ih q2 _ h
theorem XED (a:Act) (d:Nat):a.put (some d) (a.tmps.getD d undef)=a:=by
 obtain⟨tmps,defers⟩:=a
 simp only [Act.put,Act.mk.injEq,and_true]
 rcases Nat.lt_or_ge d tmps.size with h | h
 ·
  refine Array.ext (by simp) fun i h1 h2=>?_
  rw [Array.getElem_setIfInBounds (by simpa using h1)]
  split
  ·
   rename_i e;subst e
   simp [h]
  · rfl
 · exact Array.setIfInBounds_eq_of_size_le h
theorem XCZ (a:Act):∀ (ps:List (Nat×Value)),(∀ p∈ps,p.2=a.tmps.getD p.1 undef)→X3r a ps=a:=by
 intro ps
 induction ps with
 | nil=>intro _;rfl
 | cons p ps ih =>
  intro h
  simp only [X3r]
  rw [h p (List.mem_cons_self ..),XED]
  exact ih fun q hq=>h q (List.mem_cons_of_mem _ hq)
theorem X8P {F:Fence} {n:Nat} {P:Program} {ops:Array Oper} {i:Nat} {o:Oper} (ho:ops[i]?=some o) (hds:XG5 o.op=true) {Q:Exit→Act→World→Prop}:∀ (ps:List (Nat×Value)) (K:Act→World→Prop) (a:Act) (w:World),(∀ p∈ps,p.1 ∉ o.looksAt ops∧o.dst≠some p.1) →
  wpOpIn F n P ops (fun _ _ _=>False) i (fun a2 w2=>K (X3r a2 ps) w2) a w→wpOpIn F n P ops (fun _ _ _=>False) i K (X3r a ps) w:=by
 intro ps
 induction ps with
 | nil=>intro K a w _ h;exact h
 | cons p ps ih =>
  intro K a w hp h
  simp only [X3r]
  refine ih K _ w (fun q hq=>hp q (List.mem_cons_of_mem _ hq)) ?_
  exact X5u ho (hp p (List.mem_cons_self ..)).1 (hp p (List.mem_cons_self ..)).2 hds h
theorem X8Q {F:Fence} {n:Nat} {P:Program} {ops:Array Oper} {i:Nat} {o:Oper} (ho:ops[i]?=some o) {K:Act→World→Prop} {Q:Exit→Act→World→Prop} (hds:XG5 o.op=true) {a:Act} {w:World} (h:wpOpIn F n P ops (fun _ _ _=>False) i K a w):wpOpIn F n P ops Q i K a w:=by
 have hnd:∀ c,o.op≠.defer c:=by intro c e;rw [e]at hds;cases hds
 unfold wpOpIn at *
 simp only [ho]at *
 split
 ·
  rename_i hw
  simp only [hw,if_true]at h
  unfold Oper.wpIn at *
  refine⟨h.1,?_⟩
  have h:=h.2
  rw [Oper.semAt_eq _ _ _ hnd]at h ⊢
  generalize (execOp a.eval o).run P w=r at *
  cases r with
  | ok x w' =>
   cases x<;>simp only [Oper.uponIn]at h ⊢
   case value u=>exact h
   case skip=>exact h
   case defer q=>exact h
   case enter f args =>
    refine⟨h.1,CallsIn.mono h.2 fun e w'' he=>?_⟩
    cases e with
    | returned u=>exact he
    | panicked c=>exact he.elim
    | outgrown=>obtain⟨_,_,hx⟩:=he;exact hx.elim
   case row row args=>exact⟨h.1,RowsIn.mono h.2 fun u w'' he=>he⟩
   case round l f tmps assign body =>
    refine⟨h.1,RoundIn.mono h.2 fun e w'' he=>?_⟩
    cases e with
    | returned u=>exact he
    | panicked c=>exact he.elim
    | outgrown=>obtain⟨_,_,hx⟩:=he;exact hx.elim
  | halt x w'=>cases x<;>simp only [Oper.uponIn]at h ⊢
 ·
  rename_i hw
  simp only [hw]at h
  exact h
abbrev XEE:=X6g×Value×Nat
def kv (qs:List XEE):List (Nat×Value):=qs.map fun q=>(q.1.d,q.2.1)
structure X8R (ρ:Rho) (w wst:World) (q:XEE):Prop where
 v:q.2.1=.slice (some ⟨q.2.2,0,none⟩) q.1.n q.1.n
 new:wst.heap.size≤q.2.2
 pend:∃ arr elem,XGM ρ w q.2.2 arr elem∧arr.toList=q.1.l
theorem X8R.go {ρ ρ':Rho} {w w' wst:World} {q:XEE} (h:X8R ρ w wst q) (g:X2H ρ ρ' w) (f:Fr ρ w w'):X8R ρ' w' wst q:=by
 obtain⟨arr,elem,h1,h2⟩:=h.pend
 exact⟨h.v,h.new,arr,elem,h1.go g f,h2⟩
theorem XHE {P:Program} {call:X0D} {ops:Array Oper} {n0 nt:Nat} {ρ:Rho} {w w1:World} {st':St} (hok:∀ r∈X1H P 0 ops.toList,XG8 P ops r) {ops2:Array Oper}:∀ (qs:List XEE) (ρ₁:Rho) (st:St) (a:Act),(∀ q∈qs,q.1∈X1H P 0 ops.toList)→X6Z n0 ρ₁ nt st a w1→(∀ q∈qs,X8R ρ₁ w1 w q) →
  qs.Pairwise (fun q q'=>q.2.2≠q'.2.2)→X11 P call nt ops2 (qs.map (·.1.o)) st=some st'→X2H ρ ρ₁ w→∃ ρ',X2H ρ ρ' w∧X6Z n0 ρ' nt st' (X3r a (kv qs)) w1:=by
 intro qs
 induction qs with
 | nil=>intro ρ₁ st a _ S _ _ e g;simp only [List.map_nil,X11,Option.some.injEq]at e;subst e;exact⟨ρ₁,g,S⟩
 | cons q qs ih =>
  intro ρ₁ st a hm S hat hpw e g
  obtain⟨r,v,W⟩:=q
  have R:=hok r (hm _ (List.mem_cons_self ..))
  have A:=hat _ (List.mem_cons_self ..)
  obtain⟨hv,hnew,arr,elem,hp,harr⟩:=A
  simp only at hv hnew hp harr
  simp only [List.map_cons,X11]at e
  split at e
  case h_2=>cases e
  rename_i st1 h1
  have hw:Region.wanted r.o (X0b ops2 st.tm)=true:=by unfold Region.wanted;rw [R.gd]
  unfold X1d at h1
  rw [hw]at h1
  simp only at h1
  have hstep:X05 P call r.o st.tm st.h=X0n r.n r.n (st.h.new (X2z 0 .leaf r.l) (r.n*r.size) r.size):=X4a (R.row _ _)
  rw [hstep]at h1
  split at h1
  case h_2=>cases h1
  rename_i v' h' hv'
  cases h1
  unfold X0n at hv'
  split at hv'
  case h_2=>cases hv'
  rename_i b h₁ hnw
  cases hv'
  obtain⟨hll2,hsm,hle⟩:=X5t (R.row st.h st.tm)
  have has:arr.size=r.n*r.size:=by rw [← hll2,← harr];simp
  obtain⟨H3,hb⟩:=S.h.late hp (size:=r.n*r.size) (esz:=r.size) (by rw [harr];exact hnw) has (by omega) (by rw [harr];exact R.pl)
  subst hb
  have hext:=S.h.ext_upd ⟨W,0,arr.size,r.size,none⟩
  have G3:X2H ρ (upd ρ₁ st.h.next ⟨W,0,arr.size,r.size,none⟩) w:=⟨g.ext.trans hext,fun c J e=>by
   by_cases hc:c=st.h.next
   · subst hc;rw [X0M]at e;cases e;exact .inl hnew
   · rw [X0U _ _ _ hc]at e;exact g.new c J e,fun c J e n=>by
   by_cases hc:c=st.h.next
   · subst hc;rw [X0M]at e;cases e;exact absurd rfl n
   · rw [X0U _ _ _ hc]at e;exact g.zn c J e n⟩
  have hvr:X0N (upd ρ₁ st.h.next ⟨W,0,arr.size,r.size,none⟩) (.slice (some ⟨st.h.next,0,none⟩) r.n r.n) (.slice (some ⟨W,0,none⟩) r.n r.n):=by
   have hx:X13 (upd ρ₁ st.h.next ⟨W,0,arr.size,r.size,none⟩) (.slice (some ⟨st.h.next,0,none⟩) r.n r.n) (.slice (some ⟨W,0+0,none⟩) r.n r.n):=by
    refine X13.slice (X0M _ _ _) hle (Nat.le_refl _) ?_
    show 0+0+r.n*r.size≤arr.size
    omega
   exact .one (.one hx)
  have D3:XE5 n0 (upd ρ₁ st.h.next ⟨W,0,arr.size,r.size,none⟩) w1 a.defers:=by
   obtain⟨Ds,d1,d2,d3⟩:=S.d
   refine⟨Ds,d1,d2,fun D hD=>⟨(d3 D hD).lo,(d3 D hD).at_,fun c J e=>?_⟩⟩
   by_cases hc:c=st.h.next
   ·
    subst hc
    rw [X0M]at e;cases e
    rintro rfl
    have q:=(d3 _ hD).at_
    have q':=hp.at_
    simp only at q
    rw [q']at q;cases q
   · rw [X0U _ _ _ hc]at e;exact(d3 D hD).un c J e
  rw [R.dst]at e
  have hpw2:=List.pairwise_cons.1 hpw
  obtain⟨ρ',g',S'⟩:=ih (upd ρ₁ st.h.next ⟨W,0,arr.size,r.size,none⟩) _ (a.put (some r.d) (.slice (some ⟨W,0,none⟩) r.n r.n)) (fun q hq=>hm q (List.mem_cons_of_mem _ hq))
   ⟨H3,X5Q.put (a:=a) (fun t=>(S.t t).ext hext) S.n S.s hvr (some r.d),by rw [X2g];exact D3,by rw [X3X];exact S.n,S.s,S.z⟩
   (fun q hq=>by
    have A:=hat q (List.mem_cons_of_mem _ hq)
    obtain⟨arr',elem',h1,h2⟩:=A.pend
    refine⟨A.v,A.new,arr',elem',⟨h1.at_,fun c J e=>?_,h1.tg⟩,h2⟩
    by_cases hc:c=st.h.next
    ·
     subst hc;rw [X0M]at e;cases e
     exact hpw2.1 q hq
    · rw [X0U _ _ _ hc]at e;exact h1.un c J e) hpw2.2 e G3
  refine⟨ρ',g',?_⟩
  simp only [kv,List.map_cons,X3r]
  rw [hv]
  exact S'
theorem XCa:∀ (ps:List (Nat×Value)) (a:Act),(X3r a ps).tmps.size=a.tmps.size:=by
 intro ps
 induction ps with
 | nil=>intro a;rfl
 | cons p ps ih=>intro a;simp only [X3r,ih,X3X]
theorem XEF {d:Nat} {v:Value} {q1 q2:List (Nat×Value)} {a:Act} (h:∀ p∈q2,d≠p.1) (hd:d<a.tmps.size):(X3r a (q1++(d,v)::q2)).tmps.getD d undef=v:=by
 rw [← XAD (u:=v) q1 q2 a h]
 have:d<(X3r a (q1++(d,v)::q2)).tmps.size:=by rw [XCa];exact hd
 simp [Act.put,Array.getD_eq_getD_getElem?,this]
theorem X9K {ops:Array Oper} (o:Oper) (hs:∀ cs b,o.op≠.select cs b):∀ (ps:List (Nat×Value)) (a:Act),(∀ p∈ps,p.1 ∉ o.looksAt ops)→execOp (X3r a ps).eval o=execOp a.eval o:=by
 intro ps
 induction ps with
 | nil=>intro a _;rfl
 | cons p ps ih =>
  intro a h
  simp only [X3r]
  rw [ih _ fun q hq=>h q (List.mem_cons_of_mem _ hq)]
  exact execOp_put (ops:=ops) o hs a (some p.1) p.2 (by rintro d ⟨⟩;exact h p (List.mem_cons_self ..))
theorem XEG {P:Program} {ops:Array Oper} {S:Nat→Prop} (h:XCl (X0l P ops) S):XCl ops S:=fun i o ho hi e he hb=>h i _ (X3Z ho) hi e (by rw [X2r];exact he) hb
theorem XCb {ops ops':Array Oper} {o:Oper} (h:o.guard=none):o.looksAt ops=o.looksAt ops':=by
 unfold Oper.looksAt
 rw [h]
theorem X8S {α:Type} {R:α→α→Prop} (h:∀ a b,R a b):∀ l:List α,l.Pairwise R:=by
 intro l
 induction l with
 | nil=>exact .nil
 | cons a l ih=>exact .cons (fun b _=>h a b) ih
theorem XAE {rs:List X6g} {qs:List XEE} (hq:qs.map (·.1)=rs) {r:X6g} (hr:r∈rs):∃ q1 u q2,qs=q1++(r,u)::q2:=by
 rw [← hq,List.mem_map]at hr
 obtain⟨⟨r',u⟩,hm,rfl⟩:=hr
 obtain⟨q1,q2,h⟩:=List.append_of_mem hm
 exact⟨q1,u,q2,h⟩
theorem XEH {P:Program} (hf:P.follows .mixedOrders=true):XHB P (XCX P):=by
 intro call hcall id nt ops st st' e F hF n n0 ρ a w S
 unfold XCX at e
 split at e
 case h_2=>cases e
 rename_i hck
 simp only [Bool.and_eq_true,X7K]at hck
 obtain⟨⟨⟨⟨⟨⟨hnd,hall⟩,hapart⟩,_⟩,hst⟩,hbe⟩,hbe0⟩:=hck
 split at e
 case h_2=>cases e
 rename_i es fin hps
 rw [X2L]at hps
 split at e
 case h_2=>cases e
 rename_i hdy
 have hnodup:=X9J hnd
 obtain⟨rs,hrs⟩:∃ rs,rs=X1H P 0 ops.toList:=⟨_,rfl⟩
 rw [← hrs]at e hnodup hapart
 have hok:∀ r∈rs,XG8 P ops r:=fun r hr=>XHD (by rw [← hrs];exact hr)
 have hgn:∀ (i:Nat) (o:Oper),ops[i]?=some o→o.guard=none∧XG5 o.op=true:=by
  intro i o ho
  have hm:o∈ops.toList:=by
   obtain⟨hi,rfl⟩:=Array.getElem?_eq_some_iff.1 ho
   simp
  have:=List.all_eq_true.1 hall o hm
  simpa using this
 have hap:∀ (i:Nat) (o:Oper),(X0l P ops)[i]?=some o→∀ r∈rs,o.dst≠some r.d∧r.d ∉ o.looksAt (X0l P ops):=by
  intro i o ho r hr
  have hm:o∈(X0l P ops).toList:=by
   obtain⟨hi,rfl⟩:=Array.getElem?_eq_some_iff.1 ho
   simp
  have:=List.all_eq_true.1 (List.all_eq_true.1 hapart o hm) r hr
  simp only [Bool.and_eq_true,Bool.not_eq_true']at this
  refine⟨fun hd=>?_,fun hl=>?_⟩
  ·
   have h2:=X47.2 hd
   rw [this.1]at h2;cases h2
  ·
   have h2:(o.looksAt (X0l P ops)).any (Nat.beq r.d)=true:=List.any_eq_true.2 ⟨r.d,hl,Nat.beq_refl _⟩
   rw [this.2]at h2;cases h2
 have hsz:=X5v P ops
 refine wpIn_region_any hf ?_
 have theEnd:∀ (listed:Array Bool) (j:Nat) (cur:St) (ρ₁:Rho) (a':Act) (qs:List XEE) (w₁:World),XE7 (X0l P ops) es fin st listed j cur→X6Z n0 ρ₁ nt cur a' w₁→qs.map (·.1)=rs→(∀ q∈qs,Lst listed q.1.i→X8R ρ₁ w₁ w q) →
   qs.Pairwise (fun q q'=>Lst listed q.1.i→Lst listed q'.1.i→q.2.2≠q'.2.2)→X2H ρ ρ₁ w→Fr ρ w w₁→Region.ready .any ops listed=[]→X4n n0 ρ w nt .normal st' .normal (X3r a' (kv qs)) w₁:=by
  intro listed j cur ρ₁ a' qs w₁ I S₁ hqs hat hpw g f hr
  have hr':Region.ready .any (X0l P ops) listed=[]:=by
   rw [List.eq_nil_iff_forall_not_mem]at hr ⊢
   exact fun i hi=>hr i (XCY.1 hi)
  obtain⟨q1,q2⟩:=X50 hst hbe S.s hps I hr'
  have all:∀ i,i<ops.size→Lst listed i:=by
   intro i
   induction i using Nat.strongRecOn with
   | _ i ih =>
    intro hi
    obtain⟨o,ho⟩:∃ o,(X0l P ops)[i]?=some o:=⟨(X0l P ops)[i]'(by omega),Array.getElem?_eq_getElem (by omega)⟩
    cases hl2:listed.getD i false with
    | true=>exact hl2
    | false =>
     exfalso
     have:i∈Region.ready .any (X0l P ops) listed:=mem_ready.2 ⟨by
      have hlt:i<listed.size:=by rw [I.sz];omega
      simp only [Array.getD,hlt,dif_pos]at hl2 ⊢;exact hl2,o,ho,fun e he hb=>by
       have hlt:=(X0L hst ho).2.1 e (by simpa using he) hb
       exact ih e.on hlt (by omega)⟩
     rw [hr']at this;cases this
  have allr:∀ q∈qs,Lst listed q.1.i:=fun q hq=>all _ (by
   have hm:q.1∈rs:=by rw [← hqs];exact List.mem_map.2 ⟨q,hq,rfl⟩
   exact(Array.getElem?_eq_some_iff.1 (hok _ hm).at_).1)
  have S2:X6Z n0 ρ₁ nt fin a' w₁:=⟨by rw [← q1];exact S₁.h,fun t=>by have:=S₁.t t;have e2:=q2 t;unfold gd at e2;rw [← e2];exact this,S₁.d,S₁.n,S₁.s,S₁.z⟩
  have e':X11 P call nt (X0l P ops) (qs.map (·.1.o)) fin=some st':=by
   rw [← hqs,List.map_map]at e;exact e
  obtain⟨ρ',g',S'⟩:=XHE (ops:=ops) (w:=w) (by rw [← hrs];exact hok) qs ρ₁ fin a' (fun q hq=>by rw [← hrs,← hqs];exact List.mem_map.2 ⟨q,hq,rfl⟩) S2 (fun q hq=>hat q hq (allr q hq))
   (by
    have:=List.Pairwise.and_mem.1 hpw
    exact this.imp fun {q q'} h=>h.2.2 (allr q h.1) (allr q' h.2.1)) e' g
  exact⟨rfl,ρ',g',f,S'⟩
 have main:∀ (fuel:Nat) (listed:Array Bool) (j:Nat) (cur:St) (ρ₁:Rho) (a':Act) (qs:List XEE) (w₁:World),left listed ops.size=fuel→XE7 (X0l P ops) es fin st listed j cur→X6Z n0 ρ₁ nt cur a' w₁→qs.map (·.1)=rs→(∀ q∈qs,Lst listed q.1.i→X8R ρ₁ w₁ w q) →
   qs.Pairwise (fun q q'=>Lst listed q.1.i→Lst listed q'.1.i→q.2.2≠q'.2.2)→X2H ρ ρ₁ w→Fr ρ w w₁→wpAnyIn F n P .any ops (X4n n0 ρ w nt .normal st') fuel listed (X3r a' (kv qs)) w₁:=by
  intro fuel
  induction fuel with
  | zero =>
   intro listed j cur ρ₁ a' qs w₁ hl I S₁ hqs hat hpw g f
   have hr:Region.ready .any ops listed=[]:=by
    rw [List.eq_nil_iff_forall_not_mem]
    intro i hi
    obtain⟨h1,o,ho,_⟩:=mem_ready.1 hi
    have hn:i<ops.size:=(Array.getElem?_eq_some_iff.1 ho).1
    have hlt:i<listed.size:=by rw [I.sz];omega
    have h1':listed.getD i false=false:=by
     simp only [Array.getD,hlt,dif_pos]at h1 ⊢;exact h1
    have hmem:i∈(List.range ops.size).filter fun i=>!listed.getD i false:=by
     rw [List.mem_filter];exact⟨List.mem_range.2 hn,by rw [h1'];rfl⟩
    have:(List.range ops.size).filter (fun i=>!listed.getD i false)=[]:=List.length_eq_zero_iff.1 hl
    rw [this]at hmem;cases hmem
   exact⟨hr,theEnd listed j cur ρ₁ a' qs w₁ I S₁ hqs hat hpw g f hr⟩
  | succ fuel ih =>
   intro listed j cur ρ₁ a' qs w₁ hl I S₁ hqs hat hpw g f
   refine⟨fun hr=>theEnd listed j cur ρ₁ a' qs w₁ I S₁ hqs hat hpw g f hr,fun i hi=>?_⟩
   obtain⟨h1,o,ho,hpred⟩:=mem_ready.1 hi
   have hn:i<ops.size:=(Array.getElem?_eq_some_iff.1 ho).1
   have hlt:i<listed.size:=by rw [I.sz];omega
   have h1':listed.getD i false=false:=by
    simp only [Array.getD,hlt,dif_pos]at h1 ⊢;exact h1
   have hni:¬ Lst listed i:=by unfold Lst;rw [h1'];simp
   have ho':=X3Z (P:=P) ho
   have hpred':∀ e∈(X7J P (X1H P 0 ops.toList) i ((X0R ops).getD i 0) o).after.toList,Region.binds .any e=true→Lst listed e.on:=fun e he hb=>hpred e (by rw [X2r]at he;simpa using he) hb
   have D1:=X48 hlt I.dc ho' hpred'
   have D2:=XEG D1
   have li:Lst (listed.setIfInBounds i true) i:=(X0H hlt).2 (.inl rfl)
   have hleft':left (listed.setIfInBounds i true) ops.size=fuel:=by have:=X7F hn (by rw [I.sz];omega) h1';omega
   obtain⟨cur',j',p1,p2⟩:=X3J hst hbe S.s hps (XHC hdy) I ho' hni hpred' (fun hmi k k2 k1=>by
    have hb:=X9F hdy (by omega) hmi k2 k1
    exact((X0H hlt).1 (X0c D1 li hb)).resolve_left (by omega))
   obtain⟨hg0,hds⟩:=hgn i o ho
   have hwant:∀ y,Region.wanted o y=true:=fun y=>by unfold Region.wanted;rw [hg0]
   have lst':∀ k,k≠i→(Lst (listed.setIfInBounds i true) k→Lst listed k):=fun k hk h=>((X0H hlt).1 h).resolve_left hk
   have hins:∀ q∈qs,q.1∈rs:=fun q hq=>by rw [← hqs];exact List.mem_map.2 ⟨q,hq,rfl⟩
   cases hro:X6C P i o with
   | some r =>
    obtain⟨er,eo,hdst,_,hlate,hrow,hpl,hno⟩:=X4T hro
    have hrm:r∈rs:=by rw [hrs];exact XAy ops.toList 0 i o r (by simpa using ho) (by rw [Nat.zero_add];exact hro)
    have hcur:cur'=cur:=by
     simp only [X7J,hro]at p1
     unfold X1d at p1
     simp only [Region.wanted,X05,aev,X1p,X3U,show X01 (Value.int .i64 0)=true from rfl,Option.some.injEq]at p1
     exact p1.symm
    rw [hcur]at p2
    obtain⟨q1,u,q2,rfl⟩:=XAE hqs hrm
    have hnd2:(q1.map (·.1.d)++r.d::q2.map (·.1.d)).Nodup:=by
     rw [← hqs]at hnodup
     simp only [List.map_append,List.map_cons,List.map_map]at hnodup
     exact hnodup
    have hq1:∀ q∈q1,q.1.d≠r.d:=fun q hq e=>by
     have:=(List.nodup_append.1 hnd2).2.2 _ (List.mem_map.2 ⟨q,hq,rfl⟩) r.d (List.mem_cons_self ..)
     exact this e
    have hq2:∀ q∈q2,q.1.d≠r.d:=fun q hq e=>by
     have:=(List.nodup_cons.1 (List.nodup_append.1 hnd2).2.1).1
     exact this (List.mem_map.2 ⟨q,hq,e⟩)
    have hidx:∀ q:XEE,q.1∈rs→q.1.d≠r.d→q.1.i≠i:=fun q hq hd e=>by
     have R:=hok _ hq
     have h2:=R.at_
     rw [e,ho]at h2
     have h3:=R.own
     rw [e,← Option.some.inj h2,hro]at h3
     exact hd (by rw [← Option.some.inj h3])
    have hi1:∀ q∈q1,q.1.i≠i:=fun q hq=>hidx q (hins q (by simp [hq])) (hq1 q hq)
    have hi2:∀ q∈q2,q.1.i≠i:=fun q hq=>hidx q (hins q (by simp [hq])) (hq2 q hq)
    obtain⟨elem,arr,hrun,harr⟩:=X5s (a:=a') S₁.h S₁.t hlate (hrow cur.h cur.tm)
    have hal:arr.toList=r.l:=harr.eq_of_plain hpl
    unfold wpOpIn
    rw [ho]
    simp only [hwant,if_true]
    refine⟨fun f _=>hF.fn f,?_⟩
    rw [Oper.semAt_eq _ _ _ (by intro c hc;rw [hc]at hlate;cases hlate),X9K (ops:=ops) o (by intro c b hc;rw [hc]at hlate;cases hlate) _ _ (fun p _=>by rw [hno];simp),hrun w₁]
    show wpAnyIn F n P .any ops _ fuel _ ((X3r a' (kv (q1++(r,u)::q2))).put o.dst _) _
    rw [hdst]
    have ek:∀ u,kv (q1++(r,u)::q2)=kv q1++(r.d,u.1)::kv q2:=fun u=>by simp [kv]
    rw [ek,XAD (kv q1) (kv q2) a' (fun p hp=>by
     simp only [kv,List.mem_map]at hp
     obtain⟨q,hq,rfl⟩:=hp
     exact fun e=>hq2 q hq e.symm)]
    rw [show kv q1++(r.d,Value.slice (some ⟨w₁.heap.size,0,none⟩) r.n r.n)::kv q2=kv (q1++(r,(Value.slice (some ⟨w₁.heap.size,0,none⟩) r.n r.n,w₁.heap.size))::q2)from(ek (Value.slice (some ⟨w₁.heap.size,0,none⟩) r.n r.n,w₁.heap.size)).symm]
    have f':Fr ρ₁ w₁ (w₁.alloc (.cells arr elem)):=Fr.alloc ρ₁ w₁ _
    have oldW:∀ q∈q1++(r,u)::q2,q.1.i≠i→Lst (listed.setIfInBounds i true) q.1.i→X8R ρ₁ w₁ w q:=fun q hq hne hl=>hat q hq (lst' _ hne hl)
    have ltW:∀ q,X8R ρ₁ w₁ w q→q.2.2<w₁.heap.size:=fun q h=>by
     obtain⟨arr',elem',h1,_⟩:=h.pend
     exact(Array.getElem?_eq_some_iff.1 h1.at_).1
    refine ih _ j' cur ρ₁ a' _ _ hleft' p2 ⟨S₁.h.allocU _,S₁.t,S₁.d.go (.refl _ _) f',S₁.n,S₁.s,Nat.le_trans S₁.z f'.size⟩ (by rw [← hqs];simp) ?_ ?_ g (f.trans g f')
    ·
     intro q hq hl
     rcases List.mem_append.1 hq with hq | hq
     · exact(oldW q (by simp [hq]) (hi1 q hq) hl).go (.refl _ _) f'
     ·
      rcases List.mem_cons.1 hq with rfl | hq
      ·
       refine⟨rfl,f.size,arr,elem,⟨World.alloc_heap_new w₁ _,?_,fun t=>Nat.lt_irrefl _ (S₁.h.nx.1.lt t)⟩,hal⟩
       intro b J e;have:=X0V S₁.h e;show J.g≠w₁.heap.size;omega
      · exact(oldW q (by simp [hq]) (hi2 q hq) hl).go (.refl _ _) f'
    ·
     rw [List.pairwise_append,List.pairwise_cons]at hpw ⊢
     refine⟨hpw.1.imp_of_mem fun {a b} ha hb h l1 l2=>h (lst' _ (hi1 _ ha) l1) (lst' _ (hi1 _ hb) l2),⟨fun q hq l1 l2=>?_,hpw.2.1.2.imp_of_mem fun {a b} ha hb h l1 l2=>h (lst' _ (hi2 _ ha) l1) (lst' _ (hi2 _ hb) l2)⟩,fun q hq q' hq' l1 l2=>?_⟩
     ·
      have:=ltW q (oldW q (by simp [hq]) (hi2 q hq) l2)
      simp only
      omega
     ·
      rcases List.mem_cons.1 hq' with rfl | hq'
      ·
       have:=ltW q (oldW q (by simp [hq]) (hi1 q hq) l1)
       simp only
       omega
      · exact hpw.2.2 q hq q' (List.mem_cons_of_mem _ hq') (lst' _ (hi1 q hq) l1) (lst' _ (hi2 q' hq') l2)
   | none =>
    have hidx:∀ q∈qs,q.1.i≠i:=fun q hq e=>by
     have R:=hok _ (hins q hq)
     have h2:=R.at_
     rw [e,ho]at h2
     have h3:=R.own
     rw [e,← Option.some.inj h2,hro]at h3
     cases h3
    have hpw':qs.Pairwise (fun q q'=>Lst (listed.setIfInBounds i true) q.1.i→Lst (listed.setIfInBounds i true) q'.1.i→q.2.2≠q'.2.2):=hpw.imp_of_mem fun {a b} ha hb h l1 l2=>h (lst' _ (hidx _ ha) l1) (lst' _ (hidx _ hb) l2)
    cases htx:XG7 P (X1H P 0 ops.toList) ((X0R ops).getD i 0) o with
    | some s =>
     have hop':=hap i _ ho'
     simp only [X7J,hro,htx]at p1 p2 hop'
     unfold X1d at p1
     simp only [Region.wanted,X05,aev,X1p,show X01 (Value.string s)=true from rfl,Option.some.injEq]at p1
     subst p1
     rw [← hrs]at htx
     unfold XG7 at htx
     split at htx
     case h_2=>cases htx
     rename_i src dty t hop
     split at htx
     case h_2=>cases htx
     rename_i r hfr
     obtain⟨hrm,hrd⟩:=X8O hfr
     split at htx
     case h_2=>cases htx
     rename_i hbit
     simp only [Bool.and_eq_true]at hbit
     split at htx
     case h_2=>cases htx
     rename_i el hs hd
     split at htx
     case h_2=>cases htx
     rename_i he
     split at htx
     case h_2=>cases htx
     rename_i xs hxs
     split at htx
     case h_2=>cases htx
     rename_i hlen
     cases htx
     have hlx:=XEg _ _ hxs
     obtain⟨q1,u,q2,rfl⟩:=XAE hqs hrm
     have hL:Lst listed r.i:=lst' _ (hidx (r,u) (by simp)) (X0c D2 li hbit.1)
     have A:=hat (r,u) (by simp) hL
     have hnd2:(q1.map (·.1.d)++r.d::q2.map (·.1.d)).Nodup:=by
      rw [← hqs]at hnodup
      simp only [List.map_append,List.map_cons,List.map_map]at hnodup
      exact hnodup
     have hq2:∀ p∈kv q2,r.d≠p.1:=fun p hp e=>by
      simp only [kv,List.mem_map]at hp
      obtain⟨q,hq,rfl⟩:=hp
      exact(List.nodup_cons.1 (List.nodup_append.1 hnd2).2.1).1 (List.mem_map.2 ⟨q,hq,e.symm⟩)
     have hrnt:r.d<a'.tmps.size:=by rw [S₁.n];exact X1W hbe0 (hok r hrm).at_ (hok r hrm).dst
     have hev:(X3r a' (kv (q1++(r,u)::q2))).eval (.tmp t)=.slice (some ⟨u.2,0,none⟩) r.n r.n:=by
      have:kv (q1++(r,u)::q2)=kv q1++(r.d,u.1)::kv q2:=by simp [kv]
      rw [this,← A.v]
      show(X3r a' (kv q1++(r.d,u.1)::kv q2)).tmps.getD t undef=u.1
      rw [← hrd]
      exact XEF hq2 hrnt
     obtain⟨arr,elem,hp,harr⟩:=A.pend
     have hcell:∀ k,k<r.n→w₁.cell? ⟨u.2,0+k,none⟩=some (.int .u8 (xs.getD k 0)):=fun k hk=>by
      have hlx2:xs.length=r.n:=Nat.eq_of_beq_eq_true hlen
      have h2:arr[k]?=some (.int .u8 (xs.getD k 0)):=by
       rw [← Array.getElem?_toList,harr,hlx,List.getElem?_map,List.getElem?_eq_getElem (by omega)]
       simp [List.getD,List.getElem?_eq_getElem (show k<xs.length by omega)]
      rw [Nat.zero_add]
      simp [World.cell?,hp.at_,h2]
     have hcv:=run_convert_bytes_arg w₁ src el hs he u.2 0 r.n r.n xs (Nat.eq_of_beq_eq_true hlen) hcell dty hd
     unfold wpOpIn
     rw [ho]
     simp only [hwant,if_true]
     refine⟨fun f _=>hF.fn f,?_⟩
     have hex:execOp (X3r a' (kv (q1++(r,u)::q2))).eval o=(do pure (.value (← convert src dty ((X3r a' (kv (q1++(r,u)::q2))).eval (.tmp t))))):=by
      obtain⟨dst,op,ty,pos,after,guard⟩:=o
      simp only at hop
      subst hop
      unfold execOp;rfl
     rw [Oper.semAt_eq _ _ _ (by intro c hc;rw [hc]at hop;cases hop),hex,Sem.run_bind,hev,hcv]
     show wpAnyIn F n P .any ops _ fuel _ ((X3r a' (kv (q1++(r,u)::q2))).put o.dst (.string (strOfNums xs))) _
     rw [← XAC (kv (q1++(r,u)::q2)) a' (fun p hp e=>by
      simp only [kv,List.mem_map]at hp
      obtain⟨q,hq,rfl⟩:=hp
      exact(hop' q.1 (hins q hq)).1 e)]
     exact ih _ j' _ ρ₁ _ _ w₁ hleft' p2 ⟨S₁.h,S₁.t.put S₁.n S₁.s (.plain rfl) o.dst,by rw [X2g];exact S₁.d,by rw [X3X];exact S₁.n,S₁.s,S₁.z⟩ hqs (fun q hq hl=>hat q hq (lst' _ (hidx q hq) hl)) hpw' g f
    | none =>
     have hop':=hap i _ ho'
     simp only [X7J,hro,htx]at p1 p2 hop'
     refine X8Q ho hds (X8P (Q:=fun _ _ _=>False) ho hds (kv qs) _ a' w₁ (fun p hp=>?_) ?_)
     ·
      simp only [kv,List.mem_map]at hp
      obtain⟨q,hq,rfl⟩:=hp
      have h2:=hop' q.1 (hins q hq)
      exact⟨by rw [XCb (ops':=X0l P ops) hg0];exact h2.2,h2.1⟩
     ·
      have hS:=X2F (ops:=X0l P ops) (n:=n) hF hcall S₁ p1 (fun a2 w2=>wpAnyIn F n P .any ops (X4n n0 ρ w nt .normal st') fuel (listed.setIfInBounds i true) (X3r a2 (kv qs)) w2) (by
       rintro a2 w2 ⟨ρ₂,g2,f2,S₂⟩
       exact ih _ j' cur' ρ₂ a2 qs w2 hleft' p2 S₂ hqs (fun q hq hl=>(hat q hq (lst' _ (hidx q hq) hl)).go g2 f2) hpw' (g.trans f.size g2) (f.trans g f2)) (fun _ _ _=>False)
      rw [if_pos (hwant _)]at hS
      unfold wpOpIn
      rw [ho]
      simp only [hwant,if_true]
      exact hS
 have h0:∀ n,left (Array.replicate n false) n=n:=by
  intro n
  unfold left
  rw [List.filter_eq_self.2]
  · simp
  ·
   intro k hk
   have:k<n:=by simpa using hk
   simp [this]
 have nl:∀ k,¬ Lst (Array.replicate ops.size false) k:=by
  intro k hk
  unfold Lst at hk
  by_cases hkn:k<ops.size
  · simp [hkn]at hk
  · simp [hkn]at hk
 obtain⟨qs0,hqs0⟩:∃ qs0:List XEE,qs0=rs.map fun r=>(r,(a.tmps.getD r.d undef,0)):=⟨_,rfl⟩
 have hsame:X3r a (kv qs0)=a:=XCZ a _ (fun p hp=>by
  simp only [kv,hqs0,List.map_map,List.mem_map]at hp
  obtain⟨r,hr,rfl⟩:=hp
  rfl)
 rw [← hsame]
 refine main ops.size (Array.replicate ops.size false) 0 st ρ a qs0 _ (h0 ops.size) ?_ ⟨S.h.drew,S.t,S.d.go (.refl _ _) (Fr.refl ρ w).drew,S.n,S.s,S.z⟩ (by rw [hqs0,List.map_map];exact(List.map_congr_left (fun _ _=>rfl)).trans (List.map_id rs)) (fun q _ hl=>absurd hl (nl _)) ?_ (.refl _ _) (Fr.refl ρ w).drew
 · exact⟨by simp [hsz],fun i o _ hi=>absurd hi (nl i),fun i _=>⟨fun hi=>absurd hi (nl i),fun x=>absurd x (Nat.not_lt_zero _)⟩,X1r _ _ _ _ hps,fun k o e _ _ hk=>absurd hk (nl k),fun t _=>rfl⟩
 · exact X8S (fun _ _ h=>absurd h (nl _)) _
def X0O (P:Program):X0D→Nat→Array Oper→St→Option St:=fun call nt ops st =>
 match X9E P call nt ops st with
 | some st'=>some st'
 | none=>match X8N P call nt ops st with
  | some st'=>some st'
  | none=>XCX P call nt ops st
theorem XCc {P:Program} (hf:P.follows .mixedOrders=true):XHB P (X0O P):=by
 intro call hcall id nt ops st st' e
 unfold X0O at e
 split at e
 · rename_i s hs;cases e;exact XE9 hf call hcall id nt ops st st' hs
 ·
  split at e
  · rename_i s hs;cases e;exact XCW hf call hcall id nt ops st st' hs
  · exact XEH hf call hcall id nt ops st st' e
def X7L (P:Program) (ov:Ov) (k:Nat):X0D:=X1b P ov (exec P ov (X0O P) k)
theorem XCd {P:Program} (hf:P.follows .mixedOrders=true) {ov:Ov} (hov:XAq P ov) (k:Nat):X5i P (X7L P ov k):=X3h hov (XAt hov (XCc hf) k)
end
end Go.Vai
