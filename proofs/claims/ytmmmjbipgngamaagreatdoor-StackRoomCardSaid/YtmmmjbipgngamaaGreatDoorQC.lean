/-
  What is proved here: rules by which a body of code is shown to come to what is asked, above the plain interpreter: each o rules for control, for regions that leave their order open, and for functions (part QD). No conditions but those that the theorems state.
-/
import Derived.Test.YtmmmjbipgngamaaGreatDoorQA
set_option linter.unusedVariables false
set_option linter.unusedSimpArgs false
namespace Go.Vai
noncomputable section
def Ev {α:Type} (f:Nat→Option α) (x:α):Prop:=∃ K,∀ k,K≤k→f k=some x
theorem Ev.of {α:Type} {f:Nat→Option α} {x:α} (h:∀ k,f k=some x):Ev f x:=⟨0,fun k _=>h k⟩
abbrev Env:=Nat→Value
def XBc (nt:Nat) (s:Env) (dst:Option Nat) (v:Value):Env:=fun t=>match dst with
 | some d=>if t=d∧d<nt then v else s t
 | none=>s t
theorem X8k {nt:Nat} {tm:Tr Value} {s:Env} (hs:∀ t,gd tm t=s t) (dst:Option Nat) (v:Value):∀ t,gd (X2u nt tm dst v) t=XBc nt s dst v t:=by
 intro t
 unfold X2u XBc
 cases dst with
 | none=>exact hs t
 | some d =>
  simp only
  by_cases hd:d<nt
  ·
   have:Nat.blt d nt=true:=by simpa using hd
   rw [this];simp only
   by_cases ht:t=d
   ·
    subst ht
    rw [if_pos ⟨rfl,hd⟩]
    unfold gd
    rw [Tr.get_put_same (Nat.zero_le _)];rfl
   ·
    rw [if_neg (fun h=>ht h.1),← hs t]
    unfold gd
    rw [Tr.get_put_other ht]
  ·
   have:Nat.blt d nt=false:=by
    cases hb:Nat.blt d nt with
    | false=>rfl
    | true=>exact absurd (by simpa using hb) hd
   rw [this];simp only
   rw [if_neg (fun h=>hd h.2)];exact hs t
def zev (s:Env):Operand→Option Value
 | .tmp t=>some (s t)
 | .const v=>match X01 v with
  | true=>some v
  | false=>none
 | .global _=>none
 | .func f=>some (.func (.func f) #[] #[])
def X3Z (s:Env):List Operand→Option (List Value)
 | []=>some []
 | x::xs=>match zev s x,X3Z s xs with
  | some v,some vs=>some (v::vs)
  | _,_=>none
def X8Y (s:Env):Option Operand→Option (Option Value)
 | none=>some none
 | some x=>match zev s x with
  | some v=>some (some v)
  | none=>none
def XBd (s:Env):List (Nat×Operand)→Option (List (Nat×Value))
 | []=>some []
 | (i,x)::xs=>match zev s x,XBd s xs with
  | some v,some vs=>some ((i,v)::vs)
  | _,_=>none
section
variable {tm:Tr Value} {s:Env} (hs:∀ t,gd tm t=s t) (h:X04)
include hs
theorem X0S {x:Operand} {v:Value} (e:zev s x=some v):aev h tm x=some v:=by
 cases x with
 | tmp t=>simp only [zev]at e;simp only [aev];rw [← e];exact congrArg some (hs t)
 | const u=>exact e
 | global g=>cases e
 | func f=>exact e
theorem X22:∀ {xs:List Operand} {vs:List Value},X3Z s xs=some vs→X2w h tm xs=some vs:=by
 intro xs
 induction xs with
 | nil=>intro vs e;exact e
 | cons x xs ih =>
  intro vs e
  simp only [X3Z]at e
  split at e
  ·
   rename_i v us h1 h2
   simp only [X2w,X0S hs h h1,ih h2];exact e
  · cases e
theorem X3w {x:Option Operand} {v:Option Value} (e:X8Y s x=some v):X4t h tm x=some v:=by
 cases x with
 | none=>exact e
 | some x =>
  simp only [X8Y]at e
  split at e
  ·
   rename_i u hu
   simp only [X4t,X0S hs h hu];exact e
  · cases e
theorem X8l:∀ {xs:List (Nat×Operand)} {vs:List (Nat×Value)},XBd s xs=some vs→X5C h tm xs=some vs:=by
 intro xs
 induction xs with
 | nil=>intro vs e;exact e
 | cons p xs ih =>
  obtain⟨i,x⟩:=p
  intro vs e
  simp only [XBd]at e
  split at e
  ·
   rename_i v us h1 h2
   simp only [X5C,X0S hs h h1,ih h2];exact e
  · cases e
end
def X1q (a:AH):Option Value→Option (Value×AH)
 | some v=>some (v,a)
 | none=>none
def X0K (P:Program) (op:Op) (ty:TypeId) (s:Env) (a:AH):Option (Value×AH) :=
 match op with
 | .move x=>X1q a (zev s x)
 | .assign x=>X1q a (zev s x)
 | .pick c x y=>match zev s c with
  | some (.bool true)=>X1q a (zev s x)
  | some (.bool false)=>X1q a (zev s y)
  | _=>none
 | .alloc elem=>X7M P a elem
 | .box _ x=>match zev s x with
  | some v=>XCl a v
  | none=>none
 | .build t parts=>match XBd s parts.toList with
  | some ps=>X1q a (X5D P t ps)
  | none=>none
 | .buildSlice t len parts=>match XBd s parts.toList with
  | some ps=>X1c P a t len ps
  | none=>none
 | .load t x=>match zev s x with
  | some v=>X1q a (X2o P a t v)
  | none=>none
 | .store t x y=>match zev s x,zev s y with
  | some va,some vx=>match X7N P a t va vx with
   | some a'=>some (undef,a')
   | none=>none
  | _,_=>none
 | .nilCheck x=>match zev s x with
  | some (.pointer (some ⟨b,i,none⟩))=>some (.pointer (some ⟨b,i,none⟩),a)
  | some (.func (.func f) fi ca)=>some (.func (.func f) fi ca,a)
  | _=>none
 | .binOp op t x y _=>match zev s x,zev s y with
  | some vx,some vy=>X1q a (X1m P op t x y vx vy)
  | _,_=>none
 | .unOp op _ x=>match zev s x with
  | some v=>match X01 v with
   | true=>X1q a (X0v P (Op.unary op v))
   | false=>none
  | none=>none
 | .convert src dst x=>match zev s x with
  | some v=>X2x P a src dst v
  | none=>none
 | .makeInterface t x=>match zev s x with
  | some v=>match X01 v with
   | true=>X1q a (X0v P (Instr.makeInterface t v))
   | false=>none
  | none=>none
 | .makeFunc fn fi ca=>match X3Z s fi.toList,X3Z s ca.toList with
  | some x,some y=>match x.all XB0 && y.all XB0 && isFn fn with
   | true=>some (.func fn x.toArray y.toArray,a)
   | false=>none
  | _,_=>none
 | .makeSlice t l c=>match zev s l,zev s c with
  | some vl,some vc=>X2U P a t vl vc
  | _,_=>none
 | .slice t x lo hi Option.none=>match zev s x,X8Y s lo,X8Y s hi with
  | some v,some l,some u=>X1q a (X7P P a t v l u)
  | _,_,_=>none
 | .slice t x lo hi (some m)=>match zev s x,X8Y s lo,X8Y s hi,X8Y s (some m)with
  | some v,some l,some (some u),some (some k)=>X1q a (X5P P a t v l u k)
  | _,_,_,_=>none
 | .fieldAddr t x f=>match zev s x with
  | some v=>X1q a (X0Q P t v f)
  | none=>none
 | .field t x f=>match zev s x with
  | some v=>X1q a (X56 P t v f)
  | none=>none
 | .indexAddr t x i=>match zev s x,zev s i with
  | some v,some j=>X1q a (X15 P t v j)
  | _,_=>none
 | .index t x i=>match zev s x,zev s i with
  | some v,some j=>X1q a (X7o P t v j)
  | _,_=>none
 | .extract x i=>match zev s x with
  | some v=>X1q a (X38 v i)
  | none=>none
 | .call ⟨.builtin .append,args,ats⟩=>match X3Z s args.toList with
  | some [x,y]=>X3u P a ats x y
  | _=>none
 | .call ⟨.builtin .copy,args,ats⟩=>match X3Z s args.toList with
  | some [x,y]=>XBb P a ats x y
  | _=>none
 | .call ⟨.builtin .clear,args,ats⟩=>match X3Z s args.toList with
  | some [x]=>X7Q P a ats x
  | _=>none
 | .call ⟨.builtin .len,args,ats⟩=>match X3Z s args.toList with
  | some [x]=>X1q a (XCr P ats ty x)
  | _=>none
 | .call ⟨.builtin .min,args,ats⟩=>match X3Z s args.toList with
  | some l=>match l.all X01 with
   | true=>X1q a (X0v P (Builtin.min_ ats ty l.toArray))
   | false=>none
  | _=>none
 | .call ⟨.builtin .max,args,ats⟩=>match X3Z s args.toList with
  | some l=>match l.all X01 with
   | true=>X1q a (X0v P (Builtin.max_ ats ty l.toArray))
   | false=>none
  | _=>none
 | _=>none
theorem X0L {a a':AH} {o:Option Value} {v:Value} (e:X1q a o=some (v,a')):o=some v∧a'=a:=by
 cases o with
 | none=>cases e
 | some u=>cases e;exact⟨rfl,rfl⟩
theorem XA1 {P:Program} {op:Op} {ty:TypeId} {s:Env} {a a':AH} {v:Value} (e:X0K P op ty s a=some (v,a')) {tm:Tr Value} (hs:∀ t,gd tm t=s t) {h:X04} (A:Ab h a) (call:X0E)
  (o:Oper) (ho:o.op=op) (ht:o.type=ty):∃ h',X05 P call o tm h=some (v,h')∧Ab h' a':=by
 unfold X0K at e
 unfold X05
 rw [ho]
 split at e
 · obtain⟨e1,rfl⟩:=X0L e;simp only [X0S hs h e1];exact⟨h,rfl,A⟩
 · obtain⟨e1,rfl⟩:=X0L e;simp only [X0S hs h e1];exact⟨h,rfl,A⟩
 ·
  split at e
  · rename_i hc;obtain⟨e1,rfl⟩:=X0L e;simp only [X0S hs h hc,X0S hs h e1];exact⟨h,rfl,A⟩
  · rename_i hc;obtain⟨e1,rfl⟩:=X0L e;simp only [X0S hs h hc,X0S hs h e1];exact⟨h,rfl,A⟩
  · cases e
 · exact X8g A _ v a' e
 ·
  split at e
  case h_2=>cases e
  rename_i u hu
  simp only [X0S hs h hu];exact X8f A u v a' e
 ·
  split at e
  case h_2=>cases e
  rename_i ps hp
  obtain⟨e1,rfl⟩:=X0L e
  simp only [X8l hs h hp,e1];exact⟨h,rfl,A⟩
 ·
  split at e
  case h_2=>cases e
  rename_i ps hp
  simp only [X8l hs h hp];exact X4l A _ _ _ v a' e
 ·
  split at e
  case h_2=>cases e
  rename_i u hu
  obtain⟨e1,rfl⟩:=X0L e
  simp only [X0S hs h hu,X3i A e1];exact⟨h,rfl,A⟩
 ·
  split at e
  case h_2=>cases e
  rename_i va vx h1 h2
  split at e
  case h_2=>cases e
  rename_i a'' hz
  cases e
  obtain⟨h',w1,w2⟩:=X8h A hz
  simp only [X0S hs h h1,X0S hs h h2,w1];exact⟨h',rfl,w2⟩
 ·
  split at e
  · rename_i hc;cases e;simp only [X0S hs h hc];exact⟨h,rfl,A⟩
  · rename_i hc;cases e;simp only [X0S hs h hc];exact⟨h,rfl,A⟩
  · cases e
 ·
  split at e
  case h_2=>cases e
  rename_i vx vy h1 h2
  obtain⟨e1,rfl⟩:=X0L e
  simp only [X0S hs h h1,X0S hs h h2,e1];exact⟨h,rfl,A⟩
 ·
  split at e
  case h_2=>cases e
  rename_i u hu
  split at e
  case h_2=>cases e
  rename_i hp
  obtain⟨e1,rfl⟩:=X0L e
  simp only [X0S hs h hu,hp,e1];exact⟨h,rfl,A⟩
 ·
  split at e
  case h_2=>cases e
  rename_i u hu
  simp only [X0S hs h hu];exact X6n A _ _ u v a' e
 ·
  split at e
  case h_2=>cases e
  rename_i u hu
  split at e
  case h_2=>cases e
  rename_i hp
  obtain⟨e1,rfl⟩:=X0L e
  simp only [X0S hs h hu,hp,e1];exact⟨h,rfl,A⟩
 ·
  split at e
  case h_2=>cases e
  rename_i x y h1 h2
  split at e
  case h_2=>cases e
  rename_i hp
  cases e
  simp only [X22 hs h h1,X22 hs h h2,hp];exact⟨h,rfl,A⟩
 ·
  split at e
  case h_2=>cases e
  rename_i vl vc h1 h2
  simp only [X0S hs h h1,X0S hs h h2];exact X5O A _ _ _ v a' e
 ·
  split at e
  case h_2=>cases e
  rename_i u l m h1 h2 h3
  obtain⟨e1,rfl⟩:=X0L e
  have h4:X4t h tm none=some none:=rfl
  simp only [X0S hs h h1,X3w hs h h2,X3w hs h h3,h4,X8i A e1];exact⟨h,rfl,A⟩
 ·
  split at e
  case h_2=>cases e
  rename_i u l m k h1 h2 h3 h4
  obtain⟨e1,rfl⟩:=X0L e
  simp only [X0S hs h h1,X3w hs h h2,X3w hs h h3,X3w hs h h4,X81 A e1];exact⟨h,rfl,A⟩
 ·
  split at e
  case h_2=>cases e
  rename_i u hu
  obtain⟨e1,rfl⟩:=X0L e
  simp only [X0S hs h hu,e1];exact⟨h,rfl,A⟩
 ·
  split at e
  case h_2=>cases e
  rename_i u hu
  obtain⟨e1,rfl⟩:=X0L e
  simp only [X0S hs h hu,e1];exact⟨h,rfl,A⟩
 ·
  split at e
  case h_2=>cases e
  rename_i vx vy h1 h2
  obtain⟨e1,rfl⟩:=X0L e
  simp only [X0S hs h h1,X0S hs h h2,e1];exact⟨h,rfl,A⟩
 ·
  split at e
  case h_2=>cases e
  rename_i vx vy h1 h2
  obtain⟨e1,rfl⟩:=X0L e
  simp only [X0S hs h h1,X0S hs h h2,e1];exact⟨h,rfl,A⟩
 ·
  split at e
  case h_2=>cases e
  rename_i u hu
  obtain⟨e1,rfl⟩:=X0L e
  simp only [X0S hs h hu,e1];exact⟨h,rfl,A⟩
 ·
  split at e
  case h_2=>cases e
  rename_i x y h1
  simp only [X22 hs h h1];exact X80 A _ _ _ v a' e
 ·
  split at e
  case h_2=>cases e
  rename_i x y h1
  simp only [X22 hs h h1];exact XA0 A _ _ _ v a' e
 ·
  split at e
  case h_2=>cases e
  rename_i x h1
  simp only [X22 hs h h1];exact X8j A _ _ v a' e
 ·
  split at e
  case h_2=>cases e
  rename_i x h1
  obtain⟨e1,rfl⟩:=X0L e
  simp only [X22 hs h h1,ht,e1];exact⟨h,rfl,A⟩
 ·
  split at e
  case h_2=>cases e
  rename_i l h1
  split at e
  case h_2=>cases e
  rename_i hp
  obtain⟨e1,rfl⟩:=X0L e
  simp only [X22 hs h h1,hp,ht,e1];exact⟨h,rfl,A⟩
 ·
  split at e
  case h_2=>cases e
  rename_i l h1
  split at e
  case h_2=>cases e
  rename_i hp
  obtain⟨e1,rfl⟩:=X0L e
  simp only [X22 hs h h1,hp,ht,e1];exact⟨h,rfl,A⟩
 · cases e
abbrev X3H (P:Program) (ov:Ov) (k:Nat):X0E:=X1E P ov (exec P ov (X0N P) k)
def Fn (P:Program) (ov:Ov) (f:FuncId) (args:List Value) (a:AH) (Q:Value→AH→Prop):Prop :=
 ∀ h,Ab h a→∃ v h' a',Ev (fun k=>X3H P ov k (.func f) args h) (v,h')∧Ab h' a'∧Q v a'
def X3x (P:Program) (ov:Ov) (o:Oper) (s:Env) (a:AH) (Q:Value→AH→Prop):Prop :=
 ∀ tm h,(∀ t,gd tm t=s t)→Ab h a→∃ v h' a',Ev (fun k=>X05 P (X3H P ov k) o tm h) (v,h')∧Ab h' a'∧Q v a'
def X6o (P:Program) (call:X0E) (nt:Nat) (ops:Array Oper) (W:AH→Prop):List Oper→St→Prop
 | [],st=>∃ a,Ab st.h a∧W a
 | o::l,st=>(∃ a,Ab st.h a∧W a)∧∀ st',X1X P call nt ops o st=some st'→X6o P call nt ops W l st'
def EvW {α:Type} (f:Nat→Option α) (x:α) (W:Nat→Prop):Prop:=∃ K,∀ k,K≤k→f k=some x∧W k
def X2p (P:Program) (ov:Ov) (nt:Nat) (ops:Array Oper) (W:AH→Prop) (l:List Oper) (s:Env) (a:AH) (Q:Env→AH→Prop):Prop :=
 ∀ tm h,(∀ t,gd tm t=s t)→Ab h a→∃ st a',EvW (fun k=>X1I P (X3H P ov k) nt ops l ⟨tm,h⟩) st (fun k=>X6o P (X3H P ov k) nt ops W l ⟨tm,h⟩)∧Ab st.h a'∧Q (gd st.tm) a'
def Ex (P:Program) (ov:Ov) (rd:Bool) (nt:Nat) (c:Code) (s:Env) (a:AH) (Q:X→Env→AH→Prop):Prop :=
 ∀ tm h,(∀ t,gd tm t=s t)→Ab h a→∃ x st a',Ev (fun k=>exec P ov (X0N P) k rd nt c ⟨tm,h⟩) (x,st)∧Ab st.h a'∧Q x (gd st.tm) a'
variable {P:Program} {ov:Ov}
theorem Fn.mono {f:FuncId} {args:List Value} {a:AH} {Q R:Value→AH→Prop} (h:Fn P ov f args a Q) (q:∀ v a',Q v a'→R v a'):Fn P ov f args a R:=by
 intro hp A
 obtain⟨v,h',a',e,A',q'⟩:=h hp A
 exact⟨v,h',a',e,A',q v a' q'⟩
theorem Ex.mono {rd:Bool} {nt:Nat} {c:Code} {s:Env} {a:AH} {Q R:X→Env→AH→Prop} (h:Ex P ov rd nt c s a Q) (q:∀ x s' a',Q x s' a'→R x s' a'):Ex P ov rd nt c s a R:=by
 intro tm hp hs A
 obtain⟨x,st,a',e,A',q'⟩:=h tm hp hs A
 exact⟨x,st,a',e,A',q _ _ _ q'⟩
theorem X2p.mono {nt:Nat} {ops:Array Oper} {W:AH→Prop} {l:List Oper} {s:Env} {a:AH} {Q R:Env→AH→Prop} (h:X2p P ov nt ops W l s a Q) (q:∀ s' a',Q s' a'→R s' a'):X2p P ov nt ops W l s a R:=by
 intro tm hp hs A
 obtain⟨st,a',e,A',q'⟩:=h tm hp hs A
 exact⟨st,a',e,A',q _ _ q'⟩
theorem X3x.plain {o:Oper} {s:Env} {a a':AH} {v:Value} {Q:Value→AH→Prop} (e:X0K P o.op o.type s a=some (v,a')) (q:Q v a'):X3x P ov o s a Q:=by
 intro tm h hs A
 have key:=fun k=>XA1 e hs A (X3H P ov k) o rfl rfl
 obtain⟨h',e1,A'⟩:=key 0
 refine⟨v,h',a',.of fun k=>?_,A',q⟩
 obtain⟨h'',e2,A''⟩:=key k
 have:X05 P (X3H P ov k) o tm h=X05 P (X3H P ov 0) o tm h:=by
  unfold X0K at e
  unfold X05
  split at e<;>rename_i hop<;>first | cases e | (rw [hop])
 rw [this];exact e1
def X1e (P:Program) (g:FuncId):Bool:=match P.funcs[g]? with
 | some fn=>match fn.name == "runtime.NumGoroutine" with
  | true=>false
  | false=>fn.body.isSome
 | none=>false
theorem X3x.call {o:Oper} {x:Operand} {args:Array Operand} {ats:Array TypeId} (ho:o.op=.call ⟨.value x,args,ats⟩) {s:Env} {a:AH} {g:FuncId} {fi ca:Array Value} {l:List Value}
  (hx:zev s x=some (.func (.func g) fi ca)) (hl:X3Z s args.toList=some l) (hb:X1e P g=true) {Q:Value→AH→Prop} (hf:Fn P ov g (fi.toList++l++ca.toList) a Q):X3x P ov o s a Q:=by
 intro tm h hs A
 obtain⟨v,h',a',⟨K,e⟩,A',q⟩:=hf h A
 refine⟨v,h',a',⟨K,fun k hk=>?_⟩,A',q⟩
 unfold X05
 rw [ho]
 simp only [X0S hs h hx,X22 hs h hl]
 unfold X1e at hb
 split at hb
 case h_2=>cases hb
 rename_i fn hfn
 rw [hfn];simp only
 split at hb
 · cases hb
 ·
  rename_i hn
  rw [hn];simp only
  cases hbd:fn.body with
  | none=>rw [hbd]at hb;cases hb
  | some c=>simp only;exact e k hk
theorem X2p.nil {nt:Nat} {ops:Array Oper} {W:AH→Prop} {s:Env} {a:AH} {Q:Env→AH→Prop} (hw:W a) (q:Q s a):X2p P ov nt ops W [] s a Q:=by
 intro tm h hs A
 have:gd tm=s:=funext hs
 exact⟨⟨tm,h⟩,a,⟨0,fun k _=>⟨rfl,a,A,hw⟩⟩,A,by rw [this];exact q⟩
theorem X2p.cons {nt:Nat} {ops:Array Oper} {W:AH→Prop} {o:Oper} {l:List Oper} {s:Env} {a:AH} {Q:Env→AH→Prop} (hw:W a) (hg:∀ tm,(∀ t,gd tm t=s t)→Region.wanted o (X0T ops tm)=true)
  (h1:X3x P ov o s a fun v a'=>X2p P ov nt ops W l (XBc nt s o.dst v) a' Q):X2p P ov nt ops W (o::l) s a Q:=by
 intro tm h hs A
 obtain⟨v,h',a',⟨K,e⟩,A',q⟩:=h1 tm h hs A
 obtain⟨st,a'',⟨K',e'⟩,A'',q'⟩:=q (X2u nt tm o.dst v) h' (X8k hs o.dst v) A'
 refine⟨st,a'',⟨max K K',fun k hk=>?_⟩,A'',q'⟩
 have e1:X1X P (X3H P ov k) nt ops o ⟨tm,h⟩=some ⟨X2u nt tm o.dst v,h'⟩:=by simp only [X1X,hg tm hs,e k (by omega)]
 refine⟨?_,⟨a,A,hw⟩,fun st' e2=>?_⟩
 ·
  simp only [X1I,e1]
  exact(e' k (by omega)).1
 · rw [e1]at e2;cases e2;exact(e' k (by omega)).2
theorem X2p.skip {nt:Nat} {ops:Array Oper} {W:AH→Prop} {o:Oper} {l:List Oper} {s:Env} {a:AH} {Q:Env→AH→Prop} (hw:W a) (hg:∀ tm,(∀ t,gd tm t=s t)→Region.wanted o (X0T ops tm)=false)
  (h1:X2p P ov nt ops W l (XBc nt s o.dst undef) a Q):X2p P ov nt ops W (o::l) s a Q:=by
 intro tm h hs A
 obtain⟨st,a'',⟨K',e'⟩,A'',q'⟩:=h1 (X2u nt tm o.dst undef) h (X8k hs o.dst undef) A
 refine⟨st,a'',⟨K',fun k hk=>?_⟩,A'',q'⟩
 have e1:X1X P (X3H P ov k) nt ops o ⟨tm,h⟩=some ⟨X2u nt tm o.dst undef,h⟩:=by simp only [X1X,hg tm hs]
 refine⟨?_,⟨a,A,hw⟩,fun st' e2=>?_⟩
 ·
  simp only [X1I,e1]
  exact(e' k hk).1
 · rw [e1]at e2;cases e2;exact(e' k hk).2
theorem X3y {o:Oper} (h:o.guard=none) (y:Nat→Option Bool):Region.wanted o y=true:=by
 unfold Region.wanted;rw [h]
def X6p (ops:Array Oper) (j:Nat):Option Nat:=(ops[j]?).bind (·.dst)
theorem X1F {o:Oper} {ops:Array Oper} {j d:Nat} {w b:Bool} (h:o.guard=some (j,w)) (hd:X6p ops j=some d) {s:Env} (hb:s d=.bool b) (tm:Tr Value) (hs:∀ t,gd tm t=s t):Region.wanted o (X0T ops tm)=(b == w):=by
 unfold Region.wanted
 rw [h]
 simp only [X0T]
 unfold X6p at hd
 rw [hd]
 have:(tm.get d).getD undef=.bool b:=(hs d).trans hb
 simp only [this]
 cases b<;>cases w<;>rfl
theorem X5s {o:Oper} {ops:Array Oper} {j d:Nat} {w:Bool} (h:o.guard=some (j,w)) (hd:X6p ops j=some d) {s:Env} (hb:s d=undef) (tm:Tr Value) (hs:∀ t,gd tm t=s t):Region.wanted o (X0T ops tm)=false:=by
 unfold Region.wanted
 rw [h]
 simp only [X0T]
 unfold X6p at hd
 rw [hd]
 have:(tm.get d).getD undef=undef:=(hs d).trans hb
 simp only [this]
 cases w<;>rfl
end
end Go.Vai
namespace Go.Vai
noncomputable section
variable {P:Program} {ov:Ov}
structure X8m where
 n:Env→AH→Prop
 e:Nat→Env→AH→Prop
 r:Env→AH→Prop
def X8m.out (Q:X8m):X→Env→AH→Prop
 | .normal=>Q.n
 | .exit i=>Q.e i
 | .ret=>Q.r
def Cx (P:Program) (ov:Ov) (nt:Nat) (c:Code) (s:Env) (a:AH) (Q:X8m):Prop:=Ex P ov false nt c s a Q.out
theorem Ev.up {α:Type} {F G:Nat→Option α} {x:α} (h:Ev F x) (e:∀ k,F k=some x→G (k+1)=some x):Ev G x:=by
 obtain⟨K,hk⟩:=h
 refine⟨K+1,fun k hk'=>?_⟩
 cases k with
 | zero=>omega
 | succ k=>exact e k (hk k (by omega))
section
variable {nt:Nat} {s:Env} {a:AH} {Q:X8m}
theorem Cx.skip (q:Q.n s a):Cx P ov nt .skip s a Q:=by
 intro tm h hs A
 have:gd tm=s:=funext hs
 exact⟨.normal,⟨tm,h⟩,a,⟨1,fun k hk=>by cases k with | zero=>omega | succ k=>rfl⟩,A,by rw [this];exact q⟩
theorem Cx.label {l:Nat} (q:Q.n s a):Cx P ov nt (.label l) s a Q:=by
 intro tm h hs A
 have:gd tm=s:=funext hs
 exact⟨.normal,⟨tm,h⟩,a,⟨1,fun k hk=>by cases k with | zero=>omega | succ k=>rfl⟩,A,by rw [this];exact q⟩
theorem Cx.exit {i:Nat} (q:Q.e i s a):Cx P ov nt (.exit i) s a Q:=by
 intro tm h hs A
 have:gd tm=s:=funext hs
 exact⟨.exit i,⟨tm,h⟩,a,⟨1,fun k hk=>by cases k with | zero=>omega | succ k=>rfl⟩,A,by rw [this];exact q⟩
theorem Cx.ret (q:Q.r s a):Cx P ov nt .ret s a Q:=by
 intro tm h hs A
 have:gd tm=s:=funext hs
 exact⟨.ret,⟨tm,h⟩,a,⟨1,fun k hk=>by cases k with | zero=>omega | succ k=>rfl⟩,A,by rw [this];exact q⟩
theorem Cx.region {id:Nat} {ops:Array Oper} {W:AH→Prop} (h:X2p P ov nt ops W ops.toList s a Q.n):Cx P ov nt (.region id ops false) s a Q:=by
 intro tm hp hs A
 obtain⟨st,a',e,A',q⟩:=h tm hp hs A
 refine⟨.normal,st,a',?_,A',q⟩
 obtain⟨K,e⟩:=e
 refine⟨K+1,fun k hk=>?_⟩
 cases k with
 | zero=>omega
 | succ k =>
  show X08 P ov (X0N P) (exec P ov (X0N P) k) false nt (.region id ops false) ⟨tm,hp⟩=_
  simp only [X08,X4Z,(e k (by omega)).1]
theorem Cx.seq {c d:Code} (h:Cx P ov nt c s a ⟨fun s a=>Cx P ov nt d s a Q,Q.e,Q.r⟩):Cx P ov nt (.seq c d) s a Q:=by
 intro tm hp hs A
 obtain⟨x,st,a',⟨K,e⟩,A',q⟩:=h tm hp hs A
 cases x with
 | normal =>
  obtain⟨x,st',a'',⟨K',e'⟩,A'',q'⟩:=q st.tm st.h (fun _=>rfl) A'
  refine⟨x,st',a'',⟨max K K'+1,fun k hk=>?_⟩,A'',q'⟩
  cases k with
  | zero=>omega
  | succ k =>
   show X08 P ov (X0N P) (exec P ov (X0N P) k) false nt (.seq c d) ⟨tm,hp⟩=_
   simp only [X08,e k (by omega),e' k (by omega)]
 | exit i =>
  refine⟨.exit i,st,a',⟨K+1,fun k hk=>?_⟩,A',q⟩
  cases k with
  | zero=>omega
  | succ k =>
   show X08 P ov (X0N P) (exec P ov (X0N P) k) false nt (.seq c d) ⟨tm,hp⟩=_
   simp only [X08,e k (by omega)]
 | ret =>
  refine⟨.ret,st,a',⟨K+1,fun k hk=>?_⟩,A',q⟩
  cases k with
  | zero=>omega
  | succ k =>
   show X08 P ov (X0N P) (exec P ov (X0N P) k) false nt (.seq c d) ⟨tm,hp⟩=_
   simp only [X08,e k (by omega)]
theorem Cx.cond {c:Operand} {x y:Code} {b:Bool} (hc:zev s c=some (.bool b)) (h1:b=true→Cx P ov nt x s a Q) (h2:b=false→Cx P ov nt y s a Q):Cx P ov nt (.cond c x y) s a Q:=by
 intro tm hp hs A
 have hz:=X0S hs hp hc
 cases b with
 | true =>
  obtain⟨x,st,a',⟨K,e⟩,A',q⟩:=h1 rfl tm hp hs A
  refine⟨x,st,a',⟨K+1,fun k hk=>?_⟩,A',q⟩
  cases k with
  | zero=>omega
  | succ k =>
   show X08 P ov (X0N P) (exec P ov (X0N P) k) false nt (.cond c _ _) ⟨tm,hp⟩=_
   simp only [X08,hz,e k (by omega)]
 | false =>
  obtain⟨x,st,a',⟨K,e⟩,A',q⟩:=h2 rfl tm hp hs A
  refine⟨x,st,a',⟨K+1,fun k hk=>?_⟩,A',q⟩
  cases k with
  | zero=>omega
  | succ k =>
   show X08 P ov (X0N P) (exec P ov (X0N P) k) false nt (.cond c _ _) ⟨tm,hp⟩=_
   simp only [X08,hz,e k (by omega)]
theorem Cx.block {i:Nat} {c:Code} (h:Cx P ov nt c s a ⟨Q.n,fun j s a=>bif Nat.beq j i then Q.n s a else Q.e j s a,Q.r⟩):Cx P ov nt (.block i c) s a Q:=by
 intro tm hp hs A
 obtain⟨x,st,a',⟨K,e⟩,A',q⟩:=h tm hp hs A
 cases x with
 | normal =>
  refine⟨.normal,st,a',⟨K+1,fun k hk=>?_⟩,A',q⟩
  cases k with
  | zero=>omega
  | succ k =>
   show X08 P ov (X0N P) (exec P ov (X0N P) k) false nt (.block i c) ⟨tm,hp⟩=_
   simp only [X08,e k (by omega)]
 | ret =>
  refine⟨.ret,st,a',⟨K+1,fun k hk=>?_⟩,A',q⟩
  cases k with
  | zero=>omega
  | succ k =>
   show X08 P ov (X0N P) (exec P ov (X0N P) k) false nt (.block i c) ⟨tm,hp⟩=_
   simp only [X08,e k (by omega)]
 | exit j =>
  cases hb:Nat.beq j i with
  | true =>
   refine⟨.normal,st,a',⟨K+1,fun k hk=>?_⟩,A',by simpa[X8m.out,hb]using q⟩
   cases k with
   | zero=>omega
   | succ k =>
    show X08 P ov (X0N P) (exec P ov (X0N P) k) false nt (.block i c) ⟨tm,hp⟩=_
    simp only [X08,e k (by omega),hb]
  | false =>
   refine⟨.exit j,st,a',⟨K+1,fun k hk=>?_⟩,A',by simpa[X8m.out,hb]using q⟩
   cases k with
   | zero=>omega
   | succ k =>
    show X08 P ov (X0N P) (exec P ov (X0N P) k) false nt (.block i c) ⟨tm,hp⟩=_
    simp only [X08,e k (by omega),hb]
theorem Cx.scope {c:Code} (h:Cx P ov nt c s a Q):Cx P ov nt (.scope c) s a Q:=by
 intro tm hp hs A
 obtain⟨x,st,a',⟨K,e⟩,A',q⟩:=h tm hp hs A
 refine⟨x,st,a',⟨K+1,fun k hk=>?_⟩,A',q⟩
 cases k with
 | zero=>omega
 | succ k =>
  show X08 P ov (X0N P) (exec P ov (X0N P) k) false nt (.scope c) ⟨tm,hp⟩=_
  simp only [X08,e k (by omega)]
theorem Cx.loop1 {c:Code} (h:Cx P ov nt c s a ⟨fun s a=>Cx P ov nt (.loop c) s a Q,Q.e,Q.r⟩):Cx P ov nt (.loop c) s a Q:=by
 intro tm hp hs A
 obtain⟨x,st,a',⟨K,e⟩,A',q⟩:=h tm hp hs A
 cases x with
 | normal =>
  obtain⟨x,st',a'',⟨K',e'⟩,A'',q'⟩:=q st.tm st.h (fun _=>rfl) A'
  refine⟨x,st',a'',⟨max K K'+1,fun k hk=>?_⟩,A'',q'⟩
  cases k with
  | zero=>omega
  | succ k =>
   show X08 P ov (X0N P) (exec P ov (X0N P) k) false nt (.loop c) ⟨tm,hp⟩=_
   simp only [X08,e k (by omega),e' k (by omega)]
 | exit i =>
  refine⟨.exit i,st,a',⟨K+1,fun k hk=>?_⟩,A',q⟩
  cases k with
  | zero=>omega
  | succ k =>
   show X08 P ov (X0N P) (exec P ov (X0N P) k) false nt (.loop c) ⟨tm,hp⟩=_
   simp only [X08,e k (by omega)]
 | ret =>
  refine⟨.ret,st,a',⟨K+1,fun k hk=>?_⟩,A',q⟩
  cases k with
  | zero=>omega
  | succ k =>
   show X08 P ov (X0N P) (exec P ov (X0N P) k) false nt (.loop c) ⟨tm,hp⟩=_
   simp only [X08,e k (by omega)]
theorem Cx.mono {c:Code} {R:X8m} (h:Cx P ov nt c s a Q) (hn:∀ s a,Q.n s a→R.n s a) (he:∀ i s a,Q.e i s a→R.e i s a) (hr:∀ s a,Q.r s a→R.r s a):Cx P ov nt c s a R :=
 Ex.mono h fun x s a=>by cases x with
  | normal=>exact hn s a
  | exit i=>exact he i s a
  | ret=>exact hr s a
end
theorem Cx.loop {nt:Nat} {c:Code} {Q:X8m} (I:Nat→Env→AH→Prop) (step:∀ n s a,I n s a→Cx P ov nt c s a ⟨fun s' a'=>∃ m,m<n∧I m s' a',Q.e,Q.r⟩) :
  ∀ n s a,I n s a→Cx P ov nt (.loop c) s a Q:=by
 intro n
 induction n using Nat.strongRecOn with
 | _ n ih =>
  intro s a hi
  exact Cx.loop1 ((step n s a hi).mono (fun s' a' ⟨m,hm,q⟩=>ih m hm s' a' q) (fun _ _ _ q=>q) fun _ _ q=>q)
def env0 (args:List Value):Env:=fun t=>(args[t]?).getD undef
theorem XBe (args:List Value):∀ t,gd (X2i 0 .leaf args) t=env0 args t:=by
 intro t
 unfold gd env0
 rw [X2a args 0 .leaf t (Nat.zero_le _)]
 by_cases h:t<args.length
 · rw [if_pos ⟨Nat.zero_le _,by omega⟩,Nat.sub_zero]
 · rw [if_neg (by omega),List.getElem?_eq_none (by omega)];rfl
def zRes (P:Program) (s:Env) (a:AH):ResultVar→Option Value
 | .tmp t=>some (s t)
 | .cell x t=>X2o P a t (s x)
def X82 (P:Program) (s:Env) (a:AH):List ResultVar→Option (List Value)
 | []=>some []
 | r::rs=>match zRes P s a r,X82 P s a rs with
  | some v,some vs=>some (v::vs)
  | _,_=>none
def X5t (P:Program) (rs:Array ResultVar) (s:Env) (a:AH):Option Value :=
 match X82 P s a rs.toList with
 | some [v]=>some v
 | some vs=>match vs.all X2d with
  | true=>some (.tuple vs.toArray)
  | false=>none
 | none=>none
theorem X7R {st:St} {a:AH} (A:Ab st.h a):∀ (rs:List ResultVar) (vs:List Value),X82 P (gd st.tm) a rs=some vs→X27 P st rs=some vs:=by
 intro rs
 induction rs with
 | nil=>intro vs e;exact e
 | cons r rs ih =>
  intro vs e
  simp only [X82]at e
  split at e
  ·
   rename_i v us h1 h2
   have hr:X4a P st r=some v:=by
    cases r with
    | tmp t=>exact h1
    | cell x t=>exact X3i A h1
   simp only [X27,hr,ih us h2];exact e
  · cases e
theorem XA2 {fn:Func} {st:St} {a:AH} (A:Ab st.h a) {v:Value} (e:X5t P fn.results (gd st.tm) a=some v):X28 P fn st=some v:=by
 unfold X5t at e
 unfold X28
 split at e
 · rename_i u hu;rw [X7R A _ _ hu];exact e
 ·
  rename_i vs hno hu
  rw [X7R A _ _ hu]
  split
  · rename_i u hv;cases hv;exact absurd rfl (hno u)
  · rename_i vs' _ hv;cases hv;exact e
  · rename_i hv;cases hv
 · cases e
def XBf (P:Program) (rs:Array ResultVar) (Q:Value→AH→Prop):X8m :=
 ⟨fun s a=>∃ v,X5t P rs s a=some v∧Q v a,fun _ _ _=>False,fun s a=>∃ v,X5t P rs s a=some v∧Q v a⟩
theorem Fn.intro {f:FuncId} {args:List Value} {a:AH} {Q:Value→AH→Prop} {fn:Func} {c:Code} (hov:ov f=none) (hfn:P.funcs[f]?=some fn) (hc:fn.body=some c) (hn:Nat.blt (max fn.ntmps args.length) 1000000=true)
  (h:Cx P ov (max fn.ntmps args.length) c (env0 args) a (XBf P fn.results Q)):Fn P ov f args a Q:=by
 intro hp A
 obtain⟨x,st,a',⟨K,e⟩,A',q⟩:=h _ hp (XBe args) A
 have fin:(x=.normal∨x=.ret)→(∃ v,X5t P fn.results (gd st.tm) a'=some v∧Q v a')→∃ v h' a',Ev (fun k=>X3H P ov k (.func f) args hp) (v,h')∧Ab h' a'∧Q v a':=by
  rintro hx ⟨v,hv,q⟩
  refine⟨v,st.h,a',⟨K,fun k hk=>?_⟩,A',q⟩
  show X1E P ov (exec P ov (X0N P) k) (.func f) args hp=_
  simp only [X1E,known,hov,X3p,hfn,hc,hn,e k hk]
  rcases hx with rfl | rfl<;>simp only [XA2 A' hv]
 cases x with
 | normal=>exact fin (.inl rfl) q
 | ret=>exact fin (.inr rfl) q
 | exit i=>exact q.elim
theorem Fn.known {f:FuncId} {args:List Value} {a:AH} {Q:Value→AH→Prop} {g:List Value→X04→Option (Value×X04)} (hov:ov f=some g) {v:Value} (hg:∀ h,g args h=some (v,h)) (q:Q v a):Fn P ov f args a Q:=by
 intro hp A
 refine⟨v,hp,a,.of fun k=>?_,A,q⟩
 show X1E P ov (exec P ov (X0N P) k) (.func f) args hp=_
 simp only [X1E,Vai.known,hov,hg hp]
def X3I:Operand→Bool
 | .global _=>false
 | _=>true
def XA3 (op:Op):Bool:=op.operands.toList.all X3I && match op with
 | .move _ | .assign _ | .pick .. | .build .. | .nilCheck _ | .binOp .. | .unOp .. | .makeInterface .. | .makeFunc .. | .fieldAddr .. | .field .. | .extract .. | .indexAddr .. | .index ..=>true
 | .call ⟨.builtin .len,_,_⟩=>true
 | .call ⟨.builtin .min,_,_⟩=>true
 | .call ⟨.builtin .max,_,_⟩=>true
 | _=>false
theorem X2y {h h2:X04} {tm:Tr Value} {x:Operand} (e:X3I x=true):aev h2 tm x=aev h tm x:=by
 cases x with
 | global g=>cases e
 | _=>rfl
theorem X3z {h h2:X04} {tm:Tr Value}:∀ {xs:List Operand},(∀ x∈xs,X3I x=true)→X2w h2 tm xs=X2w h tm xs:=by
 intro xs
 induction xs with
 | nil=>intro _;rfl
 | cons x xs ih=>intro e;simp only [X2w,X2y (h:=h) (h2:=h2) (e x (by simp)),ih fun y hy=>e y (by simp [hy])]
theorem X8n {h h2:X04} {tm:Tr Value}:∀ {xs:List (Nat×Operand)},(∀ x∈xs,X3I x.2=true)→X5C h2 tm xs=X5C h tm xs:=by
 intro xs
 induction xs with
 | nil=>intro _;rfl
 | cons p xs ih =>
  obtain⟨i,x⟩:=p
  intro e;simp only [X5C,X2y (h:=h) (h2:=h2) (e (i,x) (by simp)),ih fun y hy=>e y (by simp [hy])]
def pinned (ops:Array Oper) (i k:Nat):Bool:=((X0W ops).getD i 0).testBit k || ((X0W ops).getD k 0).testBit i
def X7S (ops:Array Oper) (i:Nat):Bool:=allTo (fun k=>match ops[k]? with
 | some p=>X0I p.op || pinned ops i k
 | none=>true) ops.size
def X3j (op:Op):Bool:=match op with
 | .alloc _=>true
 | .box _ _=>true
 | .buildSlice _ _ _=>true
 | .makeSlice _ _ _=>true
 | _=>false
def XA4 (op:Op):Bool:=op.operands.toList.all X3I && match op with
 | .load _ _=>true
 | .slice _ _ _ _ none=>true
 | _=>false
def X8o (ops:Array Oper) (i:Nat):Bool:=allTo (fun k=>match ops[k]? with
 | some p=>X0I p.op || pinned ops i k || (X3j p.op && Nat.blt i k)
 | none=>true) ops.size
def XBD (ops:Array Oper) (i:Nat):Option (TypeId×Nat):=match ops[i]? with
 | some o=>match o.op with
  | .load t (.tmp x)=>match allTo (fun k=>Nat.blt k i || (match ops[k]? with
    | some p=>!X9j p x
    | none=>true)) ops.size with
   | true=>some (t,x)
   | false=>none
  | _=>none
 | none=>none
theorem XA5 {ops:Array Oper} {i:Nat} {t:TypeId} {x:Nat} (h:XBD ops i=some (t,x)):∃ o,ops[i]?=some o∧o.op=.load t (.tmp x)∧∀ (k:Nat) p,i≤k→ops[k]?=some p→p.dst≠some x:=by
 unfold XBD at h
 split at h
 ·
  rename_i o ho
  split at h
  ·
   rename_i t' x' hop
   split at h
   ·
    rename_i ha
    cases h
    refine⟨o,ho,hop,fun k p hk hp hd=>?_⟩
    have hlt:k<ops.size:=(Array.getElem?_eq_some_iff.1 hp).1
    have:=X0C ha k hlt
    rw [hp]at this
    simp only [Bool.or_eq_true,Nat.blt_eq,Bool.not_eq_true']at this
    rcases this with h1 | h1
    · omega
    · rw [X5l.2 hd]at h1;cases h1
   · cases h
  · cases h
 · cases h
def XBg (fz:List Nat) (ops:Array Oper):Bool:=allTo (fun i=>match ops[i]? with
 | none=>false
 | some o=>match X0I o.op with
  | false=>allTo (fun k=>match ops[k]? with
   | some p=>X0I p.op || ((X0W ops).getD i 0).testBit k
   | none=>true) i
  | true=>X7S ops i || (XA3 o.op && o.dst.isSome) || (XA4 o.op && X8o ops i && o.dst.isSome) || (fz.any (Nat.beq i) && o.dst.isSome && (XBD ops i).isSome)) ops.size
def X5u (ops:Array Oper):List Nat:=(List.range ops.size).filterMap fun i=>match ops[i]? with
 | none=>none
 | some o=>match X0I o.op && !X7S ops i with
  | true=>o.dst
  | false=>none
end
end Go.Vai
