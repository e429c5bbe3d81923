/-
  What is proved here: rules by which a body of code is shown to come to what is asked, above the plain interpreter: each o rules for control, for regions that leave their order open, and for functions (part QD). No conditions but those that the theorems state.
-/
import Derived.Test.YtmmmjbipgngamaaGreatDoorQA
set_option linter.unusedVariables false
set_option linter.unusedSimpArgs false
namespace Go.Vai
noncomputable section
def Ev {α:Type} (f:Nat→Option α) (x:α):Prop:=∃ K,∀ k,K≤k→f k=some x
theorem Ev.of {α:Type} {f:Nat→Option α} {x:α} (h:∀ k,f k=some x):Ev f x:=⟨0,fun k _=>h k⟩
abbrev Env:=Nat→Value
def XC3 (nt:Nat) (s:Env) (dst:Option Nat) (v:Value):Env:=fun t=>match dst with
 | some d=>if t=d∧d<nt then v else s t
 | none=>s t
theorem X9A {nt:Nat} {tm:Tr Value} {s:Env} (hs:∀ t,gd tm t=s t) (dst:Option Nat) (v:Value):∀ t,gd (X32 nt tm dst v) t=XC3 nt s dst v t:=by
 intro t
 unfold X32 XC3
 cases dst with
 | none=>exact hs t
 | some d =>
  simp only
  by_cases hd:d<nt
  ·
   have:Nat.blt d nt=true:=by simpa using hd
   rw [this];simp only
   by_cases ht:t=d
   ·
    subst ht
    rw [if_pos ⟨rfl,hd⟩]
    unfold gd
    rw [Tr.get_put_same (Nat.zero_le _)];rfl
   ·
    rw [if_neg (fun h=>ht h.1),← hs t]
    unfold gd
    rw [Tr.get_put_other ht]
  ·
   have:Nat.blt d nt=false:=by
    cases hb:Nat.blt d nt with
    | false=>rfl
    | true=>exact absurd (by simpa using hb) hd
   rw [this];simp only
   rw [if_neg (fun h=>hd h.2)];exact hs t
def zev (s:Env):Operand→Option Value
 | .tmp t=>some (s t)
 | .const v=>match X01 v with
  | true=>some v
  | false=>none
 | .global _=>none
 | .func f=>some (.func (.func f) #[] #[])
def X3m (s:Env):List Operand→Option (List Value)
 | []=>some []
 | x::xs=>match zev s x,X3m s xs with
  | some v,some vs=>some (v::vs)
  | _,_=>none
def X6y (s:Env):Option Operand→Option (Option Value)
 | none=>some none
 | some x=>match zev s x with
  | some v=>some (some v)
  | none=>none
def XC4 (s:Env):List (Nat×Operand)→Option (List (Nat×Value))
 | []=>some []
 | (i,x)::xs=>match zev s x,XC4 s xs with
  | some v,some vs=>some ((i,v)::vs)
  | _,_=>none
section
variable {tm:Tr Value} {s:Env} (hs:∀ t,gd tm t=s t) (h:X04)
include hs
theorem X0V {x:Operand} {v:Value} (e:zev s x=some v):aev h tm x=some v:=by
 cases x with
 | tmp t=>simp only [zev]at e;simp only [aev];rw [← e];exact congrArg some (hs t)
 | const u=>exact e
 | global g=>cases e
 | func f=>exact e
theorem X26:∀ {xs:List Operand} {vs:List Value},X3m s xs=some vs→X34 h tm xs=some vs:=by
 intro xs
 induction xs with
 | nil=>intro vs e;exact e
 | cons x xs ih =>
  intro vs e
  simp only [X3m]at e
  split at e
  ·
   rename_i v us h1 h2
   simp only [X34,X0V hs h h1,ih h2];exact e
  · cases e
theorem X4A {x:Option Operand} {v:Option Value} (e:X6y s x=some v):X54 h tm x=some v:=by
 cases x with
 | none=>exact e
 | some x =>
  simp only [X6y]at e
  split at e
  ·
   rename_i u hu
   simp only [X54,X0V hs h hu];exact e
  · cases e
theorem X9B:∀ {xs:List (Nat×Operand)} {vs:List (Nat×Value)},XC4 s xs=some vs→X5N h tm xs=some vs:=by
 intro xs
 induction xs with
 | nil=>intro vs e;exact e
 | cons p xs ih =>
  obtain⟨i,x⟩:=p
  intro vs e
  simp only [XC4]at e
  split at e
  ·
   rename_i v us h1 h2
   simp only [X5N,X0V hs h h1,ih h2];exact e
  · cases e
end
def X1u (a:AH):Option Value→Option (Value×AH)
 | some v=>some (v,a)
 | none=>none
def X0K (P:Program) (op:Op) (ty:TypeId) (s:Env) (a:AH):Option (Value×AH) :=
 match op with
 | .move x=>X1u a (zev s x)
 | .assign x=>X1u a (zev s x)
 | .pick c x y=>match zev s c with
  | some (.bool true)=>X1u a (zev s x)
  | some (.bool false)=>X1u a (zev s y)
  | _=>none
 | .alloc elem=>X7f P a elem
 | .box _ x=>match zev s x with
  | some v=>XDE a v
  | none=>none
 | .build t parts=>match XC4 s parts.toList with
  | some ps=>X1u a (X5O P t ps)
  | none=>none
 | .buildSlice t len parts=>match XC4 s parts.toList with
  | some ps=>X1j P a t len ps
  | none=>none
 | .load t x=>match zev s x with
  | some v=>X1u a (X3l P a t v)
  | none=>none
 | .store t x y=>match zev s x,zev s y with
  | some va,some vx=>match X7g P a t va vx with
   | some a'=>some (undef,a')
   | none=>none
  | _,_=>none
 | .nilCheck x=>match zev s x with
  | some (.pointer (some ⟨b,i,none⟩))=>some (.pointer (some ⟨b,i,none⟩),a)
  | some (.func (.func f) fi ca)=>some (.func (.func f) fi ca,a)
  | _=>none
 | .binOp op t x y _=>match zev s x,zev s y with
  | some vx,some vy=>X1u a (X1q P op t x y vx vy)
  | _,_=>none
 | .unOp op _ x=>match zev s x with
  | some v=>match X01 v with
   | true=>X1u a (X0p P (Op.unary op v))
   | false=>none
  | none=>none
 | .convert src dst x=>match zev s x with
  | some v=>X36 P a src dst v
  | none=>none
 | .makeInterface t x=>match zev s x with
  | some v=>match X01 v with
   | true=>X1u a (X0p P (Instr.makeInterface t v))
   | false=>none
  | none=>none
 | .makeFunc fn fi ca=>match X3m s fi.toList,X3m s ca.toList with
  | some x,some y=>match x.all XBQ && y.all XBQ && isFn fn with
   | true=>some (.func fn x.toArray y.toArray,a)
   | false=>none
  | _,_=>none
 | .makeSlice t l c=>match zev s l,zev s c with
  | some vl,some vc=>X2W P a t vl vc
  | _,_=>none
 | .slice t x lo hi Option.none=>match zev s x,X6y s lo,X6y s hi with
  | some v,some l,some u=>X1u a (X3e P a t v l u)
  | _,_,_=>none
 | .slice t x lo hi (some m)=>match zev s x,X6y s lo,X6y s hi,X6y s (some m)with
  | some v,some l,some (some u),some (some k)=>X1u a (X5b P a t v l u k)
  | _,_,_,_=>none
 | .fieldAddr t x f=>match zev s x with
  | some v=>X1u a (X0R P t v f)
  | none=>none
 | .field t x f=>match zev s x with
  | some v=>X1u a (X5H P t v f)
  | none=>none
 | .indexAddr t x i=>match zev s x,zev s i with
  | some v,some j=>X1u a (X1M P t v j)
  | _,_=>none
 | .index t x i=>match zev s x,zev s i with
  | some v,some j=>X1u a (X6P P t v j)
  | _,_=>none
 | .extract x i=>match zev s x with
  | some v=>X1u a (X3F v i)
  | none=>none
 | .call ⟨.builtin .append,args,ats⟩=>match X3m s args.toList with
  | some [x,y]=>X48 P a ats x y
  | _=>none
 | .call ⟨.builtin .copy,args,ats⟩=>match X3m s args.toList with
  | some [x,y]=>XC2 P a ats x y
  | _=>none
 | .call ⟨.builtin .clear,args,ats⟩=>match X3m s args.toList with
  | some [x]=>X7i P a ats x
  | _=>none
 | .call ⟨.builtin .len,args,ats⟩=>match X3m s args.toList with
  | some [x]=>X1u a (XDJ P ats ty x)
  | _=>none
 | .call ⟨.builtin .min,args,ats⟩=>match X3m s args.toList with
  | some l=>match l.all X01 with
   | true=>X1u a (X0p P (Builtin.min_ ats ty l.toArray))
   | false=>none
  | _=>none
 | .call ⟨.builtin .max,args,ats⟩=>match X3m s args.toList with
  | some l=>match l.all X01 with
   | true=>X1u a (X0p P (Builtin.max_ ats ty l.toArray))
   | false=>none
  | _=>none
 | _=>none
theorem X0L {a a':AH} {o:Option Value} {v:Value} (e:X1u a o=some (v,a')):o=some v∧a'=a:=by
 cases o with
 | none=>cases e
 | some u=>cases e;exact⟨rfl,rfl⟩
theorem XAU {P:Program} {op:Op} {ty:TypeId} {s:Env} {a a':AH} {v:Value} (e:X0K P op ty s a=some (v,a')) {tm:Tr Value} (hs:∀ t,gd tm t=s t) {h:X04} (A:Ab h a) (call:X0E)
  (o:Oper) (ho:o.op=op) (ht:o.type=ty):∃ h',X05 P call o tm h=some (v,h')∧Ab h' a':=by
 unfold X0K at e
 unfold X05
 rw [ho]
 split at e
 · obtain⟨e1,rfl⟩:=X0L e;simp only [X0V hs h e1];exact⟨h,rfl,A⟩
 · obtain⟨e1,rfl⟩:=X0L e;simp only [X0V hs h e1];exact⟨h,rfl,A⟩
 ·
  split at e
  · rename_i hc;obtain⟨e1,rfl⟩:=X0L e;simp only [X0V hs h hc,X0V hs h e1];exact⟨h,rfl,A⟩
  · rename_i hc;obtain⟨e1,rfl⟩:=X0L e;simp only [X0V hs h hc,X0V hs h e1];exact⟨h,rfl,A⟩
  · cases e
 · exact X96 A _ v a' e
 ·
  split at e
  case h_2=>cases e
  rename_i u hu
  simp only [X0V hs h hu];exact X95 A u v a' e
 ·
  split at e
  case h_2=>cases e
  rename_i ps hp
  obtain⟨e1,rfl⟩:=X0L e
  simp only [X9B hs h hp,e1];exact⟨h,rfl,A⟩
 ·
  split at e
  case h_2=>cases e
  rename_i ps hp
  simp only [X9B hs h hp];exact X4w A _ _ _ v a' e
 ·
  split at e
  case h_2=>cases e
  rename_i u hu
  obtain⟨e1,rfl⟩:=X0L e
  simp only [X0V hs h hu,X3v A e1];exact⟨h,rfl,A⟩
 ·
  split at e
  case h_2=>cases e
  rename_i va vx h1 h2
  split at e
  case h_2=>cases e
  rename_i a'' hz
  cases e
  obtain⟨h',w1,w2⟩:=X97 A hz
  simp only [X0V hs h h1,X0V hs h h2,w1];exact⟨h',rfl,w2⟩
 ·
  split at e
  · rename_i hc;cases e;simp only [X0V hs h hc];exact⟨h,rfl,A⟩
  · rename_i hc;cases e;simp only [X0V hs h hc];exact⟨h,rfl,A⟩
  · cases e
 ·
  split at e
  case h_2=>cases e
  rename_i vx vy h1 h2
  obtain⟨e1,rfl⟩:=X0L e
  simp only [X0V hs h h1,X0V hs h h2,e1];exact⟨h,rfl,A⟩
 ·
  split at e
  case h_2=>cases e
  rename_i u hu
  split at e
  case h_2=>cases e
  rename_i hp
  obtain⟨e1,rfl⟩:=X0L e
  simp only [X0V hs h hu,hp,e1];exact⟨h,rfl,A⟩
 ·
  split at e
  case h_2=>cases e
  rename_i u hu
  simp only [X0V hs h hu];exact X72 A _ _ u v a' e
 ·
  split at e
  case h_2=>cases e
  rename_i u hu
  split at e
  case h_2=>cases e
  rename_i hp
  obtain⟨e1,rfl⟩:=X0L e
  simp only [X0V hs h hu,hp,e1];exact⟨h,rfl,A⟩
 ·
  split at e
  case h_2=>cases e
  rename_i x y h1 h2
  split at e
  case h_2=>cases e
  rename_i hp
  cases e
  simp only [X26 hs h h1,X26 hs h h2,hp];exact⟨h,rfl,A⟩
 ·
  split at e
  case h_2=>cases e
  rename_i vl vc h1 h2
  simp only [X0V hs h h1,X0V hs h h2];exact X5a A _ _ _ v a' e
 ·
  split at e
  case h_2=>cases e
  rename_i u l m h1 h2 h3
  obtain⟨e1,rfl⟩:=X0L e
  have h4:X54 h tm none=some none:=rfl
  simp only [X0V hs h h1,X4A hs h h2,X4A hs h h3,h4,X98 A e1];exact⟨h,rfl,A⟩
 ·
  split at e
  case h_2=>cases e
  rename_i u l m k h1 h2 h3 h4
  obtain⟨e1,rfl⟩:=X0L e
  simp only [X0V hs h h1,X4A hs h h2,X4A hs h h3,X4A hs h h4,X8N A e1];exact⟨h,rfl,A⟩
 ·
  split at e
  case h_2=>cases e
  rename_i u hu
  obtain⟨e1,rfl⟩:=X0L e
  simp only [X0V hs h hu,e1];exact⟨h,rfl,A⟩
 ·
  split at e
  case h_2=>cases e
  rename_i u hu
  obtain⟨e1,rfl⟩:=X0L e
  simp only [X0V hs h hu,e1];exact⟨h,rfl,A⟩
 ·
  split at e
  case h_2=>cases e
  rename_i vx vy h1 h2
  obtain⟨e1,rfl⟩:=X0L e
  simp only [X0V hs h h1,X0V hs h h2,e1];exact⟨h,rfl,A⟩
 ·
  split at e
  case h_2=>cases e
  rename_i vx vy h1 h2
  obtain⟨e1,rfl⟩:=X0L e
  simp only [X0V hs h h1,X0V hs h h2,e1];exact⟨h,rfl,A⟩
 ·
  split at e
  case h_2=>cases e
  rename_i u hu
  obtain⟨e1,rfl⟩:=X0L e
  simp only [X0V hs h hu,e1];exact⟨h,rfl,A⟩
 ·
  split at e
  case h_2=>cases e
  rename_i x y h1
  simp only [X26 hs h h1];exact X8M A _ _ _ v a' e
 ·
  split at e
  case h_2=>cases e
  rename_i x y h1
  simp only [X26 hs h h1];exact XAT A _ _ _ v a' e
 ·
  split at e
  case h_2=>cases e
  rename_i x h1
  simp only [X26 hs h h1];exact X99 A _ _ v a' e
 ·
  split at e
  case h_2=>cases e
  rename_i x h1
  obtain⟨e1,rfl⟩:=X0L e
  simp only [X26 hs h h1,ht,e1];exact⟨h,rfl,A⟩
 ·
  split at e
  case h_2=>cases e
  rename_i l h1
  split at e
  case h_2=>cases e
  rename_i hp
  obtain⟨e1,rfl⟩:=X0L e
  simp only [X26 hs h h1,hp,ht,e1];exact⟨h,rfl,A⟩
 ·
  split at e
  case h_2=>cases e
  rename_i l h1
  split at e
  case h_2=>cases e
  rename_i hp
  obtain⟨e1,rfl⟩:=X0L e
  simp only [X26 hs h h1,hp,ht,e1];exact⟨h,rfl,A⟩
 · cases e
abbrev X3P (P:Program) (ov:Ov) (k:Nat):X0E:=X1G P ov (exec P ov (X0N P) k)
def Fn (P:Program) (ov:Ov) (f:FuncId) (args:List Value) (a:AH) (Q:Value→AH→Prop):Prop :=
 ∀ h,Ab h a→∃ v h' a',Ev (fun k=>X3P P ov k (.func f) args h) (v,h')∧Ab h' a'∧Q v a'
def X4B (P:Program) (ov:Ov) (o:Oper) (s:Env) (a:AH) (Q:Value→AH→Prop):Prop :=
 ∀ tm h,(∀ t,gd tm t=s t)→Ab h a→∃ v h' a',Ev (fun k=>X05 P (X3P P ov k) o tm h) (v,h')∧Ab h' a'∧Q v a'
def X73 (P:Program) (call:X0E) (nt:Nat) (ops:Array Oper) (W:AH→Prop):List Oper→St→Prop
 | [],st=>∃ a,Ab st.h a∧W a
 | o::l,st=>(∃ a,Ab st.h a∧W a)∧∀ st',X1e P call nt ops o st=some st'→X73 P call nt ops W l st'
def EvW {α:Type} (f:Nat→Option α) (x:α) (W:Nat→Prop):Prop:=∃ K,∀ k,K≤k→f k=some x∧W k
def X2t (P:Program) (ov:Ov) (nt:Nat) (ops:Array Oper) (W:AH→Prop) (l:List Oper) (s:Env) (a:AH) (Q:Env→AH→Prop):Prop :=
 ∀ tm h,(∀ t,gd tm t=s t)→Ab h a→∃ st a',EvW (fun k=>X1P P (X3P P ov k) nt ops l ⟨tm,h⟩) st (fun k=>X73 P (X3P P ov k) nt ops W l ⟨tm,h⟩)∧Ab st.h a'∧Q (gd st.tm) a'
def Ex (P:Program) (ov:Ov) (rd:Bool) (nt:Nat) (c:Code) (s:Env) (a:AH) (Q:X→Env→AH→Prop):Prop :=
 ∀ tm h,(∀ t,gd tm t=s t)→Ab h a→∃ x st a',Ev (fun k=>exec P ov (X0N P) k rd nt c ⟨tm,h⟩) (x,st)∧Ab st.h a'∧Q x (gd st.tm) a'
variable {P:Program} {ov:Ov}
theorem Fn.mono {f:FuncId} {args:List Value} {a:AH} {Q R:Value→AH→Prop} (h:Fn P ov f args a Q) (q:∀ v a',Q v a'→R v a'):Fn P ov f args a R:=by
 intro hp A
 obtain⟨v,h',a',e,A',q'⟩:=h hp A
 exact⟨v,h',a',e,A',q v a' q'⟩
theorem Ex.mono {rd:Bool} {nt:Nat} {c:Code} {s:Env} {a:AH} {Q R:X→Env→AH→Prop} (h:Ex P ov rd nt c s a Q) (q:∀ x s' a',Q x s' a'→R x s' a'):Ex P ov rd nt c s a R:=by
 intro tm hp hs A
 obtain⟨x,st,a',e,A',q'⟩:=h tm hp hs A
 exact⟨x,st,a',e,A',q _ _ _ q'⟩
theorem X2t.mono {nt:Nat} {ops:Array Oper} {W:AH→Prop} {l:List Oper} {s:Env} {a:AH} {Q R:Env→AH→Prop} (h:X2t P ov nt ops W l s a Q) (q:∀ s' a',Q s' a'→R s' a'):X2t P ov nt ops W l s a R:=by
 intro tm hp hs A
 obtain⟨st,a',e,A',q'⟩:=h tm hp hs A
 exact⟨st,a',e,A',q _ _ q'⟩
theorem X4B.plain {o:Oper} {s:Env} {a a':AH} {v:Value} {Q:Value→AH→Prop} (e:X0K P o.op o.type s a=some (v,a')) (q:Q v a'):X4B P ov o s a Q:=by
 intro tm h hs A
 have key:=fun k=>XAU e hs A (X3P P ov k) o rfl rfl
 obtain⟨h',e1,A'⟩:=key 0
 refine⟨v,h',a',.of fun k=>?_,A',q⟩
 obtain⟨h'',e2,A''⟩:=key k
 have:X05 P (X3P P ov k) o tm h=X05 P (X3P P ov 0) o tm h:=by
  unfold X0K at e
  unfold X05
  split at e<;>rename_i hop<;>first | cases e | (rw [hop])
 rw [this];exact e1
def X1l (P:Program) (g:FuncId):Bool:=match P.funcs[g]? with
 | some fn=>match fn.name == "runtime.NumGoroutine" with
  | true=>false
  | false=>fn.body.isSome
 | none=>false
theorem X4B.call {o:Oper} {x:Operand} {args:Array Operand} {ats:Array TypeId} (ho:o.op=.call ⟨.value x,args,ats⟩) {s:Env} {a:AH} {g:FuncId} {fi ca:Array Value} {l:List Value}
  (hx:zev s x=some (.func (.func g) fi ca)) (hl:X3m s args.toList=some l) (hb:X1l P g=true) {Q:Value→AH→Prop} (hf:Fn P ov g (fi.toList++l++ca.toList) a Q):X4B P ov o s a Q:=by
 intro tm h hs A
 obtain⟨v,h',a',⟨K,e⟩,A',q⟩:=hf h A
 refine⟨v,h',a',⟨K,fun k hk=>?_⟩,A',q⟩
 unfold X05
 rw [ho]
 simp only [X0V hs h hx,X26 hs h hl]
 unfold X1l at hb
 split at hb
 case h_2=>cases hb
 rename_i fn hfn
 rw [hfn];simp only
 split at hb
 · cases hb
 ·
  rename_i hn
  rw [hn];simp only
  cases hbd:fn.body with
  | none=>rw [hbd]at hb;cases hb
  | some c=>simp only;exact e k hk
theorem X2t.nil {nt:Nat} {ops:Array Oper} {W:AH→Prop} {s:Env} {a:AH} {Q:Env→AH→Prop} (hw:W a) (q:Q s a):X2t P ov nt ops W [] s a Q:=by
 intro tm h hs A
 have:gd tm=s:=funext hs
 exact⟨⟨tm,h⟩,a,⟨0,fun k _=>⟨rfl,a,A,hw⟩⟩,A,by rw [this];exact q⟩
theorem X2t.cons {nt:Nat} {ops:Array Oper} {W:AH→Prop} {o:Oper} {l:List Oper} {s:Env} {a:AH} {Q:Env→AH→Prop} (hw:W a) (hg:∀ tm,(∀ t,gd tm t=s t)→Region.wanted o (X0W ops tm)=true)
  (h1:X4B P ov o s a fun v a'=>X2t P ov nt ops W l (XC3 nt s o.dst v) a' Q):X2t P ov nt ops W (o::l) s a Q:=by
 intro tm h hs A
 obtain⟨v,h',a',⟨K,e⟩,A',q⟩:=h1 tm h hs A
 obtain⟨st,a'',⟨K',e'⟩,A'',q'⟩:=q (X32 nt tm o.dst v) h' (X9A hs o.dst v) A'
 refine⟨st,a'',⟨max K K',fun k hk=>?_⟩,A'',q'⟩
 have e1:X1e P (X3P P ov k) nt ops o ⟨tm,h⟩=some ⟨X32 nt tm o.dst v,h'⟩:=by simp only [X1e,hg tm hs,e k (by omega)]
 refine⟨?_,⟨a,A,hw⟩,fun st' e2=>?_⟩
 ·
  simp only [X1P,e1]
  exact(e' k (by omega)).1
 · rw [e1]at e2;cases e2;exact(e' k (by omega)).2
theorem X2t.skip {nt:Nat} {ops:Array Oper} {W:AH→Prop} {o:Oper} {l:List Oper} {s:Env} {a:AH} {Q:Env→AH→Prop} (hw:W a) (hg:∀ tm,(∀ t,gd tm t=s t)→Region.wanted o (X0W ops tm)=false)
  (h1:X2t P ov nt ops W l (XC3 nt s o.dst undef) a Q):X2t P ov nt ops W (o::l) s a Q:=by
 intro tm h hs A
 obtain⟨st,a'',⟨K',e'⟩,A'',q'⟩:=h1 (X32 nt tm o.dst undef) h (X9A hs o.dst undef) A
 refine⟨st,a'',⟨K',fun k hk=>?_⟩,A'',q'⟩
 have e1:X1e P (X3P P ov k) nt ops o ⟨tm,h⟩=some ⟨X32 nt tm o.dst undef,h⟩:=by simp only [X1e,hg tm hs]
 refine⟨?_,⟨a,A,hw⟩,fun st' e2=>?_⟩
 ·
  simp only [X1P,e1]
  exact(e' k hk).1
 · rw [e1]at e2;cases e2;exact(e' k hk).2
theorem X4C {o:Oper} (h:o.guard=none) (y:Nat→Option Bool):Region.wanted o y=true:=by
 unfold Region.wanted;rw [h]
def X74 (ops:Array Oper) (j:Nat):Option Nat:=(ops[j]?).bind (·.dst)
theorem X1K {o:Oper} {ops:Array Oper} {j d:Nat} {w b:Bool} (h:o.guard=some (j,w)) (hd:X74 ops j=some d) {s:Env} (hb:s d=.bool b) (tm:Tr Value) (hs:∀ t,gd tm t=s t):Region.wanted o (X0W ops tm)=(b == w):=by
 unfold Region.wanted
 rw [h]
 simp only [X0W]
 unfold X74 at hd
 rw [hd]
 have:(tm.get d).getD undef=.bool b:=(hs d).trans hb
 simp only [this]
 cases b<;>cases w<;>rfl
theorem X67 {o:Oper} {ops:Array Oper} {j d:Nat} {w:Bool} (h:o.guard=some (j,w)) (hd:X74 ops j=some d) {s:Env} (hb:s d=undef) (tm:Tr Value) (hs:∀ t,gd tm t=s t):Region.wanted o (X0W ops tm)=false:=by
 unfold Region.wanted
 rw [h]
 simp only [X0W]
 unfold X74 at hd
 rw [hd]
 have:(tm.get d).getD undef=undef:=(hs d).trans hb
 simp only [this]
 cases w<;>rfl
end
end Go.Vai
namespace Go.Vai
noncomputable section
variable {P:Program} {ov:Ov}
structure X9C where
 n:Env→AH→Prop
 e:Nat→Env→AH→Prop
 r:Env→AH→Prop
def X9C.out (Q:X9C):X→Env→AH→Prop
 | .normal=>Q.n
 | .exit i=>Q.e i
 | .ret=>Q.r
def Cx (P:Program) (ov:Ov) (nt:Nat) (c:Code) (s:Env) (a:AH) (Q:X9C):Prop:=Ex P ov false nt c s a Q.out
theorem Ev.up {α:Type} {F G:Nat→Option α} {x:α} (h:Ev F x) (e:∀ k,F k=some x→G (k+1)=some x):Ev G x:=by
 obtain⟨K,hk⟩:=h
 refine⟨K+1,fun k hk'=>?_⟩
 cases k with
 | zero=>omega
 | succ k=>exact e k (hk k (by omega))
section
variable {nt:Nat} {s:Env} {a:AH} {Q:X9C}
theorem Cx.skip (q:Q.n s a):Cx P ov nt .skip s a Q:=by
 intro tm h hs A
 have:gd tm=s:=funext hs
 exact⟨.normal,⟨tm,h⟩,a,⟨1,fun k hk=>by cases k with | zero=>omega | succ k=>rfl⟩,A,by rw [this];exact q⟩
theorem Cx.label {l:Nat} (q:Q.n s a):Cx P ov nt (.label l) s a Q:=by
 intro tm h hs A
 have:gd tm=s:=funext hs
 exact⟨.normal,⟨tm,h⟩,a,⟨1,fun k hk=>by cases k with | zero=>omega | succ k=>rfl⟩,A,by rw [this];exact q⟩
theorem Cx.exit {i:Nat} (q:Q.e i s a):Cx P ov nt (.exit i) s a Q:=by
 intro tm h hs A
 have:gd tm=s:=funext hs
 exact⟨.exit i,⟨tm,h⟩,a,⟨1,fun k hk=>by cases k with | zero=>omega | succ k=>rfl⟩,A,by rw [this];exact q⟩
theorem Cx.ret (q:Q.r s a):Cx P ov nt .ret s a Q:=by
 intro tm h hs A
 have:gd tm=s:=funext hs
 exact⟨.ret,⟨tm,h⟩,a,⟨1,fun k hk=>by cases k with | zero=>omega | succ k=>rfl⟩,A,by rw [this];exact q⟩
theorem Cx.region {id:Nat} {ops:Array Oper} {W:AH→Prop} (h:X2t P ov nt ops W ops.toList s a Q.n):Cx P ov nt (.region id ops false) s a Q:=by
 intro tm hp hs A
 obtain⟨st,a',e,A',q⟩:=h tm hp hs A
 refine⟨.normal,st,a',?_,A',q⟩
 obtain⟨K,e⟩:=e
 refine⟨K+1,fun k hk=>?_⟩
 cases k with
 | zero=>omega
 | succ k =>
  show X07 P ov (X0N P) (exec P ov (X0N P) k) false nt (.region id ops false) ⟨tm,hp⟩=_
  simp only [X07,X4j,(e k (by omega)).1]
theorem Cx.seq {c d:Code} (h:Cx P ov nt c s a ⟨fun s a=>Cx P ov nt d s a Q,Q.e,Q.r⟩):Cx P ov nt (.seq c d) s a Q:=by
 intro tm hp hs A
 obtain⟨x,st,a',⟨K,e⟩,A',q⟩:=h tm hp hs A
 cases x with
 | normal =>
  obtain⟨x,st',a'',⟨K',e'⟩,A'',q'⟩:=q st.tm st.h (fun _=>rfl) A'
  refine⟨x,st',a'',⟨max K K'+1,fun k hk=>?_⟩,A'',q'⟩
  cases k with
  | zero=>omega
  | succ k =>
   show X07 P ov (X0N P) (exec P ov (X0N P) k) false nt (.seq c d) ⟨tm,hp⟩=_
   simp only [X07,e k (by omega),e' k (by omega)]
 | exit i =>
  refine⟨.exit i,st,a',⟨K+1,fun k hk=>?_⟩,A',q⟩
  cases k with
  | zero=>omega
  | succ k =>
   show X07 P ov (X0N P) (exec P ov (X0N P) k) false nt (.seq c d) ⟨tm,hp⟩=_
   simp only [X07,e k (by omega)]
 | ret =>
  refine⟨.ret,st,a',⟨K+1,fun k hk=>?_⟩,A',q⟩
  cases k with
  | zero=>omega
  | succ k =>
   show X07 P ov (X0N P) (exec P ov (X0N P) k) false nt (.seq c d) ⟨tm,hp⟩=_
   simp only [X07,e k (by omega)]
theorem Cx.cond {c:Operand} {x y:Code} {b:Bool} (hc:zev s c=some (.bool b)) (h1:b=true→Cx P ov nt x s a Q) (h2:b=false→Cx P ov nt y s a Q):Cx P ov nt (.cond c x y) s a Q:=by
 intro tm hp hs A
 have hz:=X0V hs hp hc
 cases b with
 | true =>
  obtain⟨x,st,a',⟨K,e⟩,A',q⟩:=h1 rfl tm hp hs A
  refine⟨x,st,a',⟨K+1,fun k hk=>?_⟩,A',q⟩
  cases k with
  | zero=>omega
  | succ k =>
   show X07 P ov (X0N P) (exec P ov (X0N P) k) false nt (.cond c _ _) ⟨tm,hp⟩=_
   simp only [X07,hz,e k (by omega)]
 | false =>
  obtain⟨x,st,a',⟨K,e⟩,A',q⟩:=h2 rfl tm hp hs A
  refine⟨x,st,a',⟨K+1,fun k hk=>?_⟩,A',q⟩
  cases k with
  | zero=>omega
  | succ k =>
   show X07 P ov (X0N P) (exec P ov (X0N P) k) false nt (.cond c _ _) ⟨tm,hp⟩=_
   simp only [X07,hz,e k (by omega)]
theorem Cx.block {i:Nat} {c:Code} (h:Cx P ov nt c s a ⟨Q.n,fun j s a=>bif Nat.beq j i then Q.n s a else Q.e j s a,Q.r⟩):Cx P ov nt (.block i c) s a Q:=by
 intro tm hp hs A
 obtain⟨x,st,a',⟨K,e⟩,A',q⟩:=h tm hp hs A
 cases x with
 | normal =>
  refine⟨.normal,st,a',⟨K+1,fun k hk=>?_⟩,A',q⟩
  cases k with
  | zero=>omega
  | succ k =>
   show X07 P ov (X0N P) (exec P ov (X0N P) k) false nt (.block i c) ⟨tm,hp⟩=_
   simp only [X07,e k (by omega)]
 | ret =>
  refine⟨.ret,st,a',⟨K+1,fun k hk=>?_⟩,A',q⟩
  cases k with
  | zero=>omega
  | succ k =>
   show X07 P ov (X0N P) (exec P ov (X0N P) k) false nt (.block i c) ⟨tm,hp⟩=_
   simp only [X07,e k (by omega)]
 | exit j =>
  cases hb:Nat.beq j i with
  | true =>
   refine⟨.normal,st,a',⟨K+1,fun k hk=>?_⟩,A',by simpa[X9C.out,hb]using q⟩
   cases k with
   | zero=>omega
   | succ k =>
    show X07 P ov (X0N P) (exec P ov (X0N P) k) false nt (.block i c) ⟨tm,hp⟩=_
    simp only [X07,e k (by omega),hb]
  | false =>
   refine⟨.exit j,st,a',⟨K+1,fun k hk=>?_⟩,A',by simpa[X9C.out,hb]using q⟩
   cases k with
   | zero=>omega
   | succ k =>
    show X07 P ov (X0N P) (exec P ov (X0N P) k) false nt (.block i c) ⟨tm,hp⟩=_
    simp only [X07,e k (by omega),hb]
theorem Cx.scope {c:Code} (h:Cx P ov nt c s a Q):Cx P ov nt (.scope c) s a Q:=by
 intro tm hp hs A
 obtain⟨x,st,a',⟨K,e⟩,A',q⟩:=h tm hp hs A
 refine⟨x,st,a',⟨K+1,fun k hk=>?_⟩,A',q⟩
 cases k with
 | zero=>omega
 | succ k =>
  show X07 P ov (X0N P) (exec P ov (X0N P) k) false nt (.scope c) ⟨tm,hp⟩=_
  simp only [X07,e k (by omega)]
theorem Cx.loop1 {c:Code} (h:Cx P ov nt c s a ⟨fun s a=>Cx P ov nt (.loop c) s a Q,Q.e,Q.r⟩):Cx P ov nt (.loop c) s a Q:=by
 intro tm hp hs A
 obtain⟨x,st,a',⟨K,e⟩,A',q⟩:=h tm hp hs A
 cases x with
 | normal =>
  obtain⟨x,st',a'',⟨K',e'⟩,A'',q'⟩:=q st.tm st.h (fun _=>rfl) A'
  refine⟨x,st',a'',⟨max K K'+1,fun k hk=>?_⟩,A'',q'⟩
  cases k with
  | zero=>omega
  | succ k =>
   show X07 P ov (X0N P) (exec P ov (X0N P) k) false nt (.loop c) ⟨tm,hp⟩=_
   simp only [X07,e k (by omega),e' k (by omega)]
 | exit i =>
  refine⟨.exit i,st,a',⟨K+1,fun k hk=>?_⟩,A',q⟩
  cases k with
  | zero=>omega
  | succ k =>
   show X07 P ov (X0N P) (exec P ov (X0N P) k) false nt (.loop c) ⟨tm,hp⟩=_
   simp only [X07,e k (by omega)]
 | ret =>
  refine⟨.ret,st,a',⟨K+1,fun k hk=>?_⟩,A',q⟩
  cases k with
  | zero=>omega
  | succ k =>
   show X07 P ov (X0N P) (exec P ov (X0N P) k) false nt (.loop c) ⟨tm,hp⟩=_
   simp only [X07,e k (by omega)]
theorem Cx.mono {c:Code} {R:X9C} (h:Cx P ov nt c s a Q) (hn:∀ s a,Q.n s a→R.n s a) (he:∀ i s a,Q.e i s a→R.e i s a) (hr:∀ s a,Q.r s a→R.r s a):Cx P ov nt c s a R :=
 Ex.mono h fun x s a=>by cases x with
  | normal=>exact hn s a
  | exit i=>exact he i s a
  | ret=>exact hr s a
end
theorem Cx.loop {nt:Nat} {c:Code} {Q:X9C} (I:Nat→Env→AH→Prop) (step:∀ n s a,I n s a→Cx P ov nt c s a ⟨fun s' a'=>∃ m,m<n∧I m s' a',Q.e,Q.r⟩) :
  ∀ n s a,I n s a→Cx P ov nt (.loop c) s a Q:=by
 intro n
 induction n using Nat.strongRecOn with
 | _ n ih =>
  intro s a hi
  exact Cx.loop1 ((step n s a hi).mono (fun s' a' ⟨m,hm,q⟩=>ih m hm s' a' q) (fun _ _ _ q=>q) fun _ _ q=>q)
def env0 (args:List Value):Env:=fun t=>(args[t]?).getD undef
theorem XC5 (args:List Value):∀ t,gd (X2m 0 .leaf args) t=env0 args t:=by
 intro t
 unfold gd env0
 rw [X2d args 0 .leaf t (Nat.zero_le _)]
 by_cases h:t<args.length
 · rw [if_pos ⟨Nat.zero_le _,by omega⟩,Nat.sub_zero]
 · rw [if_neg (by omega),List.getElem?_eq_none (by omega)];rfl
def zRes (P:Program) (s:Env) (a:AH):ResultVar→Option Value
 | .tmp t=>some (s t)
 | .cell x t=>X3l P a t (s x)
def X8O (P:Program) (s:Env) (a:AH):List ResultVar→Option (List Value)
 | []=>some []
 | r::rs=>match zRes P s a r,X8O P s a rs with
  | some v,some vs=>some (v::vs)
  | _,_=>none
def X68 (P:Program) (rs:Array ResultVar) (s:Env) (a:AH):Option Value :=
 match X8O P s a rs.toList with
 | some [v]=>some v
 | some vs=>match vs.all X2g with
  | true=>some (.tuple vs.toArray)
  | false=>none
 | none=>none
theorem X7j {st:St} {a:AH} (A:Ab st.h a):∀ (rs:List ResultVar) (vs:List Value),X8O P (gd st.tm) a rs=some vs→X2D P st rs=some vs:=by
 intro rs
 induction rs with
 | nil=>intro vs e;exact e
 | cons r rs ih =>
  intro vs e
  simp only [X8O]at e
  split at e
  ·
   rename_i v us h1 h2
   have hr:X4k P st r=some v:=by
    cases r with
    | tmp t=>exact h1
    | cell x t=>exact X3v A h1
   simp only [X2D,hr,ih us h2];exact e
  · cases e
theorem XAV {fn:Func} {st:St} {a:AH} (A:Ab st.h a) {v:Value} (e:X68 P fn.results (gd st.tm) a=some v):X2E P fn st=some v:=by
 unfold X68 at e
 unfold X2E
 split at e
 · rename_i u hu;rw [X7j A _ _ hu];exact e
 ·
  rename_i vs hno hu
  rw [X7j A _ _ hu]
  split
  · rename_i u hv;cases hv;exact absurd rfl (hno u)
  · rename_i vs' _ hv;cases hv;exact e
  · rename_i hv;cases hv
 · cases e
def XC6 (P:Program) (rs:Array ResultVar) (Q:Value→AH→Prop):X9C :=
 ⟨fun s a=>∃ v,X68 P rs s a=some v∧Q v a,fun _ _ _=>False,fun s a=>∃ v,X68 P rs s a=some v∧Q v a⟩
theorem Fn.intro {f:FuncId} {args:List Value} {a:AH} {Q:Value→AH→Prop} {fn:Func} {c:Code} (hov:ov f=none) (hfn:P.funcs[f]?=some fn) (hc:fn.body=some c) (hn:Nat.blt (max fn.ntmps args.length) 1000000=true)
  (h:Cx P ov (max fn.ntmps args.length) c (env0 args) a (XC6 P fn.results Q)):Fn P ov f args a Q:=by
 intro hp A
 obtain⟨x,st,a',⟨K,e⟩,A',q⟩:=h _ hp (XC5 args) A
 have fin:(x=.normal∨x=.ret)→(∃ v,X68 P fn.results (gd st.tm) a'=some v∧Q v a')→∃ v h' a',Ev (fun k=>X3P P ov k (.func f) args hp) (v,h')∧Ab h' a'∧Q v a':=by
  rintro hx ⟨v,hv,q⟩
  refine⟨v,st.h,a',⟨K,fun k hk=>?_⟩,A',q⟩
  show X1G P ov (exec P ov (X0N P) k) (.func f) args hp=_
  simp only [X1G,known,hov,X43,hfn,hc,hn,e k hk]
  rcases hx with rfl | rfl<;>simp only [XAV A' hv]
 cases x with
 | normal=>exact fin (.inl rfl) q
 | ret=>exact fin (.inr rfl) q
 | exit i=>exact q.elim
theorem Fn.known {f:FuncId} {args:List Value} {a:AH} {Q:Value→AH→Prop} {g:List Value→X04→Option (Value×X04)} (hov:ov f=some g) {v:Value} (hg:∀ h,g args h=some (v,h)) (q:Q v a):Fn P ov f args a Q:=by
 intro hp A
 refine⟨v,hp,a,.of fun k=>?_,A,q⟩
 show X1G P ov (exec P ov (X0N P) k) (.func f) args hp=_
 simp only [X1G,Vai.known,hov,hg hp]
def X3Q:Operand→Bool
 | .global _=>false
 | _=>true
def XAW (op:Op):Bool:=op.operands.toList.all X3Q && match op with
 | .move _ | .assign _ | .pick .. | .build .. | .nilCheck _ | .binOp .. | .unOp .. | .makeInterface .. | .makeFunc .. | .fieldAddr .. | .field .. | .extract .. | .indexAddr .. | .index ..=>true
 | .call ⟨.builtin .len,_,_⟩=>true
 | .call ⟨.builtin .min,_,_⟩=>true
 | .call ⟨.builtin .max,_,_⟩=>true
 | _=>false
theorem X37 {h h2:X04} {tm:Tr Value} {x:Operand} (e:X3Q x=true):aev h2 tm x=aev h tm x:=by
 cases x with
 | global g=>cases e
 | _=>rfl
theorem X4D {h h2:X04} {tm:Tr Value}:∀ {xs:List Operand},(∀ x∈xs,X3Q x=true)→X34 h2 tm xs=X34 h tm xs:=by
 intro xs
 induction xs with
 | nil=>intro _;rfl
 | cons x xs ih=>intro e;simp only [X34,X37 (h:=h) (h2:=h2) (e x (by simp)),ih fun y hy=>e y (by simp [hy])]
theorem X9D {h h2:X04} {tm:Tr Value}:∀ {xs:List (Nat×Operand)},(∀ x∈xs,X3Q x.2=true)→X5N h2 tm xs=X5N h tm xs:=by
 intro xs
 induction xs with
 | nil=>intro _;rfl
 | cons p xs ih =>
  obtain⟨i,x⟩:=p
  intro e;simp only [X5N,X37 (h:=h) (h2:=h2) (e (i,x) (by simp)),ih fun y hy=>e y (by simp [hy])]
def pinned (ops:Array Oper) (i k:Nat):Bool:=((X0Z ops).getD i 0).testBit k || ((X0Z ops).getD k 0).testBit i
def X7k (ops:Array Oper) (i:Nat):Bool:=allTo (fun k=>match ops[k]? with
 | some p=>X0I p.op || pinned ops i k
 | none=>true) ops.size
def X3w (op:Op):Bool:=match op with
 | .alloc _=>true
 | .box _ _=>true
 | .buildSlice _ _ _=>true
 | .makeSlice _ _ _=>true
 | _=>false
def XAX (op:Op):Bool:=op.operands.toList.all X3Q && match op with
 | .load _ _=>true
 | .slice _ _ _ _ none=>true
 | _=>false
def X9E (ops:Array Oper) (i:Nat):Bool:=allTo (fun k=>match ops[k]? with
 | some p=>X0I p.op || pinned ops i k || (X3w p.op && Nat.blt i k)
 | none=>true) ops.size
def XC7 (ops:Array Oper) (i:Nat):Option (TypeId×Nat):=match ops[i]? with
 | some o=>match o.op with
  | .load t (.tmp x)=>match allTo (fun k=>Nat.blt k i || (match ops[k]? with
    | some p=>!XA9 p x
    | none=>true)) ops.size with
   | true=>some (t,x)
   | false=>none
  | _=>none
 | none=>none
theorem XAY {ops:Array Oper} {i:Nat} {t:TypeId} {x:Nat} (h:XC7 ops i=some (t,x)):∃ o,ops[i]?=some o∧o.op=.load t (.tmp x)∧∀ (k:Nat) p,i≤k→ops[k]?=some p→p.dst≠some x:=by
 unfold XC7 at h
 split at h
 ·
  rename_i o ho
  split at h
  ·
   rename_i t' x' hop
   split at h
   ·
    rename_i ha
    cases h
    refine⟨o,ho,hop,fun k p hk hp hd=>?_⟩
    have hlt:k<ops.size:=(Array.getElem?_eq_some_iff.1 hp).1
    have:=X0C ha k hlt
    rw [hp]at this
    simp only [Bool.or_eq_true,Nat.blt_eq,Bool.not_eq_true']at this
    rcases this with h1 | h1
    · omega
    · rw [X5x.2 hd]at h1;cases h1
   · cases h
  · cases h
 · cases h
def XC8 (fz:List Nat) (ops:Array Oper):Bool:=allTo (fun i=>match ops[i]? with
 | none=>false
 | some o=>match X0I o.op with
  | false=>allTo (fun k=>match ops[k]? with
   | some p=>X0I p.op || ((X0Z ops).getD i 0).testBit k
   | none=>true) i
  | true=>X7k ops i || (XAW o.op && o.dst.isSome) || (XAX o.op && X9E ops i && o.dst.isSome) || (fz.any (Nat.beq i) && o.dst.isSome && (XC7 ops i).isSome)) ops.size
def X75 (ops:Array Oper):List Nat:=(List.range ops.size).filterMap fun i=>match ops[i]? with
 | none=>none
 | some o=>match X0I o.op && !X7k ops i with
  | true=>o.dst
  | false=>none
end
end Go.Vai
