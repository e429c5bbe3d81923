/-
  What is proved here: rules by which a body of code is shown to come to what is asked, above the plain interpreter: each o rules for control, for regions that leave their order open, and for functions (part QD). No conditions but those that the theorems state.
-/
import Derived.Test.YtmmmjbipgngamaaGreatDoorQA
set_option linter.unusedVariables false
set_option linter.unusedSimpArgs false
namespace Go.Vai
noncomputable section
def Ev {α:Type} (f:Nat→Option α) (x:α):Prop:=∃ K,∀ k,K≤k→f k=some x
theorem Ev.of {α:Type} {f:Nat→Option α} {x:α} (h:∀ k,f k=some x):Ev f x:=⟨0,fun k _=>h k⟩
abbrev Env:=Nat→Value
def XEz (nt:Nat) (s:Env) (dst:Option Nat) (v:Value):Env:=fun t=>match dst with
 | some d=>if t=d∧d<nt then v else s t
 | none=>s t
theorem XBH {nt:Nat} {tm:Tr Value} {s:Env} (hs:∀ t,gd tm t=s t) (dst:Option Nat) (v:Value):∀ t,gd (X3U nt tm dst v) t=XEz nt s dst v t:=by
 intro t
 unfold X3U XEz
 cases dst with
 | none=>exact hs t
 | some d =>
  simp only
  by_cases hd:d<nt
  ·
   have:Nat.blt d nt=true:=by simpa using hd
   rw [this];simp only
   by_cases ht:t=d
   ·
    subst ht
    rw [if_pos ⟨rfl,hd⟩]
    unfold gd
    rw [Tr.get_put_same (Nat.zero_le _)];rfl
   ·
    rw [if_neg (fun h=>ht h.1),← hs t]
    unfold gd
    rw [Tr.get_put_other ht]
  ·
   have:Nat.blt d nt=false:=by
    cases hb:Nat.blt d nt with
    | false=>rfl
    | true=>exact absurd (by simpa using hb) hd
   rw [this];simp only
   rw [if_neg (fun h=>hd h.2)];exact hs t
def zev (s:Env):Operand→Option Value
 | .tmp t=>some (s t)
 | .const v=>match X01 v with
  | true=>some v
  | false=>none
 | .global _=>none
 | .func f=>some (.func (.func f) #[] #[])
def X3i (s:Env):List Operand→Option (List Value)
 | []=>some []
 | x::xs=>match zev s x,X3i s xs with
  | some v,some vs=>some (v::vs)
  | _,_=>none
def X4d (s:Env):Option Operand→Option (Option Value)
 | none=>some none
 | some x=>match zev s x with
  | some v=>some (some v)
  | none=>none
def XF0 (s:Env):List (Nat×Operand)→Option (List (Nat×Value))
 | []=>some []
 | (i,x)::xs=>match zev s x,XF0 s xs with
  | some v,some vs=>some ((i,v)::vs)
  | _,_=>none
section
variable {tm:Tr Value} {s:Env} (hs:∀ t,gd tm t=s t) (h:Heap)
include hs
theorem X0d {x:Operand} {v:Value} (e:zev s x=some v):aev h tm x=some v:=by
 cases x with
 | tmp t=>simp only [zev]at e;simp only [aev];rw [← e];exact congrArg some (hs t)
 | const u=>exact e
 | global g=>cases e
 | func f=>exact e
theorem X2h:∀ {xs:List Operand} {vs:List Value},X3i s xs=some vs→X3s h tm xs=some vs:=by
 intro xs
 induction xs with
 | nil=>intro vs e;exact e
 | cons x xs ih =>
  intro vs e
  simp only [X3i]at e
  split at e
  ·
   rename_i v us h1 h2
   simp only [X3s,X0d hs h h1,ih h2];exact e
  · cases e
theorem X3j {x:Option Operand} {v:Option Value} (e:X4d s x=some v):X4x h tm x=some v:=by
 cases x with
 | none=>exact e
 | some x =>
  simp only [X4d]at e
  split at e
  ·
   rename_i u hu
   simp only [X4x,X0d hs h hu];exact e
  · cases e
theorem XBI:∀ {xs:List (Nat×Operand)} {vs:List (Nat×Value)},XF0 s xs=some vs→X6V h tm xs=some vs:=by
 intro xs
 induction xs with
 | nil=>intro vs e;exact e
 | cons p xs ih =>
  obtain⟨i,x⟩:=p
  intro vs e
  simp only [XF0]at e
  split at e
  ·
   rename_i v us h1 h2
   simp only [X6V,X0d hs h h1,ih h2];exact e
  · cases e
end
def X2N (a:AH):Option Value→Option (Value×AH)
 | some v=>some (v,a)
 | none=>none
def X0P (P:Program) (op:Op) (ty:TypeId) (s:Env) (a:AH):Option (Value×AH) :=
 match op with
 | .move x=>X2N a (zev s x)
 | .assign x=>X2N a (zev s x)
 | .pick c x y=>match zev s c with
  | some (.bool true)=>X2N a (zev s x)
  | some (.bool false)=>X2N a (zev s y)
  | _=>none
 | .alloc elem=>X9T P a elem
 | .box _ x=>match zev s x with
  | some v=>XGH a v
  | none=>none
 | .build t parts=>match XF0 s parts.toList with
  | some ps=>X2N a (X6W P t ps)
  | none=>none
 | .buildSlice t len parts=>match XF0 s parts.toList with
  | some ps=>X2A P a t len ps
  | none=>none
 | .load t x=>match zev s x with
  | some v=>X2N a (X3t P a t v)
  | none=>none
 | .store t x y=>match zev s x,zev s y with
  | some va,some vx=>match X7T P a t va vx with
   | some a'=>some (undef,a')
   | none=>none
  | _,_=>none
 | .nilCheck x=>match zev s x with
  | some (.pointer (some ⟨b,i,none⟩))=>some (.pointer (some ⟨b,i,none⟩),a)
  | some (.func (.func f) fi ca)=>some (.func (.func f) fi ca,a)
  | _=>none
 | .binOp op t x y _=>match zev s x,zev s y with
  | some vx,some vy=>X2N a (X2b P op t x y vx vy)
  | _,_=>none
 | .unOp op _ x=>match zev s x with
  | some v=>match X01 v with
   | true=>X2N a (X1B P (Op.unary op v))
   | false=>none
  | none=>none
 | .convert src dst x=>match zev s x with
  | some v=>X3u P a src dst v
  | none=>none
 | .makeInterface t x=>match zev s x with
  | some v=>match X01 v with
   | true=>X2N a (X1B P (Instr.makeInterface t v))
   | false=>none
  | none=>none
 | .makeFunc fn fi ca=>match X3i s fi.toList,X3i s ca.toList with
  | some x,some y=>match x.all XE1 && y.all XE1 && isFn fn with
   | true=>some (.func fn x.toArray y.toArray,a)
   | false=>none
  | _,_=>none
 | .makeSlice t l c=>match zev s l,zev s c with
  | some vl,some vc=>X3M P a t vl vc
  | _,_=>none
 | .slice t x lo hi Option.none=>match zev s x,X4d s lo,X4d s hi with
  | some v,some l,some u=>X2N a (X33 P a t v l u)
  | _,_,_=>none
 | .slice t x lo hi (some m)=>match zev s x,X4d s lo,X4d s hi,X4d s (some m)with
  | some v,some l,some (some u),some (some k)=>X2N a (X6l P a t v l u k)
  | _,_,_,_=>none
 | .fieldAddr t x f=>match zev s x with
  | some v=>X2N a (X0Z P t v f)
  | none=>none
 | .field t x f=>match zev s x with
  | some v=>X2N a (X6P P t v f)
  | none=>none
 | .indexAddr t x i=>match zev s x,zev s i with
  | some v,some j=>X2N a (X1m P t v j)
  | _,_=>none
 | .index t x i=>match zev s x,zev s i with
  | some v,some j=>X2N a (X7s P t v j)
  | _,_=>none
 | .extract x i=>match zev s x with
  | some v=>X2N a (X43 v i)
  | none=>none
 | .call ⟨.builtin .append,args,ats⟩=>match X3i s args.toList with
  | some [x,y]=>X57 P a ats x y
  | _=>none
 | .call ⟨.builtin .copy,args,ats⟩=>match X3i s args.toList with
  | some [x,y]=>XEy P a ats x y
  | _=>none
 | .call ⟨.builtin .clear,args,ats⟩=>match X3i s args.toList with
  | some [x]=>X9V P a ats x
  | _=>none
 | .call ⟨.builtin .len,args,ats⟩=>match X3i s args.toList with
  | some [x]=>X2N a (XGL P ats ty x)
  | _=>none
 | .call ⟨.builtin .min,args,ats⟩=>match X3i s args.toList with
  | some l=>match l.all X01 with
   | true=>X2N a (X1B P (Builtin.min_ ats ty l.toArray))
   | false=>none
  | _=>none
 | .call ⟨.builtin .max,args,ats⟩=>match X3i s args.toList with
  | some l=>match l.all X01 with
   | true=>X2N a (X1B P (Builtin.max_ ats ty l.toArray))
   | false=>none
  | _=>none
 | _=>none
theorem X0T {a a':AH} {o:Option Value} {v:Value} (e:X2N a o=some (v,a')):o=some v∧a'=a:=by
 cases o with
 | none=>cases e
 | some u=>cases e;exact⟨rfl,rfl⟩
theorem XD1 {P:Program} {op:Op} {ty:TypeId} {s:Env} {a a':AH} {v:Value} (e:X0P P op ty s a=some (v,a')) {tm:Tr Value} (hs:∀ t,gd tm t=s t) {h:Heap} (A:Ab h a) (call:X0D)
  (o:Oper) (ho:o.op=op) (ht:o.type=ty):∃ h',X05 P call o tm h=some (v,h')∧Ab h' a':=by
 unfold X0P at e
 unfold X05
 rw [ho]
 split at e
 · obtain⟨e1,rfl⟩:=X0T e;simp only [X0d hs h e1];exact⟨h,rfl,A⟩
 · obtain⟨e1,rfl⟩:=X0T e;simp only [X0d hs h e1];exact⟨h,rfl,A⟩
 ·
  split at e
  · rename_i hc;obtain⟨e1,rfl⟩:=X0T e;simp only [X0d hs h hc,X0d hs h e1];exact⟨h,rfl,A⟩
  · rename_i hc;obtain⟨e1,rfl⟩:=X0T e;simp only [X0d hs h hc,X0d hs h e1];exact⟨h,rfl,A⟩
  · cases e
 · exact XBE A _ v a' e
 ·
  split at e
  case h_2=>cases e
  rename_i u hu
  simp only [X0d hs h hu];exact XBD A u v a' e
 ·
  split at e
  case h_2=>cases e
  rename_i ps hp
  obtain⟨e1,rfl⟩:=X0T e
  simp only [XBI hs h hp,e1];exact⟨h,rfl,A⟩
 ·
  split at e
  case h_2=>cases e
  rename_i ps hp
  simp only [XBI hs h hp];exact X5y A _ _ _ v a' e
 ·
  split at e
  case h_2=>cases e
  rename_i u hu
  obtain⟨e1,rfl⟩:=X0T e
  simp only [X0d hs h hu,X4o A e1];exact⟨h,rfl,A⟩
 ·
  split at e
  case h_2=>cases e
  rename_i va vx h1 h2
  split at e
  case h_2=>cases e
  rename_i a'' hz
  cases e
  obtain⟨h',w1,w2⟩:=XBF A hz
  simp only [X0d hs h h1,X0d hs h h2,w1];exact⟨h',rfl,w2⟩
 ·
  split at e
  · rename_i hc;cases e;simp only [X0d hs h hc];exact⟨h,rfl,A⟩
  · rename_i hc;cases e;simp only [X0d hs h hc];exact⟨h,rfl,A⟩
  · cases e
 ·
  split at e
  case h_2=>cases e
  rename_i vx vy h1 h2
  obtain⟨e1,rfl⟩:=X0T e
  simp only [X0d hs h h1,X0d hs h h2,e1];exact⟨h,rfl,A⟩
 ·
  split at e
  case h_2=>cases e
  rename_i u hu
  split at e
  case h_2=>cases e
  rename_i hp
  obtain⟨e1,rfl⟩:=X0T e
  simp only [X0d hs h hu,hp,e1];exact⟨h,rfl,A⟩
 ·
  split at e
  case h_2=>cases e
  rename_i u hu
  simp only [X0d hs h hu];exact X8Z A _ _ u v a' e
 ·
  split at e
  case h_2=>cases e
  rename_i u hu
  split at e
  case h_2=>cases e
  rename_i hp
  obtain⟨e1,rfl⟩:=X0T e
  simp only [X0d hs h hu,hp,e1];exact⟨h,rfl,A⟩
 ·
  split at e
  case h_2=>cases e
  rename_i x y h1 h2
  split at e
  case h_2=>cases e
  rename_i hp
  cases e
  simp only [X2h hs h h1,X2h hs h h2,hp];exact⟨h,rfl,A⟩
 ·
  split at e
  case h_2=>cases e
  rename_i vl vc h1 h2
  simp only [X0d hs h h1,X0d hs h h2];exact X6k A _ _ _ v a' e
 ·
  split at e
  case h_2=>cases e
  rename_i u l m h1 h2 h3
  obtain⟨e1,rfl⟩:=X0T e
  have h4:X4x h tm none=some none:=rfl
  simp only [X0d hs h h1,X3j hs h h2,X3j hs h h3,h4,X7V A e1];exact⟨h,rfl,A⟩
 ·
  split at e
  case h_2=>cases e
  rename_i u l m k h1 h2 h3 h4
  obtain⟨e1,rfl⟩:=X0T e
  simp only [X0d hs h h1,X3j hs h h2,X3j hs h h3,X3j hs h h4,XAN A e1];exact⟨h,rfl,A⟩
 ·
  split at e
  case h_2=>cases e
  rename_i u hu
  obtain⟨e1,rfl⟩:=X0T e
  simp only [X0d hs h hu,e1];exact⟨h,rfl,A⟩
 ·
  split at e
  case h_2=>cases e
  rename_i u hu
  obtain⟨e1,rfl⟩:=X0T e
  simp only [X0d hs h hu,e1];exact⟨h,rfl,A⟩
 ·
  split at e
  case h_2=>cases e
  rename_i vx vy h1 h2
  obtain⟨e1,rfl⟩:=X0T e
  simp only [X0d hs h h1,X0d hs h h2,e1];exact⟨h,rfl,A⟩
 ·
  split at e
  case h_2=>cases e
  rename_i vx vy h1 h2
  obtain⟨e1,rfl⟩:=X0T e
  simp only [X0d hs h h1,X0d hs h h2,e1];exact⟨h,rfl,A⟩
 ·
  split at e
  case h_2=>cases e
  rename_i u hu
  obtain⟨e1,rfl⟩:=X0T e
  simp only [X0d hs h hu,e1];exact⟨h,rfl,A⟩
 ·
  split at e
  case h_2=>cases e
  rename_i x y h1
  simp only [X2h hs h h1];exact XAM A _ _ _ v a' e
 ·
  split at e
  case h_2=>cases e
  rename_i x y h1
  simp only [X2h hs h h1];exact XD0 A _ _ _ v a' e
 ·
  split at e
  case h_2=>cases e
  rename_i x h1
  simp only [X2h hs h h1];exact XBG A _ _ v a' e
 ·
  split at e
  case h_2=>cases e
  rename_i x h1
  obtain⟨e1,rfl⟩:=X0T e
  simp only [X2h hs h h1,ht,e1];exact⟨h,rfl,A⟩
 ·
  split at e
  case h_2=>cases e
  rename_i l h1
  split at e
  case h_2=>cases e
  rename_i hp
  obtain⟨e1,rfl⟩:=X0T e
  simp only [X2h hs h h1,hp,ht,e1];exact⟨h,rfl,A⟩
 ·
  split at e
  case h_2=>cases e
  rename_i l h1
  split at e
  case h_2=>cases e
  rename_i hp
  obtain⟨e1,rfl⟩:=X0T e
  simp only [X2h hs h h1,hp,ht,e1];exact⟨h,rfl,A⟩
 · cases e
abbrev X2i (P:Program) (ov:Ov) (k:Nat):X0D:=X1b P ov (exec P ov (X0O P) k)
def Fn (P:Program) (ov:Ov) (f:FuncId) (args:List Value) (a:AH) (Q:Value→AH→Prop):Prop :=
 ∀ h,Ab h a→∃ v h' a',Ev (fun k=>X2i P ov k (.func f) args h) (v,h')∧Ab h' a'∧Q v a'
def X4e (P:Program) (ov:Ov) (o:Oper) (s:Env) (a:AH) (Q:Value→AH→Prop):Prop :=
 ∀ tm h,(∀ t,gd tm t=s t)→Ab h a→∃ v h' a',Ev (fun k=>X05 P (X2i P ov k) o tm h) (v,h')∧Ab h' a'∧Q v a'
def X6m (P:Program) (call:X0D) (nt:Nat) (ops:Array Oper) (W:AH→Prop):List Oper→St→Prop
 | [],st=>∃ a,Ab st.h a∧W a
 | o::l,st=>(∃ a,Ab st.h a∧W a)∧∀ st',X1d P call nt ops o st=some st'→X6m P call nt ops W l st'
def EvW {α:Type} (f:Nat→Option α) (x:α) (W:Nat→Prop):Prop:=∃ K,∀ k,K≤k→f k=some x∧W k
def X31 (P:Program) (ov:Ov) (nt:Nat) (ops:Array Oper) (W:AH→Prop) (l:List Oper) (s:Env) (a:AH) (Q:Env→AH→Prop):Prop :=
 ∀ tm h,(∀ t,gd tm t=s t)→Ab h a→∃ st a',EvW (fun k=>X11 P (X2i P ov k) nt ops l ⟨tm,h⟩) st (fun k=>X6m P (X2i P ov k) nt ops W l ⟨tm,h⟩)∧Ab st.h a'∧Q (gd st.tm) a'
def Ex (P:Program) (ov:Ov) (rd:Bool) (nt:Nat) (c:Code) (s:Env) (a:AH) (Q:X→Env→AH→Prop):Prop :=
 ∀ tm h,(∀ t,gd tm t=s t)→Ab h a→∃ x st a',Ev (fun k=>exec P ov (X0O P) k rd nt c ⟨tm,h⟩) (x,st)∧Ab st.h a'∧Q x (gd st.tm) a'
variable {P:Program} {ov:Ov}
theorem Fn.mono {f:FuncId} {args:List Value} {a:AH} {Q R:Value→AH→Prop} (h:Fn P ov f args a Q) (q:∀ v a',Q v a'→R v a'):Fn P ov f args a R:=by
 intro hp A
 obtain⟨v,h',a',e,A',q'⟩:=h hp A
 exact⟨v,h',a',e,A',q v a' q'⟩
theorem Ex.mono {rd:Bool} {nt:Nat} {c:Code} {s:Env} {a:AH} {Q R:X→Env→AH→Prop} (h:Ex P ov rd nt c s a Q) (q:∀ x s' a',Q x s' a'→R x s' a'):Ex P ov rd nt c s a R:=by
 intro tm hp hs A
 obtain⟨x,st,a',e,A',q'⟩:=h tm hp hs A
 exact⟨x,st,a',e,A',q _ _ _ q'⟩
theorem X31.mono {nt:Nat} {ops:Array Oper} {W:AH→Prop} {l:List Oper} {s:Env} {a:AH} {Q R:Env→AH→Prop} (h:X31 P ov nt ops W l s a Q) (q:∀ s' a',Q s' a'→R s' a'):X31 P ov nt ops W l s a R:=by
 intro tm hp hs A
 obtain⟨st,a',e,A',q'⟩:=h tm hp hs A
 exact⟨st,a',e,A',q _ _ q'⟩
theorem X4e.plain {o:Oper} {s:Env} {a a':AH} {v:Value} {Q:Value→AH→Prop} (e:X0P P o.op o.type s a=some (v,a')) (q:Q v a'):X4e P ov o s a Q:=by
 intro tm h hs A
 have key:=fun k=>XD1 e hs A (X2i P ov k) o rfl rfl
 obtain⟨h',e1,A'⟩:=key 0
 refine⟨v,h',a',.of fun k=>?_,A',q⟩
 obtain⟨h'',e2,A''⟩:=key k
 have:X05 P (X2i P ov k) o tm h=X05 P (X2i P ov 0) o tm h:=by
  unfold X0P at e
  unfold X05
  split at e<;>rename_i hop<;>first | cases e | (rw [hop])
 rw [this];exact e1
def X1z (P:Program) (g:FuncId):Bool:=match P.funcs[g]? with
 | some fn=>match fn.name == "runtime.NumGoroutine" with
  | true=>false
  | false=>fn.body.isSome
 | none=>false
theorem X4e.call {o:Oper} {x:Operand} {args:Array Operand} {ats:Array TypeId} (ho:o.op=.call ⟨.value x,args,ats⟩) {s:Env} {a:AH} {g:FuncId} {fi ca:Array Value} {l:List Value}
  (hx:zev s x=some (.func (.func g) fi ca)) (hl:X3i s args.toList=some l) (hb:X1z P g=true) {Q:Value→AH→Prop} (hf:Fn P ov g (fi.toList++l++ca.toList) a Q):X4e P ov o s a Q:=by
 intro tm h hs A
 obtain⟨v,h',a',⟨K,e⟩,A',q⟩:=hf h A
 refine⟨v,h',a',⟨K,fun k hk=>?_⟩,A',q⟩
 unfold X05
 rw [ho]
 simp only [X0d hs h hx,X2h hs h hl]
 unfold X1z at hb
 split at hb
 case h_2=>cases hb
 rename_i fn hfn
 rw [hfn];simp only
 split at hb
 · cases hb
 ·
  rename_i hn
  rw [hn];simp only
  cases hbd:fn.body with
  | none=>rw [hbd]at hb;cases hb
  | some c=>simp only;exact e k hk
theorem X31.nil {nt:Nat} {ops:Array Oper} {W:AH→Prop} {s:Env} {a:AH} {Q:Env→AH→Prop} (hw:W a) (q:Q s a):X31 P ov nt ops W [] s a Q:=by
 intro tm h hs A
 have:gd tm=s:=funext hs
 exact⟨⟨tm,h⟩,a,⟨0,fun k _=>⟨rfl,a,A,hw⟩⟩,A,by rw [this];exact q⟩
theorem X31.cons {nt:Nat} {ops:Array Oper} {W:AH→Prop} {o:Oper} {l:List Oper} {s:Env} {a:AH} {Q:Env→AH→Prop} (hw:W a) (hg:∀ tm,(∀ t,gd tm t=s t)→Region.wanted o (X0b ops tm)=true)
  (h1:X4e P ov o s a fun v a'=>X31 P ov nt ops W l (XEz nt s o.dst v) a' Q):X31 P ov nt ops W (o::l) s a Q:=by
 intro tm h hs A
 obtain⟨v,h',a',⟨K,e⟩,A',q⟩:=h1 tm h hs A
 obtain⟨st,a'',⟨K',e'⟩,A'',q'⟩:=q (X3U nt tm o.dst v) h' (XBH hs o.dst v) A'
 refine⟨st,a'',⟨max K K',fun k hk=>?_⟩,A'',q'⟩
 have e1:X1d P (X2i P ov k) nt ops o ⟨tm,h⟩=some ⟨X3U nt tm o.dst v,h'⟩:=by simp only [X1d,hg tm hs,e k (by omega)]
 refine⟨?_,⟨a,A,hw⟩,fun st' e2=>?_⟩
 ·
  simp only [X11,e1]
  exact(e' k (by omega)).1
 · rw [e1]at e2;cases e2;exact(e' k (by omega)).2
theorem X31.skip {nt:Nat} {ops:Array Oper} {W:AH→Prop} {o:Oper} {l:List Oper} {s:Env} {a:AH} {Q:Env→AH→Prop} (hw:W a) (hg:∀ tm,(∀ t,gd tm t=s t)→Region.wanted o (X0b ops tm)=false)
  (h1:X31 P ov nt ops W l (XEz nt s o.dst undef) a Q):X31 P ov nt ops W (o::l) s a Q:=by
 intro tm h hs A
 obtain⟨st,a'',⟨K',e'⟩,A'',q'⟩:=h1 (X3U nt tm o.dst undef) h (XBH hs o.dst undef) A
 refine⟨st,a'',⟨K',fun k hk=>?_⟩,A'',q'⟩
 have e1:X1d P (X2i P ov k) nt ops o ⟨tm,h⟩=some ⟨X3U nt tm o.dst undef,h⟩:=by simp only [X1d,hg tm hs]
 refine⟨?_,⟨a,A,hw⟩,fun st' e2=>?_⟩
 ·
  simp only [X11,e1]
  exact(e' k hk).1
 · rw [e1]at e2;cases e2;exact(e' k hk).2
theorem X59 {o:Oper} (h:o.guard=none) (y:Nat→Option Bool):Region.wanted o y=true:=by
 unfold Region.wanted;rw [h]
def X8a (ops:Array Oper) (j:Nat):Option Nat:=(ops[j]?).bind (·.dst)
theorem X1f {o:Oper} {ops:Array Oper} {j d:Nat} {w b:Bool} (h:o.guard=some (j,w)) (hd:X8a ops j=some d) {s:Env} (hb:s d=.bool b) (tm:Tr Value) (hs:∀ t,gd tm t=s t):Region.wanted o (X0b ops tm)=(b == w):=by
 unfold Region.wanted
 rw [h]
 simp only [X0b]
 unfold X8a at hd
 rw [hd]
 have:(tm.get d).getD undef=.bool b:=(hs d).trans hb
 simp only [this]
 cases b<;>cases w<;>rfl
theorem X7W {o:Oper} {ops:Array Oper} {j d:Nat} {w:Bool} (h:o.guard=some (j,w)) (hd:X8a ops j=some d) {s:Env} (hb:s d=undef) (tm:Tr Value) (hs:∀ t,gd tm t=s t):Region.wanted o (X0b ops tm)=false:=by
 unfold Region.wanted
 rw [h]
 simp only [X0b]
 unfold X8a at hd
 rw [hd]
 have:(tm.get d).getD undef=undef:=(hs d).trans hb
 simp only [this]
 cases w<;>rfl
end
end Go.Vai
namespace Go.Vai
noncomputable section
variable {P:Program} {ov:Ov}
structure XAO where
 n:Env→AH→Prop
 e:Nat→Env→AH→Prop
 r:Env→AH→Prop
def XAO.out (Q:XAO):X→Env→AH→Prop
 | .normal=>Q.n
 | .exit i=>Q.e i
 | .ret=>Q.r
def Cx (P:Program) (ov:Ov) (nt:Nat) (c:Code) (s:Env) (a:AH) (Q:XAO):Prop:=Ex P ov false nt c s a Q.out
theorem Ev.up {α:Type} {F G:Nat→Option α} {x:α} (h:Ev F x) (e:∀ k,F k=some x→G (k+1)=some x):Ev G x:=by
 obtain⟨K,hk⟩:=h
 refine⟨K+1,fun k hk'=>?_⟩
 cases k with
 | zero=>omega
 | succ k=>exact e k (hk k (by omega))
section
variable {nt:Nat} {s:Env} {a:AH} {Q:XAO}
theorem Cx.skip (q:Q.n s a):Cx P ov nt .skip s a Q:=by
 intro tm h hs A
 have:gd tm=s:=funext hs
 exact⟨.normal,⟨tm,h⟩,a,⟨1,fun k hk=>by cases k with | zero=>omega | succ k=>rfl⟩,A,by rw [this];exact q⟩
theorem Cx.label {l:Nat} (q:Q.n s a):Cx P ov nt (.label l) s a Q:=by
 intro tm h hs A
 have:gd tm=s:=funext hs
 exact⟨.normal,⟨tm,h⟩,a,⟨1,fun k hk=>by cases k with | zero=>omega | succ k=>rfl⟩,A,by rw [this];exact q⟩
theorem Cx.exit {i:Nat} (q:Q.e i s a):Cx P ov nt (.exit i) s a Q:=by
 intro tm h hs A
 have:gd tm=s:=funext hs
 exact⟨.exit i,⟨tm,h⟩,a,⟨1,fun k hk=>by cases k with | zero=>omega | succ k=>rfl⟩,A,by rw [this];exact q⟩
theorem Cx.ret (q:Q.r s a):Cx P ov nt .ret s a Q:=by
 intro tm h hs A
 have:gd tm=s:=funext hs
 exact⟨.ret,⟨tm,h⟩,a,⟨1,fun k hk=>by cases k with | zero=>omega | succ k=>rfl⟩,A,by rw [this];exact q⟩
theorem Cx.region {id:Nat} {ops:Array Oper} {W:AH→Prop} (h:X31 P ov nt ops W ops.toList s a Q.n):Cx P ov nt (.region id ops false) s a Q:=by
 intro tm hp hs A
 obtain⟨st,a',e,A',q⟩:=h tm hp hs A
 refine⟨.normal,st,a',?_,A',q⟩
 obtain⟨K,e⟩:=e
 refine⟨K+1,fun k hk=>?_⟩
 cases k with
 | zero=>omega
 | succ k =>
  show X0B P ov (X0O P) (exec P ov (X0O P) k) false nt (.region id ops false) ⟨tm,hp⟩=_
  simp only [X0B,X5k,(e k (by omega)).1]
theorem Cx.seq {c d:Code} (h:Cx P ov nt c s a ⟨fun s a=>Cx P ov nt d s a Q,Q.e,Q.r⟩):Cx P ov nt (.seq c d) s a Q:=by
 intro tm hp hs A
 obtain⟨x,st,a',⟨K,e⟩,A',q⟩:=h tm hp hs A
 cases x with
 | normal =>
  obtain⟨x,st',a'',⟨K',e'⟩,A'',q'⟩:=q st.tm st.h (fun _=>rfl) A'
  refine⟨x,st',a'',⟨max K K'+1,fun k hk=>?_⟩,A'',q'⟩
  cases k with
  | zero=>omega
  | succ k =>
   show X0B P ov (X0O P) (exec P ov (X0O P) k) false nt (.seq c d) ⟨tm,hp⟩=_
   simp only [X0B,e k (by omega),e' k (by omega)]
 | exit i =>
  refine⟨.exit i,st,a',⟨K+1,fun k hk=>?_⟩,A',q⟩
  cases k with
  | zero=>omega
  | succ k =>
   show X0B P ov (X0O P) (exec P ov (X0O P) k) false nt (.seq c d) ⟨tm,hp⟩=_
   simp only [X0B,e k (by omega)]
 | ret =>
  refine⟨.ret,st,a',⟨K+1,fun k hk=>?_⟩,A',q⟩
  cases k with
  | zero=>omega
  | succ k =>
   show X0B P ov (X0O P) (exec P ov (X0O P) k) false nt (.seq c d) ⟨tm,hp⟩=_
   simp only [X0B,e k (by omega)]
theorem Cx.cond {c:Operand} {x y:Code} {b:Bool} (hc:zev s c=some (.bool b)) (h1:b=true→Cx P ov nt x s a Q) (h2:b=false→Cx P ov nt y s a Q):Cx P ov nt (.cond c x y) s a Q:=by
 intro tm hp hs A
 have hz:=X0d hs hp hc
 cases b with
 | true =>
  obtain⟨x,st,a',⟨K,e⟩,A',q⟩:=h1 rfl tm hp hs A
  refine⟨x,st,a',⟨K+1,fun k hk=>?_⟩,A',q⟩
  cases k with
  | zero=>omega
  | succ k =>
   show X0B P ov (X0O P) (exec P ov (X0O P) k) false nt (.cond c _ _) ⟨tm,hp⟩=_
   simp only [X0B,hz,e k (by omega)]
 | false =>
  obtain⟨x,st,a',⟨K,e⟩,A',q⟩:=h2 rfl tm hp hs A
  refine⟨x,st,a',⟨K+1,fun k hk=>?_⟩,A',q⟩
  cases k with
  | zero=>omega
  | succ k =>
   show X0B P ov (X0O P) (exec P ov (X0O P) k) false nt (.cond c _ _) ⟨tm,hp⟩=_
   simp only [X0B,hz,e k (by omega)]
theorem Cx.block {i:Nat} {c:Code} (h:Cx P ov nt c s a ⟨Q.n,fun j s a=>bif Nat.beq j i then Q.n s a else Q.e j s a,Q.r⟩):Cx P ov nt (.block i c) s a Q:=by
 intro tm hp hs A
 obtain⟨x,st,a',⟨K,e⟩,A',q⟩:=h tm hp hs A
 cases x with
 | normal =>
  refine⟨.normal,st,a',⟨K+1,fun k hk=>?_⟩,A',q⟩
  cases k with
  | zero=>omega
  | succ k =>
   show X0B P ov (X0O P) (exec P ov (X0O P) k) false nt (.block i c) ⟨tm,hp⟩=_
   simp only [X0B,e k (by omega)]
 | ret =>
  refine⟨.ret,st,a',⟨K+1,fun k hk=>?_⟩,A',q⟩
  cases k with
  | zero=>omega
  | succ k =>
   show X0B P ov (X0O P) (exec P ov (X0O P) k) false nt (.block i c) ⟨tm,hp⟩=_
   simp only [X0B,e k (by omega)]
 | exit j =>
  cases hb:Nat.beq j i with
  | true =>
   refine⟨.normal,st,a',⟨K+1,fun k hk=>?_⟩,A',by simpa[XAO.out,hb]using q⟩
   cases k with
   | zero=>omega
   | succ k =>
    show X0B P ov (X0O P) (exec P ov (X0O P) k) false nt (.block i c) ⟨tm,hp⟩=_
    simp only [X0B,e k (by omega),hb]
  | false =>
   refine⟨.exit j,st,a',⟨K+1,fun k hk=>?_⟩,A',by simpa[XAO.out,hb]using q⟩
   cases k with
   | zero=>omega
   | succ k =>
    show X0B P ov (X0O P) (exec P ov (X0O P) k) false nt (.block i c) ⟨tm,hp⟩=_
    simp only [X0B,e k (by omega),hb]
theorem Cx.scope {c:Code} (h:Cx P ov nt c s a Q):Cx P ov nt (.scope c) s a Q:=by
 intro tm hp hs A
 obtain⟨x,st,a',⟨K,e⟩,A',q⟩:=h tm hp hs A
 refine⟨x,st,a',⟨K+1,fun k hk=>?_⟩,A',q⟩
 cases k with
 | zero=>omega
 | succ k =>
  show X0B P ov (X0O P) (exec P ov (X0O P) k) false nt (.scope c) ⟨tm,hp⟩=_
  simp only [X0B,e k (by omega)]
theorem Cx.loop1 {c:Code} (h:Cx P ov nt c s a ⟨fun s a=>Cx P ov nt (.loop c) s a Q,Q.e,Q.r⟩):Cx P ov nt (.loop c) s a Q:=by
 intro tm hp hs A
 obtain⟨x,st,a',⟨K,e⟩,A',q⟩:=h tm hp hs A
 cases x with
 | normal =>
  obtain⟨x,st',a'',⟨K',e'⟩,A'',q'⟩:=q st.tm st.h (fun _=>rfl) A'
  refine⟨x,st',a'',⟨max K K'+1,fun k hk=>?_⟩,A'',q'⟩
  cases k with
  | zero=>omega
  | succ k =>
   show X0B P ov (X0O P) (exec P ov (X0O P) k) false nt (.loop c) ⟨tm,hp⟩=_
   simp only [X0B,e k (by omega),e' k (by omega)]
 | exit i =>
  refine⟨.exit i,st,a',⟨K+1,fun k hk=>?_⟩,A',q⟩
  cases k with
  | zero=>omega
  | succ k =>
   show X0B P ov (X0O P) (exec P ov (X0O P) k) false nt (.loop c) ⟨tm,hp⟩=_
   simp only [X0B,e k (by omega)]
 | ret =>
  refine⟨.ret,st,a',⟨K+1,fun k hk=>?_⟩,A',q⟩
  cases k with
  | zero=>omega
  | succ k =>
   show X0B P ov (X0O P) (exec P ov (X0O P) k) false nt (.loop c) ⟨tm,hp⟩=_
   simp only [X0B,e k (by omega)]
theorem Cx.mono {c:Code} {R:XAO} (h:Cx P ov nt c s a Q) (hn:∀ s a,Q.n s a→R.n s a) (he:∀ i s a,Q.e i s a→R.e i s a) (hr:∀ s a,Q.r s a→R.r s a):Cx P ov nt c s a R :=
 Ex.mono h fun x s a=>by cases x with
  | normal=>exact hn s a
  | exit i=>exact he i s a
  | ret=>exact hr s a
end
theorem Cx.loop {nt:Nat} {c:Code} {Q:XAO} (I:Nat→Env→AH→Prop) (step:∀ n s a,I n s a→Cx P ov nt c s a ⟨fun s' a'=>∃ m,m<n∧I m s' a',Q.e,Q.r⟩) :
  ∀ n s a,I n s a→Cx P ov nt (.loop c) s a Q:=by
 intro n
 induction n using Nat.strongRecOn with
 | _ n ih =>
  intro s a hi
  exact Cx.loop1 ((step n s a hi).mono (fun s' a' ⟨m,hm,q⟩=>ih m hm s' a' q) (fun _ _ _ q=>q) fun _ _ q=>q)
def env0 (args:List Value):Env:=fun t=>(args[t]?).getD undef
theorem XF1 (args:List Value):∀ t,gd (X2z 0 .leaf args) t=env0 args t:=by
 intro t
 unfold gd env0
 rw [X2I args 0 .leaf t (Nat.zero_le _)]
 by_cases h:t<args.length
 · rw [if_pos ⟨Nat.zero_le _,by omega⟩,Nat.sub_zero]
 · rw [if_neg (by omega),List.getElem?_eq_none (by omega)];rfl
def zRes (P:Program) (s:Env) (a:AH):ResultVar→Option Value
 | .tmp t=>some (s t)
 | .cell x t=>X3t P a t (s x)
def XAP (P:Program) (s:Env) (a:AH):List ResultVar→Option (List Value)
 | []=>some []
 | r::rs=>match zRes P s a r,XAP P s a rs with
  | some v,some vs=>some (v::vs)
  | _,_=>none
def X7X (P:Program) (rs:Array ResultVar) (s:Env) (a:AH):Option Value :=
 match XAP P s a rs.toList with
 | some [v]=>some v
 | some vs=>match vs.all X3V with
  | true=>some (.tuple vs.toArray)
  | false=>none
 | none=>none
theorem X9W {st:St} {a:AH} (A:Ab st.h a):∀ (rs:List ResultVar) (vs:List Value),XAP P (gd st.tm) a rs=some vs→X2p P st rs=some vs:=by
 intro rs
 induction rs with
 | nil=>intro vs e;exact e
 | cons r rs ih =>
  intro vs e
  simp only [XAP]at e
  split at e
  ·
   rename_i v us h1 h2
   have hr:X5l P st r=some v:=by
    cases r with
    | tmp t=>exact h1
    | cell x t=>exact X4o A h1
   simp only [X2p,hr,ih us h2];exact e
  · cases e
theorem XD2 {fn:Func} {st:St} {a:AH} (A:Ab st.h a) {v:Value} (e:X7X P fn.results (gd st.tm) a=some v):X2q P fn st=some v:=by
 unfold X7X at e
 unfold X2q
 split at e
 · rename_i u hu;rw [X9W A _ _ hu];exact e
 ·
  rename_i vs hno hu
  rw [X9W A _ _ hu]
  split
  · rename_i u hv;cases hv;exact absurd rfl (hno u)
  · rename_i vs' _ hv;cases hv;exact e
  · rename_i hv;cases hv
 · cases e
def XF2 (P:Program) (rs:Array ResultVar) (Q:Value→AH→Prop):XAO :=
 ⟨fun s a=>∃ v,X7X P rs s a=some v∧Q v a,fun _ _ _=>False,fun s a=>∃ v,X7X P rs s a=some v∧Q v a⟩
theorem Fn.intro {f:FuncId} {args:List Value} {a:AH} {Q:Value→AH→Prop} {fn:Func} {c:Code} (hov:ov f=none) (hfn:P.funcs[f]?=some fn) (hc:fn.body=some c) (hn:Nat.blt (max fn.ntmps args.length) 1000000=true)
  (h:Cx P ov (max fn.ntmps args.length) c (env0 args) a (XF2 P fn.results Q)):Fn P ov f args a Q:=by
 intro hp A
 obtain⟨x,st,a',⟨K,e⟩,A',q⟩:=h _ hp (XF1 args) A
 have fin:(x=.normal∨x=.ret)→(∃ v,X7X P fn.results (gd st.tm) a'=some v∧Q v a')→∃ v h' a',Ev (fun k=>X2i P ov k (.func f) args hp) (v,h')∧Ab h' a'∧Q v a':=by
  rintro hx ⟨v,hv,q⟩
  refine⟨v,st.h,a',⟨K,fun k hk=>?_⟩,A',q⟩
  show X1b P ov (exec P ov (X0O P) k) (.func f) args hp=_
  simp only [X1b,known,hov,X4y,hfn,hc,hn,e k hk]
  rcases hx with rfl | rfl<;>simp only [XD2 A' hv]
 cases x with
 | normal=>exact fin (.inl rfl) q
 | ret=>exact fin (.inr rfl) q
 | exit i=>exact q.elim
theorem Fn.known {f:FuncId} {args:List Value} {a:AH} {Q:Value→AH→Prop} {g:List Value→Heap→Option (Value×Heap)} (hov:ov f=some g) {v:Value} (hg:∀ h,g args h=some (v,h)) (q:Q v a):Fn P ov f args a Q:=by
 intro hp A
 refine⟨v,hp,a,.of fun k=>?_,A,q⟩
 show X1b P ov (exec P ov (X0O P) k) (.func f) args hp=_
 simp only [X1b,Vai.known,hov,hg hp]
def X4B:Operand→Bool
 | .global _=>false
 | _=>true
def XD3 (op:Op):Bool:=op.operands.toList.all X4B && match op with
 | .move _ | .assign _ | .pick .. | .build .. | .nilCheck _ | .binOp .. | .unOp .. | .makeInterface .. | .makeFunc .. | .fieldAddr .. | .field .. | .extract .. | .indexAddr .. | .index ..=>true
 | .call ⟨.builtin .len,_,_⟩=>true
 | .call ⟨.builtin .min,_,_⟩=>true
 | .call ⟨.builtin .max,_,_⟩=>true
 | _=>false
theorem X3v {h h2:Heap} {tm:Tr Value} {x:Operand} (e:X4B x=true):aev h2 tm x=aev h tm x:=by
 cases x with
 | global g=>cases e
 | _=>rfl
theorem X5A {h h2:Heap} {tm:Tr Value}:∀ {xs:List Operand},(∀ x∈xs,X4B x=true)→X3s h2 tm xs=X3s h tm xs:=by
 intro xs
 induction xs with
 | nil=>intro _;rfl
 | cons x xs ih=>intro e;simp only [X3s,X3v (h:=h) (h2:=h2) (e x (by simp)),ih fun y hy=>e y (by simp [hy])]
theorem XBJ {h h2:Heap} {tm:Tr Value}:∀ {xs:List (Nat×Operand)},(∀ x∈xs,X4B x.2=true)→X6V h2 tm xs=X6V h tm xs:=by
 intro xs
 induction xs with
 | nil=>intro _;rfl
 | cons p xs ih =>
  obtain⟨i,x⟩:=p
  intro e;simp only [X6V,X3v (h:=h) (h2:=h2) (e (i,x) (by simp)),ih fun y hy=>e y (by simp [hy])]
def pinned (ops:Array Oper) (i k:Nat):Bool:=((X0R ops).getD i 0).testBit k || ((X0R ops).getD k 0).testBit i
def X9X (ops:Array Oper) (i:Nat):Bool:=allTo (fun k=>match ops[k]? with
 | some p=>X0F p.op || pinned ops i k
 | none=>true) ops.size
def X4p (op:Op):Bool:=match op with
 | .alloc _=>true
 | .box _ _=>true
 | .buildSlice _ _ _=>true
 | .makeSlice _ _ _=>true
 | _=>false
def XD4 (op:Op):Bool:=op.operands.toList.all X4B && match op with
 | .load _ _=>true
 | .slice _ _ _ _ none=>true
 | _=>false
def XBK (ops:Array Oper) (i:Nat):Bool:=allTo (fun k=>match ops[k]? with
 | some p=>X0F p.op || pinned ops i k || (X4p p.op && Nat.blt i k)
 | none=>true) ops.size
def XF3 (ops:Array Oper) (i:Nat):Option (TypeId×Nat):=match ops[i]? with
 | some o=>match o.op with
  | .load t (.tmp x)=>match allTo (fun k=>Nat.blt k i || (match ops[k]? with
    | some p=>!X9D p x
    | none=>true)) ops.size with
   | true=>some (t,x)
   | false=>none
  | _=>none
 | none=>none
theorem XD5 {ops:Array Oper} {i:Nat} {t:TypeId} {x:Nat} (h:XF3 ops i=some (t,x)):∃ o,ops[i]?=some o∧o.op=.load t (.tmp x)∧∀ (k:Nat) p,i≤k→ops[k]?=some p→p.dst≠some x:=by
 unfold XF3 at h
 split at h
 ·
  rename_i o ho
  split at h
  ·
   rename_i t' x' hop
   split at h
   ·
    rename_i ha
    cases h
    refine⟨o,ho,hop,fun k p hk hp hd=>?_⟩
    have hlt:k<ops.size:=(Array.getElem?_eq_some_iff.1 hp).1
    have:=X09 ha k hlt
    rw [hp]at this
    simp only [Bool.or_eq_true,Nat.blt_eq,Bool.not_eq_true']at this
    rcases this with h1 | h1
    · omega
    · rw [X47.2 hd]at h1;cases h1
   · cases h
  · cases h
 · cases h
def isK:Op→Bool
 | .move (.const v)=>veq v v
 | _=>false
def XD6 (fz:List Nat) (ops:Array Oper):Bool:=allTo (fun i=>match ops[i]? with
 | none=>false
 | some o=>match X0F o.op with
  | false=>allTo (fun k=>match ops[k]? with
   | some p=>X0F p.op || ((X0R ops).getD i 0).testBit k
   | none=>true) i
  | true=>X9X ops i || (XD3 o.op && (o.dst.isSome || isK o.op)) || (XD4 o.op && XBK ops i && o.dst.isSome) || (fz.any (Nat.beq i) && o.dst.isSome && (XF3 ops i).isSome)) ops.size
def X4C (ops:Array Oper):List Nat:=(List.range ops.size).filterMap fun i=>match ops[i]? with
 | none=>none
 | some o=>match X0F o.op && !X9X ops i with
  | true=>o.dst
  | false=>none
end
end Go.Vai
