/-
  What is proved here: rules by which a body of code is shown to come to what is asked, above the plain interpreter: each operation, each piece of control (part QC). No conditions.
-/
import Derived.Test.YtfcadnhoejlgoaaGreatDoorQA
set_option linter.unusedVariables false
set_option linter.unusedSimpArgs false
namespace Go.Vai
noncomputable section
def Ev {α : Type} (f : Nat → Option α) (x : α) : Prop := ∃ K, ∀ k, K ≤ k → f k = some x
theorem Ev.of {α : Type} {f : Nat → Option α} {x : α} (h : ∀ k, f k = some x) : Ev f x := ⟨0, fun k _ => h k⟩
abbrev Env := Nat → Value
def putv (nt : Nat) (s : Env) (dst : Option Nat) (v : Value) : Env := fun t => match dst with
 | some d => if t = d ∧ d < nt then v else s t
 | none => s t
theorem putv_gd {nt : Nat} {tm : Tr Value} {s : Env} (hs : ∀ t, gd tm t = s t) (dst : Option Nat) (v : Value) : ∀ t, gd (aput nt tm dst v) t = putv nt s dst v t := by
 intro t
 unfold aput putv
 cases dst with
 | none => exact hs t
 | some d =>
  simp only
  by_cases hd : d < nt
  ·
   have : Nat.blt d nt = true := by simpa using hd
   rw [this]; simp only
   by_cases ht : t = d
   ·
    subst ht
    rw [if_pos ⟨rfl, hd⟩]
    unfold gd
    rw [Tr.get_put_same (Nat.zero_le _)]; rfl
   ·
    rw [if_neg (fun h => ht h.1), ← hs t]
    unfold gd
    rw [Tr.get_put_other ht]
  ·
   have : Nat.blt d nt = false := by
    cases hb : Nat.blt d nt with
    | false => rfl
    | true => exact absurd (by simpa using hb) hd
   rw [this]; simp only
   rw [if_neg (fun h => hd h.2)]; exact hs t
def zev (s : Env) : Operand → Option Value
 | .tmp t => some (s t)
 | .const v => match cellsPlain v with
  | true => some v
  | false => none
 | .global _ => none
 | .func f => some (.func (.func f) #[] #[])
def zevL (s : Env) : List Operand → Option (List Value)
 | [] => some []
 | x :: xs => match zev s x, zevL s xs with
  | some v, some vs => some (v :: vs)
  | _, _ => none
def zevO (s : Env) : Option Operand → Option (Option Value)
 | none => some none
 | some x => match zev s x with
  | some v => some (some v)
  | none => none
def zevP (s : Env) : List (Nat × Operand) → Option (List (Nat × Value))
 | [] => some []
 | (i, x) :: xs => match zev s x, zevP s xs with
  | some v, some vs => some ((i, v) :: vs)
  | _, _ => none
section
variable {tm : Tr Value} {s : Env} (hs : ∀ t, gd tm t = s t) (h : Heap)
include hs
theorem zev_ok {x : Operand} {v : Value} (e : zev s x = some v) : aev h tm x = some v := by
 cases x with
 | tmp t => simp only [zev] at e; simp only [aev]; rw [← e]; exact congrArg some (hs t)
 | const u => exact e
 | global g => cases e
 | func f => exact e
theorem zevL_ok : ∀ {xs : List Operand} {vs : List Value}, zevL s xs = some vs → aevL h tm xs = some vs := by
 intro xs
 induction xs with
 | nil => intro vs e; exact e
 | cons x xs ih =>
  intro vs e
  simp only [zevL] at e
  split at e
  ·
   rename_i v us h1 h2
   simp only [aevL, zev_ok hs h h1, ih h2]; exact e
  · cases e
theorem zevO_ok {x : Option Operand} {v : Option Value} (e : zevO s x = some v) : aevO h tm x = some v := by
 cases x with
 | none => exact e
 | some x =>
  simp only [zevO] at e
  split at e
  ·
   rename_i u hu
   simp only [aevO, zev_ok hs h hu]; exact e
  · cases e
theorem zevP_ok : ∀ {xs : List (Nat × Operand)} {vs : List (Nat × Value)}, zevP s xs = some vs → aevP h tm xs = some vs := by
 intro xs
 induction xs with
 | nil => intro vs e; exact e
 | cons p xs ih =>
  obtain ⟨i, x⟩ := p
  intro vs e
  simp only [zevP] at e
  split at e
  ·
   rename_i v us h1 h2
   simp only [aevP, zev_ok hs h h1, ih h2]; exact e
  · cases e
end
def withA (a : AH) : Option Value → Option (Value × AH)
 | some v => some (v, a)
 | none => none
def stepZ (P : Program) (op : Op) (ty : TypeId) (s : Env) (a : AH) : Option (Value × AH) :=
 match op with
 | .move x => withA a (zev s x)
 | .assign x => withA a (zev s x)
 | .pick c x y => match zev s c with
  | some (.bool true) => withA a (zev s x)
  | some (.bool false) => withA a (zev s y)
  | _ => none
 | .alloc elem => zAlloc P a elem
 | .box _ x => match zev s x with
  | some v => zBox a v
  | none => none
 | .build t parts => match zevP s parts.toList with
  | some ps => withA a (aBuild P t ps)
  | none => none
 | .buildSlice t len parts => match zevP s parts.toList with
  | some ps => zBuildSlice P a t len ps
  | none => none
 | .load t x => match zev s x with
  | some v => withA a (zLoad P a t v)
  | none => none
 | .store t x y => match zev s x, zev s y with
  | some va, some vx => match zStore P a t va vx with
   | some a' => some (undef, a')
   | none => none
  | _, _ => none
 | .nilCheck x => match zev s x with
  | some (.pointer (some ⟨b, i, none⟩)) => some (.pointer (some ⟨b, i, none⟩), a)
  | some (.func (.func f) fi ca) => some (.func (.func f) fi ca, a)
  | _ => none
 | .binOp op t x y _ => match zev s x, zev s y with
  | some vx, some vy => withA a (aBin P op t x y vx vy)
  | _, _ => none
 | .unOp op _ x => match zev s x with
  | some v => match cellsPlain v with
   | true => withA a (apure P (Op.unary op v))
   | false => none
  | none => none
 | .convert src dst x => match zev s x with
  | some v => zConvert P a src dst v
  | none => none
 | .makeInterface t x => match zev s x with
  | some v => match cellsPlain v with
   | true => withA a (apure P (Instr.makeInterface t v))
   | false => none
  | none => none
 | .makeFunc fn fi ca => match zevL s fi.toList, zevL s ca.toList with
  | some x, some y => match x.all isPR && y.all isPR && isFn fn with
   | true => some (.func fn x.toArray y.toArray, a)
   | false => none
  | _, _ => none
 | .makeSlice t l c => match zev s l, zev s c with
  | some vl, some vc => zMakeSlice P a t vl vc
  | _, _ => none
 | .slice t x lo hi Option.none => match zev s x, zevO s lo, zevO s hi with
  | some v, some l, some u => withA a (zSlice P a t v l u)
  | _, _, _ => none
 | .fieldAddr t x f => match zev s x with
  | some v => withA a (aFieldAddr P t v f)
  | none => none
 | .field t x f => match zev s x with
  | some v => withA a (aField P t v f)
  | none => none
 | .indexAddr t x i => match zev s x, zev s i with
  | some v, some j => withA a (aIndexAddr P t v j)
  | _, _ => none
 | .index t x i => match zev s x, zev s i with
  | some v, some j => withA a (aIndex P t v j)
  | _, _ => none
 | .extract x i => match zev s x with
  | some v => withA a (aExtract v i)
  | none => none
 | .call ⟨.builtin .append, args, ats⟩ => match zevL s args.toList with
  | some [x, y] => zAppend P a ats x y
  | _ => none
 | .call ⟨.builtin .copy, args, ats⟩ => match zevL s args.toList with
  | some [x, y] => zCopy P a ats x y
  | _ => none
 | .call ⟨.builtin .len, args, ats⟩ => match zevL s args.toList with
  | some [x] => withA a (aLen P ats ty x)
  | _ => none
 | .call ⟨.builtin .min, args, ats⟩ => match zevL s args.toList with
  | some l => match l.all cellsPlain with
   | true => withA a (apure P (Builtin.min_ ats ty l.toArray))
   | false => none
  | _ => none
 | .call ⟨.builtin .max, args, ats⟩ => match zevL s args.toList with
  | some l => match l.all cellsPlain with
   | true => withA a (apure P (Builtin.max_ ats ty l.toArray))
   | false => none
  | _ => none
 | _ => none
theorem withA_inv {a a' : AH} {o : Option Value} {v : Value} (e : withA a o = some (v, a')) : o = some v ∧ a' = a := by
 cases o with
 | none => cases e
 | some u => cases e; exact ⟨rfl, rfl⟩
theorem stepZ_ok {P : Program} {op : Op} {ty : TypeId} {s : Env} {a a' : AH} {v : Value} (e : stepZ P op ty s a = some (v, a')) {tm : Tr Value} (hs : ∀ t, gd tm t = s t) {h : Heap} (A : Ab h a) (call : CallFn)
  (o : Oper) (ho : o.op = op) (ht : o.type = ty) : ∃ h', stepOp P call o tm h = some (v, h') ∧ Ab h' a' := by
 unfold stepZ at e
 unfold stepOp
 rw [ho]
 split at e
 · obtain ⟨e1, rfl⟩ := withA_inv e; simp only [zev_ok hs h e1]; exact ⟨h, rfl, A⟩
 · obtain ⟨e1, rfl⟩ := withA_inv e; simp only [zev_ok hs h e1]; exact ⟨h, rfl, A⟩
 ·
  split at e
  · rename_i hc; obtain ⟨e1, rfl⟩ := withA_inv e; simp only [zev_ok hs h hc, zev_ok hs h e1]; exact ⟨h, rfl, A⟩
  · rename_i hc; obtain ⟨e1, rfl⟩ := withA_inv e; simp only [zev_ok hs h hc, zev_ok hs h e1]; exact ⟨h, rfl, A⟩
  · cases e
 · exact zAlloc_ok A _ v a' e
 ·
  split at e
  case h_2 => cases e
  rename_i u hu
  simp only [zev_ok hs h hu]; exact zBox_ok A u v a' e
 ·
  split at e
  case h_2 => cases e
  rename_i ps hp
  obtain ⟨e1, rfl⟩ := withA_inv e
  simp only [zevP_ok hs h hp, e1]; exact ⟨h, rfl, A⟩
 ·
  split at e
  case h_2 => cases e
  rename_i ps hp
  simp only [zevP_ok hs h hp]; exact zBuildSlice_ok A _ _ _ v a' e
 ·
  split at e
  case h_2 => cases e
  rename_i u hu
  obtain ⟨e1, rfl⟩ := withA_inv e
  simp only [zev_ok hs h hu, zLoad_ok A e1]; exact ⟨h, rfl, A⟩
 ·
  split at e
  case h_2 => cases e
  rename_i va vx h1 h2
  split at e
  case h_2 => cases e
  rename_i a'' hz
  cases e
  obtain ⟨h', w1, w2⟩ := zStore_ok A hz
  simp only [zev_ok hs h h1, zev_ok hs h h2, w1]; exact ⟨h', rfl, w2⟩
 ·
  split at e
  · rename_i hc; cases e; simp only [zev_ok hs h hc]; exact ⟨h, rfl, A⟩
  · rename_i hc; cases e; simp only [zev_ok hs h hc]; exact ⟨h, rfl, A⟩
  · cases e
 ·
  split at e
  case h_2 => cases e
  rename_i vx vy h1 h2
  obtain ⟨e1, rfl⟩ := withA_inv e
  simp only [zev_ok hs h h1, zev_ok hs h h2, e1]; exact ⟨h, rfl, A⟩
 ·
  split at e
  case h_2 => cases e
  rename_i u hu
  split at e
  case h_2 => cases e
  rename_i hp
  obtain ⟨e1, rfl⟩ := withA_inv e
  simp only [zev_ok hs h hu, hp, e1]; exact ⟨h, rfl, A⟩
 ·
  split at e
  case h_2 => cases e
  rename_i u hu
  simp only [zev_ok hs h hu]; exact zConvert_ok A _ _ u v a' e
 ·
  split at e
  case h_2 => cases e
  rename_i u hu
  split at e
  case h_2 => cases e
  rename_i hp
  obtain ⟨e1, rfl⟩ := withA_inv e
  simp only [zev_ok hs h hu, hp, e1]; exact ⟨h, rfl, A⟩
 ·
  split at e
  case h_2 => cases e
  rename_i x y h1 h2
  split at e
  case h_2 => cases e
  rename_i hp
  cases e
  simp only [zevL_ok hs h h1, zevL_ok hs h h2, hp]; exact ⟨h, rfl, A⟩
 ·
  split at e
  case h_2 => cases e
  rename_i vl vc h1 h2
  simp only [zev_ok hs h h1, zev_ok hs h h2]; exact zMakeSlice_ok A _ _ _ v a' e
 ·
  split at e
  case h_2 => cases e
  rename_i u l m h1 h2 h3
  obtain ⟨e1, rfl⟩ := withA_inv e
  have h4 : aevO h tm none = some none := rfl
  simp only [zev_ok hs h h1, zevO_ok hs h h2, zevO_ok hs h h3, h4, zSlice_ok A e1]; exact ⟨h, rfl, A⟩
 ·
  split at e
  case h_2 => cases e
  rename_i u hu
  obtain ⟨e1, rfl⟩ := withA_inv e
  simp only [zev_ok hs h hu, e1]; exact ⟨h, rfl, A⟩
 ·
  split at e
  case h_2 => cases e
  rename_i u hu
  obtain ⟨e1, rfl⟩ := withA_inv e
  simp only [zev_ok hs h hu, e1]; exact ⟨h, rfl, A⟩
 ·
  split at e
  case h_2 => cases e
  rename_i vx vy h1 h2
  obtain ⟨e1, rfl⟩ := withA_inv e
  simp only [zev_ok hs h h1, zev_ok hs h h2, e1]; exact ⟨h, rfl, A⟩
 ·
  split at e
  case h_2 => cases e
  rename_i vx vy h1 h2
  obtain ⟨e1, rfl⟩ := withA_inv e
  simp only [zev_ok hs h h1, zev_ok hs h h2, e1]; exact ⟨h, rfl, A⟩
 ·
  split at e
  case h_2 => cases e
  rename_i u hu
  obtain ⟨e1, rfl⟩ := withA_inv e
  simp only [zev_ok hs h hu, e1]; exact ⟨h, rfl, A⟩
 ·
  split at e
  case h_2 => cases e
  rename_i x y h1
  simp only [zevL_ok hs h h1]; exact zAppend_ok A _ _ _ v a' e
 ·
  split at e
  case h_2 => cases e
  rename_i x y h1
  simp only [zevL_ok hs h h1]; exact zCopy_ok A _ _ _ v a' e
 ·
  split at e
  case h_2 => cases e
  rename_i x h1
  obtain ⟨e1, rfl⟩ := withA_inv e
  simp only [zevL_ok hs h h1, ht, e1]; exact ⟨h, rfl, A⟩
 ·
  split at e
  case h_2 => cases e
  rename_i l h1
  split at e
  case h_2 => cases e
  rename_i hp
  obtain ⟨e1, rfl⟩ := withA_inv e
  simp only [zevL_ok hs h h1, hp, ht, e1]; exact ⟨h, rfl, A⟩
 ·
  split at e
  case h_2 => cases e
  rename_i l h1
  split at e
  case h_2 => cases e
  rename_i hp
  obtain ⟨e1, rfl⟩ := withA_inv e
  simp only [zevL_ok hs h h1, hp, ht, e1]; exact ⟨h, rfl, A⟩
 · cases e
abbrev callK (P : Program) (ov : Ov) (k : Nat) : CallFn := callWith P ov (exec P ov (drBoth P) k)
def Fn (P : Program) (ov : Ov) (f : FuncId) (args : List Value) (a : AH) (Q : Value → AH → Prop) : Prop :=
 ∀ h, Ab h a → ∃ v h' a', Ev (fun k => callK P ov k (.func f) args h) (v, h') ∧ Ab h' a' ∧ Q v a'
def StepA (P : Program) (ov : Ov) (o : Oper) (s : Env) (a : AH) (Q : Value → AH → Prop) : Prop :=
 ∀ tm h, (∀ t, gd tm t = s t) → Ab h a → ∃ v h' a', Ev (fun k => stepOp P (callK P ov k) o tm h) (v, h') ∧ Ab h' a' ∧ Q v a'
def wfRun (P : Program) (call : CallFn) (nt : Nat) (ops : Array Oper) (W : AH → Prop) : List Oper → St → Prop
 | [], st => ∃ a, Ab st.h a ∧ W a
 | o :: l, st => (∃ a, Ab st.h a ∧ W a) ∧ ∀ st', oneOp P call nt ops o st = some st' → wfRun P call nt ops W l st'
def EvW {α : Type} (f : Nat → Option α) (x : α) (W : Nat → Prop) : Prop := ∃ K, ∀ k, K ≤ k → f k = some x ∧ W k
def OpsA (P : Program) (ov : Ov) (nt : Nat) (ops : Array Oper) (W : AH → Prop) (l : List Oper) (s : Env) (a : AH) (Q : Env → AH → Prop) : Prop :=
 ∀ tm h, (∀ t, gd tm t = s t) → Ab h a → ∃ st a', EvW (fun k => execOps P (callK P ov k) nt ops l ⟨tm, h⟩) st (fun k => wfRun P (callK P ov k) nt ops W l ⟨tm, h⟩) ∧ Ab st.h a' ∧ Q (gd st.tm) a'
def Ex (P : Program) (ov : Ov) (rd : Bool) (nt : Nat) (c : Code) (s : Env) (a : AH) (Q : X → Env → AH → Prop) : Prop :=
 ∀ tm h, (∀ t, gd tm t = s t) → Ab h a → ∃ x st a', Ev (fun k => exec P ov (drBoth P) k rd nt c ⟨tm, h⟩) (x, st) ∧ Ab st.h a' ∧ Q x (gd st.tm) a'
variable {P : Program} {ov : Ov}
theorem Fn.mono {f : FuncId} {args : List Value} {a : AH} {Q R : Value → AH → Prop} (h : Fn P ov f args a Q) (q : ∀ v a', Q v a' → R v a') : Fn P ov f args a R := by
 intro hp A
 obtain ⟨v, h', a', e, A', q'⟩ := h hp A
 exact ⟨v, h', a', e, A', q v a' q'⟩
theorem Ex.mono {rd : Bool} {nt : Nat} {c : Code} {s : Env} {a : AH} {Q R : X → Env → AH → Prop} (h : Ex P ov rd nt c s a Q) (q : ∀ x s' a', Q x s' a' → R x s' a') : Ex P ov rd nt c s a R := by
 intro tm hp hs A
 obtain ⟨x, st, a', e, A', q'⟩ := h tm hp hs A
 exact ⟨x, st, a', e, A', q _ _ _ q'⟩
theorem OpsA.mono {nt : Nat} {ops : Array Oper} {W : AH → Prop} {l : List Oper} {s : Env} {a : AH} {Q R : Env → AH → Prop} (h : OpsA P ov nt ops W l s a Q) (q : ∀ s' a', Q s' a' → R s' a') : OpsA P ov nt ops W l s a R := by
 intro tm hp hs A
 obtain ⟨st, a', e, A', q'⟩ := h tm hp hs A
 exact ⟨st, a', e, A', q _ _ q'⟩
theorem StepA.plain {o : Oper} {s : Env} {a a' : AH} {v : Value} {Q : Value → AH → Prop} (e : stepZ P o.op o.type s a = some (v, a')) (q : Q v a') : StepA P ov o s a Q := by
 intro tm h hs A
 have key := fun k => stepZ_ok e hs A (callK P ov k) o rfl rfl
 obtain ⟨h', e1, A'⟩ := key 0
 refine ⟨v, h', a', .of fun k => ?_, A', q⟩
 obtain ⟨h'', e2, A''⟩ := key k
 have : stepOp P (callK P ov k) o tm h = stepOp P (callK P ov 0) o tm h := by
  unfold stepZ at e
  unfold stepOp
  split at e <;> rename_i hop <;> first | cases e | (rw [hop])
 rw [this]; exact e1
def hasBody (P : Program) (g : FuncId) : Bool := match P.funcs[g]? with
 | some fn => match fn.name == "runtime.NumGoroutine" with
  | true => false
  | false => fn.body.isSome
 | none => false
theorem StepA.call {o : Oper} {x : Operand} {args : Array Operand} {ats : Array TypeId} (ho : o.op = .call ⟨.value x, args, ats⟩) {s : Env} {a : AH} {g : FuncId} {fi ca : Array Value} {l : List Value}
  (hx : zev s x = some (.func (.func g) fi ca)) (hl : zevL s args.toList = some l) (hb : hasBody P g = true) {Q : Value → AH → Prop} (hf : Fn P ov g (fi.toList ++ l ++ ca.toList) a Q) : StepA P ov o s a Q := by
 intro tm h hs A
 obtain ⟨v, h', a', ⟨K, e⟩, A', q⟩ := hf h A
 refine ⟨v, h', a', ⟨K, fun k hk => ?_⟩, A', q⟩
 unfold stepOp
 rw [ho]
 simp only [zev_ok hs h hx, zevL_ok hs h hl]
 unfold hasBody at hb
 split at hb
 case h_2 => cases hb
 rename_i fn hfn
 rw [hfn]; simp only
 split at hb
 · cases hb
 ·
  rename_i hn
  rw [hn]; simp only
  cases hbd : fn.body with
  | none => rw [hbd] at hb; cases hb
  | some c => simp only; exact e k hk
theorem OpsA.nil {nt : Nat} {ops : Array Oper} {W : AH → Prop} {s : Env} {a : AH} {Q : Env → AH → Prop} (hw : W a) (q : Q s a) : OpsA P ov nt ops W [] s a Q := by
 intro tm h hs A
 have : gd tm = s := funext hs
 exact ⟨⟨tm, h⟩, a, ⟨0, fun k _ => ⟨rfl, a, A, hw⟩⟩, A, by rw [this]; exact q⟩
theorem OpsA.cons {nt : Nat} {ops : Array Oper} {W : AH → Prop} {o : Oper} {l : List Oper} {s : Env} {a : AH} {Q : Env → AH → Prop} (hw : W a) (hg : ∀ tm, (∀ t, gd tm t = s t) → Region.wanted o (aYield ops tm) = true)
  (h1 : StepA P ov o s a fun v a' => OpsA P ov nt ops W l (putv nt s o.dst v) a' Q) : OpsA P ov nt ops W (o :: l) s a Q := by
 intro tm h hs A
 obtain ⟨v, h', a', ⟨K, e⟩, A', q⟩ := h1 tm h hs A
 obtain ⟨st, a'', ⟨K', e'⟩, A'', q'⟩ := q (aput nt tm o.dst v) h' (putv_gd hs o.dst v) A'
 refine ⟨st, a'', ⟨max K K', fun k hk => ?_⟩, A'', q'⟩
 have e1 : oneOp P (callK P ov k) nt ops o ⟨tm, h⟩ = some ⟨aput nt tm o.dst v, h'⟩ := by simp only [oneOp, hg tm hs, e k (by omega)]
 refine ⟨?_, ⟨a, A, hw⟩, fun st' e2 => ?_⟩
 ·
  simp only [execOps, e1]
  exact (e' k (by omega)).1
 · rw [e1] at e2; cases e2; exact (e' k (by omega)).2
theorem OpsA.skip {nt : Nat} {ops : Array Oper} {W : AH → Prop} {o : Oper} {l : List Oper} {s : Env} {a : AH} {Q : Env → AH → Prop} (hw : W a) (hg : ∀ tm, (∀ t, gd tm t = s t) → Region.wanted o (aYield ops tm) = false)
  (h1 : OpsA P ov nt ops W l (putv nt s o.dst undef) a Q) : OpsA P ov nt ops W (o :: l) s a Q := by
 intro tm h hs A
 obtain ⟨st, a'', ⟨K', e'⟩, A'', q'⟩ := h1 (aput nt tm o.dst undef) h (putv_gd hs o.dst undef) A
 refine ⟨st, a'', ⟨K', fun k hk => ?_⟩, A'', q'⟩
 have e1 : oneOp P (callK P ov k) nt ops o ⟨tm, h⟩ = some ⟨aput nt tm o.dst undef, h⟩ := by simp only [oneOp, hg tm hs]
 refine ⟨?_, ⟨a, A, hw⟩, fun st' e2 => ?_⟩
 ·
  simp only [execOps, e1]
  exact (e' k hk).1
 · rw [e1] at e2; cases e2; exact (e' k hk).2
theorem wanted_none {o : Oper} (h : o.guard = none) (y : Nat → Option Bool) : Region.wanted o y = true := by
 unfold Region.wanted; rw [h]
def dstOf (ops : Array Oper) (j : Nat) : Option Nat := (ops[j]?).bind (·.dst)
theorem wanted_some {o : Oper} {ops : Array Oper} {j d : Nat} {w b : Bool} (h : o.guard = some (j, w)) (hd : dstOf ops j = some d) {s : Env} (hb : s d = .bool b) (tm : Tr Value) (hs : ∀ t, gd tm t = s t) : Region.wanted o (aYield ops tm) = (b == w) := by
 unfold Region.wanted
 rw [h]
 simp only [aYield]
 unfold dstOf at hd
 rw [hd]
 have : (tm.get d).getD undef = .bool b := (hs d).trans hb
 simp only [this]
 cases b <;> cases w <;> rfl
theorem wanted_undef {o : Oper} {ops : Array Oper} {j d : Nat} {w : Bool} (h : o.guard = some (j, w)) (hd : dstOf ops j = some d) {s : Env} (hb : s d = undef) (tm : Tr Value) (hs : ∀ t, gd tm t = s t) : Region.wanted o (aYield ops tm) = false := by
 unfold Region.wanted
 rw [h]
 simp only [aYield]
 unfold dstOf at hd
 rw [hd]
 have : (tm.get d).getD undef = undef := (hs d).trans hb
 simp only [this]
 cases w <;> rfl
end
end Go.Vai
