/-
  What is proved here: rules for control, for regions that leave their order open, and for functions (part QD). No conditions.
-/
import Derived.Test.YtfcadnhoejlgoaaGreatDoorQC
set_option linter.unusedVariables false
set_option linter.unusedSimpArgs false
namespace Go.Vai
noncomputable section
variable {P : Program} {ov : Ov}
structure Post where
 n : Env → AH → Prop
 e : Nat → Env → AH → Prop
 r : Env → AH → Prop
def Post.out (Q : Post) : X → Env → AH → Prop
 | .normal => Q.n
 | .exit i => Q.e i
 | .ret => Q.r
def Cx (P : Program) (ov : Ov) (nt : Nat) (c : Code) (s : Env) (a : AH) (Q : Post) : Prop := Ex P ov false nt c s a Q.out
theorem Ev.up {α : Type} {F G : Nat → Option α} {x : α} (h : Ev F x) (e : ∀ k, F k = some x → G (k + 1) = some x) : Ev G x := by
 obtain ⟨K, hk⟩ := h
 refine ⟨K + 1, fun k hk' => ?_⟩
 cases k with
 | zero => omega
 | succ k => exact e k (hk k (by omega))
section
variable {nt : Nat} {s : Env} {a : AH} {Q : Post}
theorem Cx.skip (q : Q.n s a) : Cx P ov nt .skip s a Q := by
 intro tm h hs A
 have : gd tm = s := funext hs
 exact ⟨.normal, ⟨tm, h⟩, a, ⟨1, fun k hk => by cases k with | zero => omega | succ k => rfl⟩, A, by rw [this]; exact q⟩
theorem Cx.label {l : Nat} (q : Q.n s a) : Cx P ov nt (.label l) s a Q := by
 intro tm h hs A
 have : gd tm = s := funext hs
 exact ⟨.normal, ⟨tm, h⟩, a, ⟨1, fun k hk => by cases k with | zero => omega | succ k => rfl⟩, A, by rw [this]; exact q⟩
theorem Cx.exit {i : Nat} (q : Q.e i s a) : Cx P ov nt (.exit i) s a Q := by
 intro tm h hs A
 have : gd tm = s := funext hs
 exact ⟨.exit i, ⟨tm, h⟩, a, ⟨1, fun k hk => by cases k with | zero => omega | succ k => rfl⟩, A, by rw [this]; exact q⟩
theorem Cx.ret (q : Q.r s a) : Cx P ov nt .ret s a Q := by
 intro tm h hs A
 have : gd tm = s := funext hs
 exact ⟨.ret, ⟨tm, h⟩, a, ⟨1, fun k hk => by cases k with | zero => omega | succ k => rfl⟩, A, by rw [this]; exact q⟩
theorem Cx.region {id : Nat} {ops : Array Oper} {W : AH → Prop} (h : OpsA P ov nt ops W ops.toList s a Q.n) : Cx P ov nt (.region id ops false) s a Q := by
 intro tm hp hs A
 obtain ⟨st, a', e, A', q⟩ := h tm hp hs A
 refine ⟨.normal, st, a', ?_, A', q⟩
 obtain ⟨K, e⟩ := e
 refine ⟨K + 1, fun k hk => ?_⟩
 cases k with
 | zero => omega
 | succ k =>
  show execStep P ov (drBoth P) (exec P ov (drBoth P) k) false nt (.region id ops false) ⟨tm, hp⟩ = _
  simp only [execStep, execOpsQ_eq, (e k (by omega)).1]
theorem Cx.seq {c d : Code} (h : Cx P ov nt c s a ⟨fun s a => Cx P ov nt d s a Q, Q.e, Q.r⟩) : Cx P ov nt (.seq c d) s a Q := by
 intro tm hp hs A
 obtain ⟨x, st, a', ⟨K, e⟩, A', q⟩ := h tm hp hs A
 cases x with
 | normal =>
  obtain ⟨x, st', a'', ⟨K', e'⟩, A'', q'⟩ := q st.tm st.h (fun _ => rfl) A'
  refine ⟨x, st', a'', ⟨max K K' + 1, fun k hk => ?_⟩, A'', q'⟩
  cases k with
  | zero => omega
  | succ k =>
   show execStep P ov (drBoth P) (exec P ov (drBoth P) k) false nt (.seq c d) ⟨tm, hp⟩ = _
   simp only [execStep, e k (by omega), e' k (by omega)]
 | exit i =>
  refine ⟨.exit i, st, a', ⟨K + 1, fun k hk => ?_⟩, A', q⟩
  cases k with
  | zero => omega
  | succ k =>
   show execStep P ov (drBoth P) (exec P ov (drBoth P) k) false nt (.seq c d) ⟨tm, hp⟩ = _
   simp only [execStep, e k (by omega)]
 | ret =>
  refine ⟨.ret, st, a', ⟨K + 1, fun k hk => ?_⟩, A', q⟩
  cases k with
  | zero => omega
  | succ k =>
   show execStep P ov (drBoth P) (exec P ov (drBoth P) k) false nt (.seq c d) ⟨tm, hp⟩ = _
   simp only [execStep, e k (by omega)]
theorem Cx.cond {c : Operand} {x y : Code} {b : Bool} (hc : zev s c = some (.bool b)) (h1 : b = true → Cx P ov nt x s a Q) (h2 : b = false → Cx P ov nt y s a Q) : Cx P ov nt (.cond c x y) s a Q := by
 intro tm hp hs A
 have hz := zev_ok hs hp hc
 cases b with
 | true =>
  obtain ⟨x, st, a', ⟨K, e⟩, A', q⟩ := h1 rfl tm hp hs A
  refine ⟨x, st, a', ⟨K + 1, fun k hk => ?_⟩, A', q⟩
  cases k with
  | zero => omega
  | succ k =>
   show execStep P ov (drBoth P) (exec P ov (drBoth P) k) false nt (.cond c _ _) ⟨tm, hp⟩ = _
   simp only [execStep, hz, e k (by omega)]
 | false =>
  obtain ⟨x, st, a', ⟨K, e⟩, A', q⟩ := h2 rfl tm hp hs A
  refine ⟨x, st, a', ⟨K + 1, fun k hk => ?_⟩, A', q⟩
  cases k with
  | zero => omega
  | succ k =>
   show execStep P ov (drBoth P) (exec P ov (drBoth P) k) false nt (.cond c _ _) ⟨tm, hp⟩ = _
   simp only [execStep, hz, e k (by omega)]
theorem Cx.block {i : Nat} {c : Code} (h : Cx P ov nt c s a ⟨Q.n, fun j s a => bif Nat.beq j i then Q.n s a else Q.e j s a, Q.r⟩) : Cx P ov nt (.block i c) s a Q := by
 intro tm hp hs A
 obtain ⟨x, st, a', ⟨K, e⟩, A', q⟩ := h tm hp hs A
 cases x with
 | normal =>
  refine ⟨.normal, st, a', ⟨K + 1, fun k hk => ?_⟩, A', q⟩
  cases k with
  | zero => omega
  | succ k =>
   show execStep P ov (drBoth P) (exec P ov (drBoth P) k) false nt (.block i c) ⟨tm, hp⟩ = _
   simp only [execStep, e k (by omega)]
 | ret =>
  refine ⟨.ret, st, a', ⟨K + 1, fun k hk => ?_⟩, A', q⟩
  cases k with
  | zero => omega
  | succ k =>
   show execStep P ov (drBoth P) (exec P ov (drBoth P) k) false nt (.block i c) ⟨tm, hp⟩ = _
   simp only [execStep, e k (by omega)]
 | exit j =>
  cases hb : Nat.beq j i with
  | true =>
   refine ⟨.normal, st, a', ⟨K + 1, fun k hk => ?_⟩, A', by simpa [Post.out, hb] using q⟩
   cases k with
   | zero => omega
   | succ k =>
    show execStep P ov (drBoth P) (exec P ov (drBoth P) k) false nt (.block i c) ⟨tm, hp⟩ = _
    simp only [execStep, e k (by omega), hb]
  | false =>
   refine ⟨.exit j, st, a', ⟨K + 1, fun k hk => ?_⟩, A', by simpa [Post.out, hb] using q⟩
   cases k with
   | zero => omega
   | succ k =>
    show execStep P ov (drBoth P) (exec P ov (drBoth P) k) false nt (.block i c) ⟨tm, hp⟩ = _
    simp only [execStep, e k (by omega), hb]
theorem Cx.scope {c : Code} (h : Cx P ov nt c s a Q) : Cx P ov nt (.scope c) s a Q := by
 intro tm hp hs A
 obtain ⟨x, st, a', ⟨K, e⟩, A', q⟩ := h tm hp hs A
 refine ⟨x, st, a', ⟨K + 1, fun k hk => ?_⟩, A', q⟩
 cases k with
 | zero => omega
 | succ k =>
  show execStep P ov (drBoth P) (exec P ov (drBoth P) k) false nt (.scope c) ⟨tm, hp⟩ = _
  simp only [execStep, e k (by omega)]
theorem Cx.loop1 {c : Code} (h : Cx P ov nt c s a ⟨fun s a => Cx P ov nt (.loop c) s a Q, Q.e, Q.r⟩) : Cx P ov nt (.loop c) s a Q := by
 intro tm hp hs A
 obtain ⟨x, st, a', ⟨K, e⟩, A', q⟩ := h tm hp hs A
 cases x with
 | normal =>
  obtain ⟨x, st', a'', ⟨K', e'⟩, A'', q'⟩ := q st.tm st.h (fun _ => rfl) A'
  refine ⟨x, st', a'', ⟨max K K' + 1, fun k hk => ?_⟩, A'', q'⟩
  cases k with
  | zero => omega
  | succ k =>
   show execStep P ov (drBoth P) (exec P ov (drBoth P) k) false nt (.loop c) ⟨tm, hp⟩ = _
   simp only [execStep, e k (by omega), e' k (by omega)]
 | exit i =>
  refine ⟨.exit i, st, a', ⟨K + 1, fun k hk => ?_⟩, A', q⟩
  cases k with
  | zero => omega
  | succ k =>
   show execStep P ov (drBoth P) (exec P ov (drBoth P) k) false nt (.loop c) ⟨tm, hp⟩ = _
   simp only [execStep, e k (by omega)]
 | ret =>
  refine ⟨.ret, st, a', ⟨K + 1, fun k hk => ?_⟩, A', q⟩
  cases k with
  | zero => omega
  | succ k =>
   show execStep P ov (drBoth P) (exec P ov (drBoth P) k) false nt (.loop c) ⟨tm, hp⟩ = _
   simp only [execStep, e k (by omega)]
theorem Cx.mono {c : Code} {R : Post} (h : Cx P ov nt c s a Q) (hn : ∀ s a, Q.n s a → R.n s a) (he : ∀ i s a, Q.e i s a → R.e i s a) (hr : ∀ s a, Q.r s a → R.r s a) : Cx P ov nt c s a R :=
 Ex.mono h fun x s a => by cases x with
  | normal => exact hn s a
  | exit i => exact he i s a
  | ret => exact hr s a
end
theorem Cx.loop {nt : Nat} {c : Code} {Q : Post} (I : Nat → Env → AH → Prop) (step : ∀ n s a, I n s a → Cx P ov nt c s a ⟨fun s' a' => ∃ m, m < n ∧ I m s' a', Q.e, Q.r⟩) :
  ∀ n s a, I n s a → Cx P ov nt (.loop c) s a Q := by
 intro n
 induction n using Nat.strongRecOn with
 | _ n ih =>
  intro s a hi
  exact Cx.loop1 ((step n s a hi).mono (fun s' a' ⟨m, hm, q⟩ => ih m hm s' a' q) (fun _ _ _ q => q) fun _ _ q => q)
def env0 (args : List Value) : Env := fun t => (args[t]?).getD undef
theorem env0_gd (args : List Value) : ∀ t, gd (trOf 0 .leaf args) t = env0 args t := by
 intro t
 unfold gd env0
 rw [trOf_get args 0 .leaf t (Nat.zero_le _)]
 by_cases h : t < args.length
 · rw [if_pos ⟨Nat.zero_le _, by omega⟩, Nat.sub_zero]
 · rw [if_neg (by omega), List.getElem?_eq_none (by omega)]; rfl
def zRes (P : Program) (s : Env) (a : AH) : ResultVar → Option Value
 | .tmp t => some (s t)
 | .cell x t => zLoad P a t (s x)
def zRess (P : Program) (s : Env) (a : AH) : List ResultVar → Option (List Value)
 | [] => some []
 | r :: rs => match zRes P s a r, zRess P s a rs with
  | some v, some vs => some (v :: vs)
  | _, _ => none
def zResV (P : Program) (rs : Array ResultVar) (s : Env) (a : AH) : Option Value :=
 match zRess P s a rs.toList with
 | some [v] => some v
 | some vs => match vs.all isOneAgg with
  | true => some (.tuple vs.toArray)
  | false => none
 | none => none
theorem zRess_ok {st : St} {a : AH} (A : Ab st.h a) : ∀ (rs : List ResultVar) (vs : List Value), zRess P (gd st.tm) a rs = some vs → aResults P st rs = some vs := by
 intro rs
 induction rs with
 | nil => intro vs e; exact e
 | cons r rs ih =>
  intro vs e
  simp only [zRess] at e
  split at e
  ·
   rename_i v us h1 h2
   have hr : aResult P st r = some v := by
    cases r with
    | tmp t => exact h1
    | cell x t => exact zLoad_ok A h1
   simp only [aResults, hr, ih us h2]; exact e
  · cases e
theorem zResV_ok {fn : Func} {st : St} {a : AH} (A : Ab st.h a) {v : Value} (e : zResV P fn.results (gd st.tm) a = some v) : aResultV P fn st = some v := by
 unfold zResV at e
 unfold aResultV
 split at e
 · rename_i u hu; rw [zRess_ok A _ _ hu]; exact e
 ·
  rename_i vs hno hu
  rw [zRess_ok A _ _ hu]
  split
  · rename_i u hv; cases hv; exact absurd rfl (hno u)
  · rename_i vs' _ hv; cases hv; exact e
  · rename_i hv; cases hv
 · cases e
def resPost (P : Program) (rs : Array ResultVar) (Q : Value → AH → Prop) : Post :=
 ⟨fun s a => ∃ v, zResV P rs s a = some v ∧ Q v a, fun _ _ _ => False, fun s a => ∃ v, zResV P rs s a = some v ∧ Q v a⟩
theorem Fn.intro {f : FuncId} {args : List Value} {a : AH} {Q : Value → AH → Prop} {fn : Func} {c : Code} (hov : ov f = none) (hfn : P.funcs[f]? = some fn) (hc : fn.body = some c) (hn : Nat.blt (max fn.ntmps args.length) 1000000 = true)
  (h : Cx P ov (max fn.ntmps args.length) c (env0 args) a (resPost P fn.results Q)) : Fn P ov f args a Q := by
 intro hp A
 obtain ⟨x, st, a', ⟨K, e⟩, A', q⟩ := h _ hp (env0_gd args) A
 have fin : (x = .normal ∨ x = .ret) → (∃ v, zResV P fn.results (gd st.tm) a' = some v ∧ Q v a') → ∃ v h' a', Ev (fun k => callK P ov k (.func f) args hp) (v, h') ∧ Ab h' a' ∧ Q v a' := by
  rintro hx ⟨v, hv, q⟩
  refine ⟨v, st.h, a', ⟨K, fun k hk => ?_⟩, A', q⟩
  show callWith P ov (exec P ov (drBoth P) k) (.func f) args hp = _
  simp only [callWith, known, hov, funcWith, hfn, hc, hn, e k hk]
  rcases hx with rfl | rfl <;> simp only [zResV_ok A' hv]
 cases x with
 | normal => exact fin (.inl rfl) q
 | ret => exact fin (.inr rfl) q
 | exit i => exact q.elim
theorem Fn.known {f : FuncId} {args : List Value} {a : AH} {Q : Value → AH → Prop} {g : List Value → Heap → Option (Value × Heap)} (hov : ov f = some g) {v : Value} (hg : ∀ h, g args h = some (v, h)) (q : Q v a) : Fn P ov f args a Q := by
 intro hp A
 refine ⟨v, hp, a, .of fun k => ?_, A, q⟩
 show callWith P ov (exec P ov (drBoth P) k) (.func f) args hp = _
 simp only [callWith, Vai.known, hov, hg hp]
def notGlob : Operand → Bool
 | .global _ => false
 | _ => true
def hfree (op : Op) : Bool := op.operands.toList.all notGlob && match op with
 | .move _ | .assign _ | .pick .. | .build .. | .nilCheck _ | .binOp .. | .unOp .. | .makeInterface .. | .makeFunc .. | .fieldAddr .. | .field .. | .extract .. | .indexAddr .. | .index .. => true
 | .call ⟨.builtin .len, _, _⟩ => true
 | .call ⟨.builtin .min, _, _⟩ => true
 | .call ⟨.builtin .max, _, _⟩ => true
 | _ => false
theorem aev_free {h h2 : Heap} {tm : Tr Value} {x : Operand} (e : notGlob x = true) : aev h2 tm x = aev h tm x := by
 cases x with
 | global g => cases e
 | _ => rfl
theorem aevL_free {h h2 : Heap} {tm : Tr Value} : ∀ {xs : List Operand}, (∀ x ∈ xs, notGlob x = true) → aevL h2 tm xs = aevL h tm xs := by
 intro xs
 induction xs with
 | nil => intro _; rfl
 | cons x xs ih => intro e; simp only [aevL, aev_free (h := h) (h2 := h2) (e x (by simp)), ih fun y hy => e y (by simp [hy])]
theorem aevP_free {h h2 : Heap} {tm : Tr Value} : ∀ {xs : List (Nat × Operand)}, (∀ x ∈ xs, notGlob x.2 = true) → aevP h2 tm xs = aevP h tm xs := by
 intro xs
 induction xs with
 | nil => intro _; rfl
 | cons p xs ih =>
  obtain ⟨i, x⟩ := p
  intro e; simp only [aevP, aev_free (h := h) (h2 := h2) (e (i, x) (by simp)), ih fun y hy => e y (by simp [hy])]
def pinned (ops : Array Oper) (i k : Nat) : Bool := ((masks ops).getD i 0).testBit k || ((masks ops).getD k 0).testBit i
def allPin (ops : Array Oper) (i : Nat) : Bool := allTo (fun k => match ops[k]? with
 | some p => readsOnly p.op || pinned ops i k
 | none => true) ops.size
def laysOnly (op : Op) : Bool := match op with
 | .alloc _ => true
 | .box _ _ => true
 | .buildSlice _ _ _ => true
 | .makeSlice _ _ _ => true
 | _ => false
def looks (op : Op) : Bool := op.operands.toList.all notGlob && match op with
 | .load _ _ => true
 | .slice _ _ _ _ none => true
 | _ => false
def allPinL (ops : Array Oper) (i : Nat) : Bool := allTo (fun k => match ops[k]? with
 | some p => readsOnly p.op || pinned ops i k || (laysOnly p.op && Nat.blt i k)
 | none => true) ops.size
def frzX (ops : Array Oper) (i : Nat) : Option (TypeId × Nat) := match ops[i]? with
 | some o => match o.op with
  | .load t (.tmp x) => match allTo (fun k => Nat.blt k i || (match ops[k]? with
    | some p => !dstIs p x
    | none => true)) ops.size with
   | true => some (t, x)
   | false => none
  | _ => none
 | none => none
theorem frzX_inv {ops : Array Oper} {i : Nat} {t : TypeId} {x : Nat} (h : frzX ops i = some (t, x)) : ∃ o, ops[i]? = some o ∧ o.op = .load t (.tmp x) ∧ ∀ (k : Nat) p, i ≤ k → ops[k]? = some p → p.dst ≠ some x := by
 unfold frzX at h
 split at h
 ·
  rename_i o ho
  split at h
  ·
   rename_i t' x' hop
   split at h
   ·
    rename_i ha
    cases h
    refine ⟨o, ho, hop, fun k p hk hp hd => ?_⟩
    have hlt : k < ops.size := (Array.getElem?_eq_some_iff.1 hp).1
    have := allTo_spec ha k hlt
    rw [hp] at this
    simp only [Bool.or_eq_true, Nat.blt_eq, Bool.not_eq_true'] at this
    rcases this with h1 | h1
    · omega
    · rw [dstIs_eq.2 hd] at h1; cases h1
   · cases h
  · cases h
 · cases h
def drOrd (fz : List Nat) (ops : Array Oper) : Bool := allTo (fun i => match ops[i]? with
 | none => false
 | some o => match readsOnly o.op with
  | false => allTo (fun k => match ops[k]? with
   | some p => readsOnly p.op || ((masks ops).getD i 0).testBit k
   | none => true) i
  | true => allPin ops i || (hfree o.op && o.dst.isSome) || (looks o.op && allPinL ops i && o.dst.isSome) || (fz.any (Nat.beq i) && o.dst.isSome && (frzX ops i).isSome)) ops.size
def loose (ops : Array Oper) : List Nat := (List.range ops.size).filterMap fun i => match ops[i]? with
 | none => none
 | some o => match readsOnly o.op && !allPin ops i with
  | true => o.dst
  | false => none
end
end Go.Vai
