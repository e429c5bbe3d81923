/-
  What is proved here: what a plain interpreter of Go code comes to, in the text's order, in a region that leaves its order open, the machine comes to in whatever order it draws (part L). Condition: the interpreter's own looks at the region pass.
-/
import Derived.Test.YtiebldaihnbkmaaGreatDoorVK
set_option linter.unusedVariables false
set_option linter.unusedSimpArgs false
set_option linter.unusedVariables false
set_option linter.unusedSimpArgs false
namespace Go.Vai
noncomputable section
theorem aev_congr {h : Heap} {tm tm' : Tr Value} {x : Operand} (e : ∀ t, x = .tmp t → (tm.get t).getD undef = (tm'.get t).getD undef) : aev h tm x = aev h tm' x := by
 cases x with
 | tmp t => simp only [aev, e t rfl]
 | _ => rfl
theorem aevL_congr {h : Heap} {tm tm' : Tr Value} : ∀ {xs : List Operand}, (∀ x ∈ xs, aev h tm x = aev h tm' x) → aevL h tm xs = aevL h tm' xs := by
 intro xs
 induction xs with
 | nil => intro _; rfl
 | cons x xs ih => intro e; simp only [aevL, e x (by simp), ih fun y hy => e y (by simp [hy])]
theorem aevP_congr {h : Heap} {tm tm' : Tr Value} : ∀ {xs : List (Nat × Operand)}, (∀ x ∈ xs, aev h tm x.2 = aev h tm' x.2) → aevP h tm xs = aevP h tm' xs := by
 intro xs
 induction xs with
 | nil => intro _; rfl
 | cons x xs ih =>
  obtain ⟨i, x⟩ := x
  intro e
  simp only [aevP, e (i, x) (by simp), ih fun y hy => e y (by simp [hy])]
theorem aevO_congr {h : Heap} {tm tm' : Tr Value} {o : Option Operand} (e : ∀ x, o = some x → aev h tm x = aev h tm' x) : aevO h tm o = aevO h tm' o := by
 cases o with
 | none => rfl
 | some x => simp only [aevO, e x rfl]
theorem stepOp_congr {P : Program} {call : CallFn} {o : Oper} {tm tm' : Tr Value} {h : Heap} (e : ∀ x ∈ o.op.operands, aev h tm x = aev h tm' x) : stepOp P call o tm h = stepOp P call o tm' h := by
 obtain ⟨dst, op, ty, pos, after, guard⟩ := o
 cases op with
 | move x => simp only [stepOp, e x (by simp [Op.operands])]
 | assign x => simp only [stepOp, e x (by simp [Op.operands])]
 | pick c x y => simp only [stepOp, e c (by simp [Op.operands]), e x (by simp [Op.operands]), e y (by simp [Op.operands])]
 | box t x => simp only [stepOp, e x (by simp [Op.operands])]
 | build t ps => simp only [stepOp, aevP_congr (h := h) (tm := tm) (tm' := tm') (xs := ps.toList) fun x hx => e x.2 (by simp [Op.operands]; exact ⟨x.1, by simpa using hx⟩)]
 | buildSlice t n ps => simp only [stepOp, aevP_congr (h := h) (tm := tm) (tm' := tm') (xs := ps.toList) fun x hx => e x.2 (by simp [Op.operands]; exact ⟨x.1, by simpa using hx⟩)]
 | load t x => simp only [stepOp, e x (by simp [Op.operands])]
 | store t x y => simp only [stepOp, e x (by simp [Op.operands]), e y (by simp [Op.operands])]
 | nilCheck x => simp only [stepOp, e x (by simp [Op.operands])]
 | binOp op t x y yt => simp only [stepOp, e x (by simp [Op.operands]), e y (by simp [Op.operands])]
 | unOp op t x => simp only [stepOp, e x (by simp [Op.operands])]
 | convert s d x => simp only [stepOp, e x (by simp [Op.operands])]
 | makeInterface t x => simp only [stepOp, e x (by simp [Op.operands])]
 | makeFunc fn fi ca =>
  simp only [stepOp, aevL_congr (h := h) (tm := tm) (tm' := tm') (xs := fi.toList) fun x hx => e x (by simp [Op.operands]; exact .inl (by simpa using hx)),
   aevL_congr (h := h) (tm := tm) (tm' := tm') (xs := ca.toList) fun x hx => e x (by simp [Op.operands]; exact .inr (by simpa using hx))]
 | makeSlice t x y => simp only [stepOp, e x (by simp [Op.operands]), e y (by simp [Op.operands])]
 | slice t x lo hi mx =>
  simp only [stepOp, e x (by simp [Op.operands]), aevO_congr (h := h) (tm := tm) (tm' := tm') (o := lo) fun y hy => e y (by simp [Op.operands, hy]),
   aevO_congr (h := h) (tm := tm) (tm' := tm') (o := hi) fun y hy => e y (by simp [Op.operands, hy]), aevO_congr (h := h) (tm := tm) (tm' := tm') (o := mx) fun y hy => e y (by simp [Op.operands, hy])]
 | fieldAddr t x f => simp only [stepOp, e x (by simp [Op.operands])]
 | field t x f => simp only [stepOp, e x (by simp [Op.operands])]
 | indexAddr t x y => simp only [stepOp, e x (by simp [Op.operands]), e y (by simp [Op.operands])]
 | index t x y => simp only [stepOp, e x (by simp [Op.operands]), e y (by simp [Op.operands])]
 | range t x => simp only [stepOp, e x (by simp [Op.operands])]
 | next x b => simp only [stepOp, e x (by simp [Op.operands])]
 | extract x i => simp only [stepOp, e x (by simp [Op.operands])]
 | call c =>
  have hargs : aevL h tm c.args.toList = aevL h tm' c.args.toList := aevL_congr fun x hx => e x (by simp [Op.operands, Call.operands]; exact .inr (by simpa using hx))
  simp only [stepOp, hargs]
  cases hc : c.callee with
  | value f => simp only [e f (by simp [Op.operands, Call.operands, hc])]
  | builtin b => cases b <;> rfl
  | _ => rfl
 | _ => rfl
def readsOnly : Op → Bool
 | .move _ | .assign _ | .pick .. | .build .. | .load .. | .nilCheck _ | .binOp .. | .unOp .. | .makeInterface .. | .makeFunc .. | .slice .. | .fieldAddr .. | .field .. | .indexAddr .. | .index .. | .extract .. => true
 | .call ⟨.builtin .len, _, _⟩ => true
 | .call ⟨.builtin .cap, _, _⟩ => true
 | .call ⟨.builtin .min, _, _⟩ => true
 | .call ⟨.builtin .max, _, _⟩ => true
 | _ => false
theorem stepOp_reads {P : Program} {call : CallFn} {o : Oper} {tm : Tr Value} {h h' : Heap} {v : Value} (hr : readsOnly o.op = true) (e : stepOp P call o tm h = some (v, h')) : h' = h := by
 obtain ⟨dst, op, ty, pos, after, guard⟩ := o
 cases op <;> first | (cases hr; done) | skip
 all_goals simp only [stepOp] at e
 case call c =>
  obtain ⟨callee, args, ats⟩ := c
  simp only at e
  split at e
  · cases hr
  · cases hr
  · cases hr
  · split at e <;> first | exact (withH_inv e).2 | cases e
  · split at e <;> first | exact (withH_inv e).2 | cases e
  ·
   split at e
   · split at e <;> first | exact (withH_inv e).2 | cases e
   · cases e
  ·
   split at e
   · split at e <;> first | exact (withH_inv e).2 | cases e
   · cases e
  · cases hr
  · cases e
 all_goals first
  | exact (withH_inv e).2
  | (split at e <;> first | exact (withH_inv e).2 | (cases e; rfl) | cases e | (split at e <;> first | exact (withH_inv e).2 | (cases e; rfl) | cases e))
def maskOf (acc : List Nat) (o : Oper) : Nat := o.after.toList.foldl (fun s e => match Region.binds .any e with
 | true => s ||| 2 ^ e.on ||| acc.getD e.on 0
 | false => s) 0
def masksFrom (acc : List Nat) : List Oper → List Nat
 | [] => acc
 | o :: rest => masksFrom (acc ++ [maskOf acc o]) rest
def Down (ops : Array Oper) (S : Nat → Prop) : Prop := ∀ i o, ops[i]? = some o → S i → ∀ e ∈ o.after.toList, Region.binds .any e = true → S e.on
theorem foldl_mask {S : Nat → Prop} {acc : List Nat} (hacc : ∀ i, S i → ∀ j, (acc.getD i 0).testBit j = true → S j) : ∀ (es : List Edge) (s : Nat), (∀ j, s.testBit j = true → S j) → (∀ e ∈ es, Region.binds .any e = true → S e.on) →
  ∀ j, (es.foldl (fun s e => match Region.binds .any e with
   | true => s ||| 2 ^ e.on ||| acc.getD e.on 0
   | false => s) s).testBit j = true → S j := by
 intro es
 induction es with
 | nil => intro s hs _ j hj; exact hs j hj
 | cons e es ih =>
  intro s hs he j hj
  simp only [List.foldl_cons] at hj
  refine ih _ ?_ (fun x hx => he x (by simp [hx])) j hj
  intro k hk
  split at hk
  ·
   rename_i hb
   have hS := he e (by simp) hb
   simp only [Nat.testBit_or, Bool.or_eq_true] at hk
   rcases hk with (hk | hk) | hk
   · exact hs k hk
   ·
    rw [Nat.testBit_two_pow] at hk
    have : e.on = k := by simpa using hk
    subst this; exact hS
   · exact hacc _ hS k hk
  · exact hs k hk
theorem masks_spec {ops : Array Oper} {S : Nat → Prop} (D : Down ops S) : ∀ (rest : List Oper) (acc : List Nat), acc.length + rest.length = ops.size → (∀ k, rest[k]? = ops[acc.length + k]?) →
  (∀ i, S i → ∀ j, (acc.getD i 0).testBit j = true → S j) → ∀ i, S i → ∀ j, ((masksFrom acc rest).getD i 0).testBit j = true → S j := by
 intro rest
 induction rest with
 | nil => intro acc _ _ hacc i hi j hj; exact hacc i hi j hj
 | cons o rest ih =>
  intro acc hl hk hacc i hi j hj
  rw [masksFrom] at hj
  refine ih (acc ++ [maskOf acc o]) (by simp at hl ⊢; omega) (fun k => ?_) ?_ i hi j hj
  ·
   have := hk (k + 1)
   simp only [List.getElem?_cons_succ] at this
   rw [this]; congr 1; simp; omega
  ·
   intro i' hi' j' hj'
   by_cases h1 : i' < acc.length
   ·
    refine hacc i' hi' j' ?_
    rw [List.getD_eq_getElem?_getD, List.getElem?_append_left h1] at hj'
    rw [List.getD_eq_getElem?_getD]; exact hj'
   ·
    by_cases h2 : i' = acc.length
    ·
     subst h2
     have ho : ops[acc.length]? = some o := by have := hk 0; simpa using this.symm
     rw [List.getD_eq_getElem?_getD, List.getElem?_append_right (Nat.le_refl _)] at hj'
     simp only [Nat.sub_self, List.getElem?_cons_zero, Option.getD_some] at hj'
     exact foldl_mask hacc o.after.toList 0 (by simp) (D acc.length o ho hi') j' hj'
    ·
     rw [List.getD_eq_getElem?_getD, List.getElem?_eq_none (by simp; omega)] at hj'
     simp at hj'
def masks (ops : Array Oper) : List Nat := masksFrom [] ops.toList
theorem masks_down {ops : Array Oper} {S : Nat → Prop} (D : Down ops S) {i j : Nat} (hi : S i) (hj : ((masks ops).getD i 0).testBit j = true) : S j :=
 masks_spec D ops.toList [] (by simp) (fun k => by simp) (by simp) i hi j hj
structure Ent where
 st : St
 v : Value
 want : Bool
 mut_ : Bool
def pass (P : Program) (call : CallFn) (nt : Nat) (ops : Array Oper) : List Oper → St → Option (List Ent × St)
 | [], st => some ([], st)
 | o :: rest, st => match Region.wanted o (aYield ops st.tm) with
  | true => match stepOp P call o st.tm st.h with
   | some (v, h') => match pass P call nt ops rest ⟨aput nt st.tm o.dst v, h'⟩ with
    | some (es, fin) => some (⟨st, v, true, !readsOnly o.op⟩ :: es, fin)
    | none => none
   | none => none
  | false => match pass P call nt ops rest ⟨aput nt st.tm o.dst undef, st.h⟩ with
   | some (es, fin) => some (⟨st, undef, false, false⟩ :: es, fin)
   | none => none
def passQ (P : Program) (call : CallFn) (nt : Nat) (ops : Array Oper) (l : List Oper) : St → Option (List Ent × St) :=
 List.rec (motive := fun _ => St → Option (List Ent × St)) (fun st => some ([], st))
  (fun o _ ih st => Bool.rec (motive := fun _ => Option (List Ent × St))
   (Option.rec (motive := fun _ => Option (List Ent × St)) none (fun r => some (⟨st, undef, false, false⟩ :: r.1, r.2)) (ih ⟨aputQ nt st.tm o.dst undef, st.h⟩))
   (Option.rec (motive := fun _ => Option (List Ent × St)) none (fun q => Option.rec (motive := fun _ => Option (List Ent × St)) none (fun r => some (⟨st, q.1, true, !readsOnly o.op⟩ :: r.1, r.2)) (ih ⟨aputQ nt st.tm o.dst q.1, q.2⟩)) (stepQ P call o st.tm st.h))
   (wantedQ o (aYield ops st.tm))) l
theorem passQ_eq (P : Program) (call : CallFn) (nt : Nat) (ops : Array Oper) : ∀ (l : List Oper) (st : St), passQ P call nt ops l st = pass P call nt ops l st := by
 intro l
 induction l with
 | nil => intro st; rfl
 | cons o l ih =>
  intro st
  show (Bool.rec (motive := fun _ => Option (List Ent × St))
   (Option.rec (motive := fun _ => Option (List Ent × St)) none (fun r => some (⟨st, undef, false, false⟩ :: r.1, r.2)) (passQ P call nt ops l ⟨aputQ nt st.tm o.dst undef, st.h⟩))
   (Option.rec (motive := fun _ => Option (List Ent × St)) none (fun q => Option.rec (motive := fun _ => Option (List Ent × St)) none (fun r => some (⟨st, q.1, true, !readsOnly o.op⟩ :: r.1, r.2)) (passQ P call nt ops l ⟨aputQ nt st.tm o.dst q.1, q.2⟩)) (stepQ P call o st.tm st.h))
   (wantedQ o (aYield ops st.tm)) : Option (List Ent × St)) = _
  simp only [pass, ih, aputQ_eq, stepQ_eq, wantedQ_eq]
  cases Region.wanted o (aYield ops st.tm) with
  | false =>
   simp only
   cases pass P call nt ops l ⟨aput nt st.tm o.dst undef, st.h⟩ <;> rfl
  | true =>
   simp only
   cases stepOp P call o st.tm st.h with
   | none => rfl
   | some q =>
    simp only
    cases pass P call nt ops l ⟨aput nt st.tm o.dst q.1, q.2⟩ <;> rfl
def heaps : List Ent → St → List Heap
 | [], fin => [fin.h]
 | e :: es, fin => match e.mut_ with
  | true => e.st.h :: heaps es fin
  | false => heaps es fin
def cnt : List Ent → Nat → Nat
 | _, 0 => 0
 | [], _ + 1 => 0
 | e :: es, i + 1 => (match e.mut_ with | true => 1 | false => 0) + cnt es i
section
variable {P : Program} {call : CallFn} {nt : Nat} {ops : Array Oper}
theorem pass_length : ∀ (l : List Oper) (st : St) (es : List Ent) (fin : St), pass P call nt ops l st = some (es, fin) → es.length = l.length := by
 intro l
 induction l with
 | nil => intro st es fin h; simp only [pass, Option.some.injEq, Prod.mk.injEq] at h; obtain ⟨rfl, rfl⟩ := h; rfl
 | cons o l ih =>
  intro st es fin h
  simp only [pass] at h
  split at h
  ·
   split at h
   ·
    split at h
    · rename_i es' fin' he; cases h; simp [ih _ _ _ he]
    · cases h
   · cases h
  ·
   split at h
   · rename_i es' fin' he; cases h; simp [ih _ _ _ he]
   · cases h
theorem pass_heads : ∀ (l : List Oper) (st : St) (es : List Ent) (fin : St), pass P call nt ops l st = some (es, fin) → (heaps es fin)[0]? = some st.h := by
 intro l
 induction l with
 | nil => intro st es fin h; simp only [pass, Option.some.injEq, Prod.mk.injEq] at h; obtain ⟨rfl, rfl⟩ := h; rfl
 | cons o l ih =>
  intro st es fin h
  simp only [pass] at h
  split at h
  ·
   split at h
   ·
    rename_i v h' hs
    split at h
    ·
     rename_i es' fin' he
     cases h
     simp only [heaps]
     cases hr : readsOnly o.op with
     | false => rfl
     | true => simp only [Bool.not_true]; rw [ih _ _ _ he, stepOp_reads hr hs]
    · cases h
   · cases h
  ·
   split at h
   · rename_i es' fin' he; cases h; simp only [heaps]; have hx := ih _ _ _ he; exact hx
   · cases h
theorem pass_at : ∀ (l : List Oper) (st : St) (es : List Ent) (fin : St), pass P call nt ops l st = some (es, fin) → ∀ i o, l[i]? = some o → ∃ en, es[i]? = some en ∧ (heaps es fin)[cnt es i]? = some en.st.h ∧
  en.want = Region.wanted o (aYield ops en.st.tm) ∧ en.mut_ = (en.want && !readsOnly o.op) ∧ (en.want = false → en.v = undef) ∧
  (en.want = true → ∃ h', stepOp P call o en.st.tm en.st.h = some (en.v, h') ∧ (heaps es fin)[cnt es i + (match en.mut_ with | true => 1 | false => 0)]? = some h') := by
 intro l
 induction l with
 | nil => intro st es fin h i o ho; simp at ho
 | cons o l ih =>
  intro st es fin h i oi ho
  simp only [pass] at h
  split at h
  ·
   rename_i hw
   split at h
   ·
    rename_i v h' hs
    split at h
    ·
     rename_i es' fin' he
     cases h
     cases i with
     | zero =>
      simp only [List.getElem?_cons_zero, Option.some.injEq] at ho
      subst ho
      refine ⟨_, rfl, ?_, hw.symm, by simp, by simp, fun _ => ⟨h', hs, ?_⟩⟩
      ·
       simp only [cnt, heaps]
       cases hr : readsOnly o.op with
       | false => rfl
       | true => simp only [Bool.not_true]; rw [pass_heads _ _ _ _ he, stepOp_reads hr hs]
      ·
       simp only [cnt, heaps]
       cases hr : readsOnly o.op with
       | false => simp only [Bool.not_false]; exact pass_heads _ _ _ _ he
       | true => simp only [Bool.not_true]; exact pass_heads _ _ _ _ he
     | succ i =>
      simp only [List.getElem?_cons_succ] at ho
      obtain ⟨en, q1, q2, q3, q4, q5, q6⟩ := ih _ _ _ he i oi ho
      refine ⟨en, by simpa using q1, ?_, q3, q4, q5, fun hx => ?_⟩
      ·
       simp only [cnt, heaps]
       cases hr : readsOnly o.op with
       | false => simp only [Bool.not_false]; rw [Nat.add_comm, List.getElem?_cons_succ]; exact q2
       | true => simp only [Bool.not_true, Nat.zero_add]; exact q2
      ·
       obtain ⟨h2, p1, p2⟩ := q6 hx
       refine ⟨h2, p1, ?_⟩
       simp only [cnt, heaps]
       cases hr : readsOnly o.op with
       | false => simp only [Bool.not_false]; rw [Nat.add_comm 1, Nat.add_right_comm, List.getElem?_cons_succ]; exact p2
       | true => simp only [Bool.not_true, Nat.zero_add]; exact p2
    · cases h
   · cases h
  ·
   rename_i hw
   split at h
   ·
    rename_i es' fin' he
    cases h
    cases i with
    | zero =>
     simp only [List.getElem?_cons_zero, Option.some.injEq] at ho
     subst ho
     exact ⟨_, rfl, by simp only [cnt, heaps]; have hx := pass_heads _ _ _ _ he; exact hx, hw.symm, by simp, by simp, by simp⟩
    | succ i =>
     simp only [List.getElem?_cons_succ] at ho
     obtain ⟨en, q1, q2, q3, q4, q5, q6⟩ := ih _ _ _ he i oi ho
     refine ⟨en, by simpa using q1, ?_, q3, q4, q5, fun hx => ?_⟩
     · simp only [cnt, heaps, Nat.zero_add]; exact q2
     · simp only [cnt, heaps, Nat.zero_add]; exact q6 hx
   · cases h
end
end
end Go.Vai
