/-
  What is proved here: what a plain interpreter of Go code comes to, in the text's order, in a region that leaves its order open, the machine comes to in whatever order it draws (part L). Condition: the interpreter's own looks at the region pass. a region that leaves its order open, if the plain interpreter's looks at it pass: whatever order the machine draws, it comes to what the text's order comes to (part M). Condition: the program follows mixed orders. the plain interpreter of Go code is sound: what it comes to in a call, the machine comes to, in whatever order it draws (part N). Condition: the program follows mixed orders. No conditions but those that the theorems state.
-/
import Derived.Test.YtfcadnhoejlgoaaGreatDoorVJ
set_option linter.unusedVariables false
set_option linter.unusedSimpArgs false
namespace Go.Vai
noncomputable section
theorem aev_congr {h : Heap} {tm tm' : Tr Value} {x : Operand} (e : ∀ t, x = .tmp t → (tm.get t).getD undef = (tm'.get t).getD undef) : aev h tm x = aev h tm' x := by
 cases x with
 | tmp t => simp only [aev, e t rfl]
 | _ => rfl
theorem aevL_congr {h : Heap} {tm tm' : Tr Value} : ∀ {xs : List Operand}, (∀ x ∈ xs, aev h tm x = aev h tm' x) → aevL h tm xs = aevL h tm' xs := by
 intro xs
 induction xs with
 | nil => intro _; rfl
 | cons x xs ih => intro e; simp only [aevL, e x (by simp), ih fun y hy => e y (by simp [hy])]
theorem aevP_congr {h : Heap} {tm tm' : Tr Value} : ∀ {xs : List (Nat × Operand)}, (∀ x ∈ xs, aev h tm x.2 = aev h tm' x.2) → aevP h tm xs = aevP h tm' xs := by
 intro xs
 induction xs with
 | nil => intro _; rfl
 | cons x xs ih =>
  obtain ⟨i, x⟩ := x
  intro e
  simp only [aevP, e (i, x) (by simp), ih fun y hy => e y (by simp [hy])]
theorem aevO_congr {h : Heap} {tm tm' : Tr Value} {o : Option Operand} (e : ∀ x, o = some x → aev h tm x = aev h tm' x) : aevO h tm o = aevO h tm' o := by
 cases o with
 | none => rfl
 | some x => simp only [aevO, e x rfl]
theorem stepOp_congr {P : Program} {call : CallFn} {o : Oper} {tm tm' : Tr Value} {h : Heap} (e : ∀ x ∈ o.op.operands, aev h tm x = aev h tm' x) : stepOp P call o tm h = stepOp P call o tm' h := by
 obtain ⟨dst, op, ty, pos, after, guard⟩ := o
 cases op with
 | move x => simp only [stepOp, e x (by simp [Op.operands])]
 | assign x => simp only [stepOp, e x (by simp [Op.operands])]
 | pick c x y => simp only [stepOp, e c (by simp [Op.operands]), e x (by simp [Op.operands]), e y (by simp [Op.operands])]
 | box t x => simp only [stepOp, e x (by simp [Op.operands])]
 | build t ps => simp only [stepOp, aevP_congr (h := h) (tm := tm) (tm' := tm') (xs := ps.toList) fun x hx => e x.2 (by simp [Op.operands]; exact ⟨x.1, by simpa using hx⟩)]
 | buildSlice t n ps => simp only [stepOp, aevP_congr (h := h) (tm := tm) (tm' := tm') (xs := ps.toList) fun x hx => e x.2 (by simp [Op.operands]; exact ⟨x.1, by simpa using hx⟩)]
 | load t x => simp only [stepOp, e x (by simp [Op.operands])]
 | store t x y => simp only [stepOp, e x (by simp [Op.operands]), e y (by simp [Op.operands])]
 | nilCheck x => simp only [stepOp, e x (by simp [Op.operands])]
 | binOp op t x y yt => simp only [stepOp, e x (by simp [Op.operands]), e y (by simp [Op.operands])]
 | unOp op t x => simp only [stepOp, e x (by simp [Op.operands])]
 | convert s d x => simp only [stepOp, e x (by simp [Op.operands])]
 | makeInterface t x => simp only [stepOp, e x (by simp [Op.operands])]
 | makeFunc fn fi ca =>
  simp only [stepOp, aevL_congr (h := h) (tm := tm) (tm' := tm') (xs := fi.toList) fun x hx => e x (by simp [Op.operands]; exact .inl (by simpa using hx)),
   aevL_congr (h := h) (tm := tm) (tm' := tm') (xs := ca.toList) fun x hx => e x (by simp [Op.operands]; exact .inr (by simpa using hx))]
 | makeSlice t x y => simp only [stepOp, e x (by simp [Op.operands]), e y (by simp [Op.operands])]
 | slice t x lo hi mx =>
  simp only [stepOp, e x (by simp [Op.operands]), aevO_congr (h := h) (tm := tm) (tm' := tm') (o := lo) fun y hy => e y (by simp [Op.operands, hy]),
   aevO_congr (h := h) (tm := tm) (tm' := tm') (o := hi) fun y hy => e y (by simp [Op.operands, hy]), aevO_congr (h := h) (tm := tm) (tm' := tm') (o := mx) fun y hy => e y (by simp [Op.operands, hy])]
 | fieldAddr t x f => simp only [stepOp, e x (by simp [Op.operands])]
 | field t x f => simp only [stepOp, e x (by simp [Op.operands])]
 | indexAddr t x y => simp only [stepOp, e x (by simp [Op.operands]), e y (by simp [Op.operands])]
 | index t x y => simp only [stepOp, e x (by simp [Op.operands]), e y (by simp [Op.operands])]
 | range t x => simp only [stepOp, e x (by simp [Op.operands])]
 | next x b => simp only [stepOp, e x (by simp [Op.operands])]
 | extract x i => simp only [stepOp, e x (by simp [Op.operands])]
 | call c =>
  have hargs : aevL h tm c.args.toList = aevL h tm' c.args.toList := aevL_congr fun x hx => e x (by simp [Op.operands, Call.operands]; exact .inr (by simpa using hx))
  simp only [stepOp, hargs]
  cases hc : c.callee with
  | value f => simp only [e f (by simp [Op.operands, Call.operands, hc])]
  | builtin b => cases b <;> rfl
  | _ => rfl
 | _ => rfl
def readsOnly : Op → Bool
 | .move _ | .assign _ | .pick .. | .build .. | .load .. | .nilCheck _ | .binOp .. | .unOp .. | .makeInterface .. | .makeFunc .. | .slice .. | .fieldAddr .. | .field .. | .indexAddr .. | .index .. | .extract .. => true
 | .call ⟨.builtin .len, _, _⟩ => true
 | .call ⟨.builtin .cap, _, _⟩ => true
 | .call ⟨.builtin .min, _, _⟩ => true
 | .call ⟨.builtin .max, _, _⟩ => true
 | _ => false
theorem stepOp_reads {P : Program} {call : CallFn} {o : Oper} {tm : Tr Value} {h h' : Heap} {v : Value} (hr : readsOnly o.op = true) (e : stepOp P call o tm h = some (v, h')) : h' = h := by
 obtain ⟨dst, op, ty, pos, after, guard⟩ := o
 cases op <;> first | (cases hr; done) | skip
 all_goals simp only [stepOp] at e
 case call c =>
  obtain ⟨callee, args, ats⟩ := c
  simp only at e
  split at e
  · cases hr
  · cases hr
  · cases hr
  · split at e <;> first | exact (withH_inv e).2 | cases e
  · split at e <;> first | exact (withH_inv e).2 | cases e
  ·
   split at e
   · split at e <;> first | exact (withH_inv e).2 | cases e
   · cases e
  ·
   split at e
   · split at e <;> first | exact (withH_inv e).2 | cases e
   · cases e
  · cases hr
  · cases e
 all_goals first
  | exact (withH_inv e).2
  | (split at e <;> first | exact (withH_inv e).2 | (cases e; rfl) | cases e | (split at e <;> first | exact (withH_inv e).2 | (cases e; rfl) | cases e))
def maskOf (acc : List Nat) (o : Oper) : Nat := o.after.toList.foldl (fun s e => match Region.binds .any e with
 | true => s ||| 2 ^ e.on ||| acc.getD e.on 0
 | false => s) 0
def masksFrom (acc : List Nat) : List Oper → List Nat
 | [] => acc
 | o :: rest => masksFrom (acc ++ [maskOf acc o]) rest
def Down (ops : Array Oper) (S : Nat → Prop) : Prop := ∀ i o, ops[i]? = some o → S i → ∀ e ∈ o.after.toList, Region.binds .any e = true → S e.on
theorem foldl_mask {S : Nat → Prop} {acc : List Nat} (hacc : ∀ i, S i → ∀ j, (acc.getD i 0).testBit j = true → S j) : ∀ (es : List Edge) (s : Nat), (∀ j, s.testBit j = true → S j) → (∀ e ∈ es, Region.binds .any e = true → S e.on) →
  ∀ j, (es.foldl (fun s e => match Region.binds .any e with
   | true => s ||| 2 ^ e.on ||| acc.getD e.on 0
   | false => s) s).testBit j = true → S j := by
 intro es
 induction es with
 | nil => intro s hs _ j hj; exact hs j hj
 | cons e es ih =>
  intro s hs he j hj
  simp only [List.foldl_cons] at hj
  refine ih _ ?_ (fun x hx => he x (by simp [hx])) j hj
  intro k hk
  split at hk
  ·
   rename_i hb
   have hS := he e (by simp) hb
   simp only [Nat.testBit_or, Bool.or_eq_true] at hk
   rcases hk with (hk | hk) | hk
   · exact hs k hk
   ·
    rw [Nat.testBit_two_pow] at hk
    have : e.on = k := by simpa using hk
    subst this; exact hS
   · exact hacc _ hS k hk
  · exact hs k hk
theorem masks_spec {ops : Array Oper} {S : Nat → Prop} (D : Down ops S) : ∀ (rest : List Oper) (acc : List Nat), acc.length + rest.length = ops.size → (∀ k, rest[k]? = ops[acc.length + k]?) →
  (∀ i, S i → ∀ j, (acc.getD i 0).testBit j = true → S j) → ∀ i, S i → ∀ j, ((masksFrom acc rest).getD i 0).testBit j = true → S j := by
 intro rest
 induction rest with
 | nil => intro acc _ _ hacc i hi j hj; exact hacc i hi j hj
 | cons o rest ih =>
  intro acc hl hk hacc i hi j hj
  rw [masksFrom] at hj
  refine ih (acc ++ [maskOf acc o]) (by simp at hl ⊢; omega) (fun k => ?_) ?_ i hi j hj
  ·
   have := hk (k + 1)
   simp only [List.getElem?_cons_succ] at this
   rw [this]; congr 1; simp; omega
  ·
   intro i' hi' j' hj'
   by_cases h1 : i' < acc.length
   ·
    refine hacc i' hi' j' ?_
    rw [List.getD_eq_getElem?_getD, List.getElem?_append_left h1] at hj'
    rw [List.getD_eq_getElem?_getD]; exact hj'
   ·
    by_cases h2 : i' = acc.length
    ·
     subst h2
     have ho : ops[acc.length]? = some o := by have := hk 0; simpa using this.symm
     rw [List.getD_eq_getElem?_getD, List.getElem?_append_right (Nat.le_refl _)] at hj'
     simp only [Nat.sub_self, List.getElem?_cons_zero, Option.getD_some] at hj'
     exact foldl_mask hacc o.after.toList 0 (by simp) (D acc.length o ho hi') j' hj'
    ·
     rw [List.getD_eq_getElem?_getD, List.getElem?_eq_none (by simp; omega)] at hj'
     simp at hj'
def masks (ops : Array Oper) : List Nat := masksFrom [] ops.toList
theorem masks_down {ops : Array Oper} {S : Nat → Prop} (D : Down ops S) {i j : Nat} (hi : S i) (hj : ((masks ops).getD i 0).testBit j = true) : S j :=
 masks_spec D ops.toList [] (by simp) (fun k => by simp) (by simp) i hi j hj
structure Ent where
 st : St
 v : Value
 want : Bool
 mut_ : Bool
def pass (P : Program) (call : CallFn) (nt : Nat) (ops : Array Oper) : List Oper → St → Option (List Ent × St)
 | [], st => some ([], st)
 | o :: rest, st => match Region.wanted o (aYield ops st.tm) with
  | true => match stepOp P call o st.tm st.h with
   | some (v, h') => match pass P call nt ops rest ⟨aput nt st.tm o.dst v, h'⟩ with
    | some (es, fin) => some (⟨st, v, true, !readsOnly o.op⟩ :: es, fin)
    | none => none
   | none => none
  | false => match pass P call nt ops rest ⟨aput nt st.tm o.dst undef, st.h⟩ with
   | some (es, fin) => some (⟨st, undef, false, false⟩ :: es, fin)
   | none => none
def passQ (P : Program) (call : CallFn) (nt : Nat) (ops : Array Oper) (l : List Oper) : St → Option (List Ent × St) :=
 List.rec (motive := fun _ => St → Option (List Ent × St)) (fun st => some ([], st))
  (fun o _ ih st => Bool.rec (motive := fun _ => Option (List Ent × St))
   (Option.rec (motive := fun _ => Option (List Ent × St)) none (fun r => some (⟨st, undef, false, false⟩ :: r.1, r.2)) (ih ⟨aputQ nt st.tm o.dst undef, st.h⟩))
   (Option.rec (motive := fun _ => Option (List Ent × St)) none (fun q => Option.rec (motive := fun _ => Option (List Ent × St)) none (fun r => some (⟨st, q.1, true, !readsOnly o.op⟩ :: r.1, r.2)) (ih ⟨aputQ nt st.tm o.dst q.1, q.2⟩)) (stepQ P call o st.tm st.h))
   (wantedQ o (aYield ops st.tm))) l
theorem passQ_eq (P : Program) (call : CallFn) (nt : Nat) (ops : Array Oper) : ∀ (l : List Oper) (st : St), passQ P call nt ops l st = pass P call nt ops l st := by
 intro l
 induction l with
 | nil => intro st; rfl
 | cons o l ih =>
  intro st
  show (Bool.rec (motive := fun _ => Option (List Ent × St))
   (Option.rec (motive := fun _ => Option (List Ent × St)) none (fun r => some (⟨st, undef, false, false⟩ :: r.1, r.2)) (passQ P call nt ops l ⟨aputQ nt st.tm o.dst undef, st.h⟩))
   (Option.rec (motive := fun _ => Option (List Ent × St)) none (fun q => Option.rec (motive := fun _ => Option (List Ent × St)) none (fun r => some (⟨st, q.1, true, !readsOnly o.op⟩ :: r.1, r.2)) (passQ P call nt ops l ⟨aputQ nt st.tm o.dst q.1, q.2⟩)) (stepQ P call o st.tm st.h))
   (wantedQ o (aYield ops st.tm)) : Option (List Ent × St)) = _
  simp only [pass, ih, aputQ_eq, stepQ_eq, wantedQ_eq]
  cases Region.wanted o (aYield ops st.tm) with
  | false =>
   simp only
   cases pass P call nt ops l ⟨aput nt st.tm o.dst undef, st.h⟩ <;> rfl
  | true =>
   simp only
   cases stepOp P call o st.tm st.h with
   | none => rfl
   | some q =>
    simp only
    cases pass P call nt ops l ⟨aput nt st.tm o.dst q.1, q.2⟩ <;> rfl
def heaps : List Ent → St → List Heap
 | [], fin => [fin.h]
 | e :: es, fin => match e.mut_ with
  | true => e.st.h :: heaps es fin
  | false => heaps es fin
def cnt : List Ent → Nat → Nat
 | _, 0 => 0
 | [], _ + 1 => 0
 | e :: es, i + 1 => (match e.mut_ with | true => 1 | false => 0) + cnt es i
section
variable {P : Program} {call : CallFn} {nt : Nat} {ops : Array Oper}
theorem pass_length : ∀ (l : List Oper) (st : St) (es : List Ent) (fin : St), pass P call nt ops l st = some (es, fin) → es.length = l.length := by
 intro l
 induction l with
 | nil => intro st es fin h; simp only [pass, Option.some.injEq, Prod.mk.injEq] at h; obtain ⟨rfl, rfl⟩ := h; rfl
 | cons o l ih =>
  intro st es fin h
  simp only [pass] at h
  split at h
  ·
   split at h
   ·
    split at h
    · rename_i es' fin' he; cases h; simp [ih _ _ _ he]
    · cases h
   · cases h
  ·
   split at h
   · rename_i es' fin' he; cases h; simp [ih _ _ _ he]
   · cases h
theorem pass_heads : ∀ (l : List Oper) (st : St) (es : List Ent) (fin : St), pass P call nt ops l st = some (es, fin) → (heaps es fin)[0]? = some st.h := by
 intro l
 induction l with
 | nil => intro st es fin h; simp only [pass, Option.some.injEq, Prod.mk.injEq] at h; obtain ⟨rfl, rfl⟩ := h; rfl
 | cons o l ih =>
  intro st es fin h
  simp only [pass] at h
  split at h
  ·
   split at h
   ·
    rename_i v h' hs
    split at h
    ·
     rename_i es' fin' he
     cases h
     simp only [heaps]
     cases hr : readsOnly o.op with
     | false => rfl
     | true => simp only [Bool.not_true]; rw [ih _ _ _ he, stepOp_reads hr hs]
    · cases h
   · cases h
  ·
   split at h
   · rename_i es' fin' he; cases h; simp only [heaps]; have hx := ih _ _ _ he; exact hx
   · cases h
theorem pass_at : ∀ (l : List Oper) (st : St) (es : List Ent) (fin : St), pass P call nt ops l st = some (es, fin) → ∀ i o, l[i]? = some o → ∃ en, es[i]? = some en ∧ (heaps es fin)[cnt es i]? = some en.st.h ∧
  en.want = Region.wanted o (aYield ops en.st.tm) ∧ en.mut_ = (en.want && !readsOnly o.op) ∧ (en.want = false → en.v = undef) ∧
  (en.want = true → ∃ h', stepOp P call o en.st.tm en.st.h = some (en.v, h') ∧ (heaps es fin)[cnt es i + (match en.mut_ with | true => 1 | false => 0)]? = some h') := by
 intro l
 induction l with
 | nil => intro st es fin h i o ho; simp at ho
 | cons o l ih =>
  intro st es fin h i oi ho
  simp only [pass] at h
  split at h
  ·
   rename_i hw
   split at h
   ·
    rename_i v h' hs
    split at h
    ·
     rename_i es' fin' he
     cases h
     cases i with
     | zero =>
      simp only [List.getElem?_cons_zero, Option.some.injEq] at ho
      subst ho
      refine ⟨_, rfl, ?_, hw.symm, by simp, by simp, fun _ => ⟨h', hs, ?_⟩⟩
      ·
       simp only [cnt, heaps]
       cases hr : readsOnly o.op with
       | false => rfl
       | true => simp only [Bool.not_true]; rw [pass_heads _ _ _ _ he, stepOp_reads hr hs]
      ·
       simp only [cnt, heaps]
       cases hr : readsOnly o.op with
       | false => simp only [Bool.not_false]; exact pass_heads _ _ _ _ he
       | true => simp only [Bool.not_true]; exact pass_heads _ _ _ _ he
     | succ i =>
      simp only [List.getElem?_cons_succ] at ho
      obtain ⟨en, q1, q2, q3, q4, q5, q6⟩ := ih _ _ _ he i oi ho
      refine ⟨en, by simpa using q1, ?_, q3, q4, q5, fun hx => ?_⟩
      ·
       simp only [cnt, heaps]
       cases hr : readsOnly o.op with
       | false => simp only [Bool.not_false]; rw [Nat.add_comm, List.getElem?_cons_succ]; exact q2
       | true => simp only [Bool.not_true, Nat.zero_add]; exact q2
      ·
       obtain ⟨h2, p1, p2⟩ := q6 hx
       refine ⟨h2, p1, ?_⟩
       simp only [cnt, heaps]
       cases hr : readsOnly o.op with
       | false => simp only [Bool.not_false]; rw [Nat.add_comm 1, Nat.add_right_comm, List.getElem?_cons_succ]; exact p2
       | true => simp only [Bool.not_true, Nat.zero_add]; exact p2
    · cases h
   · cases h
  ·
   rename_i hw
   split at h
   ·
    rename_i es' fin' he
    cases h
    cases i with
    | zero =>
     simp only [List.getElem?_cons_zero, Option.some.injEq] at ho
     subst ho
     exact ⟨_, rfl, by simp only [cnt, heaps]; have hx := pass_heads _ _ _ _ he; exact hx, hw.symm, by simp, by simp, by simp⟩
    | succ i =>
     simp only [List.getElem?_cons_succ] at ho
     obtain ⟨en, q1, q2, q3, q4, q5, q6⟩ := ih _ _ _ he i oi ho
     refine ⟨en, by simpa using q1, ?_, q3, q4, q5, fun hx => ?_⟩
     · simp only [cnt, heaps, Nat.zero_add]; exact q2
     · simp only [cnt, heaps, Nat.zero_add]; exact q6 hx
   · cases h
end
end
end Go.Vai
namespace Go.Vai
noncomputable section
def leafEq : Value → Value → Bool
  | .bool a, .bool b => match a, b with
    | true, true => true
    | false, false => true
    | _, _ => false
  | .int k n, .int k' n' => decide (k = k') && decide (n = n')
  | .string a, .string b => decide (a.data.toList = b.data.toList)
  | .pointer none, .pointer none => true
  | .pointer (some ⟨b, i, none⟩), .pointer (some ⟨b', i', none⟩) => Nat.beq b b' && Nat.beq i i'
  | .slice none 0 0, .slice none 0 0 => true
  | .slice (some ⟨b, i, none⟩) n c, .slice (some ⟨b', i', none⟩) n' c' => Nat.beq b b' && Nat.beq i i' && Nat.beq n n' && Nat.beq c c'
  | .nilIface, .nilIface => true
  | .nilFunc, .nilFunc => true
  | _, _ => false
theorem leafEq_eq {a b : Value} (h : leafEq a b = true) : a = b := by
  unfold leafEq at h
  split at h
  · split at h <;> first | rfl | cases h
  · simp only [Bool.and_eq_true, decide_eq_true_eq] at h; rw [h.1, h.2]
  · rename_i a b
    simp only [decide_eq_true_eq] at h
    have : a = b := by
      cases a; cases b
      simp only at h
      congr 1
      exact Array.toList_inj.1 h
    rw [this]
  · rfl
  · simp only [Bool.and_eq_true, Nat.beq_eq] at h; rw [h.1, h.2]
  · rfl
  · simp only [Bool.and_eq_true, Nat.beq_eq] at h; rw [h.1.1.1, h.1.1.2, h.1.2, h.2]
  · rfl
  · rfl
  · cases h
def listEq : List Value → List Value → Bool
  | [], [] => true
  | a :: l, b :: m => leafEq a b && listEq l m
  | _, _ => false
theorem listEq_eq : ∀ {l m : List Value}, listEq l m = true → l = m := by
  intro l
  induction l with
  | nil => intro m h; cases m with
    | nil => rfl
    | cons b m => cases h
  | cons a l ih => intro m h; cases m with
    | nil => cases h
    | cons b m =>
      simp only [listEq, Bool.and_eq_true] at h
      rw [leafEq_eq h.1, ih h.2]
def veq : Value → Value → Bool
  | .agg cs, .agg cs' => listEq cs.toList cs'.toList
  | .tuple cs, .tuple cs' => listEq cs.toList cs'.toList
  | a, b => leafEq a b
theorem veq_eq {a b : Value} (h : veq a b = true) : a = b := by
  unfold veq at h
  split at h
  · rw [Array.toList_inj.1 (listEq_eq h)]
  · rw [Array.toList_inj.1 (listEq_eq h)]
  · exact leafEq_eq h
def allTo (f : Nat → Bool) : Nat → Bool
  | 0 => true
  | n + 1 => match f n with
    | true => allTo f n
    | false => false
theorem allTo_spec {f : Nat → Bool} : ∀ {n : Nat}, allTo f n = true → ∀ i, i < n → f i = true := by
  intro n
  induction n with
  | zero => intro _ i hi; omega
  | succ n ih =>
    intro h i hi
    simp only [allTo] at h
    split at h
    · rename_i hn
      by_cases e : i = n
      · subst e; exact hn
      · exact ih h i (by omega)
    · cases h
def dstIs (o : Oper) (t : Nat) : Bool := match o.dst with
  | some d => Nat.beq d t
  | none => false
theorem dstIs_eq {o : Oper} {t : Nat} : dstIs o t = true ↔ o.dst = some t := by
  unfold dstIs
  split
  · rename_i d hd; rw [hd]; simp
  · rename_i hd; rw [hd]; simp
def drStatic (ops : Array Oper) : Bool :=
  allTo (fun i => match ops[i]? with
    | none => false
    | some o => (match o.dst with
        | some d => allTo (fun k => match ops[k]? with
          | some p => !dstIs p d
          | none => true) i
        | none => true) &&
      o.after.toList.all (fun e => !Region.binds .any e || Nat.blt e.on i) &&
      (o.looksAt ops).all fun t => allTo (fun k => match ops[k]? with
        | some p => match dstIs p t with
          | true => match Nat.blt k i with
            | true => ((masks ops).getD i 0).testBit k
            | false => match Nat.beq k i with
              | true => true
              | false => ((masks ops).getD k 0).testBit i
          | false => true
        | none => true) ops.size) ops.size
def mutAt (es : List Ent) (i : Nat) : Bool := match es[i]? with
  | some e => e.mut_
  | none => false
def drDyn (P : Program) (call : CallFn) (ops : Array Oper) (es : List Ent) (fin : St) : Bool :=
  match es.any (·.mut_) with
  | false => true
  | true =>
    allTo (fun i => match es[i]?, ops[i]? with
      | some e, some o => match e.mut_ with
        | true => allTo (fun k => !mutAt es k || ((masks ops).getD i 0).testBit k) i
        | false => match e.want with
          | false => true
          | true => allTo (fun j => Nat.beq j (cnt es i) ||
              !allTo (fun k => !mutAt es k || ((!((masks ops).getD i 0).testBit k || Nat.blt (cnt es k) j) && (!((masks ops).getD k 0).testBit i || Nat.ble j (cnt es k)))) ops.size ||
              (match (heaps es fin)[j]? with
                | some h => match stepOp P call o e.st.tm h with
                  | some (v, _) => veq v e.v
                  | none => false
                | none => true)) ((heaps es fin).length)
      | _, _ => false) ops.size
def drDynR (P : Program) (call : CallFn) (ops : Array Oper) (es : List Ent) (fin : St) : Bool :=
  match es.any (·.mut_) with
  | false => true
  | true =>
    allTo (fun i => match es[i]?, ops[i]? with
      | some e, some o => match e.mut_ with
        | true => true
        | false => match e.want with
          | false => true
          | true => allTo (fun j => Nat.beq j (cnt es i) ||
              !allTo (fun k => !mutAt es k || ((!((masks ops).getD i 0).testBit k || Nat.blt (cnt es k) j) && (!((masks ops).getD k 0).testBit i || Nat.ble j (cnt es k)))) ops.size ||
              (match (heaps es fin)[j]? with
                | some h => match stepOp P call o e.st.tm h with
                  | some (v, _) => veq v e.v
                  | none => false
                | none => true)) ((heaps es fin).length)
      | _, _ => false) ops.size
theorem allTo_of {f : Nat → Bool} : ∀ {n : Nat}, (∀ i, i < n → f i = true) → allTo f n = true := by
  intro n
  induction n with
  | zero => intro _; rfl
  | succ n ih =>
    intro h
    simp only [allTo, h n (Nat.lt_succ_self n)]
    exact ih fun i hi => h i (by omega)
theorem dyn_R {P : Program} {call : CallFn} {ops : Array Oper} {es : List Ent} {fin : St} (h : drDyn P call ops es fin = true) : drDynR P call ops es fin = true := by
  unfold drDyn at h
  unfold drDynR
  cases hany : es.any (·.mut_) with
  | false => rfl
  | true =>
    rw [hany] at h
    refine allTo_of fun i hi => ?_
    have h1 := allTo_spec h i hi
    cases he : es[i]? with
    | none => rw [he] at h1; simp at h1
    | some e =>
      cases ho : ops[i]? with
      | none => rw [he, ho] at h1; simp at h1
      | some o =>
        rw [he, ho] at h1
        cases hm : e.mut_ with
        | true => simp [hm]
        | false => simp only [hm] at h1 ⊢; exact h1
def drBelow (nt : Nat) (ops : Array Oper) : Bool := ops.toList.all fun o => match o.dst with
  | some d => Nat.blt d nt
  | none => true
def drAny (P : Program) : CallFn → Nat → Array Oper → St → Option St := fun call nt ops st =>
  match drStatic ops && drBelow nt ops with
  | true => match passQ P call nt ops ops.toList st with
    | some (es, fin) => match drDyn P call ops es fin with
      | true => some fin
      | false => none
    | none => none
  | false => none
def gd (tm : Tr Value) (t : Nat) : Value := (tm.get t).getD undef
theorem gd_put_same {nt : Nat} {tm : Tr Value} {d : Nat} {v : Value} (hd : d < nt) (hs : nt < 1000000) : gd (aput nt tm (some d) v) d = v := by
  unfold gd aput
  have : Nat.blt d nt = true := by simpa using hd
  simp only [this]
  rw [Tr.get_put_same (by omega)]; rfl
theorem gd_put_other {nt : Nat} {tm : Tr Value} {dst : Option Nat} {t : Nat} {v : Value} (h : dst ≠ some t) : gd (aput nt tm dst v) t = gd tm t := by
  unfold gd aput
  cases dst with
  | none => rfl
  | some d =>
    simp only
    split
    · rw [Tr.get_put_other (fun e => h (by rw [e]))]
    · rfl
def stAt (es : List Ent) (fin : St) (i : Nat) : St := match es[i]? with
  | some e => e.st
  | none => fin
section
variable {P : Program} {call : CallFn} {nt : Nat} {ops : Array Oper}
theorem pass_cons {o : Oper} {l : List Oper} {st : St} {es : List Ent} {fin : St} (h : pass P call nt ops (o :: l) st = some (es, fin)) : ∃ e es' h', es = e :: es' ∧ e.st = st ∧ pass P call nt ops l ⟨aput nt st.tm o.dst e.v, h'⟩ = some (es', fin) := by
  simp only [pass] at h
  split at h
  · split at h
    · split at h
      · rename_i es' fin' he; cases h; exact ⟨_, es', _, rfl, rfl, he⟩
      · cases h
    · cases h
  · split at h
    · rename_i es' fin' he; cases h; exact ⟨_, es', _, rfl, rfl, he⟩
    · cases h
theorem pass_keep (t : Nat) : ∀ (l : List Oper) (st : St) (es : List Ent) (fin : St), pass P call nt ops l st = some (es, fin) → ∀ i, i ≤ l.length → (∀ k o, k < i → l[k]? = some o → o.dst ≠ some t) → gd (stAt es fin i).tm t = gd st.tm t := by
  intro l
  induction l with
  | nil => intro st es fin h i hi _; simp only [pass, Option.some.injEq, Prod.mk.injEq] at h; obtain ⟨rfl, rfl⟩ := h; simp at hi; subst hi; rfl
  | cons o l ih =>
    intro st es fin h i hi hk
    obtain ⟨e, es', h', rfl, hst, he⟩ := pass_cons h
    cases i with
    | zero => simp only [stAt, List.getElem?_cons_zero]; rw [hst]
    | succ i =>
      have := ih _ _ _ he i (by simpa using hi) (fun k o' hki ho => hk (k + 1) o' (by omega) (by simpa using ho))
      have e1 : stAt (e :: es') fin (i + 1) = stAt es' fin i := by simp [stAt]
      rw [e1, this]
      exact gd_put_other (hk 0 o (by omega) rfl)
theorem pass_set (hs : nt < 1000000) (t : Nat) (ht : t < nt) : ∀ (l : List Oper) (st : St) (es : List Ent) (fin : St), pass P call nt ops l st = some (es, fin) → ∀ i, i ≤ l.length → ∀ k o e, k < i → l[k]? = some o → o.dst = some t → es[k]? = some e →
    (∀ k' o', k < k' → k' < i → l[k']? = some o' → o'.dst ≠ some t) → gd (stAt es fin i).tm t = e.v := by
  intro l
  induction l with
  | nil => intro st es fin h i hi k o e _ ho; simp at ho
  | cons o l ih =>
    intro st es fin h i hi k ok ek hki hok hd hek hno
    obtain ⟨e, es', h', rfl, hst, he⟩ := pass_cons h
    cases i with
    | zero => omega
    | succ i =>
      have e1 : stAt (e :: es') fin (i + 1) = stAt es' fin i := by simp [stAt]
      rw [e1]
      cases k with
      | zero =>
        simp only [List.getElem?_cons_zero, Option.some.injEq] at hok hek
        subst hok hek
        rw [pass_keep t l _ es' fin he i (by simpa using hi) (fun k' o' hk' ho' => hno (k' + 1) o' (by omega) (by omega) (by simpa using ho'))]
        simp only [hd]
        exact gd_put_same ht hs
      | succ k => exact ih _ _ _ he i (by simpa using hi) k ok ek (by omega) (by simpa using hok) hd (by simpa using hek) (fun k' o' h1 h2 ho' => hno (k' + 1) o' (by omega) (by omega) (by simpa using ho'))
end
theorem cnt_succ : ∀ (es : List Ent) (i : Nat), i < es.length → cnt es (i + 1) = cnt es i + (match mutAt es i with | true => 1 | false => 0) := by
  intro es
  induction es with
  | nil => intro i hi; simp at hi
  | cons e es ih =>
    intro i hi
    cases i with
    | zero => cases hm : e.mut_ <;> simp [cnt, mutAt, hm]
    | succ i =>
      have := ih i (by simpa using hi)
      simp only [cnt] at this ⊢
      rw [this]
      have : mutAt (e :: es) (i + 1) = mutAt es i := by simp [mutAt]
      rw [this]; omega
theorem mutAt_lt {es : List Ent} {i : Nat} (h : mutAt es i = true) : i < es.length := by
  unfold mutAt at h
  split at h
  · rename_i e he
    rcases Nat.lt_or_ge i es.length with hh | hh
    · exact hh
    · rw [List.getElem?_eq_none hh] at he; cases he
  · cases h
theorem cnt_mono (es : List Ent) {i k : Nat} (hik : i ≤ k) (hk : k ≤ es.length) : cnt es i ≤ cnt es k := by
  induction k with
  | zero => have : i = 0 := by omega
            subst this; exact Nat.le_refl _
  | succ k ih =>
    by_cases e : i = k + 1
    · subst e; exact Nat.le_refl _
    · have := ih (by omega) (by omega)
      have h2 := cnt_succ es k (by omega)
      omega
theorem cnt_lt {es : List Ent} {i k : Nat} (hm : mutAt es i = true) (hik : i < k) (hk : k ≤ es.length) : cnt es i < cnt es k := by
  have h1 := cnt_succ es i (mutAt_lt hm)
  rw [hm] at h1
  have h2 := cnt_mono es (i := i + 1) (k := k) (by omega) hk
  simp only at h1
  omega
theorem cnt_inj {es : List Ent} {i k : Nat} (h1 : mutAt es i = true) (h2 : mutAt es k = true) (e : cnt es i = cnt es k) : i = k := by
  have l1 := mutAt_lt h1
  have l2 := mutAt_lt h2
  rcases Nat.lt_trichotomy i k with h | h | h
  · have := cnt_lt h1 h (by omega); omega
  · exact h
  · have := cnt_lt h2 h (by omega); omega
theorem cnt_before : ∀ (es : List Ent) (i : Nat), i ≤ es.length → 0 < cnt es i → ∃ k, k < i ∧ mutAt es k = true ∧ cnt es k + 1 = cnt es i := by
  intro es i
  induction i with
  | zero => intro _ h; simp [cnt] at h
  | succ i ih =>
    intro hi h
    have h1 := cnt_succ es i (by omega)
    cases hm : mutAt es i with
    | true => rw [hm] at h1; exact ⟨i, by omega, hm, h1.symm⟩
    | false =>
      rw [hm] at h1
      simp only [Nat.add_zero] at h1
      obtain ⟨k, q1, q2, q3⟩ := ih (by omega) (by omega)
      exact ⟨k, by omega, q2, by omega⟩
theorem heaps_last : ∀ (es : List Ent) (fin : St), (heaps es fin).length = cnt es es.length + 1 ∧ (heaps es fin)[cnt es es.length]? = some fin.h := by
  intro es
  induction es with
  | nil => intro fin; exact ⟨rfl, rfl⟩
  | cons e es ih =>
    intro fin
    obtain ⟨h1, h2⟩ := ih fin
    simp only [List.length_cons, cnt, heaps]
    cases e.mut_ with
    | true => simp only [List.length_cons]; exact ⟨by omega, by rw [Nat.add_comm 1, List.getElem?_cons_succ]; exact h2⟩
    | false => simp only [Nat.zero_add]; exact ⟨h1, h2⟩
end
end Go.Vai
namespace Go.Vai
noncomputable section
section
variable {P : Program} {call : CallFn} {nt : Nat} {ops : Array Oper}
def Lst (listed : Array Bool) (i : Nat) : Prop := listed.getD i false = true
structure DInv (ops : Array Oper) (es : List Ent) (fin st : St) (listed : Array Bool) (j : Nat) (cur : St) : Prop where
  sz : listed.size = ops.size
  dc : Down ops (Lst listed)
  mu : ∀ i, mutAt es i = true → (Lst listed i ↔ cnt es i < j)
  hp : (heaps es fin)[j]? = some cur.h
  t1 : ∀ k o e, ops[k]? = some o → es[k]? = some e → Lst listed k → ∀ t, o.dst = some t → gd cur.tm t = e.v
  t2 : ∀ t, (∀ k o, ops[k]? = some o → Lst listed k → o.dst ≠ some t) → gd cur.tm t = gd st.tm t
theorem lst_set {listed : Array Bool} {i k : Nat} (hi : i < listed.size) : Lst (listed.setIfInBounds i true) k ↔ (k = i ∨ Lst listed k) := by
  unfold Lst
  by_cases e : k = i
  · subst e; simp [hi]
  · have : (listed.setIfInBounds i true).getD k false = listed.getD k false := getD_set_ne false (fun x => e x.symm)
    rw [this]; simp [e]
theorem static_spec (h : drStatic ops = true) {i : Nat} {o : Oper} (ho : ops[i]? = some o) :
    (∀ d, o.dst = some d → ∀ k p, k < i → ops[k]? = some p → p.dst ≠ some d) ∧ (∀ e ∈ o.after.toList, Region.binds .any e = true → e.on < i) ∧
    (∀ t ∈ o.looksAt ops, ∀ k p, ops[k]? = some p → p.dst = some t → k ≠ i → (k < i → ((masks ops).getD i 0).testBit k = true) ∧ (i < k → ((masks ops).getD k 0).testBit i = true)) := by
  have hi : i < ops.size := (Array.getElem?_eq_some_iff.1 ho).1
  have h1 := allTo_spec h i hi
  rw [ho] at h1
  simp only [Bool.and_eq_true] at h1
  obtain ⟨⟨ha, hb⟩, hc⟩ := h1
  refine ⟨?_, ?_, ?_⟩
  · intro d hd k p hk hp hpd
    rw [hd] at ha
    have := allTo_spec ha k hk
    rw [hp] at this
    simp only [Bool.not_eq_true'] at this
    rw [dstIs_eq.2 hpd] at this; cases this
  · intro e he hbn
    have := List.all_eq_true.1 hb e he
    rw [hbn] at this
    simpa using this
  · intro t ht k p hp hpd hki
    have h2 := List.all_eq_true.1 hc t ht
    have hk : k < ops.size := (Array.getElem?_eq_some_iff.1 hp).1
    have h3 := allTo_spec h2 k hk
    rw [hp] at h3
    simp only [dstIs_eq.2 hpd] at h3
    have e2 : Nat.beq k i = false := by
      cases hh : Nat.beq k i with
      | false => rfl
      | true => exact absurd (Nat.eq_of_beq_eq_true hh) hki
    constructor
    · intro hlt
      have e1 : Nat.blt k i = true := by simpa using hlt
      rw [e1] at h3; exact h3
    · intro hlt
      have e1 : Nat.blt k i = false := by
        cases hh : Nat.blt k i with
        | false => rfl
        | true => have : k < i := by simpa using hh
                  omega
      rw [e1, e2] at h3; exact h3
theorem below_spec (h : drBelow nt ops = true) {i : Nat} {o : Oper} (ho : ops[i]? = some o) {d : Nat} (hd : o.dst = some d) : d < nt := by
  have hm : o ∈ ops.toList := by
    have := Array.getElem?_eq_some_iff.1 ho
    obtain ⟨hi, rfl⟩ := this
    simp
  have := List.all_eq_true.1 h o hm
  rw [hd] at this
  simpa using this
theorem dyn_mut {es : List Ent} {fin : St} (h : drDyn P call ops es fin = true) {i k : Nat} (hn : i < ops.size) (hi : mutAt es i = true) (hk : mutAt es k = true) (hki : k < i) : ((masks ops).getD i 0).testBit k = true := by
  have hany : es.any (·.mut_) = true := by
    unfold mutAt at hi
    split at hi
    · rename_i e he
      exact List.any_eq_true.2 ⟨e, List.mem_of_getElem? he, hi⟩
    · cases hi
  unfold drDyn at h
  rw [hany] at h
  have h1 := allTo_spec h i hn
  unfold mutAt at hi
  split at hi
  · rename_i e he
    rw [he] at h1
    obtain ⟨o, ho⟩ : ∃ o, ops[i]? = some o := ⟨ops[i], Array.getElem?_eq_getElem hn⟩
    rw [ho] at h1
    simp only [hi] at h1
    have h2 := allTo_spec h1 k hki
    rw [hk] at h2
    simpa using h2
  · cases hi
theorem dyn_read {es : List Ent} {fin : St} (h : drDynR P call ops es fin = true) {i j : Nat} {e : Ent} {o : Oper} (he : es[i]? = some e) (ho : ops[i]? = some o) (hm : e.mut_ = false) (hw : e.want = true) (hlen : es.length = ops.size)
    (hj : j ≠ cnt es i) {hh : Heap} (hhj : (heaps es fin)[j]? = some hh)
    (f1 : ∀ k, mutAt es k = true → ((masks ops).getD i 0).testBit k = true → cnt es k < j) (f2 : ∀ k, mutAt es k = true → ((masks ops).getD k 0).testBit i = true → j ≤ cnt es k) :
    ∃ h', stepOp P call o e.st.tm hh = some (e.v, h') := by
  have hjl : j < (heaps es fin).length := by
    rcases Nat.lt_or_ge j (heaps es fin).length with x | x
    · exact x
    · rw [List.getElem?_eq_none x] at hhj; cases hhj
  have hn : i < ops.size := (Array.getElem?_eq_some_iff.1 ho).1
  unfold drDynR at h
  cases hany : es.any (·.mut_) with
  | false =>
    exfalso
    have hz : ∀ (es : List Ent), es.any (·.mut_) = false → ∀ i, cnt es i = 0 := by
      intro es
      induction es with
      | nil => intro _ i; cases i <;> rfl
      | cons a es ih =>
        intro ha i
        simp only [List.any_cons, Bool.or_eq_false_iff] at ha
        cases i with
        | zero => rfl
        | succ i => simp only [cnt, ha.1]; rw [ih ha.2]
    have h1 := (heaps_last es fin).1
    rw [hz es hany] at h1
    rw [hz es hany] at hj
    omega
  | true =>
    rw [hany] at h
    have h1 := allTo_spec h i hn
    rw [he, ho] at h1
    simp only [hm, hw] at h1
    have h2 := allTo_spec h1 j hjl
    simp only [Bool.or_eq_true] at h2
    rcases h2 with (h2 | h2) | h2
    · exact absurd (Nat.eq_of_beq_eq_true h2) hj
    · exfalso
      have : allTo (fun k => !mutAt es k || ((!((masks ops).getD i 0).testBit k || Nat.blt (cnt es k) j) && (!((masks ops).getD k 0).testBit i || Nat.ble j (cnt es k)))) ops.size = true := by
        have key : ∀ n, allTo (fun k => !mutAt es k || ((!((masks ops).getD i 0).testBit k || Nat.blt (cnt es k) j) && (!((masks ops).getD k 0).testBit i || Nat.ble j (cnt es k)))) n = true := by
          intro n
          induction n with
          | zero => rfl
          | succ n ih =>
            have hf : (!mutAt es n || ((!((masks ops).getD i 0).testBit n || Nat.blt (cnt es n) j) && (!((masks ops).getD n 0).testBit i || Nat.ble j (cnt es n)))) = true := by
              cases hmn : mutAt es n with
              | false => rfl
              | true =>
                simp only [Bool.not_true, Bool.false_or, Bool.and_eq_true]
                constructor
                · cases hb : ((masks ops).getD i 0).testBit n with
                  | false => rfl
                  | true => have := f1 n hmn hb; simp only [Bool.not_true, Bool.false_or]; simpa using this
                · cases hb : ((masks ops).getD n 0).testBit i with
                  | false => rfl
                  | true => have := f2 n hmn hb; simp only [Bool.not_true, Bool.false_or]; simpa using this
            simp only [allTo, hf]; exact ih
        exact key _
      rw [this] at h2; cases h2
    · rw [hhj] at h2
      simp only at h2
      split at h2
      · rename_i v h' hs
        exact ⟨h', by rw [hs, veq_eq h2]⟩
      · cases h2
theorem down_set {listed : Array Bool} {i : Nat} {o : Oper} (hls : i < listed.size) (D : Down ops (Lst listed)) (ho : ops[i]? = some o) (hpred : ∀ e ∈ o.after.toList, Region.binds .any e = true → Lst listed e.on) : Down ops (Lst (listed.setIfInBounds i true)) := by
  intro k p hp hk e he hb
  rcases (lst_set hls).1 hk with rfl | hk
  · rw [ho] at hp; cases hp
    exact (lst_set hls).2 (.inr (hpred e he hb))
  · exact (lst_set hls).2 (.inr (D k p hp hk e he hb))
theorem dinv_slot {es : List Ent} {fin st : St} {listed : Array Bool} {j : Nat} {cur : St} (hst : drStatic ops = true) (hbe : drBelow nt ops = true) (hnt : nt < 1000000) (hps : pass P call nt ops ops.toList st = some (es, fin))
    (I : DInv ops es fin st listed j cur) {i : Nat} {o : Oper} (ho : ops[i]? = some o) (hni : ¬ Lst listed i) (hpred : ∀ e ∈ o.after.toList, Region.binds .any e = true → Lst listed e.on) :
    ∃ en, es[i]? = some en ∧ (∀ t ∈ o.looksAt ops, gd cur.tm t = gd en.st.tm t) ∧ Region.wanted o (aYield ops cur.tm) = Region.wanted o (aYield ops en.st.tm) := by
  have hn : i < ops.size := (Array.getElem?_eq_some_iff.1 ho).1
  have hlen : es.length = ops.size := by have := pass_length _ _ _ _ hps; simpa using this
  have hls : i < listed.size := by rw [I.sz]; exact hn
  have D' : Down ops (Lst (listed.setIfInBounds i true)) := by
    intro k p hp hk e he hb
    rcases (lst_set hls).1 hk with rfl | hk
    · rw [ho] at hp; cases hp
      exact (lst_set hls).2 (.inr (hpred e he hb))
    · exact (lst_set hls).2 (.inr (I.dc k p hp hk e he hb))
  have li : Lst (listed.setIfInBounds i true) i := (lst_set hls).2 (.inl rfl)
  obtain ⟨en, hen, hhe, hwant, hmut, hnw, hyes⟩ := pass_at _ _ _ _ hps i o (by simpa using ho)
  have hstat : stAt es fin i = en.st := by simp [stAt, hen]
  have slot : ∀ t ∈ o.looksAt ops, gd cur.tm t = gd en.st.tm t := by
    intro t ht
    obtain ⟨s1, s2, s3⟩ := static_spec hst ho
    by_cases hex : ∃ k p, ops[k]? = some p ∧ p.dst = some t ∧ k ≠ i
    · obtain ⟨k, p, hp, hpd, hki⟩ := hex
      obtain ⟨q1, q2⟩ := s3 t ht k p hp hpd hki
      have hkn : k < ops.size := (Array.getElem?_eq_some_iff.1 hp).1
      obtain ⟨ek, hek⟩ : ∃ ek, es[k]? = some ek := ⟨es[k], List.getElem?_eq_getElem (by omega)⟩
      have uniq : ∀ k' p', ops[k']? = some p' → p'.dst = some t → k' = k := by
        intro k' p' hp' hpd'
        rcases Nat.lt_trichotomy k' k with x | x | x
        · exact absurd hpd' ((static_spec hst hp).1 t hpd k' p' x hp')
        · exact x
        · exact absurd hpd ((static_spec hst hp').1 t hpd' k p x hp)
      rcases Nat.lt_or_gt_of_ne hki with hlt | hgt
      · have hk := masks_down D' li (q1 hlt)
        have hk : Lst listed k := ((lst_set hls).1 hk).resolve_left hki
        rw [I.t1 k p ek hp hek hk t hpd]
        have := pass_set (P := P) (call := call) (ops := ops) hnt t (below_spec hbe hp hpd) ops.toList st es fin hps i (by simp; omega) k p ek hlt (by simpa using hp) hpd hek (fun k' o' h1 h2 ho' hd' => by
          have := uniq k' o' (by simpa using ho') hd'; omega)
        rw [hstat] at this
        exact this.symm
      · have hnk : ¬ Lst listed k := by
          intro hk
          exact hni (masks_down I.dc hk (q2 hgt))
        rw [I.t2 t (fun k' p' hp' hk' hd' => by have := uniq k' p' hp' hd'; subst this; exact hnk hk')]
        have := pass_keep (P := P) (call := call) (nt := nt) (ops := ops) t ops.toList st es fin hps i (by simp; omega) (fun k' o' h1 ho' hd' => by
          have := uniq k' o' (by simpa using ho') hd'; omega)
        rw [hstat] at this
        exact this.symm
    · have none_ : ∀ k p, ops[k]? = some p → p.dst = some t → k = i := by
        intro k p hp hpd
        by_cases e : k = i
        · exact e
        · exact absurd ⟨k, p, hp, hpd, e⟩ hex
      rw [I.t2 t (fun k' p' hp' hk' hd' => by have := none_ k' p' hp' hd'; subst this; exact hni hk')]
      have := pass_keep (P := P) (call := call) (nt := nt) (ops := ops) t ops.toList st es fin hps i (by simp; omega) (fun k' o' h1 ho' hd' => by
        have := none_ k' o' (by simpa using ho') hd'; omega)
      rw [hstat] at this
      exact this.symm
  have hwe : Region.wanted o (aYield ops cur.tm) = Region.wanted o (aYield ops en.st.tm) := by
    unfold Region.wanted
    cases hg : o.guard with
    | none => rfl
    | some g =>
      obtain ⟨g, want⟩ := g
      simp only
      have : aYield ops cur.tm g = aYield ops en.st.tm g := by
        unfold aYield
        cases hd : (ops[g]?).bind (·.dst) with
        | none => rfl
        | some d =>
          have := slot d (by simp [Oper.looksAt, hg, hd])
          unfold gd at this
          simp only [this]
      rw [this]
  exact ⟨en, hen, slot, hwe⟩
theorem dinv_step {es : List Ent} {fin st : St} {listed : Array Bool} {j : Nat} {cur : St} (hst : drStatic ops = true) (hbe : drBelow nt ops = true) (hnt : nt < 1000000) (hps : pass P call nt ops ops.toList st = some (es, fin)) (hR : drDynR P call ops es fin = true)
    (I : DInv ops es fin st listed j cur) {i : Nat} {o : Oper} (ho : ops[i]? = some o) (hni : ¬ Lst listed i) (hpred : ∀ e ∈ o.after.toList, Region.binds .any e = true → Lst listed e.on) (hM : mutAt es i = true → ∀ k, mutAt es k = true → k < i → Lst listed k) :
    ∃ cur' j', oneOp P call nt ops o cur = some cur' ∧ DInv ops es fin st (listed.setIfInBounds i true) j' cur' := by
  have hn : i < ops.size := (Array.getElem?_eq_some_iff.1 ho).1
  have hlen : es.length = ops.size := by have := pass_length _ _ _ _ hps; simpa using this
  have hls : i < listed.size := by rw [I.sz]; exact hn
  have D' : Down ops (Lst (listed.setIfInBounds i true)) := by
    intro k p hp hk e he hb
    rcases (lst_set hls).1 hk with rfl | hk
    · rw [ho] at hp; cases hp
      exact (lst_set hls).2 (.inr (hpred e he hb))
    · exact (lst_set hls).2 (.inr (I.dc k p hp hk e he hb))
  have li : Lst (listed.setIfInBounds i true) i := (lst_set hls).2 (.inl rfl)
  obtain ⟨en, hen, hhe, hwant, hmut, hnw, hyes⟩ := pass_at _ _ _ _ hps i o (by simpa using ho)
  have hstat : stAt es fin i = en.st := by simp [stAt, hen]
  have slot : ∀ t ∈ o.looksAt ops, gd cur.tm t = gd en.st.tm t := by
    intro t ht
    obtain ⟨s1, s2, s3⟩ := static_spec hst ho
    by_cases hex : ∃ k p, ops[k]? = some p ∧ p.dst = some t ∧ k ≠ i
    · obtain ⟨k, p, hp, hpd, hki⟩ := hex
      obtain ⟨q1, q2⟩ := s3 t ht k p hp hpd hki
      have hkn : k < ops.size := (Array.getElem?_eq_some_iff.1 hp).1
      obtain ⟨ek, hek⟩ : ∃ ek, es[k]? = some ek := ⟨es[k], List.getElem?_eq_getElem (by omega)⟩
      have uniq : ∀ k' p', ops[k']? = some p' → p'.dst = some t → k' = k := by
        intro k' p' hp' hpd'
        rcases Nat.lt_trichotomy k' k with x | x | x
        · exact absurd hpd' ((static_spec hst hp).1 t hpd k' p' x hp')
        · exact x
        · exact absurd hpd ((static_spec hst hp').1 t hpd' k p x hp)
      rcases Nat.lt_or_gt_of_ne hki with hlt | hgt
      · have hk := masks_down D' li (q1 hlt)
        have hk : Lst listed k := ((lst_set hls).1 hk).resolve_left hki
        rw [I.t1 k p ek hp hek hk t hpd]
        have := pass_set (P := P) (call := call) (ops := ops) hnt t (below_spec hbe hp hpd) ops.toList st es fin hps i (by simp; omega) k p ek hlt (by simpa using hp) hpd hek (fun k' o' h1 h2 ho' hd' => by
          have := uniq k' o' (by simpa using ho') hd'; omega)
        rw [hstat] at this
        exact this.symm
      · have hnk : ¬ Lst listed k := by
          intro hk
          exact hni (masks_down I.dc hk (q2 hgt))
        rw [I.t2 t (fun k' p' hp' hk' hd' => by have := uniq k' p' hp' hd'; subst this; exact hnk hk')]
        have := pass_keep (P := P) (call := call) (nt := nt) (ops := ops) t ops.toList st es fin hps i (by simp; omega) (fun k' o' h1 ho' hd' => by
          have := uniq k' o' (by simpa using ho') hd'; omega)
        rw [hstat] at this
        exact this.symm
    · have none_ : ∀ k p, ops[k]? = some p → p.dst = some t → k = i := by
        intro k p hp hpd
        by_cases e : k = i
        · exact e
        · exact absurd ⟨k, p, hp, hpd, e⟩ hex
      rw [I.t2 t (fun k' p' hp' hk' hd' => by have := none_ k' p' hp' hd'; subst this; exact hni hk')]
      have := pass_keep (P := P) (call := call) (nt := nt) (ops := ops) t ops.toList st es fin hps i (by simp; omega) (fun k' o' h1 ho' hd' => by
        have := none_ k' o' (by simpa using ho') hd'; omega)
      rw [hstat] at this
      exact this.symm
  have hwe : Region.wanted o (aYield ops cur.tm) = Region.wanted o (aYield ops en.st.tm) := by
    unfold Region.wanted
    cases hg : o.guard with
    | none => rfl
    | some g =>
      obtain ⟨g, want⟩ := g
      simp only
      have : aYield ops cur.tm g = aYield ops en.st.tm g := by
        unfold aYield
        cases hd : (ops[g]?).bind (·.dst) with
        | none => rfl
        | some d =>
          have := slot d (by simp [Oper.looksAt, hg, hd])
          unfold gd at this
          simp only [this]
      rw [this]
  have slots' : ∀ (v : Value) (h' : Heap), v = en.v → (∀ k o' e', ops[k]? = some o' → es[k]? = some e' → Lst (listed.setIfInBounds i true) k → ∀ t, o'.dst = some t → gd (⟨aput nt cur.tm o.dst v, h'⟩ : St).tm t = e'.v) ∧
      (∀ t, (∀ k o', ops[k]? = some o' → Lst (listed.setIfInBounds i true) k → o'.dst ≠ some t) → gd (⟨aput nt cur.tm o.dst v, h'⟩ : St).tm t = gd st.tm t) := by
    intro v h' hv
    subst hv
    constructor
    · intro k o' e' hk hek hl t hd
      by_cases hki : k = i
      · subst hki
        rw [ho] at hk; cases hk
        rw [hen] at hek; cases hek
        simp only [hd]
        exact gd_put_same (below_spec hbe ho hd) hnt
      · have hl : Lst listed k := ((lst_set hls).1 hl).resolve_left hki
        have hne : o.dst ≠ some t := by
          intro hx
          rcases Nat.lt_or_gt_of_ne hki with hlt | hgt
          · exact (static_spec hst ho).1 t hx k o' hlt hk hd
          · exact (static_spec hst hk).1 t hd i o hgt ho hx
        simp only
        rw [gd_put_other hne]
        exact I.t1 k o' e' hk hek hl t hd
    · intro t ht
      simp only
      rw [gd_put_other (ht i o ho li)]
      exact I.t2 t fun k o' hk hl => ht k o' hk ((lst_set hls).2 (.inr hl))
  have szs : (listed.setIfInBounds i true).size = ops.size := by simp [I.sz]
  cases hw : en.want with
  | false =>
    refine ⟨⟨aput nt cur.tm o.dst undef, cur.h⟩, j, ?_, szs, D', ?_, I.hp, ?_, ?_⟩
    · unfold oneOp
      rw [hwe, ← hwant, hw]
    · intro k hk
      have hki : k ≠ i := by
        rintro rfl
        simp only [mutAt, hen] at hk
        rw [hmut, hw] at hk; cases hk
      rw [lst_set hls, ← I.mu k hk]
      simp [hki]
    · exact (slots' undef cur.h (hnw hw).symm).1
    · exact (slots' undef cur.h (hnw hw).symm).2
  | true =>
    obtain ⟨h', hs, hh'⟩ := hyes hw
    have hcongr : ∀ hp, stepOp P call o cur.tm hp = stepOp P call o en.st.tm hp := by
      intro hp
      refine stepOp_congr fun x hx => aev_congr fun t ht => ?_
      subst ht
      exact slot t (by
        unfold Oper.looksAt
        refine List.mem_append_left _ ?_
        rw [List.mem_filterMap]
        exact ⟨.tmp t, by simpa using hx, rfl⟩)
    cases hm : en.mut_ with
    | true =>
      have hmi : mutAt es i = true := by simp [mutAt, hen, hm]
      have hj1 : j ≤ cnt es i := by
        rcases Nat.lt_or_ge (cnt es i) j with x | x
        · exact absurd ((I.mu i hmi).2 x) hni
        · exact x
      have hj2 : cnt es i ≤ j := by
        rcases Nat.eq_zero_or_pos (cnt es i) with x | x
        · omega
        · obtain ⟨k, k1, k2, k3⟩ := cnt_before es i (by omega) x
          have hk := hM hmi k k2 k1
          have := (I.mu k k2).1 hk
          omega
      have hje : j = cnt es i := by omega
      have hheap : cur.h = en.st.h := by
        have := I.hp
        rw [hje, hhe] at this
        exact (Option.some.inj this).symm
      rw [hm] at hh'
      refine ⟨⟨aput nt cur.tm o.dst en.v, h'⟩, cnt es i + 1, ?_, szs, D', ?_, hh', ?_, ?_⟩
      · unfold oneOp
        rw [hwe, ← hwant, hw]
        simp only
        rw [hcongr, hheap, hs]
      · intro k hk
        rw [lst_set hls, I.mu k hk]
        constructor
        · rintro (rfl | x)
          · omega
          · omega
        · intro x
          by_cases e : cnt es k = cnt es i
          · exact .inl (cnt_inj hk hmi e)
          · exact .inr (by omega)
      · exact (slots' en.v h' rfl).1
      · exact (slots' en.v h' rfl).2
    | false =>
      have hro : readsOnly o.op = true := by
        rw [hm, hw] at hmut
        simpa using hmut.symm
      have hstep : ∃ h2, stepOp P call o en.st.tm cur.h = some (en.v, h2) := by
        by_cases hje : j = cnt es i
        · have hheap : cur.h = en.st.h := by
            have := I.hp
            rw [hje, hhe] at this
            exact (Option.some.inj this).symm
          rw [hheap]; exact ⟨h', hs⟩
        · refine dyn_read hR hen ho hm hw hlen hje I.hp ?_ ?_
          · intro k hk hb
            have hl := masks_down D' li hb
            have hki : k ≠ i := by
              rintro rfl
              simp only [mutAt, hen] at hk
              rw [hm] at hk; cases hk
            exact (I.mu k hk).1 (((lst_set hls).1 hl).resolve_left hki)
          · intro k hk hb
            rcases Nat.lt_or_ge (cnt es k) j with x | x
            · exact absurd (masks_down I.dc ((I.mu k hk).2 x) hb) hni
            · exact x
      obtain ⟨h2, hs2⟩ := hstep
      have hh2 := stepOp_reads hro hs2
      subst hh2
      refine ⟨⟨aput nt cur.tm o.dst en.v, cur.h⟩, j, ?_, szs, D', ?_, I.hp, ?_, ?_⟩
      · unfold oneOp
        rw [hwe, ← hwant, hw]
        simp only
        rw [hcongr, hs2]
      · intro k hk
        have hki : k ≠ i := by
          rintro rfl
          simp only [mutAt, hen] at hk
          rw [hm] at hk; cases hk
        rw [lst_set hls, ← I.mu k hk]
        simp [hki]
      · exact (slots' en.v cur.h rfl).1
      · exact (slots' en.v cur.h rfl).2
theorem dinv_end {es : List Ent} {fin st : St} {listed : Array Bool} {j : Nat} {cur : St} (hst : drStatic ops = true) (hbe : drBelow nt ops = true) (hnt : nt < 1000000) (hps : pass P call nt ops ops.toList st = some (es, fin))
    (I : DInv ops es fin st listed j cur) (hr : Region.ready .any ops listed = []) : cur.h = fin.h ∧ ∀ t, gd cur.tm t = gd fin.tm t := by
  have hlen : es.length = ops.size := by have := pass_length _ _ _ _ hps; simpa using this
  have all : ∀ i, i < ops.size → Lst listed i := by
    intro i
    induction i using Nat.strongRecOn with
    | _ i ih =>
      intro hi
      obtain ⟨o, ho⟩ : ∃ o, ops[i]? = some o := ⟨ops[i], Array.getElem?_eq_getElem hi⟩
      cases hl : listed.getD i false with
      | true => exact hl
      | false =>
        exfalso
        have : i ∈ Region.ready .any ops listed := mem_ready.2 ⟨by
          have hlt : i < listed.size := by rw [I.sz]; exact hi
          simp only [Array.getD, hlt, dif_pos] at hl ⊢; exact hl, o, ho, fun e he hb => by
            have hlt := (static_spec hst ho).2.1 e (by simpa using he) hb
            exact ih e.on hlt (by omega)⟩
        rw [hr] at this; cases this
  obtain ⟨hl1, hl2⟩ := heaps_last es fin
  constructor
  · have hj : j = cnt es es.length := by
      have hjl : j < (heaps es fin).length := by
        rcases Nat.lt_or_ge j (heaps es fin).length with x | x
        · exact x
        · have := I.hp; rw [List.getElem?_eq_none x] at this; cases this
      rcases Nat.eq_zero_or_pos (cnt es es.length) with x | x
      · omega
      · obtain ⟨k, k1, k2, k3⟩ := cnt_before es es.length (Nat.le_refl _) x
        have := (I.mu k k2).1 (all k (by omega))
        omega
    have := I.hp
    rw [hj, hl2] at this
    exact (Option.some.inj this).symm
  · intro t
    have hfin : stAt es fin ops.size = fin := by simp [stAt, hlen]
    by_cases hex : ∃ (k : Nat) (p : Oper), ops[k]? = some p ∧ p.dst = some t
    · obtain ⟨k, p, hp, hpd⟩ := hex
      have hkn : k < ops.size := (Array.getElem?_eq_some_iff.1 hp).1
      obtain ⟨ek, hek⟩ : ∃ ek, es[k]? = some ek := ⟨es[k], List.getElem?_eq_getElem (by omega)⟩
      rw [I.t1 k p ek hp hek (all k hkn) t hpd]
      have := pass_set (P := P) (call := call) (ops := ops) hnt t (below_spec hbe hp hpd) ops.toList st es fin hps ops.size (by simp) k p ek hkn (by simpa using hp) hpd hek (fun k' o' h1 h2 ho' hd' => by
        exact (static_spec hst (by simpa using ho')).1 t hd' k p h1 hp hpd)
      rw [hfin] at this
      exact this.symm
    · rw [I.t2 t (fun k p hp _ hd => hex ⟨k, p, hp, hd⟩)]
      have := pass_keep (P := P) (call := call) (nt := nt) (ops := ops) t ops.toList st es fin hps ops.size (by simp) (fun k o h1 ho hd => hex ⟨k, o, by simpa using ho, hd⟩)
      rw [hfin] at this
      exact this.symm
end
def left (listed : Array Bool) (n : Nat) : Nat := ((List.range n).filter fun i => !listed.getD i false).length
theorem left_set {listed : Array Bool} {n i : Nat} (hi : i < n) (hs : n = listed.size) (hl : listed.getD i false = false) : left (listed.setIfInBounds i true) n + 1 = left listed n := by
  unfold left
  have key : ∀ m, m ≤ n → ((List.range m).filter fun k => !(listed.setIfInBounds i true).getD k false).length + (if i < m then 1 else 0) = ((List.range m).filter fun k => !listed.getD k false).length := by
    intro m
    induction m with
    | zero => intro _; simp
    | succ m ih =>
      intro hm
      have := ih (by omega)
      rw [List.range_succ, List.filter_append, List.filter_append, List.length_append, List.length_append]
      by_cases e : m = i
      · subst e
        have e1 : (listed.setIfInBounds m true).getD m false = true := by simp [show m < listed.size by omega]
        rw [if_neg (by omega)] at this
        rw [if_pos (by omega)]
        simp only [List.filter_cons, e1, hl, Bool.not_true, Bool.not_false, List.filter_nil, if_true, Bool.false_eq_true, if_false, List.length_nil, List.length_cons]
        omega
      · have e1 : (listed.setIfInBounds i true).getD m false = listed.getD m false := getD_set_ne false (fun x => e x.symm)
        rw [show (List.filter (fun k => !(listed.setIfInBounds i true).getD k false) [m]) = List.filter (fun k => !listed.getD k false) [m] from by simp only [List.filter_cons, e1, List.filter_nil]]
        by_cases hlt : i < m
        · rw [if_pos hlt] at this; rw [if_pos (by omega)]; omega
        · rw [if_neg hlt] at this; rw [if_neg (by omega)]; omega
  have := key n (Nat.le_refl n)
  rw [if_pos hi] at this
  exact this
theorem drAny_ok {P : Program} (hf : P.follows .mixedOrders = true) : DrOk P (drAny P) := by
  intro call hcall id nt ops st st' e F hF n n0 ρ a w S
  unfold drAny at e
  split at e
  case h_2 => cases e
  rename_i hck
  simp only [Bool.and_eq_true] at hck
  obtain ⟨hst, hbe⟩ := hck
  split at e
  case h_2 => cases e
  rename_i es fin hps
  rw [passQ_eq] at hps
  split at e
  case h_2 => cases e
  rename_i hdy
  cases e
  refine wpIn_region_any hf ?_
  have main : ∀ (fuel : Nat) (listed : Array Bool) (j : Nat) (cur : St) (ρ₁ : Rho) (a₁ : Act) (w₁ : World), left listed ops.size = fuel → DInv ops es st' st listed j cur → SRel n0 ρ₁ nt cur a₁ w₁ → Grow ρ ρ₁ w → Fr ρ w w₁ →
      wpAnyIn F n P .any ops (PostX n0 ρ w nt .normal st') fuel listed a₁ w₁ := by
    intro fuel
    induction fuel with
    | zero =>
      intro listed j cur ρ₁ a₁ w₁ hl I S₁ g f
      have hr : Region.ready .any ops listed = [] := by
        rw [List.eq_nil_iff_forall_not_mem]
        intro i hi
        obtain ⟨h1, o, ho, _⟩ := mem_ready.1 hi
        have hn : i < ops.size := (Array.getElem?_eq_some_iff.1 ho).1
        have hlt : i < listed.size := by rw [I.sz]; exact hn
        have h1' : listed.getD i false = false := by
          simp only [Array.getD, hlt, dif_pos] at h1 ⊢; exact h1
        have hmem : i ∈ (List.range ops.size).filter fun i => !listed.getD i false := by
          rw [List.mem_filter]; exact ⟨List.mem_range.2 hn, by rw [h1']; rfl⟩
        have : (List.range ops.size).filter (fun i => !listed.getD i false) = [] := List.length_eq_zero_iff.1 hl
        rw [this] at hmem; cases hmem
      obtain ⟨q1, q2⟩ := dinv_end hst hbe S.s hps I hr
      refine ⟨hr, rfl, ρ₁, g, f, ?_, ?_, S₁.d, S₁.n, S₁.s, S₁.z⟩
      · rw [← q1]; exact S₁.h
      · intro t; have := S₁.t t; have e2 := q2 t; unfold gd at e2; rw [← e2]; exact this
    | succ fuel ih =>
      intro listed j cur ρ₁ a₁ w₁ hl I S₁ g f
      refine ⟨fun hr => ?_, fun i hi => ?_⟩
      · obtain ⟨q1, q2⟩ := dinv_end hst hbe S.s hps I hr
        refine ⟨rfl, ρ₁, g, f, ?_, ?_, S₁.d, S₁.n, S₁.s, S₁.z⟩
        · rw [← q1]; exact S₁.h
        · intro t; have := S₁.t t; have e2 := q2 t; unfold gd at e2; rw [← e2]; exact this
      · obtain ⟨h1, o, ho, hpred⟩ := mem_ready.1 hi
        have hn : i < ops.size := (Array.getElem?_eq_some_iff.1 ho).1
        have hlt : i < listed.size := by rw [I.sz]; exact hn
        have h1' : listed.getD i false = false := by
          simp only [Array.getD, hlt, dif_pos] at h1 ⊢; exact h1
        obtain ⟨cur', j', q1, q2⟩ := dinv_step hst hbe S.s hps (dyn_R hdy) I ho (by unfold Lst; rw [h1']; simp) (fun e he hb => hpred e (by simpa using he) hb) (fun hmi k k2 k1 => by
            have hb := dyn_mut hdy hn hmi k2 k1
            have hk := masks_down (down_set hlt I.dc ho (fun e he hb => hpred e (by simpa using he) hb)) ((lst_set hlt).2 (.inl rfl)) hb
            exact ((lst_set hlt).1 hk).resolve_left (by omega))
        unfold wpOpIn
        rw [ho]
        refine oneOp_sound hF hcall S₁ q1 _ ?_ _
        rintro a' w' ⟨ρ₂, g2, f2, S₂⟩
        exact ih _ j' cur' ρ₂ a' w' (by have := left_set hn I.sz.symm h1'; omega) q2 S₂ (g.trans f.size g2) (f.trans g f2)
  have h0 : ∀ n, left (Array.replicate n false) n = n := by
    intro n
    unfold left
    rw [List.filter_eq_self.2]
    · simp
    · intro k hk
      have : k < n := by simpa using hk
      simp [this]
  have nl : ∀ k, ¬ Lst (Array.replicate ops.size false) k := by
    intro k hk
    unfold Lst at hk
    by_cases hkn : k < ops.size
    · simp [hkn] at hk
    · simp [hkn] at hk
  refine main ops.size (Array.replicate ops.size false) 0 st ρ a _ (h0 ops.size) ?_ ⟨S.h.drew, S.t, S.d.go (.refl _ _) (Fr.refl ρ w).drew, S.n, S.s, S.z⟩ (.refl _ _) (Fr.refl ρ w).drew
  exact ⟨by simp, fun i o _ hi => absurd hi (nl i), fun i _ => ⟨fun hi => absurd hi (nl i), fun x => absurd x (Nat.not_lt_zero _)⟩, pass_heads _ _ _ _ hps, fun k o e _ _ hk => absurd hk (nl k), fun t _ => rfl⟩
end
end Go.Vai
