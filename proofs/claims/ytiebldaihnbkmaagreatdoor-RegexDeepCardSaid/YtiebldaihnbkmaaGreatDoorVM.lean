/-
  What is proved here: a region that leaves its order open, if the plain interpreter's looks at it pass: whatever order the machine draws, it comes to what the text's order comes to (part M). Condition: the program follows mixed orders.
-/
import Derived.Test.YtiebldaihnbkmaaGreatDoorVL
set_option linter.unusedVariables false
set_option linter.unusedSimpArgs false
set_option linter.unusedVariables false
set_option linter.unusedSimpArgs false
namespace Go.Vai
noncomputable section
def leafEq : Value → Value → Bool
  | .bool a, .bool b => match a, b with
    | true, true => true
    | false, false => true
    | _, _ => false
  | .int k n, .int k' n' => decide (k = k') && decide (n = n')
  | .string a, .string b => decide (a.data.toList = b.data.toList)
  | .pointer none, .pointer none => true
  | .pointer (some ⟨b, i, none⟩), .pointer (some ⟨b', i', none⟩) => Nat.beq b b' && Nat.beq i i'
  | .slice none 0 0, .slice none 0 0 => true
  | .slice (some ⟨b, i, none⟩) n c, .slice (some ⟨b', i', none⟩) n' c' => Nat.beq b b' && Nat.beq i i' && Nat.beq n n' && Nat.beq c c'
  | .nilIface, .nilIface => true
  | .nilFunc, .nilFunc => true
  | _, _ => false
theorem leafEq_eq {a b : Value} (h : leafEq a b = true) : a = b := by
  unfold leafEq at h
  split at h
  · split at h <;> first | rfl | cases h
  · simp only [Bool.and_eq_true, decide_eq_true_eq] at h; rw [h.1, h.2]
  · rename_i a b
    simp only [decide_eq_true_eq] at h
    have : a = b := by
      cases a; cases b
      simp only at h
      congr 1
      exact Array.toList_inj.1 h
    rw [this]
  · rfl
  · simp only [Bool.and_eq_true, Nat.beq_eq] at h; rw [h.1, h.2]
  · rfl
  · simp only [Bool.and_eq_true, Nat.beq_eq] at h; rw [h.1.1.1, h.1.1.2, h.1.2, h.2]
  · rfl
  · rfl
  · cases h
def listEq : List Value → List Value → Bool
  | [], [] => true
  | a :: l, b :: m => leafEq a b && listEq l m
  | _, _ => false
theorem listEq_eq : ∀ {l m : List Value}, listEq l m = true → l = m := by
  intro l
  induction l with
  | nil => intro m h; cases m with
    | nil => rfl
    | cons b m => cases h
  | cons a l ih => intro m h; cases m with
    | nil => cases h
    | cons b m =>
      simp only [listEq, Bool.and_eq_true] at h
      rw [leafEq_eq h.1, ih h.2]
def veq : Value → Value → Bool
  | .agg cs, .agg cs' => listEq cs.toList cs'.toList
  | .tuple cs, .tuple cs' => listEq cs.toList cs'.toList
  | a, b => leafEq a b
theorem veq_eq {a b : Value} (h : veq a b = true) : a = b := by
  unfold veq at h
  split at h
  · rw [Array.toList_inj.1 (listEq_eq h)]
  · rw [Array.toList_inj.1 (listEq_eq h)]
  · exact leafEq_eq h
def allTo (f : Nat → Bool) : Nat → Bool
  | 0 => true
  | n + 1 => match f n with
    | true => allTo f n
    | false => false
theorem allTo_spec {f : Nat → Bool} : ∀ {n : Nat}, allTo f n = true → ∀ i, i < n → f i = true := by
  intro n
  induction n with
  | zero => intro _ i hi; omega
  | succ n ih =>
    intro h i hi
    simp only [allTo] at h
    split at h
    · rename_i hn
      by_cases e : i = n
      · subst e; exact hn
      · exact ih h i (by omega)
    · cases h
def dstIs (o : Oper) (t : Nat) : Bool := match o.dst with
  | some d => Nat.beq d t
  | none => false
theorem dstIs_eq {o : Oper} {t : Nat} : dstIs o t = true ↔ o.dst = some t := by
  unfold dstIs
  split
  · rename_i d hd; rw [hd]; simp
  · rename_i hd; rw [hd]; simp
def drStatic (ops : Array Oper) : Bool :=
  allTo (fun i => match ops[i]? with
    | none => false
    | some o => (match o.dst with
        | some d => allTo (fun k => match ops[k]? with
          | some p => !dstIs p d
          | none => true) i
        | none => true) &&
      o.after.toList.all (fun e => !Region.binds .any e || Nat.blt e.on i) &&
      (o.looksAt ops).all fun t => allTo (fun k => match ops[k]? with
        | some p => match dstIs p t with
          | true => match Nat.blt k i with
            | true => ((masks ops).getD i 0).testBit k
            | false => match Nat.beq k i with
              | true => true
              | false => ((masks ops).getD k 0).testBit i
          | false => true
        | none => true) ops.size) ops.size
def mutAt (es : List Ent) (i : Nat) : Bool := match es[i]? with
  | some e => e.mut_
  | none => false
def drDyn (P : Program) (call : CallFn) (ops : Array Oper) (es : List Ent) (fin : St) : Bool :=
  match es.any (·.mut_) with
  | false => true
  | true =>
    allTo (fun i => match es[i]?, ops[i]? with
      | some e, some o => match e.mut_ with
        | true => allTo (fun k => !mutAt es k || ((masks ops).getD i 0).testBit k) i
        | false => match e.want with
          | false => true
          | true => allTo (fun j => Nat.beq j (cnt es i) ||
              !allTo (fun k => !mutAt es k || ((!((masks ops).getD i 0).testBit k || Nat.blt (cnt es k) j) && (!((masks ops).getD k 0).testBit i || Nat.ble j (cnt es k)))) ops.size ||
              (match (heaps es fin)[j]? with
                | some h => match stepOp P call o e.st.tm h with
                  | some (v, _) => veq v e.v
                  | none => false
                | none => true)) ((heaps es fin).length)
      | _, _ => false) ops.size
def drDynR (P : Program) (call : CallFn) (ops : Array Oper) (es : List Ent) (fin : St) : Bool :=
  match es.any (·.mut_) with
  | false => true
  | true =>
    allTo (fun i => match es[i]?, ops[i]? with
      | some e, some o => match e.mut_ with
        | true => true
        | false => match e.want with
          | false => true
          | true => allTo (fun j => Nat.beq j (cnt es i) ||
              !allTo (fun k => !mutAt es k || ((!((masks ops).getD i 0).testBit k || Nat.blt (cnt es k) j) && (!((masks ops).getD k 0).testBit i || Nat.ble j (cnt es k)))) ops.size ||
              (match (heaps es fin)[j]? with
                | some h => match stepOp P call o e.st.tm h with
                  | some (v, _) => veq v e.v
                  | none => false
                | none => true)) ((heaps es fin).length)
      | _, _ => false) ops.size
theorem allTo_of {f : Nat → Bool} : ∀ {n : Nat}, (∀ i, i < n → f i = true) → allTo f n = true := by
  intro n
  induction n with
  | zero => intro _; rfl
  | succ n ih =>
    intro h
    simp only [allTo, h n (Nat.lt_succ_self n)]
    exact ih fun i hi => h i (by omega)
theorem dyn_R {P : Program} {call : CallFn} {ops : Array Oper} {es : List Ent} {fin : St} (h : drDyn P call ops es fin = true) : drDynR P call ops es fin = true := by
  unfold drDyn at h
  unfold drDynR
  cases hany : es.any (·.mut_) with
  | false => rfl
  | true =>
    rw [hany] at h
    refine allTo_of fun i hi => ?_
    have h1 := allTo_spec h i hi
    cases he : es[i]? with
    | none => rw [he] at h1; simp at h1
    | some e =>
      cases ho : ops[i]? with
      | none => rw [he, ho] at h1; simp at h1
      | some o =>
        rw [he, ho] at h1
        cases hm : e.mut_ with
        | true => simp [hm]
        | false => simp only [hm] at h1 ⊢; exact h1
def drBelow (nt : Nat) (ops : Array Oper) : Bool := ops.toList.all fun o => match o.dst with
  | some d => Nat.blt d nt
  | none => true
def drAny (P : Program) : CallFn → Nat → Array Oper → St → Option St := fun call nt ops st =>
  match drStatic ops && drBelow nt ops with
  | true => match passQ P call nt ops ops.toList st with
    | some (es, fin) => match drDyn P call ops es fin with
      | true => some fin
      | false => none
    | none => none
  | false => none
def gd (tm : Tr Value) (t : Nat) : Value := (tm.get t).getD undef
theorem gd_put_same {nt : Nat} {tm : Tr Value} {d : Nat} {v : Value} (hd : d < nt) (hs : nt < 1000000) : gd (aput nt tm (some d) v) d = v := by
  unfold gd aput
  have : Nat.blt d nt = true := by simpa using hd
  simp only [this]
  rw [Tr.get_put_same (by omega)]; rfl
theorem gd_put_other {nt : Nat} {tm : Tr Value} {dst : Option Nat} {t : Nat} {v : Value} (h : dst ≠ some t) : gd (aput nt tm dst v) t = gd tm t := by
  unfold gd aput
  cases dst with
  | none => rfl
  | some d =>
    simp only
    split
    · rw [Tr.get_put_other (fun e => h (by rw [e]))]
    · rfl
def stAt (es : List Ent) (fin : St) (i : Nat) : St := match es[i]? with
  | some e => e.st
  | none => fin
section
variable {P : Program} {call : CallFn} {nt : Nat} {ops : Array Oper}
theorem pass_cons {o : Oper} {l : List Oper} {st : St} {es : List Ent} {fin : St} (h : pass P call nt ops (o :: l) st = some (es, fin)) : ∃ e es' h', es = e :: es' ∧ e.st = st ∧ pass P call nt ops l ⟨aput nt st.tm o.dst e.v, h'⟩ = some (es', fin) := by
  simp only [pass] at h
  split at h
  · split at h
    · split at h
      · rename_i es' fin' he; cases h; exact ⟨_, es', _, rfl, rfl, he⟩
      · cases h
    · cases h
  · split at h
    · rename_i es' fin' he; cases h; exact ⟨_, es', _, rfl, rfl, he⟩
    · cases h
theorem pass_keep (t : Nat) : ∀ (l : List Oper) (st : St) (es : List Ent) (fin : St), pass P call nt ops l st = some (es, fin) → ∀ i, i ≤ l.length → (∀ k o, k < i → l[k]? = some o → o.dst ≠ some t) → gd (stAt es fin i).tm t = gd st.tm t := by
  intro l
  induction l with
  | nil => intro st es fin h i hi _; simp only [pass, Option.some.injEq, Prod.mk.injEq] at h; obtain ⟨rfl, rfl⟩ := h; simp at hi; subst hi; rfl
  | cons o l ih =>
    intro st es fin h i hi hk
    obtain ⟨e, es', h', rfl, hst, he⟩ := pass_cons h
    cases i with
    | zero => simp only [stAt, List.getElem?_cons_zero]; rw [hst]
    | succ i =>
      have := ih _ _ _ he i (by simpa using hi) (fun k o' hki ho => hk (k + 1) o' (by omega) (by simpa using ho))
      have e1 : stAt (e :: es') fin (i + 1) = stAt es' fin i := by simp [stAt]
      rw [e1, this]
      exact gd_put_other (hk 0 o (by omega) rfl)
theorem pass_set (hs : nt < 1000000) (t : Nat) (ht : t < nt) : ∀ (l : List Oper) (st : St) (es : List Ent) (fin : St), pass P call nt ops l st = some (es, fin) → ∀ i, i ≤ l.length → ∀ k o e, k < i → l[k]? = some o → o.dst = some t → es[k]? = some e →
    (∀ k' o', k < k' → k' < i → l[k']? = some o' → o'.dst ≠ some t) → gd (stAt es fin i).tm t = e.v := by
  intro l
  induction l with
  | nil => intro st es fin h i hi k o e _ ho; simp at ho
  | cons o l ih =>
    intro st es fin h i hi k ok ek hki hok hd hek hno
    obtain ⟨e, es', h', rfl, hst, he⟩ := pass_cons h
    cases i with
    | zero => omega
    | succ i =>
      have e1 : stAt (e :: es') fin (i + 1) = stAt es' fin i := by simp [stAt]
      rw [e1]
      cases k with
      | zero =>
        simp only [List.getElem?_cons_zero, Option.some.injEq] at hok hek
        subst hok hek
        rw [pass_keep t l _ es' fin he i (by simpa using hi) (fun k' o' hk' ho' => hno (k' + 1) o' (by omega) (by omega) (by simpa using ho'))]
        simp only [hd]
        exact gd_put_same ht hs
      | succ k => exact ih _ _ _ he i (by simpa using hi) k ok ek (by omega) (by simpa using hok) hd (by simpa using hek) (fun k' o' h1 h2 ho' => hno (k' + 1) o' (by omega) (by omega) (by simpa using ho'))
end
theorem cnt_succ : ∀ (es : List Ent) (i : Nat), i < es.length → cnt es (i + 1) = cnt es i + (match mutAt es i with | true => 1 | false => 0) := by
  intro es
  induction es with
  | nil => intro i hi; simp at hi
  | cons e es ih =>
    intro i hi
    cases i with
    | zero => cases hm : e.mut_ <;> simp [cnt, mutAt, hm]
    | succ i =>
      have := ih i (by simpa using hi)
      simp only [cnt] at this ⊢
      rw [this]
      have : mutAt (e :: es) (i + 1) = mutAt es i := by simp [mutAt]
      rw [this]; omega
theorem mutAt_lt {es : List Ent} {i : Nat} (h : mutAt es i = true) : i < es.length := by
  unfold mutAt at h
  split at h
  · rename_i e he
    rcases Nat.lt_or_ge i es.length with hh | hh
    · exact hh
    · rw [List.getElem?_eq_none hh] at he; cases he
  · cases h
theorem cnt_mono (es : List Ent) {i k : Nat} (hik : i ≤ k) (hk : k ≤ es.length) : cnt es i ≤ cnt es k := by
  induction k with
  | zero => have : i = 0 := by omega
            subst this; exact Nat.le_refl _
  | succ k ih =>
    by_cases e : i = k + 1
    · subst e; exact Nat.le_refl _
    · have := ih (by omega) (by omega)
      have h2 := cnt_succ es k (by omega)
      omega
theorem cnt_lt {es : List Ent} {i k : Nat} (hm : mutAt es i = true) (hik : i < k) (hk : k ≤ es.length) : cnt es i < cnt es k := by
  have h1 := cnt_succ es i (mutAt_lt hm)
  rw [hm] at h1
  have h2 := cnt_mono es (i := i + 1) (k := k) (by omega) hk
  simp only at h1
  omega
theorem cnt_inj {es : List Ent} {i k : Nat} (h1 : mutAt es i = true) (h2 : mutAt es k = true) (e : cnt es i = cnt es k) : i = k := by
  have l1 := mutAt_lt h1
  have l2 := mutAt_lt h2
  rcases Nat.lt_trichotomy i k with h | h | h
  · have := cnt_lt h1 h (by omega); omega
  · exact h
  · have := cnt_lt h2 h (by omega); omega
theorem cnt_before : ∀ (es : List Ent) (i : Nat), i ≤ es.length → 0 < cnt es i → ∃ k, k < i ∧ mutAt es k = true ∧ cnt es k + 1 = cnt es i := by
  intro es i
  induction i with
  | zero => intro _ h; simp [cnt] at h
  | succ i ih =>
    intro hi h
    have h1 := cnt_succ es i (by omega)
    cases hm : mutAt es i with
    | true => rw [hm] at h1; exact ⟨i, by omega, hm, h1.symm⟩
    | false =>
      rw [hm] at h1
      simp only [Nat.add_zero] at h1
      obtain ⟨k, q1, q2, q3⟩ := ih (by omega) (by omega)
      exact ⟨k, by omega, q2, by omega⟩
theorem heaps_last : ∀ (es : List Ent) (fin : St), (heaps es fin).length = cnt es es.length + 1 ∧ (heaps es fin)[cnt es es.length]? = some fin.h := by
  intro es
  induction es with
  | nil => intro fin; exact ⟨rfl, rfl⟩
  | cons e es ih =>
    intro fin
    obtain ⟨h1, h2⟩ := ih fin
    simp only [List.length_cons, cnt, heaps]
    cases e.mut_ with
    | true => simp only [List.length_cons]; exact ⟨by omega, by rw [Nat.add_comm 1, List.getElem?_cons_succ]; exact h2⟩
    | false => simp only [Nat.zero_add]; exact ⟨h1, h2⟩
end
end Go.Vai
