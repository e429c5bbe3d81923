/-
  What is proved here: a region that leaves its order open and lays down one row of plain values at any time (the arguments of a call with any number of arguments): whatever order the machine draws, it comes to what the text's order comes to; so the plain interpreter is sound (part P). Condition: the program follows mixed orders.
-/
import Derived.Test.YtfcadnhoejlgoaaGreatDoorVL
set_option linter.unusedVariables false
set_option linter.unusedSimpArgs false
namespace Go.Vai
noncomputable section
def aBuildL (P : Program) (t : TypeId) (len : Nat) (parts : List (Nat × Value)) : Option (List Value × Nat) :=
 match P.underlying t with
 | some (.slice elem) => match sz P elem, aZero P elem with
  | some size, some z =>
   match Nat.ble (len * size) 16777216 && Nat.beq z.cells.size size && Nat.blt 0 size with
   | true => match aFill (fun i => some (i * size, size)) (zeroCellsL z.cells (len * size)) parts with
    | some l => some (l, size)
    | none => none
   | false => none
  | _, _ => none
 | _ => none
theorem aBuildSlice_eq {P : Program} {h : Heap} {t : TypeId} {len : Nat} {parts : List (Nat × Value)} : aBuildSlice P h t len parts = (match aBuildL P t len parts with
  | some (l, size) => sliceOf len len (h.new (trOf 0 .leaf l) (len * size) size)
  | none => none) := by
 unfold aBuildSlice aBuildL
 cases P.underlying t with
 | none => rfl
 | some d =>
  cases d <;> try rfl
  rename_i elem
  simp only
  cases sz P elem with
  | none => rfl
  | some size => cases aZero P elem with
   | none => rfl
   | some z =>
    simp only
    cases (Nat.ble (len * size) 16777216 && Nat.beq z.cells.size size && Nat.blt 0 size) with
    | false => rfl
    | true =>
     simp only
     cases aFill (fun i => some (i * size, size)) (zeroCellsL z.cells (len * size)) parts <;> rfl
theorem aFill_length {place : Nat → Option (Nat × Nat)} : ∀ (parts : List (Nat × Value)) (cells l : List Value), aFill place cells parts = some l → l.length = cells.length := by
 intro parts
 induction parts with
 | nil => intro cells l h; simp only [aFill, Option.some.injEq] at h; subst h; rfl
 | cons p parts ih =>
  intro cells l h
  obtain ⟨i, v⟩ := p
  simp only [aFill] at h
  split at h
  case h_2 => cases h
  split at h
  case h_2 => cases h
  rw [ih _ _ h, lay_length]
theorem aBuildL_len {P : Program} {t : TypeId} {len size : Nat} {parts : List (Nat × Value)} {l : List Value} (e : aBuildL P t len parts = some (l, size)) : l.length = len * size ∧ len * size ≤ 16777216 := by
 unfold aBuildL at e
 split at e
 case h_2 => cases e
 split at e
 case h_2 => cases e
 split at e
 case h_2 => cases e
 rename_i hck
 simp only [Bool.and_eq_true, Nat.ble_eq, Nat.blt_eq] at hck
 split at e
 case h_2 => cases e
 rename_i hf
 cases e
 exact ⟨by rw [aFill_length _ _ _ hf]; simp [zeroCellsL], hck.1.1⟩
theorem late_run {P : Program} {ρ : Rho} {t : TypeId} {len size : Nat} {parts : List (Nat × Value)} {parts' : Array (Nat × Value)} {l : List Value} (e : aBuildL P t len parts = some (l, size)) (r : F2 (fun p p' => p.1 = p'.1 ∧ VRel ρ p.2 p'.2) parts parts'.toList) :
  ∃ elem, ∃ arr : Array Value, (∀ w, (Instr.buildSlice t len parts').run P w = .ok (.slice (some ⟨w.heap.size, 0, none⟩) len len) (w.alloc (.cells arr elem))) ∧ F2 (LRel ρ) l arr.toList ∧ l.length = len * size ∧ len * size ≤ 16777216 := by
 unfold aBuildL at e
 split at e
 case h_2 => cases e
 rename_i elem hu
 split at e
 case h_2 => cases e
 rename_i size' z hs hz
 split at e
 case h_2 => cases e
 rename_i hck
 simp only [Bool.and_eq_true, Nat.ble_eq, Nat.blt_eq] at hck
 obtain ⟨⟨hk1, hk2⟩, hk3⟩ := hck
 have hk2 : z.cells.size = size' := Nat.eq_of_beq_eq_true hk2
 split at e
 case h_2 => cases e
 rename_i l₁ hf
 cases e
 have hzc := zeroCellsL_plain (ρ := ρ) (cellsAll_of (aZero_plain hz)) (n := len * size) (.inr (by omega))
 rw [← zeroCellsL_arr] at hzc
 obtain ⟨l', q1, q2, q3⟩ := aFill_sound parts parts'.toList _ l ((Array.range (len * size)).map (z.cells[· % z.cells.size]!)) hf r (by
  have := hzc; rw [zeroCellsL_arr] at this ⊢; exact this)
 have hll : l.length = len * size := by rw [q3]; simp [zeroCellsL]
 refine ⟨elem, l', fun w => ?_, q2, hll, hk1⟩
 simp only [Instr.buildSlice, Sem.run_bind, run_underlying_some hu, run_sz hs, Result.andThen_ok]
 rw [if_neg (by omega)]
 by_cases h0 : len * size = 0
 ·
  simp only [h0, if_true, Sem.run_pure, Result.andThen_ok, Sem.run_bind]
  have q1' : Instr.fill (fun i => some (i * size, size)) ((Array.range 0).map ((#[] : Array Value)[· % (#[] : Array Value).size]!)) parts'.toList = some l' := by
   have ea : ∀ f : Nat → Value, (Array.range 0).map f = #[] := fun f => Array.toList_inj.1 (by simp)
   rw [← q1, h0, ea, ea]
  rw [q1']
  simp [newRow]
 ·
  simp only [h0, if_false, Sem.run_bind, run_zero hz, Sem.run_pure, Result.andThen_ok]
  rw [q1]
  simp [newRow]
def aMakeL (P : Program) (t : TypeId) (len cap : Value) : Option (List Value × Nat × Nat × Nat) :=
 match P.underlying t with
 | some (.slice elem) => match sz P elem, aZero P elem, P.info? elem with
  | some size, some z, some i => match len, cap with
   | .int _ l, .int _ c =>
    match decide (0 ≤ l) && decide (l ≤ c) && decide (c * i.bytes ≤ 281474976710656) && Nat.ble (c.toNat * size) 100000000 && Nat.beq z.cells.size size && Nat.blt 0 size && decide (c ≤ 1000000000) with
    | true => some (zeroCellsL z.cells (c.toNat * size), size, l.toNat, c.toNat)
    | false => none
   | _, _ => none
  | _, _, _ => none
 | _ => none
theorem aMakeSlice_eq {P : Program} {h : Heap} {t : TypeId} {len cap : Value} : aMakeSlice P h t len cap = (match aMakeL P t len cap with
  | some (l, size, n, c) => sliceOf n c (h.new (trOf 0 .leaf l) (c * size) size)
  | none => none) := by
 unfold aMakeSlice aMakeL
 cases P.underlying t with
 | none => rfl
 | some d =>
  cases d <;> try rfl
  rename_i elem
  simp only
  cases sz P elem with
  | none => rfl
  | some size => cases aZero P elem with
   | none => rfl
   | some z => cases P.info? elem with
    | none => rfl
    | some i =>
     simp only
     cases len <;> cases cap <;> try rfl
     rename_i k l k2 c
     simp only
     cases (decide (0 ≤ l) && decide (l ≤ c) && decide (c * i.bytes ≤ 281474976710656) && Nat.ble (c.toNat * size) 100000000 && Nat.beq z.cells.size size && Nat.blt 0 size && decide (c ≤ 1000000000)) <;> rfl
theorem makeL_run {P : Program} {ρ : Rho} {t : TypeId} {len cap len' cap' : Value} {l : List Value} {size n c : Nat} (e : aMakeL P t len cap = some (l, size, n, c)) (rl : VRel ρ len len') (rc : VRel ρ cap cap') :
  ∃ elem, ∃ arr : Array Value, (∀ w, (Instr.makeSlice t len' cap').run P w = .ok (.slice (some ⟨w.heap.size, 0, none⟩) n c) (w.alloc (.cells arr elem))) ∧ F2 (LRel ρ) l arr.toList ∧ l.length = c * size ∧ c * size ≤ 100000000 ∧ n ≤ c := by
 unfold aMakeL at e
 split at e
 case h_2 => cases e
 rename_i elem hu
 split at e
 case h_2 => cases e
 rename_i size z i hs hz hi
 split at e
 case h_2 => cases e
 rename_i k l0 k' c0
 split at e
 case h_2 => cases e
 rename_i hck
 simp only [Bool.and_eq_true, Nat.ble_eq, Nat.blt_eq, decide_eq_true_eq] at hck
 obtain ⟨⟨⟨⟨⟨⟨k1, k2⟩, k3⟩, k4⟩, k5⟩, k6⟩, k7⟩ := hck
 have k5 : z.cells.size = size := Nat.eq_of_beq_eq_true k5
 cases e
 have := rl.eq_of_plain rfl; subst this
 have := rc.eq_of_plain rfl; subst this
 have hzc := zeroCellsL_plain (ρ := ρ) (cellsAll_of (aZero_plain hz)) (n := c0.toNat * size) (.inr (by omega))
 have wl : IntKind.i64.wrap l0 = l0 := wrap_id k1 (by omega)
 have wc : IntKind.i64.wrap c0 = c0 := wrap_id (by omega) k7
 have hbm : ¬ (281474976710656 < (i.bytes : Int) * c0) := by rw [Int.mul_comm]; omega
 have hll : (zeroCellsL z.cells (c0.toNat * size)).length = c0.toNat * size := by simp [zeroCellsL]
 by_cases h0 : c0.toNat * size = 0
 ·
  refine ⟨elem, (Array.range (c0.toNat * size)).map ((#[] : Array Value)[· % (#[] : Array Value).size]!), fun w => ?_, by rw [h0]; simp [zeroCellsL]; exact .nil, hll, k4, by omega⟩
  simp only [Instr.makeSlice, Sem.run_bind, run_underlying_some hu, run_sz hs, Result.andThen_ok, asInt, asIntOf, Sem.run_pure, run_typeInfo_some hi, wl, wc]
  rw [if_neg (by simp; omega)]
  simp only [Sem.run_bind, run_askRoom, Result.andThen_ok, run_sz hs, if_pos h0, Sem.run_pure]
  simp [newRow]
 ·
  refine ⟨elem, (Array.range (c0.toNat * size)).map (z.cells[· % z.cells.size]!), fun w => ?_, by rw [zeroCellsL_arr]; exact hzc, hll, k4, by omega⟩
  simp only [Instr.makeSlice, Sem.run_bind, run_underlying_some hu, run_sz hs, Result.andThen_ok, asInt, asIntOf, Sem.run_pure, run_typeInfo_some hi, wl, wc]
  rw [if_neg (by simp; omega)]
  simp only [Sem.run_bind, run_askRoom, Result.andThen_ok, run_sz hs, if_neg h0, run_zero hz, Sem.run_pure]
  simp [newRow]
structure Pend (ρ : Rho) (w : World) (W : Nat) (arr : Array Value) (elem : TypeId) : Prop where
 at_ : w.heap[W]? = some (.cells arr elem (0, 0))
 un : ∀ b I, ρ b = some I → I.g ≠ W
 tg : ¬ TG W
theorem Pend.go {ρ ρ' : Rho} {w w' : World} {W : Nat} {arr : Array Value} {elem : TypeId} (h : Pend ρ w W arr elem) (g : Grow ρ ρ' w) (f : Fr ρ w w') : Pend ρ' w' W arr elem := by
 have hlt : W < w.heap.size := (Array.getElem?_eq_some_iff.1 h.at_).1
 refine ⟨?_, ?_, h.tg⟩
 · rw [f.keep W hlt h.un]; exact h.at_
 ·
  intro b I e
  rcases g.new b I e with hb | ⟨b₀, I₀, e₀, eg⟩
  · omega
  · rw [← eg]; exact h.un b₀ I₀ e₀
theorem HRel.allocU {ρ : Rho} {h : Heap} {w : World} (H : HRel ρ h w) (o : Obj) : HRel ρ h (w.alloc o) := by
 refine H.world (by simp) ?_ ?_ (fun g r _ hh => obj_alloc hh) (fun _ _ _ _ _ hh => obj_alloc hh) (fun k _ hk => by
  show (w.heap.push _)[k]? = _
  rw [Array.getElem?_push, if_neg (by omega)])
 · intro b I e j _; exact World.cell?_alloc_lt w _ _ (img_old H e)
 · intro b I e j _ _ hf; rw [World.frozen?_alloc_old w _ _ (Nat.ne_of_lt (img_old H e))]; exact hf
theorem HRel.late {ρ : Rho} {h h' : Heap} {w : World} (H : HRel ρ h w) {W : Nat} {arr : Array Value} {elem : TypeId} (p : Pend ρ w W arr elem) {size esz b : Nat} (e : h.new (trOf 0 .leaf arr.toList) size esz = some (b, h')) (hs : arr.size = size) (hsh : size < 1000000000)
  (hpl : arr.toList.all leafPlain = true) : HRel (upd ρ h.next ⟨W, 0, arr.size, esz, none⟩) h' w ∧ b = h.next := by
 unfold Heap.new at e
 split at e
 case h_2 => cases e
 rename_i hn
 have hn : True := trivial
 simp only [Option.some.injEq, Prod.mk.injEq] at e
 obtain ⟨rfl, rfl⟩ := e
 have hlt : W < w.heap.size := (Array.getElem?_eq_some_iff.1 p.at_).1
 have hc : ∀ j, w.cell? ⟨W, j, none⟩ = arr[j]? := by intro j; simp [World.cell?, p.at_]
 refine ⟨?_, rfl⟩
 refine H.add _ size esz h.next h.next w ⟨W, 0, arr.size, esz, none⟩ ⟨fun _ _ _ => rfl, p.tg⟩ (Nat.le_refl _) (Nat.le_refl _) hlt ?_ ?_ rfl (by simp [hs]) ?_ ?_ ?_ ?_ ?_ ?_ (fun g r _ hh => hh) rfl (fun _ _ _ _ _ _ _ hh => hh)
 · intro j _ hj; exact ⟨arr[j], by rw [hc]; exact Array.getElem?_eq_getElem hj⟩
 · intro j _ _; simp [World.frozen?, p.at_]
 ·
  intro i v hi hv
  have h1 : arr.toList[i]? = some v := tr_of_list (by simp [short]) hv
  have h2 : arr[i]? = some v := by simpa using h1
  refine ⟨v, by rw [hc, Nat.zero_add]; exact h2, .plain ?_⟩
  exact List.all_eq_true.1 hpl v (List.mem_of_getElem? h1)
 · intro c J e j hj; exact ⟨id, id⟩
 · intro c J B C e _ _ _ _ i _; rfl
 · intro c J B e _ hg; exact absurd hg (p.un c J e)
 ·
  intro c J B C e hB hc' _ hm
  obtain ⟨_, _, _, _, d3, _⟩ := H.dom c J e
  omega
 · intro c J B e _ _ hm; obtain ⟨_, _, _, _, d3, _⟩ := H.dom c J e; omega
def isTmpC : Operand → Bool
 | .tmp _ => true
 | .const _ => true
 | _ => false
def noDS : Op → Bool
 | .defer _ => false
 | .select _ _ => false
 | _ => true
def lateTmp : Op → Bool
 | .buildSlice _ _ parts => parts.toList.all fun p => isTmpC p.2
 | .makeSlice _ x y => isTmpC x && isTmpC y
 | _ => false
def lateRow (P : Program) (h : Heap) (tm : Tr Value) : Op → Option (List Value × Nat × Nat × Nat)
 | .buildSlice t len parts => match aevP h tm parts.toList with
  | some ps => match aBuildL P t len ps with
   | some (l, size) => some (l, size, len, len)
   | none => none
  | none => none
 | .makeSlice t x y => match aev h tm x, aev h tm y with
  | some u, some v => aMakeL P t u v
  | _, _ => none
 | _ => none
def lateAt (P : Program) (ops : Array Oper) (es : List Ent) (i0 : Nat) : Bool :=
 match es[i0]?, ops[i0]? with
 | some e, some o => match o.dst with
  | some _ => match e.mut_ && lateTmp o.op with
   | true => match lateRow P e.st.h e.st.tm o.op with
    | some (l, _, _, _) => l.all leafPlain
    | none => false
   | false => false
  | none => false
 | _, _ => false
def lateOrd (ops : Array Oper) (es : List Ent) (i0 : Nat) : Bool := allTo (fun i =>
  (!mutAt es i || Nat.beq i i0 || (allTo (fun k => Nat.beq k i0 || !mutAt es k || ((masks ops).getD i 0).testBit k) i && (!Nat.blt i0 i || ((masks ops).getD i 0).testBit i0))) &&
  (!((masks ops).getD i 0).testBit i0 || allTo (fun m => !mutAt es m || (!Nat.beq m i && ((masks ops).getD i 0).testBit m)) i0) &&
  (match ops[i]? with
   | some o => o.after.toList.all (fun e => !Region.binds .any e || !Nat.beq e.on i0 || ((masks ops).getD i 0).testBit i0) && noDS o.op
   | none => false)) ops.size
def drLate (P : Program) : CallFn → Nat → Array Oper → St → Option St := fun call nt ops st =>
 match drStatic ops && drBelow nt ops with
 | true => match passQ P call nt ops ops.toList st with
  | some (es, fin) => match drDynR P call ops es fin && (List.range ops.size).any (fun i0 => lateAt P ops es i0 && lateOrd ops es i0) with
   | true => some fin
   | false => none
  | none => none
 | false => none
theorem beq_false_of {a b : Nat} (h : a ≠ b) : Nat.beq a b = false := by
 cases e : Nat.beq a b with
 | false => rfl
 | true => exact absurd (Nat.eq_of_beq_eq_true e) h
theorem aev_any {h h' : Heap} {tm tm' : Tr Value} {x : Operand} (hx : isTmpC x = true) (e : ∀ t, x = .tmp t → (tm.get t).getD undef = (tm'.get t).getD undef) : aev h tm x = aev h' tm' x := by
 cases x with
 | tmp t => simp only [aev, e t rfl]
 | const v => rfl
 | _ => cases hx
theorem aevP_any {h h' : Heap} {tm tm' : Tr Value} : ∀ {xs : List (Nat × Operand)}, xs.all (fun p => isTmpC p.2) = true → (∀ x ∈ xs, ∀ t, x.2 = .tmp t → (tm.get t).getD undef = (tm'.get t).getD undef) → aevP h tm xs = aevP h' tm' xs := by
 intro xs
 induction xs with
 | nil => intro _ _; rfl
 | cons x xs ih =>
  obtain ⟨i, x⟩ := x
  intro ha e
  simp only [List.all_cons, Bool.and_eq_true] at ha
  simp only [aevP, aev_any (h := h) (h' := h') ha.1 (e (i, x) (by simp)), ih ha.2 fun y hy => e y (by simp [hy])]
theorem lateRow_any {P : Program} {h h' : Heap} {tm tm' : Tr Value} {op : Op} (ht : lateTmp op = true) (e : ∀ x ∈ op.operands.toList, ∀ t, x = .tmp t → (tm.get t).getD undef = (tm'.get t).getD undef) : lateRow P h tm op = lateRow P h' tm' op := by
 cases op <;> first | (cases ht; done) | skip
 case buildSlice t len parts =>
  simp only [lateRow]
  rw [aevP_any (h' := h') ht fun x hx t ht => e x.2 (by simp only [Op.operands, Array.toList_map, List.mem_map]; exact ⟨x, hx, rfl⟩) t ht]
 case makeSlice t x y =>
  simp only [lateTmp, Bool.and_eq_true] at ht
  simp only [lateRow]
  rw [aev_any (h' := h') ht.1 (e x (by simp [Op.operands])), aev_any (h' := h') ht.2 (e y (by simp [Op.operands]))]
theorem lateRow_run {P : Program} {ρ : Rho} {h : Heap} {w : World} {tm : Tr Value} {a : Act} {o : Oper} {l : List Value} {size n c : Nat} (H : HRel ρ h w) (T : TRel ρ tm a.tmps) (ht : lateTmp o.op = true) (e : lateRow P h tm o.op = some (l, size, n, c)) :
  ∃ elem, ∃ arr : Array Value, (∀ w, (execOp a.eval o).run P w = .ok (.value (.slice (some ⟨w.heap.size, 0, none⟩) n c)) (w.alloc (.cells arr elem))) ∧ F2 (LRel ρ) l arr.toList := by
 obtain ⟨dst, op, ty, pos, after, guard⟩ := o
 cases op <;> first | (cases ht; done) | skip
 case buildSlice t len parts =>
  simp only [lateRow] at e
  split at e
  case h_2 => cases e
  rename_i ps hps
  split at e
  case h_2 => cases e
  rename_i l1 size1 hb
  cases e
  have hF2 : F2 (fun p p' => p.1 = p'.1 ∧ VRel ρ p.2 p'.2) ps (parts.map fun (i, x) => (i, a.eval x)).toList := by
   have := aevP_sound H T hps; simpa using this
  obtain ⟨elem, arr, hrun, harr, _, _⟩ := late_run hb hF2
  refine ⟨elem, arr, fun w => ?_, harr⟩
  have : execOp a.eval ⟨dst, .buildSlice t n parts, ty, pos, after, guard⟩ = (do pure (.value (← Instr.buildSlice t n (parts.map fun (i, x) => (i, a.eval x))))) := by unfold execOp; rfl
  rw [this, Sem.run_bind, hrun]; rfl
 case makeSlice t x y =>
  simp only [lateRow] at e
  split at e
  case h_2 => cases e
  rename_i u v hu hv
  obtain ⟨elem, arr, hrun, harr, _, _⟩ := makeL_run e (aev_sound H T hu) (aev_sound H T hv)
  refine ⟨elem, arr, fun w => ?_, harr⟩
  have : execOp a.eval ⟨dst, .makeSlice t x y, ty, pos, after, guard⟩ = (do pure (.value (← Instr.makeSlice t (a.eval x) (a.eval y)))) := by unfold execOp; rfl
  rw [this, Sem.run_bind, hrun]; rfl
theorem lateRow_len {P : Program} {h : Heap} {tm : Tr Value} {op : Op} {l : List Value} {size n c : Nat} (e : lateRow P h tm op = some (l, size, n, c)) : l.length = c * size ∧ c * size ≤ 100000000 ∧ n ≤ c := by
 cases op <;> first | (cases e; done) | skip
 case buildSlice t len parts =>
  simp only [lateRow] at e
  split at e
  case h_2 => cases e
  split at e
  case h_2 => cases e
  rename_i hb
  cases e
  obtain ⟨q1, q2⟩ := aBuildL_len hb
  exact ⟨q1, by omega, Nat.le_refl _⟩
 case makeSlice t x y =>
  simp only [lateRow] at e
  split at e
  case h_2 => cases e
  rename_i u v hu hv
  unfold aMakeL at e
  split at e
  case h_2 => cases e
  split at e
  case h_2 => cases e
  split at e
  case h_2 => cases e
  split at e
  case h_2 => cases e
  rename_i hck
  simp only [Bool.and_eq_true, Nat.ble_eq, Nat.blt_eq, decide_eq_true_eq] at hck
  cases e
  exact ⟨by simp [zeroCellsL], hck.1.1.1.2, by omega⟩
theorem lateRow_step {P : Program} {call : CallFn} {h : Heap} {tm : Tr Value} {o : Oper} {l : List Value} {size n c : Nat} (e : lateRow P h tm o.op = some (l, size, n, c)) : stepOp P call o tm h = sliceOf n c (h.new (trOf 0 .leaf l) (c * size) size) := by
 obtain ⟨dst, op, ty, pos, after, guard⟩ := o
 cases op <;> first | (cases e; done) | skip
 case buildSlice t len parts =>
  simp only [lateRow] at e
  split at e
  case h_2 => cases e
  rename_i ps hps
  split at e
  case h_2 => cases e
  rename_i l1 size1 hb
  cases e
  simp only [stepOp, hps, aBuildSlice_eq, hb]
 case makeSlice t x y =>
  simp only [lateRow] at e
  split at e
  case h_2 => cases e
  rename_i u v hu hv
  simp only [stepOp, hu, hv, aMakeSlice_eq, e]
theorem wpOpIn_back {F : Fence} {n : Nat} {P : Program} {ops : Array Oper} {i : Nat} {o : Oper} {d : Nat} {v : Value} (ho : ops[i]? = some o) (hl : d ∉ o.looksAt ops) (hd : o.dst ≠ some d) (hds : noDS o.op = true)
  {K : Act → World → Prop} {Q : Exit → Act → World → Prop} {a : Act} {w : World} (h : wpOpIn F n P ops (fun _ _ _ => False) i (fun a2 w2 => K (a2.put (some d) v) w2) a w) : wpOpIn F n P ops Q i K (a.put (some d) v) w := by
 have h1 : ∀ d', some d = some d' → d' ∉ o.looksAt ops := by rintro _ ⟨⟩; exact hl
 have h2 : ∀ d', some d = some d' → o.dst ≠ some d' := by rintro _ ⟨⟩; exact hd
 have hnd : ∀ c, o.op ≠ .defer c := by intro c e; rw [e] at hds; cases hds
 have hns : ∀ cs b, o.op ≠ .select cs b := by intro c b e; rw [e] at hds; cases hds
 unfold wpOpIn at *
 simp only [ho] at *
 rw [wanted_put o a (some d) v h1, about_put o w a (some d) v h1]
 split
 ·
  rename_i hw
  simp only [hw, if_true] at h
  unfold Oper.wpIn at *
  rw [about_put o w a (some d) v h1]
  refine ⟨h.1, ?_⟩
  have h := h.2
  rw [Oper.semAt_eq _ _ _ hnd] at h ⊢
  rw [execOp_put o hns a (some d) v h1]
  generalize (execOp a.eval o).run P w = r at *
  cases r with
  | ok x w' =>
   cases x <;> simp only [Oper.uponIn] at h ⊢
   case value u => rw [Act.put_comm a v u h2]; exact h
   case skip => rw [Act.put_comm a v undef h2]; exact h
   case defer q =>
    have e : ({ (a.put (some d) v) with defers := q :: (a.put (some d) v).defers } : Act) = ({ a with defers := q :: a.defers } : Act).put (some d) v := rfl
    rw [e, Act.put_comm _ v undef h2]
    exact h
   case enter f args =>
    refine ⟨h.1, CallsIn.mono h.2 fun e w'' he => ?_⟩
    cases e with
    | returned u => show K ((a.put (some d) v).put o.dst u) w''; rw [Act.put_comm a v u h2]; exact he
    | panicked c => exact he.elim
    | outgrown => obtain ⟨_, _, hx⟩ := he; exact hx.elim
   case row row args => exact ⟨h.1, RowsIn.mono h.2 fun u w'' he => by rw [Act.put_comm a v u h2]; exact he⟩
   case round l f tmps assign body =>
    refine ⟨h.1, RoundIn.mono h.2 fun e w'' he => ?_⟩
    cases e with
    | returned u => show K ((a.put (some d) v).put o.dst u) w''; rw [Act.put_comm a v u h2]; exact he
    | panicked c => exact he.elim
    | outgrown => obtain ⟨_, _, hx⟩ := he; exact hx.elim
  | halt x w' => cases x <;> simp only [Oper.uponIn] at h ⊢
 ·
  rename_i hw
  simp only [hw] at h
  refine ⟨h.1, ?_⟩
  rw [Act.put_comm a v undef h2]; exact h.2
section
variable {P : Program} {call : CallFn} {nt : Nat} {ops : Array Oper} {es : List Ent} {fin st : St}
structure LateOrd (ops : Array Oper) (es : List Ent) (i0 : Nat) : Prop where
 m : ∀ i, i < ops.size → mutAt es i = true → i ≠ i0 → ∀ k, k < i → k ≠ i0 → mutAt es k = true → ((masks ops).getD i 0).testBit k = true
 m0 : ∀ i, i < ops.size → mutAt es i = true → i0 < i → ((masks ops).getD i 0).testBit i0 = true
 d : ∀ i, i < ops.size → ((masks ops).getD i 0).testBit i0 = true → ∀ m, m < i0 → mutAt es m = true → m ≠ i ∧ ((masks ops).getD i 0).testBit m = true
 e : ∀ i o, ops[i]? = some o → ∀ e ∈ o.after.toList, Region.binds .any e = true → e.on = i0 → ((masks ops).getD i 0).testBit i0 = true
 n : ∀ (i : Nat) (o : Oper), ops[i]? = some o → noDS o.op = true
theorem lateOrd_spec {i0 : Nat} (h : lateOrd ops es i0 = true) : LateOrd ops es i0 := by
 have key : ∀ i, i < ops.size → _ := fun i hi => allTo_spec h i hi
 refine ⟨?_, ?_, ?_, ?_, ?_⟩
 ·
  intro i hi hm hne k hk hk0 hmk
  have h1 := key i hi
  simp only [Bool.and_eq_true] at h1
  have h2 := h1.1.1
  rw [hm, beq_false_of hne] at h2
  simp only [Bool.not_true, Bool.false_or, Bool.and_eq_true] at h2
  have h3 := allTo_spec h2.1 k hk
  rw [beq_false_of hk0, hmk] at h3
  simpa using h3
 ·
  intro i hi hm hlt
  have h1 := key i hi
  simp only [Bool.and_eq_true] at h1
  have h2 := h1.1.1
  rw [hm, beq_false_of (by omega)] at h2
  simp only [Bool.not_true, Bool.false_or, Bool.and_eq_true] at h2
  have h3 := h2.2
  have : Nat.blt i0 i = true := by simpa using hlt
  rw [this] at h3
  simpa using h3
 ·
  intro i hi hb m hm hmm
  have h1 := key i hi
  simp only [Bool.and_eq_true] at h1
  have h2 := h1.1.2
  rw [hb] at h2
  simp only [Bool.not_true, Bool.false_or] at h2
  have h3 := allTo_spec h2 m hm
  rw [hmm] at h3
  simp only [Bool.not_true, Bool.false_or, Bool.and_eq_true, Bool.not_eq_true'] at h3
  refine ⟨?_, h3.2⟩
  rintro rfl
  simp at h3
 ·
  intro i o ho e he hb hon
  have h1 := key i (Array.getElem?_eq_some_iff.1 ho).1
  simp only [Bool.and_eq_true, ho] at h1
  have h2 := List.all_eq_true.1 h1.2.1 e he
  rw [hb, hon] at h2
  simpa using h2
 ·
  intro i o ho
  have h1 := key i (Array.getElem?_eq_some_iff.1 ho).1
  simp only [Bool.and_eq_true, ho] at h1
  exact h1.2.2
def LState (ops : Array Oper) (es : List Ent) (fin st : St) (n0 nt i0 d0 len cp : Nat) (l : List Value) (wst : World) (listed : Array Bool) (cur : St) (ρ : Rho) (a : Act) (w : World) : Prop :=
 (∃ j, DInv ops es fin st listed j cur ∧ SRel n0 ρ nt cur a w) ∨
 ∃ j listed' a' W arr elem, listed = listed'.setIfInBounds i0 true ∧ ¬ Lst listed' i0 ∧ Down ops (Lst listed) ∧ DInv ops es fin st listed' j cur ∧ SRel n0 ρ nt cur a' w ∧ a = a'.put (some d0) (.slice (some ⟨W, 0, none⟩) len cp) ∧ Pend ρ w W arr elem ∧
  wst.heap.size ≤ W ∧ arr.toList = l ∧ ∃ m, m < i0 ∧ mutAt es m = true ∧ ¬ Lst listed' m
end
theorem drLate_ok {P : Program} (hf : P.follows .mixedOrders = true) : DrOk P (drLate P) := by
 intro call hcall id nt ops st st' e F hF n n0 ρ a w S
 unfold drLate at e
 split at e
 case h_2 => cases e
 rename_i hck
 simp only [Bool.and_eq_true] at hck
 obtain ⟨hst, hbe⟩ := hck
 split at e
 case h_2 => cases e
 rename_i es fin hps
 rw [passQ_eq] at hps
 split at e
 case h_2 => cases e
 rename_i hdy
 cases e
 simp only [Bool.and_eq_true, List.any_eq_true, List.mem_range] at hdy
 obtain ⟨hR, i0, hi0, hla, hlo⟩ := hdy
 have L := lateOrd_spec hlo
 have hlen : es.length = ops.size := by have := pass_length _ _ _ _ hps; simpa using this
 unfold lateAt at hla
 split at hla
 case h_2 => cases hla
 rename_i en0 o0 hen0 ho0
 split at hla
 case h_2 => cases hla
 rename_i d0 hdst
 split at hla
 case h_2 => cases hla
 rename_i hmt
 simp only [Bool.and_eq_true] at hmt
 obtain ⟨hmut0, htc⟩ := hmt
 split at hla
 case h_2 => cases hla
 rename_i l size len cp hrow0
 have hm0 : mutAt es i0 = true := by simp [mutAt, hen0, hmut0]
 have hd0 : d0 < nt := below_spec hbe ho0 hdst
 refine wpIn_region_any hf ?_
 obtain ⟨en0', hen0', hhe0, hwant0, hmutd0, _, hyes0⟩ := pass_at _ _ _ _ hps i0 o0 (by simpa using ho0)
 rw [hen0] at hen0'; cases hen0'
 have hw0 : en0.want = true := by
  cases hx : en0.want with
  | true => rfl
  | false => rw [hx] at hmutd0; rw [hmut0] at hmutd0; simp at hmutd0
 have main : ∀ (fuel : Nat) (listed : Array Bool) (cur : St) (ρ₁ : Rho) (a₁ : Act) (w₁ : World), left listed ops.size = fuel → listed.size = ops.size → LState ops es st' st n0 nt i0 d0 len cp l w listed cur ρ₁ a₁ w₁ → Grow ρ ρ₁ w → Fr ρ w w₁ →
   wpAnyIn F n P .any ops (PostX n0 ρ w nt .normal st') fuel listed a₁ w₁ := by
  intro fuel
  have theEnd : ∀ (listed : Array Bool) (cur : St) (ρ₁ : Rho) (a₁ : Act) (w₁ : World), LState ops es st' st n0 nt i0 d0 len cp l w listed cur ρ₁ a₁ w₁ → Grow ρ ρ₁ w → Fr ρ w w₁ → Region.ready .any ops listed = [] → PostX n0 ρ w nt .normal st' .normal a₁ w₁ := by
   intro listed cur ρ₁ a₁ w₁ LS g f hr
   rcases LS with ⟨j, I, S₁⟩ | ⟨j, listed', a', W, arr, elem, hl, hni, hdc, I, S₁, ha, hp, hW, harr, m, hm, hmm, hnm⟩
   ·
    obtain ⟨q1, q2⟩ := dinv_end hst hbe S.s hps I hr
    refine ⟨rfl, ρ₁, g, f, ?_, ?_, S₁.d, S₁.n, S₁.s, S₁.z⟩
    · rw [← q1]; exact S₁.h
    · intro t; have := S₁.t t; have e2 := q2 t; unfold gd at e2; rw [← e2]; exact this
   ·
    exfalso
    have hlt0 : i0 < listed'.size := by rw [I.sz]; exact hi0
    have all : ∀ i, i < ops.size → Lst listed i := by
     intro i
     induction i using Nat.strongRecOn with
     | _ i ih =>
      intro hi
      obtain ⟨o, ho⟩ : ∃ o, ops[i]? = some o := ⟨ops[i], Array.getElem?_eq_getElem hi⟩
      cases hl2 : listed.getD i false with
      | true => exact hl2
      | false =>
       exfalso
       have : i ∈ Region.ready .any ops listed := mem_ready.2 ⟨by
        have hlt : i < listed.size := by rw [hl]; simp [I.sz]; exact hi
        simp only [Array.getD, hlt, dif_pos] at hl2 ⊢; exact hl2, o, ho, fun e he hb => by
         have hlt := (static_spec hst ho).2.1 e (by simpa using he) hb
         exact ih e.on hlt (by omega)⟩
       rw [hr] at this; cases this
    have hmn : m < ops.size := by omega
    have := all m hmn
    rw [hl] at this
    exact hnm (((lst_set hlt0).1 this).resolve_left (by omega))
  induction fuel with
  | zero =>
   intro listed cur ρ₁ a₁ w₁ hleft hsz LS g f
   have hr : Region.ready .any ops listed = [] := by
    rw [List.eq_nil_iff_forall_not_mem]
    intro i hi
    obtain ⟨h1, o, ho, _⟩ := mem_ready.1 hi
    have hn : i < ops.size := (Array.getElem?_eq_some_iff.1 ho).1
    have hlt : i < listed.size := by rw [hsz]; exact hn
    have h1' : listed.getD i false = false := by
     simp only [Array.getD, hlt, dif_pos] at h1 ⊢; exact h1
    have hmem : i ∈ (List.range ops.size).filter fun i => !listed.getD i false := by
     rw [List.mem_filter]; exact ⟨List.mem_range.2 hn, by rw [h1']; rfl⟩
    have : (List.range ops.size).filter (fun i => !listed.getD i false) = [] := List.length_eq_zero_iff.1 hleft
    rw [this] at hmem; cases hmem
   exact ⟨hr, theEnd listed cur ρ₁ a₁ w₁ LS g f hr⟩
  | succ fuel ih =>
   intro listed cur ρ₁ a₁ w₁ hleft hsz LS g f
   refine ⟨fun hr => theEnd listed cur ρ₁ a₁ w₁ LS g f hr, fun i hi => ?_⟩
   obtain ⟨h1, o, ho, hpred⟩ := mem_ready.1 hi
   have hn : i < ops.size := (Array.getElem?_eq_some_iff.1 ho).1
   have hlt : i < listed.size := by rw [hsz]; exact hn
   have h1' : listed.getD i false = false := by
    simp only [Array.getD, hlt, dif_pos] at h1 ⊢; exact h1
   have hni : ¬ Lst listed i := by unfold Lst; rw [h1']; simp
   have hpred : ∀ e ∈ o.after.toList, Region.binds .any e = true → Lst listed e.on := fun e he hb => hpred e (by simpa using he) hb
   have hleft' : left (listed.setIfInBounds i true) ops.size = fuel := by have := left_set hn hsz.symm h1'; omega
   have hsz' : (listed.setIfInBounds i true).size = ops.size := by simp [hsz]
   rcases LS with ⟨j, I, S₁⟩ | ⟨j, listed', a', W, arr, elem, hl, hni0, hdc, I, S₁, ha, hp, hW, harr, m, hm, hmm, hnm⟩
   ·
    have hdown := down_set hlt I.dc ho hpred
    have li : Lst (listed.setIfInBounds i true) i := (lst_set hlt).2 (.inl rfl)
    by_cases hearly : i = i0 ∧ ∃ m, m < i0 ∧ mutAt es m = true ∧ ¬ Lst listed m
    ·
     obtain ⟨rfl, m, hm, hmm, hnm⟩ := hearly
     rw [ho0] at ho; cases ho
     obtain ⟨en, hen, slot, hwe⟩ := dinv_slot hst hbe S.s hps I ho0 hni hpred
     rw [hen0] at hen; cases hen
     have hslotp : ∀ x ∈ o0.op.operands.toList, ∀ t, x = .tmp t → (cur.tm.get t).getD undef = (en0.st.tm.get t).getD undef := by
      intro x hx t ht
      refine slot t ?_
      unfold Oper.looksAt
      refine List.mem_append_left _ ?_
      rw [List.mem_filterMap]
      exact ⟨x, hx, by rw [ht]⟩
     have hev : lateRow P cur.h cur.tm o0.op = some (l, size, len, cp) := by rw [lateRow_any (h' := en0.st.h) htc hslotp]; exact hrow0
     obtain ⟨elem, arr, hrun, harr⟩ := lateRow_run S₁.h S₁.t htc hev
     have hal : arr.toList = l := harr.eq_of_plain hla
     unfold wpOpIn
     rw [ho0]
     simp only
     have hwant : Region.wanted o0 (yielded ops a₁.tmps) = true := by
      rw [← aYield_eq S₁.t, hwe, ← hwant0, hw0]
     rw [hwant]
     simp only [if_true]
     refine ⟨fun f _ => hF.fn f, ?_⟩
     rw [Oper.semAt_eq _ _ _ (by intro c hc; rw [hc] at htc; cases htc)]
     rw [hrun w₁]
     show wpAnyIn F n P .any ops _ fuel _ (a₁.put o0.dst _) _
     rw [hdst]
     have f' : Fr ρ₁ w₁ (w₁.alloc (.cells arr elem)) := Fr.alloc ρ₁ w₁ _
     refine ih _ cur ρ₁ _ _ hleft' hsz' (.inr ⟨j, listed, a₁, w₁.heap.size, arr, elem, rfl, hni, hdown, I, ⟨S₁.h.allocU _, S₁.t, S₁.d.go (.refl _ _) f', S₁.n, S₁.s, Nat.le_trans S₁.z f'.size⟩, rfl, ⟨?_, ?_, fun t => Nat.lt_irrefl _ (S₁.h.nx.1.lt t)⟩, f.size, hal, m, hm, hmm, hnm⟩) g (f.trans g f')
     · exact World.alloc_heap_new w₁ _
     · intro b J e; have := img_old S₁.h e; omega
    ·
     have hM : mutAt es i = true → ∀ k, mutAt es k = true → k < i → Lst listed k := by
      intro hmi k hk hki
      by_cases e0 : i = i0
      ·
       subst e0
       by_cases hx : Lst listed k
       · exact hx
       · exact absurd ⟨rfl, k, hki, hk, hx⟩ hearly
      ·
       have hb : ((masks ops).getD i 0).testBit k = true := by
        by_cases ek : k = i0
        · subst ek; exact L.m0 i hn hmi hki
        · exact L.m i hn hmi e0 k hki ek hk
       exact ((lst_set hlt).1 (masks_down hdown li hb)).resolve_left (by omega)
     obtain ⟨cur', j', q1, q2⟩ := dinv_step hst hbe S.s hps hR I ho hni hpred hM
     unfold wpOpIn
     rw [ho]
     refine oneOp_sound hF hcall S₁ q1 _ ?_ _
     rintro a2 w2 ⟨ρ₂, g2, f2, S₂⟩
     exact ih _ cur' ρ₂ a2 w2 hleft' hsz' (.inl ⟨j', q2, S₂⟩) (g.trans f.size g2) (f.trans g f2)
   ·
    have hlt0 : i0 < listed'.size := by rw [I.sz]; exact hi0
    have hlt' : i < listed'.size := by rw [I.sz]; exact hn
    have hne : i ≠ i0 := by
     rintro rfl
     exact hni (by rw [hl]; exact (lst_set hlt0).2 (.inl rfl))
    have hni' : ¬ Lst listed' i := fun x => hni (by rw [hl]; exact (lst_set hlt0).2 (.inr x))
    have hdown := down_set hlt hdc ho hpred
    have li : Lst (listed.setIfInBounds i true) i := (lst_set hlt).2 (.inl rfl)
    have hnb : ((masks ops).getD i 0).testBit i0 = false := by
     cases hb : ((masks ops).getD i 0).testBit i0 with
     | false => rfl
     | true =>
      exfalso
      obtain ⟨q1, q2⟩ := L.d i hn hb m hm hmm
      have hx := masks_down hdown li q2
      have hx := ((lst_set hlt).1 hx).resolve_left q1
      rw [hl] at hx
      exact hnm (((lst_set hlt0).1 hx).resolve_left (by omega))
    have hpred' : ∀ e ∈ o.after.toList, Region.binds .any e = true → Lst listed' e.on := by
     intro e he hb
     have hx := hpred e he hb
     rw [hl] at hx
     refine ((lst_set hlt0).1 hx).resolve_left fun h0 => ?_
     have := L.e i o ho e he hb h0
     rw [hnb] at this; cases this
    have hdown' := down_set hlt' I.dc ho hpred'
    have li' : Lst (listed'.setIfInBounds i true) i := (lst_set hlt').2 (.inl rfl)
    have hM : mutAt es i = true → ∀ k, mutAt es k = true → k < i → Lst listed' k := by
     intro hmi k hk hki
     by_cases ek : k = i0
     ·
      subst ek
      have := L.m0 i hn hmi hki
      rw [hnb] at this; cases this
     ·
      have hb := L.m i hn hmi hne k hki ek hk
      exact ((lst_set hlt').1 (masks_down hdown' li' hb)).resolve_left (by omega)
    obtain ⟨cur', j', q1, q2⟩ := dinv_step hst hbe S.s hps hR I ho hni' hpred' hM
    have hdd : o.dst ≠ some d0 := by
     intro hx
     rcases Nat.lt_or_gt_of_ne hne with x | x
     · exact (static_spec hst ho0).1 d0 hdst i o x ho hx
     · exact (static_spec hst ho).1 d0 hx i0 o0 x ho0 hdst
    have hll : d0 ∉ o.looksAt ops := by
     intro hx
     obtain ⟨s1, s2⟩ := (static_spec hst ho).2.2 d0 hx i0 o0 ho0 hdst (fun x => hne x.symm)
     rcases Nat.lt_or_gt_of_ne hne with x | x
     ·
      have h0 : Lst listed i0 := by rw [hl]; exact (lst_set hlt0).2 (.inl rfl)
      exact hni (masks_down hdc h0 (s2 x))
     ·
      have := s1 x
      rw [hnb] at this; cases this
    rw [ha]
    refine wpOpIn_back ho hll hdd (L.n i o ho) ?_
    unfold wpOpIn
    rw [ho]
    refine oneOp_sound hF hcall S₁ q1 _ ?_ _
    rintro a2 w2 ⟨ρ₂, g2, f2, S₂⟩
    have hp2 := hp.go g2 f2
    have harrs : arr.size = l.length := by rw [← harr]; simp
    have hcomm : listed.setIfInBounds i true = (listed'.setIfInBounds i true).setIfInBounds i0 true := by
     rw [hl]; exact Array.setIfInBounds_comm _ _ (fun x => hne x.symm)
    by_cases hstill : ∃ m, m < i0 ∧ mutAt es m = true ∧ ¬ Lst (listed'.setIfInBounds i true) m
    ·
     refine ih _ cur' ρ₂ _ w2 hleft' hsz' (.inr ⟨j', listed'.setIfInBounds i true, a2, W, arr, elem, hcomm, ?_, hdown, q2, S₂, rfl, hp2, hW, harr, hstill⟩) (g.trans f.size g2) (f.trans g f2)
     intro hx
     exact hni0 (((lst_set hlt').1 hx).resolve_left (fun x => hne x.symm))
    ·
     have hni2 : ¬ Lst (listed'.setIfInBounds i true) i0 := fun hx => hni0 (((lst_set hlt').1 hx).resolve_left (fun x => hne x.symm))
     have hpred0 : ∀ e ∈ o0.after.toList, Region.binds .any e = true → Lst (listed'.setIfInBounds i true) e.on := by
      intro e he hb
      have h0 : Lst listed i0 := by rw [hl]; exact (lst_set hlt0).2 (.inl rfl)
      have hx := hdc i0 o0 ho0 h0 e he hb
      have hlt2 := (static_spec hst ho0).2.1 e he hb
      rw [hl] at hx
      exact (lst_set hlt').2 (.inr (((lst_set hlt0).1 hx).resolve_left (by omega)))
     have hM0 : mutAt es i0 = true → ∀ k, mutAt es k = true → k < i0 → Lst (listed'.setIfInBounds i true) k := by
      intro _ k hk hki
      by_cases hx : Lst (listed'.setIfInBounds i true) k
      · exact hx
      · exact absurd ⟨k, hki, hk, hx⟩ hstill
     obtain ⟨en, hen, slot, hwe⟩ := dinv_slot hst hbe S.s hps q2 ho0 hni2 hpred0
     rw [hen0] at hen; cases hen
     obtain ⟨cur2, j2, r1, r2⟩ := dinv_step hst hbe S.s hps hR q2 ho0 hni2 hpred0 hM0
     have hslotp : ∀ x ∈ o0.op.operands.toList, ∀ t, x = .tmp t → (cur'.tm.get t).getD undef = (en0.st.tm.get t).getD undef := by
      intro x hx t ht
      refine slot t ?_
      unfold Oper.looksAt
      refine List.mem_append_left _ ?_
      rw [List.mem_filterMap]
      exact ⟨x, hx, by rw [ht]⟩
     have hev : lateRow P cur'.h cur'.tm o0.op = some (l, size, len, cp) := by rw [lateRow_any (h' := en0.st.h) htc hslotp]; exact hrow0
     unfold oneOp at r1
     rw [hwe, ← hwant0, hw0] at r1
     simp only at r1
     have hstep : stepOp P call o0 cur'.tm cur'.h = sliceOf len cp (cur'.h.new (trOf 0 .leaf l) (cp * size) size) := lateRow_step hev
     rw [hstep] at r1
     split at r1
     case h_2 => cases r1
     rename_i v h' hv
     cases r1
     unfold sliceOf at hv
     split at hv
     case h_2 => cases hv
     rename_i b h₁ hnw
     cases hv
     obtain ⟨hll2, hsm, hle⟩ := lateRow_len hrow0
     have has : arr.size = cp * size := by rw [harrs, hll2]
     obtain ⟨H3, hb⟩ := S₂.h.late hp2 (size := cp * size) (esz := size) (by rw [harr]; exact hnw) has (by omega) (by rw [harr]; exact hla)
     subst hb
     have hext := S₂.h.ext_upd ⟨W, 0, arr.size, size, none⟩
     have g12 := g.trans f.size g2
     have f12 := f.trans g f2
     have G3 : Grow ρ (upd ρ₂ cur'.h.next ⟨W, 0, arr.size, size, none⟩) w := ⟨g12.ext.trans hext, fun c J e => by
      by_cases hc : c = cur'.h.next
      · subst hc; rw [upd_same] at e; cases e; exact .inl hW
      · rw [upd_other _ _ _ hc] at e; exact g12.new c J e, fun c J e n => by
      by_cases hc : c = cur'.h.next
      · subst hc; rw [upd_same] at e; cases e; exact absurd rfl n
      · rw [upd_other _ _ _ hc] at e; exact g12.zn c J e n⟩
     have hv : VRel (upd ρ₂ cur'.h.next ⟨W, 0, arr.size, size, none⟩) (.slice (some ⟨cur'.h.next, 0, none⟩) len cp) (.slice (some ⟨W, 0, none⟩) len cp) := by
      have hx : LRel (upd ρ₂ cur'.h.next ⟨W, 0, arr.size, size, none⟩) (.slice (some ⟨cur'.h.next, 0, none⟩) len cp) (.slice (some ⟨W, 0 + 0, none⟩) len cp) := by
       refine LRel.slice (upd_same _ _ _) hle (Nat.le_refl _) ?_
       show 0 + 0 + cp * size ≤ arr.size
       omega
      exact .one (.one hx)
     have D3 : Defs n0 (upd ρ₂ cur'.h.next ⟨W, 0, arr.size, size, none⟩) w2 a2.defers := by
      obtain ⟨Ds, d1, d2, d3⟩ := S₂.d
      refine ⟨Ds, d1, d2, fun D hD => ⟨(d3 D hD).lo, (d3 D hD).at_, fun c J e => ?_⟩⟩
      by_cases hc : c = cur'.h.next
      ·
       subst hc
       rw [upd_same] at e; cases e
       rintro rfl
       have q := (d3 _ hD).at_
       have q' := hp2.at_
       simp only at q
       rw [q'] at q; cases q
      · rw [upd_other _ _ _ hc] at e; exact (d3 D hD).un c J e
     rw [hdst] at r2
     rw [hcomm]
     refine ih _ _ _ _ w2 (by rw [← hcomm]; exact hleft') (by rw [← hcomm]; exact hsz') (.inl ⟨j2, r2, ⟨H3, ?_, ?_, ?_, S₂.s, S₂.z⟩⟩) G3 f12
     · exact TRel.put (a := a2) (fun t => (S₂.t t).ext hext) S₂.n S₂.s hv (some d0)
     · rw [put_defers]; exact D3
     · rw [put_size]; exact S₂.n
 have h0 : ∀ n, left (Array.replicate n false) n = n := by
  intro n
  unfold left
  rw [List.filter_eq_self.2]
  · simp
  ·
   intro k hk
   have : k < n := by simpa using hk
   simp [this]
 have nl : ∀ k, ¬ Lst (Array.replicate ops.size false) k := by
  intro k hk
  unfold Lst at hk
  by_cases hkn : k < ops.size
  · simp [hkn] at hk
  · simp [hkn] at hk
 refine main ops.size (Array.replicate ops.size false) st ρ a _ (h0 ops.size) (by simp) (.inl ⟨0, ?_, ⟨S.h.drew, S.t, S.d.go (.refl _ _) (Fr.refl ρ w).drew, S.n, S.s, S.z⟩⟩) (.refl _ _) (Fr.refl ρ w).drew
 exact ⟨by simp, fun i o _ hi => absurd hi (nl i), fun i _ => ⟨fun hi => absurd hi (nl i), fun x => absurd x (Nat.not_lt_zero _)⟩, pass_heads _ _ _ _ hps, fun k o e _ _ hk => absurd hk (nl k), fun t _ => rfl⟩
def drBoth (P : Program) : CallFn → Nat → Array Oper → St → Option St := fun call nt ops st =>
 match drAny P call nt ops st with
 | some st' => some st'
 | none => drLate P call nt ops st
theorem drBoth_ok {P : Program} (hf : P.follows .mixedOrders = true) : DrOk P (drBoth P) := by
 intro call hcall id nt ops st st' e
 unfold drBoth at e
 split at e
 · rename_i s hs; cases e; exact drAny_ok hf call hcall id nt ops st st' hs
 · exact drLate_ok hf call hcall id nt ops st st' e
def runN' (P : Program) (ov : Ov) (k : Nat) : CallFn := callWith P ov (exec P ov (drBoth P) k)
theorem run_ok {P : Program} (hf : P.follows .mixedOrders = true) {ov : Ov} (hov : OvOk P ov) (k : Nat) : CallOk P (runN' P ov k) := callWith_sound hov (exec_sound hov (drBoth_ok hf) k)
end
end Go.Vai
