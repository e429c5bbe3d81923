/-
  What is defined here: a plain interpreter of Go code: operations in the text's order, the control of a body, calls (part I). No conditions.
-/
import Derived.Test.YtiebldaihnbkmaaGreatDoorVH
set_option linter.unusedVariables false
set_option linter.unusedSimpArgs false
namespace Go.Vai
noncomputable section
structure St where
 tm : Tr Value
 h : Heap
inductive X where
 | normal
 | exit (id : Nat)
 | ret
def aput (nt : Nat) (tm : Tr Value) (dst : Option Nat) (v : Value) : Tr Value :=
 match dst with
 | some d => match Nat.blt d nt with
  | true => tm.put d v
  | false => tm
 | none => tm
def aYield (ops : Array Oper) (tm : Tr Value) (j : Nat) : Option Bool :=
 match (ops[j]?).bind (·.dst) with
 | some d => match (tm.get d).getD undef with
  | .bool b => some b
  | _ => none
 | none => none
def oneOp (P : Program) (call : CallFn) (nt : Nat) (ops : Array Oper) (o : Oper) (st : St) : Option St :=
 match Region.wanted o (aYield ops st.tm) with
 | true => match stepOp P call o st.tm st.h with
  | some (v, h') => some ⟨aput nt st.tm o.dst v, h'⟩
  | none => none
 | false => some ⟨aput nt st.tm o.dst undef, st.h⟩
def execOps (P : Program) (call : CallFn) (nt : Nat) (ops : Array Oper) : List Oper → St → Option St
 | [], st => some st
 | o :: rest, st => match oneOp P call nt ops o st with
  | some st' => execOps P call nt ops rest st'
  | none => none
def aputQ (nt : Nat) (tm : Tr Value) (dst : Option Nat) (v : Value) : Tr Value := Option.rec (motive := fun _ => Tr Value) tm (fun d => Bool.rec (motive := fun _ => Tr Value) tm (tm.put d v) (Nat.blt d nt)) dst
theorem aputQ_eq (nt : Nat) (tm : Tr Value) (dst : Option Nat) (v : Value) : aputQ nt tm dst v = aput nt tm dst v := by
 cases dst with
 | none => rfl
 | some d =>
  show (Bool.rec (motive := fun _ => Tr Value) tm (tm.put d v) (Nat.blt d nt) : Tr Value) = _
  simp only [aput]
  cases Nat.blt d nt <;> rfl
def wantedQ (o : Oper) (y : Nat → Option Bool) : Bool := Option.rec (motive := fun _ => Bool) true (fun _ => Region.wanted o y) o.guard
theorem wantedQ_eq (o : Oper) (y : Nat → Option Bool) : wantedQ o y = Region.wanted o y := by
 unfold wantedQ Region.wanted
 cases o.guard <;> rfl
def oneQ (P : Program) (call : CallFn) (nt : Nat) (ops : Array Oper) (o : Oper) (st : St) : Option St :=
 Bool.rec (motive := fun _ => Option St) (some ⟨aputQ nt st.tm o.dst undef, st.h⟩)
  (Option.rec (motive := fun _ => Option St) none (fun r => some ⟨aputQ nt st.tm o.dst r.1, r.2⟩) (stepQ P call o st.tm st.h)) (wantedQ o (aYield ops st.tm))
theorem oneQ_eq (P : Program) (call : CallFn) (nt : Nat) (ops : Array Oper) (o : Oper) (st : St) : oneQ P call nt ops o st = oneOp P call nt ops o st := by
 unfold oneQ oneOp
 rw [wantedQ_eq]
 simp only [aputQ_eq, stepQ_eq]
 cases Region.wanted o (aYield ops st.tm) with
 | false => rfl
 | true =>
  simp only
  cases stepOp P call o st.tm st.h with
  | none => rfl
  | some r => rfl
def execOpsQ (P : Program) (call : CallFn) (nt : Nat) (ops : Array Oper) (l : List Oper) : St → Option St :=
 List.rec (motive := fun _ => St → Option St) (fun st => some st) (fun o _ ih st => Option.rec (motive := fun _ => Option St) none ih (oneQ P call nt ops o st)) l
theorem execOpsQ_eq (P : Program) (call : CallFn) (nt : Nat) (ops : Array Oper) : ∀ (l : List Oper) (st : St), execOpsQ P call nt ops l st = execOps P call nt ops l st := by
 intro l
 induction l with
 | nil => intro st; rfl
 | cons o l ih =>
  intro st
  show (Option.rec (motive := fun _ => Option St) none (execOpsQ P call nt ops l) (oneQ P call nt ops o st) : Option St) = _
  simp only [execOps]
  rw [oneQ_eq]
  cases oneOp P call nt ops o st with
  | none => rfl
  | some s => exact ih s
def aResult (P : Program) (st : St) : ResultVar → Option Value
 | .tmp t => some ((st.tm.get t).getD undef)
 | .cell a t => aLoad P st.h t ((st.tm.get a).getD undef)
def aResults (P : Program) (st : St) : List ResultVar → Option (List Value)
 | [] => some []
 | r :: rs => match aResult P st r, aResults P st rs with
  | some v, some vs => some (v :: vs)
  | _, _ => none
def isOneAgg (v : Value) : Bool := match v with
 | .tuple _ => false
 | _ => true
def aResultV (P : Program) (fn : Func) (st : St) : Option Value :=
 match aResults P st fn.results.toList with
 | some [v] => some v
 | some vs => match vs.all isOneAgg with
  | true => some (.tuple vs.toArray)
  | false => none
 | none => none
def Heap.setLoop (h : Heap) (b : Nat) (L : LoopR) : Heap := h.setObj b (.loop L)
def Heap.getLoop (h : Heap) (b : Nat) : Option LoopR := match h.objs.get b with
 | some (.loop L) => some L
 | _ => none
theorem getLoop_eq {h : Heap} {b : Nat} {L : LoopR} (e : h.getLoop b = some L) : h.objs.get b = some (.loop L) := by
 unfold Heap.getLoop at e
 split at e
 · rename_i hL; cases e; exact hL
 · cases e
def putL (nt : Nat) (tm : Tr Value) : List Tmp → List Value → Tr Value
 | t :: ts, v :: vs => putL nt (aput nt tm (some t) v) ts vs
 | _, _ => tm
def enters (P : Program) (g : FuncId) : Bool := match P.funcs[g]? with
 | some fn => match fn.name == "runtime.NumGoroutine" with
  | true => false
  | false => fn.body.isSome
 | none => false
def isReady : LoopState → Bool
 | .ready => true
 | _ => false
def notBusy : LoopState → Bool
 | .busy => false
 | _ => true
def X.jump : X → Option Code
 | .normal => none
 | .exit id => some (.exit id)
 | .ret => some .ret
def X.goesOn : X → Bool
 | .normal => true
 | _ => false
def backX : Option Code → Option X
 | none => some .normal
 | some .ret => some .ret
 | some (.exit id) => some (.exit id)
 | _ => none
abbrev Ov := FuncId → Option (List Value → Heap → Option (Value × Heap))
abbrev ExecFn := Bool → Nat → Code → St → Option (X × St)
def yieldWith (ex : ExecFn) (b : Nat) (args : List Value) (h : Heap) : Option (Value × Heap) :=
 match h.getLoop b with
 | some L => match isReady L.state && Nat.beq args.length L.params.size with
  | true => match ex true L.nt L.assign ⟨putL L.nt L.tm L.params.toList args, h⟩ with
   | some (.normal, st) => match st.h.getLoop b with
    | some L1 => match isReady L1.state with
     | true => match ex true L.nt L.body ⟨st.tm, st.h.setLoop b { L1 with state := .busy }⟩ with
      | some (x, st') => match st'.h.getLoop b with
       | some L2 => some (.bool x.goesOn, st'.h.setLoop b { L2 with state := (match x.goesOn with | true => .ready | false => .done), pend := x.jump })
       | none => none
      | none => none
     | false => none
    | none => none
   | _ => none
  | false => none
 | none => none
def funcWith (P : Program) (ex : ExecFn) (f : FuncId) (args : List Value) (h : Heap) : Option (Value × Heap) :=
 match P.funcs[f]? with
 | some fn => match fn.body with
  | some c => match Nat.blt (max fn.ntmps args.length) 1000000 with
   | true => match ex false (max fn.ntmps args.length) c ⟨trOf 0 .leaf args, h⟩ with
    | some (.normal, st) => match aResultV P fn st with
     | some v => some (v, st.h)
     | none => none
    | some (.ret, st) => match aResultV P fn st with
     | some v => some (v, st.h)
     | none => none
    | _ => none
   | false => none
  | none => none
 | none => none
def known (ov : Ov) (f : FuncId) (args : List Value) (h : Heap) : Option (Value × Heap) := match ov f with
 | some g => g args h
 | none => none
def callWith (P : Program) (ov : Ov) (ex : ExecFn) : CallFn := fun fn args h =>
 match fn with
 | .func f => match known ov f args h with
  | some r => some r
  | none => funcWith P ex f args h
 | .yield b => yieldWith ex b args h
 | _ => none
def rangeWith (P : Program) (call : CallFn) (nt : Nat) (f : Operand) (ps : Array Tmp) (assign body : Code) (st : St) : Option (X × St) :=
 match aev st.h st.tm f with
 | some (.func (.func g) fi ca) => match fi.isEmpty && enters P g with
  | true => match st.h.newObj (.loop ⟨.ready, none, st.tm, nt, ps, assign, body⟩) with
   | some (b, h1) => match call (.func g) (.func (.yield b) #[] #[] :: ca.toList) h1 with
    | some (_, h2) => match h2.getLoop b with
     | some L2 => match notBusy L2.state, backX L2.pend with
      | true, some x => some (x, ⟨st.tm, h2.setLoop b { L2 with state := .exhausted }⟩)
      | _, _ => none
     | none => none
    | none => none
   | none => none
  | false => none
 | _ => none
def execStep (P : Program) (ov : Ov) (dr : (CallFn) → Nat → Array Oper → St → Option St) (ex : ExecFn) : ExecFn := fun rd nt c st =>
 match c with
 | .skip => some (.normal, st)
 | .label _ => some (.normal, st)
 | .exit id => some (.exit id, st)
 | .ret => some (.ret, st)
 | .region _ ops false => match execOpsQ P (callWith P ov ex) nt ops ops.toList st with
  | some st' => some (.normal, st')
  | none => none
 | .region _ ops true => match dr (callWith P ov ex) nt ops st with
  | some st' => some (.normal, st')
  | none => none
 | .seq a b => match ex rd nt a st with
  | some (.normal, st') => ex rd nt b st'
  | r => r
 | .cond c a b => match aev st.h st.tm c with
  | some (.bool true) => ex rd nt a st
  | some (.bool false) => ex rd nt b st
  | _ => none
 | .block id c => match ex rd nt c st with
  | some (.exit j, st') => match Nat.beq j id with
   | true => some (.normal, st')
   | false => some (.exit j, st')
  | r => r
 | .loop c => match ex rd nt c st with
  | some (.normal, st') => ex rd nt (.loop c) st'
  | r => r
 | .scope c => ex rd nt c st
 | .rangeFunc f ps assign body => match rd with
  | true => none
  | false => rangeWith P (callWith P ov ex) nt f ps assign body st
 | _ => none
def exec (P : Program) (ov : Ov) (dr : CallFn → Nat → Array Oper → St → Option St) : Nat → ExecFn
 | 0 => fun _ _ _ _ => none
 | k + 1 => execStep P ov dr (exec P ov dr k)
end
end Go.Vai
