/-
  What is defined here: a plain interpreter of Go code: operations in the text's order, the control of a body, calls (part I). No conditions.
-/
import Derived.Test.YtiebldaihnbkmaaGreatDoorVH
set_option linter.unusedVariables false
set_option linter.unusedSimpArgs false
namespace Go.Vai

structure St where
  tm : Tr Value
  h : Heap
inductive X where
  | normal
  | exit (id : Nat)
  | ret

def aput (nt : Nat) (tm : Tr Value) (dst : Option Nat) (v : Value) : Tr Value :=
  match dst with
  | some d => match Nat.blt d nt with
    | true => tm.put d v
    | false => tm
  | none => tm
def aYield (ops : Array Oper) (tm : Tr Value) (j : Nat) : Option Bool :=
  match (ops[j]?).bind (·.dst) with
  | some d => match (tm.get d).getD undef with
    | .bool b => some b
    | _ => none
  | none => none
/-- One operation of a region: skipped, or carried out. -/
def oneOp (P : Program) (call : CallFn) (nt : Nat) (ops : Array Oper) (o : Oper) (st : St) : Option St :=
  match Region.wanted o (aYield ops st.tm) with
  | true => match stepOp P call o st.tm st.h with
    | some (v, h') => some ⟨aput nt st.tm o.dst v, h'⟩
    | none => none
  | false => some ⟨aput nt st.tm o.dst undef, st.h⟩
def execOps (P : Program) (call : CallFn) (nt : Nat) (ops : Array Oper) : List Oper → St → Option St
  | [], st => some st
  | o :: rest, st => match oneOp P call nt ops o st with
    | some st' => execOps P call nt ops rest st'
    | none => none

/-- A function's results. -/
def aResult (P : Program) (st : St) : ResultVar → Option Value
  | .tmp t => some ((st.tm.get t).getD undef)
  | .cell a t => aLoad P st.h t ((st.tm.get a).getD undef)
def aResults (P : Program) (st : St) : List ResultVar → Option (List Value)
  | [] => some []
  | r :: rs => match aResult P st r, aResults P st rs with
    | some v, some vs => some (v :: vs)
    | _, _ => none
def isOneAgg (v : Value) : Bool := match v with
  | .tuple _ => false
  | _ => true
def aResultV (P : Program) (fn : Func) (st : St) : Option Value :=
  match aResults P st fn.results.toList with
  | some [v] => some v
  | some vs => match vs.all isOneAgg with
    | true => some (.tuple vs.toArray)
    | false => none
  | none => none

abbrev ExecFn := Nat → Code → St → Option (X × St)
def callWith (P : Program) (ex : ExecFn) : CallFn := fun f args h =>
  match P.funcs[f]? with
  | some fn => match fn.body with
    | some c => match Nat.blt (max fn.ntmps args.length) 1000000 with
      | true => match ex (max fn.ntmps args.length) c ⟨trOf 0 .leaf args, h⟩ with
        | some (.normal, st) => match aResultV P fn st with
          | some v => some (v, st.h)
          | none => none
        | some (.ret, st) => match aResultV P fn st with
          | some v => some (v, st.h)
          | none => none
        | _ => none
      | false => none
    | none => none
  | none => none
def execStep (P : Program) (dr : (CallFn) → Nat → Array Oper → St → Option St) (ex : ExecFn) : ExecFn := fun nt c st =>
  match c with
  | .skip => some (.normal, st)
  | .label _ => some (.normal, st)
  | .exit id => some (.exit id, st)
  | .ret => some (.ret, st)
  | .region _ ops false => match execOps P (callWith P ex) nt ops ops.toList st with
    | some st' => some (.normal, st')
    | none => none
  | .region _ ops true => match dr (callWith P ex) nt ops st with
    | some st' => some (.normal, st')
    | none => none
  | .seq a b => match ex nt a st with
    | some (.normal, st') => ex nt b st'
    | r => r
  | .cond c a b => match aev st.h st.tm c with
    | some (.bool true) => ex nt a st
    | some (.bool false) => ex nt b st
    | _ => none
  | .block id c => match ex nt c st with
    | some (.exit j, st') => match Nat.beq j id with
      | true => some (.normal, st')
      | false => some (.exit j, st')
    | r => r
  | .loop c => match ex nt c st with
    | some (.normal, st') => ex nt (.loop c) st'
    | r => r
  | _ => none
def exec (P : Program) (dr : CallFn → Nat → Array Oper → St → Option St) : Nat → ExecFn
  | 0 => fun _ _ _ => none
  | k + 1 => execStep P dr (exec P dr k)

end Go.Vai
