/-
  What is proved here: a call without arguments, or with plain ones, that a plain interpreter of Go code answers with 'true', is answered so by the machine in every world, and turns nothing of what was there (part O). Condition: the program follows mixed orders.
-/
import Derived.Test.YtiebldaihnbkmaaGreatDoorVN
import Derived.Below
set_option linter.unusedVariables false
set_option linter.unusedSimpArgs false
namespace Go.Vai
open Go.RowKit

/-- The heap before anything is made. -/
def h0 : Heap := ⟨.leaf, 1000, .leaf⟩
def okTrue : Option (Value × Heap) → Bool
  | some (.bool true, _) => true
  | _ => false
theorem h0_rel (w : World) : HRel (fun _ => none) h0 w := by
  refine ⟨by decide, ?_, ?_, ?_, ?_, ?_, ?_⟩
  · intro b I e; cases e
  · intro b I B e; cases e
  · intro b I B C e; cases e
  · intro b₁ b₂ I₁ I₂ B₁ B₂ e; cases e
  · intro b I B C J D e; cases e
  · intro g B e _; simp [h0, Tr.get] at e
theorem Fr.below {w w' : World} (f : Fr (fun _ => none) w w') : Below w.heap.size w w' := ⟨f.os, f.tape, f.output, f.size, fun k hk => f.keep k hk (by intro b I e; cases e)⟩
theorem closed_true {P : Program} (hf : P.follows .mixedOrders = true) {f k : Nat} {args : List Value} (ha : args.all cellsPlain = true) (he : okTrue (runN' P k f args h0) = true) (w : World) :
    Calls P f args.toArray w fun e w' => e = .returned (.bool true) ∧ Below w.heap.size w w' := by
  unfold okTrue at he
  split at he
  case h_2 => cases he
  rename_i h' hr
  have ra : F2 (VRel (fun _ => none)) args args.toArray.toList := by
    simp only [List.toList_toArray]
    exact F2.refl _ fun a h => .of_cellsPlain (List.all_eq_true.1 ha a h)
  refine (run_ok hf k f args h0 (.bool true) h' hr _ w args.toArray (h0_rel w) ra).mono ?_
  rintro e w' ⟨v', ρ', rfl, r, _, _, fr⟩
  have := r.eq_of_plain rfl
  subst this
  exact ⟨rfl, fr.below⟩

end Go.Vai
